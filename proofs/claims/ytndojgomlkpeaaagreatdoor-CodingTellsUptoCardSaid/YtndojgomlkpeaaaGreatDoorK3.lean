/- Elements of lists: tokens, weights, choices, spans. The library's own error can be read ('Gl'); a text of at most 4194304 bytes. (28 texts made one; each says below what it is.) -/
import Derived.Test.YtndojgomlkpeaaaGreatDoorK2
import Derived.Laws.StructEq
set_option linter.unusedVariables false
set_option linter.unusedSimpArgs false
set_option linter.unusedSectionVars false
namespace Go.Proofs.YtndojgomlkpeaaaGreatDoor
set_option maxRecDepth 9999
namespace FD
open Go Go.Proofs Go.RowKit Sh Sl T
section
variable {P:Program} {W:World} {L L':List HP} {Kp:PK} {k:Value->WP}
theorem Dv {a b:Bool}{y:Value}{s1:Value->Sem Next}(h1:a=false->bg P W [] (s1 y) (.bool b))(h:aZ W L (k (.bool (a||b)))):
  aZ W L (gdK (.bool a) false (fun k=>k y) fun x1=>gdK (.bool a) false (opN P (s1 x1) Kp) fun x2=>opN P (iV (.bool a) (.bool true) x2) Kp k):=by
 cases a with
 |true=>
  refine ao (ao (o_ ah ?_))
  simpa using h
 |false=>
  refine ae (ae (o_ (h1 rfl) ?_))
  refine o_ ag ?_
  simpa using h
theorem Dw {a b:Bool}{y v1:Value}{s1 s2:Value->Sem Next}(h1:a=false->bg P W [] (s1 y) v1)(h2:a=false->bg P W [] (s2 v1) (.bool b))(h:aZ W L (k (.bool (a||b)))):
  aZ W L (gdK (.bool a) false (fun k=>k y) fun x1=>gdK (.bool a) false (opN P (s1 x1) Kp) fun x2=>gdK (.bool a) false (opN P (s2 x2) Kp) fun x3=>opN P (iV (.bool a) (.bool true) x3) Kp k):=by
 cases a with
 |true=>
  refine ao (ao (ao (o_ ah ?_)))
  simpa using h
 |false=>
  refine ae (ae (o_ (h1 rfl) ?_))
  refine ae (o_ (h2 rfl) ?_)
  refine o_ ag ?_
  simpa using h
end
theorem mY {c:UInt8}:∀s:List UInt8,(cD c s).length<=s.length
 |[]=>by simp[cD]
 |x::r=>by
  have:=mY (c:=c) r
  unfold cD
  split <;> simp <;> omega
theorem Dx (l:List UInt8):(cC l).length=l.length:=by simp[cC]
theorem qO {W:World}[hG:Gl W]{l:List UInt8}(hl:l.length<=4194304):Cn p_ 86 [bm l] W [] (fun _:Unit=> .tuple #[.int .i64 (gE l).1,.bool (gE l).2]) (fun _=>[]):=by
 have hA:=mL (c:=46) l
 have hB:=mY (c:=46) l
 (refine Shp.cn (Sg.g_ Tryz.call86 Tryz.func86) fun F=>?_;simp only[ca_,na_])
 refine c_ (GG (c:=46) (l:=l) (by omega)) fun _=>?_
 refine o_ (bM (vs:=[_,_,_]) .here) ?_
 refine o_ (bM (vs:=[_,_,_]) (.there .here)) ?_
 refine o_ (bM (vs:=[_,_,_]) (.there (.there .here))) ?_
 refine o_ (ij (m:=[48])) ?_
 refine qK (fun _=>ij (m:=[49])) ?_
 refine Dw (fun _=>ce) (fun _=>aV) ?_
 refine l_ (φ:=(cu 46 l≠[48]/\cu 46 l≠[49])\/3<(cD 46 l).length) (by rw[<- Bool.decide_and,<- Bool.decide_or,decide_eq_decide];exact or_congr_right (by omega)) (fun h=>?_) (fun h=>?_)
 ·have e:gE l=(0,false):=by unfold gE;rw[if_pos h]
  rw[e]
  refine bq () ?_
  exact aw
 ·have e:gE l=((j9 (cu 46 l++(cD 46 l++[48,48,48]).take 3)).1,decide ((j9 (cu 46 l++(cD 46 l++[48,48,48]).take 3)).2=0)&&decide ((j9 (cu 46 l++(cD 46 l++[48,48,48]).take 3)).1<=1000)):=by
   unfold gE;rw[if_neg h]
  rw[e]
  refine o_ (wj (b:=[48,48,48]) (by simp;omega)) ?_
  refine o_ (qC 3 rfl (by simp)) ?_
  refine o_ (wj (by simp;omega)) ?_
  refine aB (GN (l:=cu 46 l++(cD 46 l++[48,48,48]).take 3) (by simp;omega)) .nil fun _=>?_
  refine aq ?_
  refine o_ (bM (vs:=[_,_]) .here) ?_
  refine o_ (bM (vs:=[_,_]) (.there .here)) ?_
  refine o_ aP (qK (fun _=>cZ) ?_)
  refine bq () ?_
  exact aw
theorem Ku {w:List UInt8}(h:2<=w.length):dy (w.take 2) [113,61]=decide (cC (w.take 2)=[113,61]):=by
 unfold dy
 rw[dT_ (by simp;omega),Bool.true_and]
 rfl
theorem Kv {W:World}[hG:Gl W]{l:List UInt8}(hl:l.length<=4194304):Cn p_ 55 [bm l] W [] (fun _:Unit=> .tuple #[jG (ik l).1,.bool (ik l).2]) (fun _=>[]):=by
 have hA:=mL (c:=59) l
 have hB:=mY (c:=59) l
 have tA:=kq (cu 59 l)
 have tB:=kq (cD 59 l)
 (refine Shp.cn (Sg.g_ Tryz.call55 Tryz.func55) fun F=>?_;simp only[ca_,na_])
 refine bp fun b2=>?_
 refine c_ (GG (c:=59) (l:=l) (by omega)) fun _=>?_
 refine o_ (bM (vs:=[_,_,_]) .here) ?_
 refine o_ (bM (vs:=[_,_,_]) (.there .here)) ?_
 refine o_ (bM (vs:=[_,_,_]) (.there (.there .here))) ?_
 refine c_ (wz (l:=cu 59 l) (by omega)) fun _=>?_
 refine c_ (mU (l:=bX (cu 59 l)) (by omega)) fun _=>?_
 refine o_ b_ ?_;refine bp fun g=>?_;refine fO ?_;refine o_ aj (bJ ?_)
 refine c_ (Dm (l:=cC (bX (cu 59 l))) (by rw[Dx];omega)) fun _=>?_
 cases hs:nY 59 l with
 |false=>
  have e:ik l=((cC (bX (cu 59 l)),1000),mJ (cC (bX (cu 59 l)))):=by unfold ik;rw[hs];rfl
  rw[e]
  refine aa (lG ?_);refine fO ?_;(((refine' aT (cG ?hn) ?hi ?_);(case hi=>exact aw);(case hn=>rfl)))
  refine bq () ?_
  exact aw
 |true=>
  refine ab (c_ (wz (l:=cD 59 l) (by omega)) fun _=>?_)
  refine o_ ce ?_
  have bad:((bX (cD 59 l)).length<2\/cC ((bX (cD 59 l)).take 2)≠[113,61])->ik l=(([],0),false):=fun h=>by
   unfold ik;rw[if_pos hs,if_pos h]
  refine ay az .nil (fun h=>?_) (fun h=>?_)
  ·rw[bad (.inl (by omega))]
   refine ao (ao (ao (ao (o_ ah (ab (o_ b_ ?_))))));refine fO ?_;(((refine' aT (cG ?hn) ?hi ?_);(case hi=>exact aw);(case hn=>rfl)))
   refine bq () ?_
   exact aw
  ·have h2:2<=(bX (cD 59 l)).length:=by omega
   refine ae (ae (o_ (qC 2 rfl h2) ?_))
   refine ae (aB (equal (a:=(bX (cD 59 l)).take 2) (b:=[113,61]) (by simp;omega) (by simp)) .nil fun _=>?_)
   refine aq ?_
   rw[Ku h2]
   refine ae (o_ fU (o_ ag ?_))
   by_cases hq:cC ((bX (cD 59 l)).take 2)=[113,61]
   ·have e:ik l=((cC (bX (cu 59 l)),(gE ((bX (cD 59 l)).drop 2)).1),mJ (cC (bX (cu 59 l)))&&(gE ((bX (cD 59 l)).drop 2)).2):=by
     unfold ik;rw[if_pos hs,if_neg (by rintro(h3|h3);omega;exact h3 hq)]
    rw[e,dT_ hq]
    refine aa (o_ (qE 2 rfl h2) ?_)
    refine aB (qO (l:=(bX (cD 59 l)).drop 2) (by rw[List.length_drop];omega)) .nil fun _=>?_
    refine aq ?_
    refine fP ?_;refine fP ?_;refine o_ aj (eE ?_)
    refine uH ?_
    refine lG ?_;refine fO ?_;(((refine' aT (cG ?hn) ?hi ?_);(case hi=>exact aw);(case hn=>rfl)))
    refine bq () ?_
    exact aw
   ·rw[bad (.inr hq),dF_ hq,show(!false)=true from rfl]
    refine ab (o_ b_ ?_);refine fO ?_;(((refine' aT (cG ?hn) ?hi ?_);(case hi=>exact aw);(case hn=>rfl)))
    refine bq () ?_
    exact aw
end FD
namespace FD
open Go Go.Proofs Go.RowKit Sh Sl T
theorem Dy {W:World}{l:List UInt8}(hl:l.length<=4611686018427387904):Cn p_ 47 [bm l] W [] (fun _:Unit=>bm (cC l)) (fun _=>[]):=by
 (refine Shp.cn (Sg.g_ Tryz.call47 Tryz.func47 (an:={loops:=[(3,[4])]})) fun F=>?_;simp only[ca_,na_])
 refine k6 Tryz.underlying23 Tryz.underlying5 fun g c rest=>?_
 refine a_ (fun m y=>[ex fun i:Nat=>all [pu (m+i=l.length/\y= .int .i64 (i:Int)),pt g (.cells (((l.take i).map dU++l.drop i).map B++rest).toArray 5 (l.length+rest.length,l.length+rest.length+1))]]++F) l.length ?_ ?_
 ·refine Imp.ex 0 (.all ?_)
  refine aq ?_
  rw[List.take_zero,List.drop_zero,List.map_nil,List.nil_append]
  exact .pu ⟨by omega,rfl⟩ .refl
 intro m ds y
 refine aq ?_
 refine aH Pick.here fun i=>ap Pick.here ?_
 refine aq ?_
 refine aG Pick.here fun hi=>?_
 obtain⟨hmi,rfl⟩:=hi
 refine o_ aC (ay az .nil (fun h=>?_) (fun h=>?_))
 ·have hil:i<l.length:=by omega
  refine ab ?_
  have hcl:((l.take i).map dU++l.drop i).length=l.length:=by simp;omega
  have hget:((((l.take i).map dU++l.drop i).map B++rest).toArray)[i]? =some (B l[i]):=by
   simp[List.getElem?_append,hil,Nat.min_eq_left (Nat.le_of_lt hil)]
   intro h0;omega
  have ld:bg p_ W [pt g (.cells (((l.take i).map dU++l.drop i).map B++rest).toArray 5 (l.length+rest.length,l.length+rest.length+1))] (aI 5 (.pointer (some ⟨g,i,none⟩))) (B l[i]):=e_ hget
  refine o_ (bj i rfl hil) ?_
  rw[Nat.zero_add]
  refine am ld (.pick .here .nil) ?_
  have step:∀x,x=dU l[i]->(((l.take i).map dU++l.drop i).map B++rest).toArray.setIfInBounds i (B x)=(((l.take (i+1)).map dU++l.drop (i+1)).map B++rest).toArray:=by
   intro x hx
   subst hx
   rw[List.setIfInBounds_toArray]
   congr 1
   rw[dr hil,List.take_succ_eq_append_getElem hil]
   rw[List.map_append,List.map_append,List.map_append,List.map_append]
   have hk:(List.map B (List.map dU (List.take i l))).length=i:=by simp;omega
   rw[List.append_assoc,List.append_assoc,List.append_assoc,List.set_append,if_neg (by rw[hk];omega),hk,Nat.sub_self]
   rfl
  have h65:((65:Int)<=(l[i].toNat:Int)/\(l[i].toNat:Int)<=90)↔(65<=l[i]/\l[i]<=90):=by
   rw[UInt8.le_iff_toNat_le,UInt8.le_iff_toNat_le]
   simp only[show(65:UInt8).toNat=65 from rfl,show(90:UInt8).toNat=90 from rfl]
   omega
  have no:¬(65<=l[i]/\l[i]<=90)->aZ W (pt g (.cells (((l.take i).map dU++l.drop i).map B++rest).toArray 5 (l.length+rest.length,l.length+rest.length+1))::F) (opN p_ (aY .add 3 (.int .i64 (i:Int)) (.int .i64 1)) gH fun x12=>iD (fun m y w=>sat W ([ex fun i:Nat=>all [pu (m+i=l.length/\y= .int .i64 (i:Int)),pt g (.cells (((l.take i).map dU++l.drop i).map B++rest).toArray 5 (l.length+rest.length,l.length+rest.length+1))]]++F) w) m x12):=by
   intro hno
   have hlo:dU l[i]=l[i]:=if_neg hno
   have e2:(((l.take i).map dU++l.drop i).map B++rest).toArray=(((l.take (i+1)).map dU++l.drop (i+1)).map B++rest).toArray:=by
    rw[<- step _ hlo.symm]
    refine Array.ext_getElem? fun j=>?_
    rw[Array.getElem?_setIfInBounds]
    by_cases hj:i=j
    ·subst hj
     rw[if_pos rfl,hget,if_pos (by simp;omega)]
    ·rw[if_neg hj]
   rw[e2]
   refine bG ?_
   refine aK (m-1) (by omega) (.ex (i+1) (.all ?_))
   refine aq ?_
   exact .pu ⟨by omega,rfl⟩ .refl
  refine o_ (cH (q:= .u8) (a:=(l[i].toNat:Int)) (b:=65)) ?_
  by_cases h1:(65:Int)<=(l[i].toNat:Int)
  ·rw[dT_ h1]
   refine ae (ae (ae (o_ (bj i rfl hil) ?_)))
   rw[Nat.zero_add]
   refine ae (am ld (.pick .here .nil) ?_)
   refine ae (o_ (cZ (q:= .u8) (a:=(l[i].toNat:Int)) (b:=90)) ?_)
   refine o_ ah ?_
   by_cases h2:(l[i].toNat:Int)<=90
   ·rw[dT_ h2]
    refine ab ?_
    have hlo:dU l[i]=l[i]+32:=if_pos (h65.1 ⟨h1,h2⟩)
    have hn:(dU l[i]).toNat=(l[i]).toNat+32:=by
     rw[hlo,UInt8.toNat_add]
     simp only[show(32:UInt8).toNat=32 from rfl]
     omega
    refine o_ (bj i rfl hil) ?_
    rw[Nat.zero_add]
    refine am ld (.pick .here .nil) ?_
    refine o_ (uv (q:= .u8) (a:=(l[i].toNat:Int)) (b:=32)) ?_
    rw[show IntKind.u8.wrap ((l[i].toNat:Int)+32)=((dU l[i]).toNat:Int) by
     rw[hn]
     simp[IntKind.wrap,IntKind.signed,IntKind.bits];omega]
    refine o_ (bj i rfl hil) ?_
    rw[Nat.zero_add]
    refine I0 (v:=B (dU l[i])) .here (by simp;omega) (by simp;omega) ?_
    rw[step _ rfl]
    refine bG ?_
    refine aK (m-1) (by omega) (.ex (i+1) (.all ?_))
    refine aq ?_
    exact .pu ⟨by omega,rfl⟩ .refl
   ·rw[dF_ h2]
    exact aa (no (fun c=>h2 (h65.2 c).2))
  ·rw[dF_ h1]
   exact af (af (af (af (af (o_ ag (aa (no (fun c=>h1 (h65.2 c).1))))))))
 ·have hie:i=l.length:=by omega
  subst hie
  refine aa ?_
  rw[List.take_length,List.drop_length,List.append_nil]
  have hrd:=Db (W:=W) (g:=g) (e:=5) (fz:=(l.length+rest.length,l.length+rest.length+1)) (cs:=(cC l).map B) (rest:=rest)
  have e1:((cC l).map B).length=l.length:=by simp[cC]
  rw[e1]at hrd
  refine am (iF (l:=cC l) hrd (by intro h;cases h)) (.pick .here .nil) ?_
  refine bq () ?_
  exact aw
abbrev Fd:=List UInt8 × List UInt8
def wC (x:Fd):Value:= .agg #[bm x.1,bm x.2]
def dO (x:Fd):List Value:=[bm x.1,bm x.2]
theorem z_ (x:Fd):(dO x).length=2:=rfl
theorem O1 {xs:List Fd}{i:Nat}(h:i<xs.length):(xs.flatMap dO)[i * 2+0]? =some (bm xs[i].1)/\(xs.flatMap dO)[i * 2+1]? =some (bm xs[i].2):=
 ⟨et (f:=dO) (s:=2) z_ xs i 0 h (by omega),et (f:=dO) (s:=2) z_ xs i 1 h (by omega)⟩
def k9 (W:World)(A:HP)(a:Option Addr)(l:List Fd):Prop:=RdB W A a (l.length * 2) (l.flatMap dO)
theorem qP {W:World}{A:HP}{a:Option Addr}{l:List Fd}(h:k9 W A a l)(hl:0<l.length):∃g o,a=some ⟨g,o,none⟩:=by
 obtain⟨g,o,e,_⟩:=h.at_ (by omega)
 exact⟨g,o,e⟩
theorem Kw {W:World}{g c:Nat}{l:List Fd}:k9 W (Sl 2 52 (some ⟨g,0,none⟩) c l.length (l.flatMap dO)) (some ⟨g,0,none⟩) l:=nV (dp (f:=dO) (s:=2) (fun _=>rfl) l) (fun _=>⟨g,rfl⟩)
theorem qQ {W:World}{A:HP}{l:List Fd}{i g o:Nat}(hA:k9 W A (some ⟨g,o,none⟩) l)(h:i<l.length):bg p_ W [A] (aI 52 (.pointer (some ⟨g,o+i * 2,none⟩))) (wC l[i]):=
 jE (vs:=dO l[i]) hA rfl (fun j hj=>et (f:=dO) (s:=2) (fun _=>rfl) l i j h hj)
def O2 (l:List Fd):Prop:=l.length<=4194304/\∀f∈l,f.1.length<=4194304/\f.2.length<=4194304
def bz (l:List Fd)(n:List UInt8):List (List UInt8):=(l.filter fun f=>dy f.1 n).map (·.2)
def dq (l:List Fd)(n:List UInt8):List UInt8 × Bool:=match bz l n with
 |[]=>([],false)
 |v::_=>(v,true)
theorem tG {l:List Fd}{n:List UInt8}{i:Nat}(h:i<l.length):bz (l.take (i+1)) n=bz (l.take i) n++(if dy l[i].1 n then [l[i].2]else []):=by
 unfold bz
 rw[List.take_succ_eq_append_getElem h,List.filter_append,List.map_append]
 congr 1
 cases he:dy l[i].1 n <;> simp[he]
theorem jo (l:List Fd)(n:List UInt8):(bz l n).length<=l.length:=by
 unfold bz
 rw[List.length_map]
 exact List.length_filter_le _ _
theorem Dz {l:List Fd}{n v:List UInt8}(h:v∈bz l n):∃f∈l,v=f.2:=by
 unfold bz at h
 obtain⟨f,hf,rfl⟩:=List.mem_map.1 h
 exact⟨f,(List.mem_filter.1 hf).1,rfl⟩
theorem uK {W:World}{l:List Fd}{n:List UInt8}{a:Option Addr}{c:Nat}{A:HP}(hA:k9 W A a l)(hl:O2 l)(hn:n.length<=4194304):Cn p_ 22 [.slice a l.length c,bm n] W [A] (fun r:Option Addr × Nat=> .slice r.1 (bz l n).length r.2)
  (fun r=>[A,Sl 1 9 r.1 r.2 (bz l n).length ((bz l n).map bm)]):=by
 (refine Shp.cn (Sg.g_ Tryz.call22 Tryz.func22 (an:={loops:=[(3,[5,10])]})) fun F=>?_;simp only[ca_,na_])
 refine o_ aC (bI (fun m x y=>[ex fun st:(Option Addr × Nat) × Nat=>all [pu (m+st.2=l.length/\x= .slice st.1.1 (bz (l.take st.2) n).length st.1.2/\y= .int .i64 (st.2:Int)),Sl 1 9 st.1.1 st.1.2 (bz (l.take st.2) n).length ((bz (l.take st.2) n).map bm),A]]++F) l.length ?_ ?_)
 ·refine Imp.ex ((none,0),0) (.all ?_)
  refine aq ?_
  refine .pu ⟨rfl,rfl,rfl⟩ ?_
  exact bR .refl
 intro m ds x y
 refine aq ?_
 refine aH Pick.here fun st=>ap Pick.here ?_
 obtain⟨⟨sa,sc⟩,i⟩:=st
 refine aq ?_
 refine aG Pick.here fun hi=>?_
 (try dsimp only at hi)
 obtain⟨hmi,rfl,rfl⟩:=hi
 refine ay az .nil (fun h=>?_) (fun h=>?_)
 ·have hil:i<l.length:=by omega
  have hb:=hl.2 _ (List.getElem_mem hil)
  have hv:=tG (n:=n) hil
  have hvl:=jo (l.take i) n
  have hl1:=hl.1
  rw[List.length_take]at hvl
  refine ab ?_
  obtain⟨g,o,rfl⟩:=qP hA (Nat.zero_lt_of_lt hil)
  refine o_ (cR i rfl hil) ?_
  refine bt (qQ hA hil) ?_
  generalize l[i]=x at hb hv ⊢
  unfold wC
  refine bp fun b7=>?_
  refine bS .here (by rfl) (by rfl) (by intro u hu;simp at hu;rcases hu with rfl|rfl <;> rfl) ?_
  refine o_ aj (bJ ?_)
  refine aB (equal (a:=x.1) (b:=n) (by omega) (by omega)) .nil fun _=>?_
  refine aq ?_
  cases he:dy x.1 n with
  |true=>
   rw[he,if_pos rfl]at hv
   refine ab (o_ aj (bJ ?_));refine eI fun g=>?_
   refine bO (m:=1) (news:=[bm x.2]) (by repeat constructor) (cA (e':=9) (by kernel_rfl) .here (by rfl) (by intro u hu;rw[List.mem_singleton.1 hu];rfl)) (by omega) (by omega) fun a' c'=>?_
   refine bG ?_
   refine bo (m-1) (by omega) (.ex ((a',c'),i+1) (.all ?_))
   refine aq ?_
   (try dsimp only)
   rw[hv,List.length_append,List.map_append]
   refine .pu ⟨by omega,rfl,rfl⟩ ?_
   refine .pick .here ?_
   exact aw
  |false=>
   rw[he,if_neg (by decide),List.append_nil]at hv
   refine aa (bG ?_)
   refine bo (m-1) (by omega) (.ex ((sa,sc),i+1) (.all ?_))
   refine aq ?_
   (try dsimp only)
   rw[hv]
   refine .pu ⟨by omega,rfl,rfl⟩ ?_
   exact aw
 ·have:i=l.length:=by omega
  subst this
  rw[List.take_length]
  refine aa (bq ((sa,sc)) ?_)
  exact aw
theorem DA {W:World}{a b:List UInt8}(ha:a.length<=4611686018427387904)(hb:b.length<=4611686018427387904):Cn p_ 24 [bm a,bm b] W [] (fun _:Unit=> .bool (dy a b)) (fun _=>[]):=by
 (refine Shp.cn (Sg.g_ Tryz.call24 Tryz.func24) fun F=>?_;simp only[ca_,na_])
 refine aB (Dy (l:=a) ha) .nil fun _=>?_
 refine aq ?_
 refine aB (Dy (l:=b) hb) .nil fun _=>?_
 refine aq ?_
 refine o_ cS ?_
 have e:decide (cC a=cC b)=dy a b:=by
  unfold dy
  by_cases h:cC a=cC b
  ·have hl:a.length=b.length:=by have:=congrArg List.length h;simpa [cC]using this
   simp[h,hl]
  ·simp[h]
 rw[e]
 refine bq () ?_
 exact aw
theorem GQ {W:World}{l:List Fd}{n:List UInt8}{a:Option Addr}{c:Nat}{A:HP}(hA:k9 W A a l)(hl:O2 l)(hn:n.length<=4194304):Cn p_ 13 [.slice a l.length c,bm n] W [A] (fun r:Option Addr × Nat=> .slice r.1 (bz l n).length r.2)
  (fun r=>[A,Sl 1 9 r.1 r.2 (bz l n).length ((bz l n).map bm)]):=by
 (refine Shp.cn (Sg.g_ Tryz.call13 Tryz.func13 (an:={loops:=[(3,[5,6])]})) fun F=>?_;simp only[ca_,na_])
 refine bI (fun m x y=>[ex fun st:(Option Addr × Nat) × Nat=>all [pu (m+st.2=l.length/\x= .slice st.1.1 (bz (l.take st.2) n).length st.1.2/\y= .int .i64 (st.2:Int)),Sl 1 9 st.1.1 st.1.2 (bz (l.take st.2) n).length ((bz (l.take st.2) n).map bm),A]]++F) l.length ?_ ?_
 ·refine Imp.ex ((none,0),0) (.all ?_)
  refine aq ?_
  refine .pu ⟨rfl,rfl,rfl⟩ ?_
  exact bR .refl
 intro m ds x y
 refine aq ?_
 refine aH Pick.here fun st=>ap Pick.here ?_
 obtain⟨⟨sa,sc⟩,i⟩:=st
 refine aq ?_
 refine aG Pick.here fun hi=>?_
 (try dsimp only at hi)
 obtain⟨hmi,rfl,rfl⟩:=hi
 refine o_ aC (ay az .nil (fun h=>?_) (fun h=>?_))
 ·have hil:i<l.length:=by omega
  have hb:=hl.2 _ (List.getElem_mem hil)
  have hat:=O1 hil
  have hv:=tG (n:=n) hil
  have hvl:=jo (l.take i) n
  have hl1:=hl.1
  rw[List.length_take]at hvl
  refine ab ?_
  obtain⟨g,o,rfl⟩:=qP hA (Nat.zero_lt_of_lt hil)
  generalize l[i]=x at hb hv hat ⊢
  have l0:bg p_ W [A] (aI 9 (.pointer (some ⟨g,o+i * 2+0,none⟩))) (bm x.1):=zT hA hat.1
  have l1:bg p_ W [A] (aI 9 (.pointer (some ⟨g,o+i * 2+1,none⟩))) (bm x.2):=zT hA hat.2
  refine o_ (cR i rfl hil) ?_
  refine o_ cT (bt l0 ?_)
  refine aB (DA (a:=x.1) (b:=n) (by omega) (by omega)) .nil fun _=>?_
  refine aq ?_
  cases he:dy x.1 n with
  |true=>
   rw[he,if_pos rfl]at hv
   refine ab (o_ (cR i rfl hil) ?_)
   refine o_ cT (bt l1 ?_)
   refine eI fun gb=>?_
   refine bO (m:=1) (news:=[bm x.2]) (by repeat constructor) (cA (e':=9) (by kernel_rfl) .here (by rfl) (by intro u hu;rw[List.mem_singleton.1 hu];rfl)) (by omega) (by omega) fun a' c'=>?_
   refine bG ?_
   refine bo (m-1) (by omega) (.ex ((a',c'),i+1) (.all ?_))
   refine aq ?_
   (try dsimp only)
   rw[hv,List.length_append,List.map_append]
   refine .pu ⟨by omega,rfl,rfl⟩ ?_
   refine .pick .here ?_
   exact aw
  |false=>
   rw[he,if_neg (by decide),List.append_nil]at hv
   refine aa (bG ?_)
   refine bo (m-1) (by omega) (.ex ((sa,sc),i+1) (.all ?_))
   refine aq ?_
   (try dsimp only)
   rw[hv]
   refine .pu ⟨by omega,rfl,rfl⟩ ?_
   exact aw
 ·have:i=l.length:=by omega
  subst this
  rw[List.take_length]
  refine aa (bq ((sa,sc)) ?_)
  exact aw
theorem first {W:World}{l:List Fd}{n:List UInt8}{a:Option Addr}{c:Nat}{A:HP}(hA:k9 W A a l)(hl:O2 l)(hn:n.length<=4194304):Cn p_ 38 [.slice a l.length c,bm n] W [A] (fun _:Unit=> .tuple #[bm (dq l n).1,.bool (dq l n).2])
  (fun r=>[A]):=by
 (refine Shp.cn (Sg.g_ Tryz.call38 Tryz.func38 (an:={loops:=[(2,[12])]})) fun F=>?_;simp only[ca_,na_])
 refine aB (uK hA hl hn) (.cons .here .nil) fun r=>?_
 obtain⟨sa,sc⟩:=r
 refine aq ?_
 unfold dq
 generalize bz l n=V
 refine o_ aC (a_ (fun m y=>pu (y= .int .i64 0)::A::Sl 1 9 sa sc V.length (V.map bm)::F) 0 ?_ ?_)
 ·exact .pu rfl .refl
 intro m ds y
 refine aG .here fun hy=>?_
 subst hy
 cases V with
 |nil=>
  refine o_ (az (a:=0) (b:=0)) ?_
  refine aa (bq () ?_)
  exact aw
 |cons v r=>
  refine o_ az ?_
  rw[dT_ (by simp)]
  refine ab (dA (a:=sa) (.there .here) (by simp) fun g hg=>?_)
  subst hg
  have ld:bg p_ W [Sl 1 9 (some ⟨g,0,none⟩) sc (v::r).length ((v::r).map bm)] (aI 9 (.pointer (some ⟨g,0+0,none⟩))) (bm v):=cI rfl
  refine o_ (bj 0 rfl (by simp)) ?_
  refine bt ld ?_
  refine bq () ?_
  exact aw
section
variable {P:Program} {W:World} {L L':List HP} {Kp:PK} {k:Value->WP}
theorem Kx {s:Nat}{e:TypeId}{g:Nat}{cs:List Value}{n:Nat}{S:WP}(p:Pick L (pt g (.cells cs.toArray e (0,0))) L')(hn:cs.length=n * s)(hm:n<=maxLen)(h:aZ W (Sl s e (some ⟨g,0,none⟩) n 0 []::L') S):aZ W L S:=
 CV p (fun h hh=>⟨by simp,Nat.zero_le _,hm,.inr ⟨g,cs,rfl,by simpa using hn,hh⟩⟩) h
theorem GR {dT sT ty e:TypeId}{b:Nat}{d a:Option Addr}{dLen dCap ii wb:Nat}[ht:SlT P dT e 1 b](hn:Nat.min ii dLen=0):bg P W [] (CT #[dT,sT] ty [.slice d dLen dCap,.slice a ii wb]) (.int .i64 0):=fun w _=>by
 obtain⟨i,z,hi,hz,hsz,hb,hzs⟩:=ht.info
 have hr:=run_copy_none (P:=P) w dT sT ty e d a dLen dCap ii wb ht.ut (by rw[hi];simp[hsz]) hn
 simp[CT,hr,goInt]
theorem GS {tx:TypeId}{l:List UInt8}(hk:P.underlying tx=some .string):∀w,sat W L w->Src P 1 tx (bm l) l.length (l.map B) w:=fun w _=>Src.ofString w hk ⟨l.toArray⟩
end
theorem O3 {W:World}{L:List HP}{Kp:PK}{k:Value->WP}{n:Nat}(hn:n<=281474976710656)(h:∀g (cs:List Value),n<=cs.length->cs.length<=maxLen->aZ W (pt g (.cells cs.toArray 5 (0,0))::L) (k (.slice (some ⟨g,0,none⟩) n cs.length))):
  aZ W L (opN p_ (bN (fn 159) [.int .i64 (n:Int)]) Kp k):=fun w hw=>by
 obtain⟨cs,hrun,hle,hmx⟩:=Lib.run_makeNoZero (P:=p_) w #[3] 23 5 Tryz.underlying23 n hn
 have hr:(callFunc 159 #[.int .i64 (n:Int)]).run p_ w= .ok (.value (.slice (some ⟨w.heap.size,0,none⟩) n cs.size)) (w.drew.drew.alloc (.cells cs 5)):=by
  rw[run_callFunc_extern Tryz.func159 (by kernel_rfl) (by kernel_rfl) (by kernel_rfl) (e:=Extern.BytealgMakeNoZero.makeNoZero #[3] #[23]) (by kernel_rfl),hrun]
  rfl
 refine⟨?_⟩
 rw[show(bN (fn 159) [.int .i64 (n:Int)]).run p_ w= .ok (.value (.slice (some ⟨w.heap.size,0,none⟩) n cs.size)) (w.drew.drew.alloc (.cells cs 5)) by simp[bN,Deferred.ofValue,invoke,fn,hr]]
 have:=h w.heap.size cs.toList (by simpa using hle) (by simpa using hmx (by unfold maxLen;omega))
 simp only[Array.toArray_toList,Array.length_toList]at this
 exact this _ ((hw.drew.drew).alloc (.cells cs 5))
theorem O4 {W:World}{b n:Nat}{p:Value}(hn:n<=4194304):Cn p_ 115 [.pointer (some ⟨b,0,none⟩),.int .i64 (n:Int)] W [pt b (.cells #[p,.slice none 0 0] 121 (0,0))] (fun _:Nat × Nat=> .tuple #[])
  (fun r=>[pt b (.cells #[p,.slice (some ⟨r.1,0,none⟩) 0 r.2] 121 (0,0)),Sl 1 5 (some ⟨r.1,0,none⟩) r.2 0 []]):=by
 (refine Shp.cn (Sg.g_ Tryz.call115 Tryz.func115 (an:={drs:=[(0,.ofL [(0,1),(1,1),(2,1),(3,1),(4,1),(5,1),(6,1),(7,1),(9,2),(10,3),(11,3),(12,3),(13,3),(8,0),(14,1),(15,1)])]}) (os:=[(0,[(8,[13,12,11,10])])])) fun F=>?_;simp only[ca_,na_])
 refine bA (t_ au (t_ aj (aT (bC (.there .here)) (.pick .here .nil) ?_)))
 refine t_ C5 ?_
 refine t_ (eh (by decide) (by decide)) ?_
 refine t_ (bU (by omega) (by omega)) ?_
 refine bh au .nil ?_
 refine bh aj .nil ?_
 refine bh (bC (.there .here)) (.pick .here .nil) ?_
 refine bh aC .nil ?_
 rw[show(2 * ((0:Nat):Int)+(n:Int))=((n:Nat):Int) by omega]
 refine O3 (by omega) fun g cs h1 h2=>?_
 refine bZ aw ?_
 refine bZ aw ?_
 refine bZ aw ?_
 refine bZ aw ?_
 refine t_ (uz 0 rfl (Nat.zero_le _)) ?_
 refine o_ au (o_ aj (bt (bC (.there .here)) ?_))
 refine o_ (GR rfl) ?_
 refine o_ au (o_ aj (eR (.there .here) (.there .here) ?_))
 refine Kx (s:=1) (n:=cs.length) (.there .here) (by omega) h2 ?_
 refine bq ((g,cs.length)) ?_
 refine .pick (by repeat constructor) ?_
 exact aw
theorem O5 {W:World}{b n:Nat}(hn:0<n)(hm:n<=4194304):Cn p_ 81 [.pointer (some ⟨b,0,none⟩),.int .i64 (n:Int)] W [pt b (.cells #[.pointer none,.slice none 0 0] 121 (0,0))] (fun _:Nat × Nat=> .tuple #[])
  (fun r=>[bd b (some ⟨r.1,0,none⟩,r.2) []]):=by
 (refine Shp.cn (Sg.g_ Tryz.call81 Tryz.func81 (an:={cuts:=[(3,[])],drs:=[(3,.ofL [(0,1),(1,1),(2,1),(3,1),(4,1),(5,1),(6,1),(7,1),(8,1),(9,1),(10,1),(11,1),(12,1)])]})) fun F=>?_;simp only[ca_,na_])
 refine aB Ki (.cons .here .nil) fun _=>?_
 refine aq ?_
 refine pU ?_
 refine o_ az ?_
 rw[dF_ (by omega)]
 refine aa (fB fun ds=>?_)
 refine bA (t_ au (t_ aj (aT (bC (.there .here)) (.pick .here .nil) ?_)))
 refine t_ C5 ?_
 refine t_ au (t_ aj (aT (bC (.there .here)) (.pick .here .nil) ?_))
 refine t_ aC (t_ (dv (by decide) (by decide)) ?_)
 refine t_ az ?_
 rw[dT_ (by omega)]
 refine ab (aB (O4 hm) (.cons .here .nil) fun r=>?_)
 refine aq ?_
 refine dR r ?_
 unfold bd
 refine .all ?_
 refine aq ?_
 exact .refl
theorem qR {W:World}{b:Nat}{r:Option Addr × Nat}{l m:List UInt8}(hl:l.length+m.length<=16777216):Cn p_ 82 [.pointer (some ⟨b,0,none⟩),bm m] W [bd b r l] (fun _:Option Addr × Nat=> .tuple #[.int .i64 (m.length:Int),.nilIface]) (fun r'=>[bd b r' (l++m)]):=by
 (refine Shp.cn (Sg.g_ Tryz.call82 Tryz.func82) fun F=>?_;simp only[ca_,na_])
 unfold bd
 refine ap .here ?_
 refine aq ?_
 refine aB Kk (.cons .here .nil) fun _=>?_
 refine aq ?_
 refine o_ au (o_ aj (am (bC (.there .here)) (.pick .here .nil) ?_))
 refine bO (m:=m.length) (news:=m.map B) (by repeat constructor) (GS (by kernel_rfl)) (by omega) (by omega) fun a' c'=>?_
 refine o_ au (o_ aj (eR (.there .here) (.there .here) ?_))
 refine o_ ce (bq ((a',c')) ?_)
 refine .all ?_
 refine aq ?_
 rw[List.length_append,List.map_append]
 refine .pick (by repeat constructor) ?_
 exact aw
end FD
namespace FD
open Go Go.Proofs Go.RowKit Sh Sl T
def mZ (sep:List UInt8):List (List UInt8)->List UInt8
 |[]=>[]
 |v::r=>v++r.flatMap (fun w=>sep++w)
def jd:List (List UInt8)->Nat
 |[]=>0
 |v::r=>v.length+jd r
theorem Aa (a b:List (List UInt8)):jd (a++b)=jd a+jd b:=by
 induction a with
 |nil=>simp[jd]
 |cons v r ih=>simp[jd,ih];omega
theorem qT (sep:List UInt8)(r:List (List UInt8)):(r.flatMap (fun w=>sep++w)).length=jd r+sep.length * r.length:=by
 induction r with
 |nil=>simp[jd]
 |cons v r ih=>
  rw[List.flatMap_cons,List.length_append,ih,jd,List.length_append,List.length_cons,Nat.mul_add,Nat.mul_one]
  omega
theorem DB {V:List (List UInt8)}{i:Nat}(h:i<V.length):jd (V.take (i+1))=jd (V.take i)+V[i].length:=by
 rw[List.take_succ_eq_append_getElem h,Aa]
 simp[jd]
theorem pv (V:List (List UInt8))(i:Nat):jd (V.take i)<=jd V:=by
 have:=Aa (V.take i) (V.drop i)
 rw[List.take_append_drop]at this;omega
theorem GT {k:Nat}(h1:1<=k)(h2:k<=4194304):16<9223372036854775807 / k:=by
 have:=Nat.div_le_div_left (a:=9223372036854775807) h2 (by omega)
 have e:9223372036854775807 / 4194304=2199023255551:=rfl
 omega
theorem join {W:World}{sep:List UInt8}{V:List (List UInt8)}{a:Option Addr}{c:Nat}(hs:0<sep.length)(hs2:sep.length<=16)(hV:(mZ sep V).length<=4194304)(hn:V.length<=4194304):
  Cn p_ 53 [.slice a V.length c,bm sep] W [Sl 1 9 a c V.length (V.map bm)] (fun _:Unit=>bm (mZ sep V)) (fun _=>[]):=by
 (refine Shp.cn (Sg.g_ Tryz.call53 Tryz.func53 (an:={cuts:=[(10,[]),(11,[5]),(16,[])],loops:=[(12,[5,41]),(22,[65])]})) fun F=>?_;simp only[ca_,na_])
 match V,hV,hn with
 |[],_,_=>
  refine o_ aC (o_ aP ?_)
  rw[dT_ (by rfl)]
  refine ab (bq () ?_)
  exact aw
 |[v],_,_=>
  refine o_ aC (o_ aP ?_)
  rw[dF_ (by simp)]
  refine aa (o_ aP ?_)
  rw[dT_ (by rfl)]
  refine ab (dA (a:=a) .here (by simp) fun g hg=>?_)
  subst hg
  have ld:bg p_ W [Sl 1 9 (some ⟨g,0,none⟩) c [v].length ([v].map bm)] (aI 9 (.pointer (some ⟨g,0+0,none⟩))) (bm v):=cI rfl
  refine o_ (bj 0 rfl (by simp)) ?_
  refine bt ld ?_
  refine aR () (by simp[mZ]) ?_
  exact aw
 |v::u::r,hV,hn=>
  have hjl:(mZ sep (v::u::r)).length=jd (v::u::r)+sep.length * ((v::u::r).length-1):=by
   unfold mZ
   rw[List.length_append,qT]
   simp only[jd,List.length_cons,Nat.add_sub_cancel]
   omega
  obtain⟨V,hVe⟩:∃V,V=v::u::r:=⟨_,rfl⟩
  have h2:2<=V.length:=by rw[hVe];simp
  have hv0:V[0]? =some v:=by rw[hVe];rfl
  have hj0:mZ sep V=v++(V.drop 1).flatMap (fun w=>sep++w):=by rw[hVe];rfl
  rw[<- hVe]at hV hn hjl ⊢
  clear hVe
  have hq:=GT (k:=V.length-1) (by omega) (by omega)
  refine o_ aC (o_ aP ?_)
  rw[dF_ (by omega)]
  refine aa (o_ aP ?_)
  rw[dF_ (by omega)]
  refine aa (dA (a:=a) .here (by omega) fun g hg=>?_)
  subst hg
  refine aF .here fun f1 f2 f3 f4=>?_
  have ld:∀i (h:i<V.length),bg p_ W [Sl 1 9 (some ⟨g,0,none⟩) c V.length (V.map bm)] (aI 9 (.pointer (some ⟨g,i,none⟩))) (bm V[i]):=fun i h=>cI (by rw[List.getElem?_map,List.getElem?_eq_getElem h];rfl)
  have hml:sep.length * (V.length-1)<=4194304:=by omega
  refine dD (fun z=>pu (z= .int .i64 ((sep.length * (V.length-1):Nat):Int))::Sl 1 9 (some ⟨g,0,none⟩) c V.length (V.map bm)::F) ?_ ?_
  rotate_left
  ·refine o_ ce (o_ aV ?_)
   rw[dT_ (by omega)]
   refine ab (pU ?_)
   refine o_ ce (o_ aC (dX ?_))
   rw[show((V.length:Nat):Int)-1=((V.length-1:Nat):Int) by omega]
   refine o_ (hH (by omega) (by omega) (by omega)) ?_
   refine o_ cH ?_
   rw[dF_ (by
    have e:(9223372036854775807:Int) / ((V.length-1:Nat):Int)=((9223372036854775807 / (V.length-1):Nat):Int):=rfl
    rw[e]
    omega)]
   refine aa (fB fun ds=>?_)
   refine o_ ce (o_ aC (dX ?_))
   rw[show((V.length:Nat):Int)-1=((V.length-1:Nat):Int) by omega]
   have hm:((sep.length:Nat):Int) * ((V.length-1:Nat):Int)=((sep.length * (V.length-1):Nat):Int):=by push_cast;rfl
   refine o_ (eh (by rw[hm];omega) (by rw[hm];omega)) ?_
   rw[hm]
   refine bG ?_
   refine aD (.pu (by congr 1;push_cast;omega) ?_)
   exact .refl
  ·intro ds z
   refine aG .here fun hz=>?_
   subst hz
   refine o_ aC ?_
   have hsum:jd V+sep.length * (V.length-1)<=4194304:=by omega
   generalize hM:sep.length * (V.length-1)=M at hml hsum hjl ⊢
   have hMp:0<M:=by
    rw[<- hM]
    exact Nat.mul_pos hs (by omega)
   refine bI (fun m x y=>(ex fun i:Nat=>pu (m+i=V.length/\x= .int .i64 ((M+jd (V.take i):Nat):Int)/\y= .int .i64 (i:Int)))::Sl 1 9 (some ⟨g,0,none⟩) c V.length (V.map bm)::F) V.length ?_ ?_
   ·exact .ex 0 (.pu ⟨rfl,rfl,rfl⟩ .refl)
   intro m ds2 x y
   refine aH .here fun i=>aG .here fun hi=>?_
   obtain⟨hmi,rfl,rfl⟩:=hi
   have hst:=pv V i
   refine ay az .nil (fun h=>?_) (fun h=>?_)
   ·have hil:i<V.length:=by omega
    have hsu:=DB hil
    have hst2:=pv V (i+1)
    refine ab (o_ (bj i rfl hil) ?_)
    rw[Nat.zero_add]
    refine am (ld i hil) (.pick .here .nil) ?_
    refine pU ?_
    refine o_ ce (dX ?_)
    refine o_ aV ?_
    rw[dF_ (by omega)]
    refine aa (fB fun ds3=>?_)
    refine o_ ce (bG ?_)
    refine bG ?_
    exact bo (m-1) (by omega) (.ex (i+1) (.pu ⟨by omega,by rw[hsu];congr 1;omega,rfl⟩ .refl))
   ·have hie:i=V.length:=by omega
    subst hie
    rw[List.take_length]
    refine aa (bp fun b=>?_)
    refine aB (O5 (n:=M+jd V) (by omega) (by omega)) (.cons .here .nil) fun r=>?_
    refine aq ?_
    obtain⟨v',hv'⟩:∃v',v'=v:=⟨_,rfl⟩
    have hV0:V[0]'(by omega)=v:=by
     rw[List.getElem?_eq_getElem (by omega)]at hv0
     exact Option.some.inj hv0
    have hvl:v.length<=4194304:=by
     rw[hj0,List.length_append]at hV
     omega
    refine o_ (bj 0 rfl (by omega)) ?_
    have ld0:=ld 0 (by omega)
    rw[hV0]at ld0
    refine bt ld0 ?_
    refine aB (qR (l:=[]) (m:=v) (by simp;omega)) (.cons .here .nil) fun r=>?_
    refine aq ?_
    refine o_ (ph 1 rfl (by omega)) ?_
    rw[if_neg (by omega),show(some (⟨g,0,none⟩:Addr)).map (·.add (1 * 1))=some ⟨g,1,none⟩ by simp[cp]]
    refine o_ aC (a_ (fun m y=>(ex fun st:Nat × Option Addr × Nat=>all [pu (m+st.1=V.length-1/\y= .int .i64 (st.1:Int)),bd b st.2 (v++((V.drop 1).take st.1).flatMap (fun w=>sep++w))])::Sl 1 9 (some ⟨g,0,none⟩) c V.length (V.map bm)::F) (V.length-1) ?_ ?_)
    ·refine .ex (0,r) (.all ?_)
     refine aq ?_
     refine .pu ⟨rfl,rfl⟩ ?_
     simp only[List.take_zero,List.flatMap_nil,List.append_nil]
     exact .refl
    intro m ds4 y
    refine aH .here fun st=>ap .here ?_
    obtain⟨i,r⟩:=st
    refine aq ?_
    refine aG .here fun hi=>?_
    (try dsimp only at hi)
    obtain⟨hmi,rfl⟩:=hi
    have hfl:=qT sep ((V.drop 1).take i)
    have hle:(v++((V.drop 1).take i).flatMap (fun w=>sep++w)).length<=4194304:=by
     have e:(V.drop 1).flatMap (fun w=>sep++w)=((V.drop 1).take i).flatMap (fun w=>sep++w)++((V.drop 1).drop i).flatMap (fun w=>sep++w):=by
      rw[<- List.flatMap_append,List.take_append_drop]
     rw[hj0,e,List.length_append,List.length_append]at hV
     rw[List.length_append]
     omega
    refine ay az .nil (fun h=>?_) (fun h=>?_)
    ·have hil:i<V.length-1:=by omega
     have hwl:V[1+i]'(by omega)∈V:=List.getElem_mem _
     have htk:(V.drop 1).take (i+1)=(V.drop 1).take i++[V[1+i]'(by omega)]:=by
      rw[List.take_succ_eq_append_getElem (by rw[List.length_drop];omega),List.getElem_drop]
     have hle2:(v++((V.drop 1).take (i+1)).flatMap (fun w=>sep++w)).length<=4194304:=by
      have e:(V.drop 1).flatMap (fun w=>sep++w)=((V.drop 1).take (i+1)).flatMap (fun w=>sep++w)++((V.drop 1).drop (i+1)).flatMap (fun w=>sep++w):=by
       rw[<- List.flatMap_append,List.take_append_drop]
      rw[hj0,e,List.length_append,List.length_append]at hV
      rw[List.length_append]
      omega
     have hstep:v++((V.drop 1).take (i+1)).flatMap (fun w=>sep++w)=((v++((V.drop 1).take i).flatMap (fun w=>sep++w))++sep)++V[1+i]'(by omega):=by
      rw[htk,List.flatMap_append]
      simp
     rw[hstep,List.length_append,List.length_append]at hle2
     refine ab (o_ (bj i rfl hil) ?_)
     refine bt (ld (1+i) (by omega)) ?_
     refine aB (qR (by omega)) (.cons .here .nil) fun r1=>?_
     refine aq ?_
     refine aB (qR (by rw[List.length_append];omega)) (.cons .here .nil) fun r2=>?_
     refine aq ?_
     refine bG ?_
     refine aK (m-1) (by omega) (.ex (i+1,r2) (.all ?_))
     refine aq ?_
     refine .pu ⟨by(try dsimp only);omega,rfl⟩ ?_
     (try dsimp only)
     rw[hstep]
     exact .refl
    ·have hie:i=V.length-1:=by omega
     have ht:(V.drop 1).take i=V.drop 1:=List.take_of_length_le (by rw[List.length_drop];omega)
     rw[ht,<- hj0]
     refine aa ?_
     refine aB (Ds (by
      intro e
      rw[e]at hjl
      simp at hjl
      omega)) (.cons .here .nil) fun _=>?_
     refine aq ?_
     refine bq () ?_
     exact aw
def jV (names:List (List UInt8))(f:Fd):Bool:=!names.any (fun n=>dy f.1 n)
def fm (l:List Fd)(names:List (List UInt8)):List Fd:=l.filter (jV names)
theorem BJ {l:List Fd}{N:List (List UInt8)}{i:Nat}(h:i<l.length):fm (l.take (i+1)) N=fm (l.take i) N++(if jV N l[i]then [l[i]]else []):=by
 unfold fm
 rw[List.take_succ_eq_append_getElem h,List.filter_append]
 congr 1
 cases he:jV N l[i] <;> simp[he]
theorem wD (l:List Fd)(N:List (List UInt8)):(fm l N).length<=l.length:=List.length_filter_le _ _
end FD
namespace FD
open Go Go.Proofs Go.RowKit
theorem m0 (a b:List Fd)(n:List UInt8):bz (a++b) n=bz a n++bz b n:=by unfold bz;rw[List.filter_append,List.map_append]
theorem gj (f:Fd)(l:List Fd)(n:List UInt8):bz (f::l) n=if dy f.1 n then f.2::bz l n else bz l n:=by
 unfold bz
 rw[List.filter_cons]
 split <;> simp
theorem BK {l:List Fd}{n:List UInt8}(h:∀f∈l,dy f.1 n=false):bz l n=[]:=by
 unfold bz
 rw[List.filter_eq_nil_iff.2 (fun f hf=>by rw[h f hf];decide)];rfl
theorem Ab {a m n:List UInt8}(h:cC m=cC n):dy a n=dy a m:=by
 have hl:m.length=n.length:=by have:=congrArg List.length h;simpa [cC]using this
 unfold dy
 rw[h,hl]
theorem BL {l:List Fd}{N:List (List UInt8)}{m n:List UInt8}(hm:m∈N)(h:cC m=cC n):bz (fm l N) n=[]:=BK fun f hf=>by
 have h2:=(List.mem_filter.1 hf).2
 rw[Ab h]
 unfold jV at h2
 cases he:dy f.1 m with
 |false=>rfl
 |true=>
  have:N.any (fun n=>dy f.1 n)=true:=List.any_eq_true.2 ⟨m,hm,he⟩
  rw[this]at h2;cases h2
def zF:List Fd->Nat
 |[]=>0
 |f::r=>f.1.length+f.2.length+3+zF r
theorem p8 (f:Fd)(r:List Fd):zF (f::r)=f.1.length+f.2.length+3+zF r:=rfl
theorem DC {l:List Fd}{f:Fd}(h:f∈l):f.1.length+f.2.length+3<=zF l:=by
 induction l with
 |nil=>cases h
 |cons g r ih=>
  unfold zF
  rcases List.mem_cons.1 h with rfl|h
  ·omega
  ·have:=ih h;omega
theorem m6 (l:List Fd):3 * l.length<=zF l:=by
 induction l with
 |nil=>simp[zF]
 |cons g r ih=>unfold zF;rw[List.length_cons];omega
theorem BM {l:List Fd}(h:zF l<=2097152):O2 l:=⟨by have:=m6 l;omega,fun f hf=>by have:=DC hf;omega⟩
def zL:List (List UInt8)->Nat
 |[]=>0
 |v::r=>v.length+1+zL r
theorem uL (v:List UInt8)(r:List (List UInt8)):zL (v::r)=v.length+1+zL r:=rfl
theorem uM {l:List (List UInt8)}{v:List UInt8}(h:v∈l):v.length+1<=zL l:=by
 induction l with
 |nil=>cases h
 |cons g r ih=>
  unfold zL
  rcases List.mem_cons.1 h with rfl|h
  ·omega
  ·have:=ih h;omega
theorem m7 (l:List Fd)(n:List UInt8):zL (bz l n)<=zF l:=by
 induction l with
 |nil=>simp[bz,zL,zF]
 |cons g r ih=>
  rw[gj,p8]
  split
  ·rw[uL];omega
  ·omega
end FD
namespace FD
open Go Go.Proofs Go.RowKit Sh Sl T
theorem BN {N:List (List UInt8)}{f:Fd}{j:Nat}(h:j<N.length):jV (N.take (j+1)) f=(jV (N.take j) f&&!dy f.1 N[j]):=by
 unfold jV
 rw[List.take_succ_eq_append_getElem h,List.any_append]
 simp
theorem qU {W:World}{A:HP}{g o n j:Nat}{N:List (List UInt8)}(hN:RdB W A (some ⟨g,o,none⟩) n (N.map bm))(h:j<N.length):bg p_ W [A] (aI 9 (.pointer (some ⟨g,o+j,none⟩))) (bm N[j]):=
 bP hN (by rw[List.getElem?_map,List.getElem?_eq_getElem h];rfl)
theorem GU {W:World}{l:List Fd}{N:List (List UInt8)}{a na:Option Addr}{c nc:Nat}{A NA:HP}(hA:k9 W A a l)(hl:O2 l)(hN:RdB W NA na N.length (N.map bm))(hn:∀n∈N,n.length<=4194304)(hNl:N.length<=1099511627776):
  Cn p_ 51 [.slice a l.length c,.slice na N.length nc] W [A,NA] (fun r:Option Addr × Nat=> .slice r.1 (fm l N).length r.2)
  (fun r=>[A,NA,Sl 2 52 r.1 r.2 (fm l N).length ((fm l N).flatMap dO)]):=by
 (refine Shp.cn (Sg.g_ Tryz.call51 Tryz.func51 (an:={loops:=[(3,[5,12]),(6,[18])]})) fun F=>?_;simp only[ca_,na_])
 refine o_ aC (bI (fun m x y=>[ex fun st:(Option Addr × Nat) × Nat=>all [pu (m+st.2=l.length/\x= .slice st.1.1 (fm (l.take st.2) N).length st.1.2/\y= .int .i64 (st.2:Int)),Sl 2 52 st.1.1 st.1.2 (fm (l.take st.2) N).length ((fm (l.take st.2) N).flatMap dO),A,NA]]++F) l.length ?_ ?_)
 ·refine Imp.ex ((none,0),0) (.all ?_)
  refine aq ?_
  refine .pu ⟨rfl,rfl,rfl⟩ ?_
  exact bR .refl
 intro m ds x y
 refine aq ?_
 refine aH Pick.here fun st=>ap Pick.here ?_
 obtain⟨⟨sa,sc⟩,i⟩:=st
 refine aq ?_
 refine aG Pick.here fun hi=>?_
 (try dsimp only at hi)
 obtain⟨hmi,rfl,rfl⟩:=hi
 refine ay az .nil (fun h=>?_) (fun h=>?_)
 ·have hil:i<l.length:=by omega
  have hb:=hl.2 _ (List.getElem_mem hil)
  have hv:=BJ (N:=N) hil
  have hvl:=wD (l.take i) N
  have hl1:=hl.1
  rw[List.length_take]at hvl
  refine ab ?_
  obtain⟨g,o,rfl⟩:=qP hA (Nat.zero_lt_of_lt hil)
  refine o_ (cR i rfl hil) ?_
  refine bt (qQ hA hil) ?_
  generalize l[i]=f at hb hv ⊢
  unfold wC
  refine bp fun b7=>?_
  refine bS .here (by rfl) (by rfl) (by intro u hu;simp at hu;rcases hu with rfl|rfl <;> rfl) ?_
  refine o_ aC (a_ (fun k y=>pu (∃j:Nat,k+j=N.length/\y= .int .i64 (j:Int)/\jV (N.take j) f=true)::pt b7 (.cells #[bm f.1,bm f.2] 52)::Sl 2 52 sa sc (fm (l.take i) N).length ((fm (l.take i) N).flatMap dO)::A::NA::F) N.length ?_ ?_)
  ·refine .pu ⟨0,rfl,rfl,by simp[jV]⟩ ?_
   exact aw
  intro k ds2 y
  refine aG .here fun hj=>?_
  obtain⟨j,hkj,rfl,hno⟩:=hj
  refine ay az .nil (fun h2=>?_) (fun h2=>?_)
  ·have hjl:j<N.length:=by omega
   have hnl:=hn _ (List.getElem_mem hjl)
   have hnt:=BN (f:=f) hjl
   refine ab ?_
   obtain⟨ng,no,rfl,_⟩:=hN.at_ (by omega)
   refine o_ (bj j rfl hjl) ?_
   refine bt (qU hN hjl) ?_
   refine o_ aj (bJ ?_)
   refine aB (equal (a:=f.1) (b:=N[j]) (by omega) (by omega)) .nil fun _=>?_
   refine aq ?_
   cases he:dy f.1 N[j]with
   |true=>
    refine ab (bG ?_)
    have hbad:jV N f=false:=by
     unfold jV
     rw[List.any_eq_true.2 ⟨_,List.getElem_mem hjl,he⟩];rfl
    rw[hbad,if_neg (by decide),List.append_nil]at hv
    refine bo (m-1) (by omega) (.ex ((sa,sc),i+1) (.all ?_))
    refine aq ?_
    (try dsimp only)
    rw[hv]
    refine .pu ⟨by omega,rfl,by norm_cast⟩ ?_
    exact aw
   |false=>
    refine aa (bG ?_)
    refine aK (k-1) (by omega) (.pu ⟨j+1,by omega,by norm_cast,by rw[hnt,hno,he];rfl⟩ ?_)
    exact aw
  ·have hjl:j=N.length:=by omega
   subst hjl
   rw[List.take_length]at hno
   rw[hno,if_pos rfl]at hv
   refine aa (lG ?_)
   refine eL (n:=1) (vs:=[wC f]) rfl (by omega) rfl (by intro v hv;rw[List.mem_singleton.1 hv];rfl) (by omega) fun gb=>?_
   refine bO (m:=1) (news:=dO f) (by(repeat constructor):Pick _ (Sl 2 52 sa sc (fm (l.take i) N).length ((fm (l.take i) N).flatMap dO)) _) (cA (s:=2) (e':=52) (by kernel_rfl) .here (by rfl) (by intro u hu;simp[wC,Value.cells]at hu;rcases hu with rfl|rfl <;> rfl)) (by omega) (by omega) fun a' c'=>?_
   refine bG ?_
   refine bo (m-1) (by omega) (.ex ((a',c'),i+1) (.all ?_))
   refine aq ?_
   (try dsimp only)
   rw[hv,List.length_append,List.flatMap_append,List.length_singleton,List.flatMap_cons,List.flatMap_nil,List.append_nil]
   refine .pu ⟨by omega,rfl,by norm_cast⟩ ?_
   exact aw
 ·have:i=l.length:=by omega
  subst this
  rw[List.take_length]
  refine aa (bq ((sa,sc)) ?_)
  exact aw
theorem Ky (c:UInt8):yA c=(decide ((c.toNat:Int)<=32)||decide (c=34)||decide (c=127)):=by
 have e:decide ((c.toNat:Int)<=32)=decide (c<=32):=by
  rw[decide_eq_decide,UInt8.le_iff_toNat_le]
  simp only[show(32:UInt8).toNat=32 from rfl]
  omega
 rw[e]
 unfold yA
 by_cases h1:c<=32 <;> by_cases h2:c=34 <;> by_cases h3:c=127 <;> simp[h1,h2,h3]
theorem DD (l:List UInt8):(l9 l).length<=l.length:=by
 unfold l9
 split
 ·simp
 ·exact Nat.le_refl _
theorem Tq {W:World}{l:List UInt8}(hl:l.length<=4611686018427387904):Cn p_ 45 [bm l] W [] (fun _:Unit=> .tuple #[yK (jF l).1,.bool (jF l).2]) (fun _=>[]):=by
 have hvl:=DD l
 have bad:lJ (l9 l)=false->jF l=((false,[]),false):=fun h=>by unfold jF;rw[h];rfl
 (refine Shp.cn (Sg.g_ Tryz.call45 Tryz.func45 (an:={loops:=[(6,[38])]})) fun F=>?_;simp only[ca_,na_])
 refine bp fun b2=>?_
 refine c_ (Kg hl) fun _=>?_
 refine o_ (bM (vs:=[_,_]) .here) ?_
 refine o_ (bM (vs:=[_,_]) (.there .here)) ?_
 obtain⟨v,hv⟩:∃v,v=l9 l:=⟨_,rfl⟩
 rw[<- hv]at hvl bad ⊢
 refine o_ ce (o_ az ?_)
 by_cases h2:v.length<2
 ·have hno:lJ v=false:=by
   unfold lJ
   rw[dF_ (fun c=>by omega)];rfl
  rw[bad hno,dT_ (by omega)]
  refine ao (ao (ao (o_ ah (ao (ao (ao (ao (ao (ao (o_ ah (ab (o_ b_ ?_))))))))))));refine fO ?_;(((refine' aT (cG ?hn) ?hi ?_);(case hi=>exact aw);(case hn=>rfl)))
  refine bq () ?_
  exact aw
 ·rw[dF_ (by omega)]
  refine Dw (fun _=>h_ (l:=v) 0 rfl (by omega)) (fun _=>GI 34 rfl) ?_
  rw[Bool.false_or]
  by_cases h3:v[0]'(by omega)=34
  ·rw[dF_ (fun c=>c h3)]
   refine ae (ae (ae (o_ ce (ae (dX ?_)))));refine ae (o_ (h_ (v.length-1) (by omega) (by omega)) ?_)
   refine ae (o_ (GI 34 rfl) ?_)
   refine o_ ag ?_
   by_cases h4:v[v.length-1]'(by omega)=34
   ·rw[dF_ (fun c=>c h4)]
    have hok:lJ v= !(tr v).any yA:=by
     unfold lJ
     rw[dT_ ⟨by omega,by rw[List.getElem?_eq_getElem (by omega),h3],by rw[List.getElem?_eq_getElem (by omega),h4]⟩,Bool.true_and]
    refine aa (o_ ce (dX ?_))
    refine o_ (yG 1 (v.length-1) rfl (by omega) (by omega) (by omega)) ?_
    rw[show sub v 1 (v.length-1)=tr v from rfl]
    have hml:(tr v).length<=v.length:=by simp[tr,sub];omega
    refine k6 Tryz.underlying23 Tryz.underlying5 fun g c rest=>?_
    refine o_ aC (a_ (fun m y=>[ex fun i:Nat=>all [pu (m+i=(tr v).length/\y= .int .i64 (i:Int)/\(tr v).any yA=((tr v).drop i).any yA),pt g (.cells ((tr v).map B++rest).toArray 5 ((tr v).length+rest.length,(tr v).length+rest.length+1)),pt b2 (.cells #[.bool false,.string ⟨#[]⟩] 48 (0,0))]]++F) (tr v).length ?_ ?_)
    ·refine Imp.ex 0 (.all ?_)
     refine aq ?_
     exact .pu ⟨by omega,rfl,rfl⟩ .refl
    intro m ds y
    refine aq ?_
    refine aH Pick.here fun i=>ap Pick.here ?_
    refine aq ?_
    refine aG Pick.here fun hi=>?_
    obtain⟨hmi,rfl,hany⟩:=hi
    refine ay az .nil (fun h=>?_) (fun h=>?_)
    ·have hil:i<(tr v).length:=by omega
     rw[dr hil,List.any_cons]at hany
     refine ab (o_ (bj i rfl hil) ?_)
     rw[Nat.zero_add]
     refine am (e_ (v:=B (tr v)[i]) (by simp[List.getElem?_append,hil])) (.pick .here .nil) ?_
     refine o_ (cZ (q:= .u8) (a:=((tr v)[i].toNat:Int)) (b:=32)) ?_
     refine Dv (fun _=>qN 34 rfl) ?_
     refine Dv (fun _=>qN 127 rfl) ?_
     rw[<- Ky]
     cases hb:yA (tr v)[i]with
     |true=>
      rw[hb,Bool.true_or]at hany
      rw[hany]at hok
      rw[bad hok]
      refine ab (o_ b_ ?_);refine fO ?_;(((refine' aT (cG ?hn) ?hi ?_);(case hi=>exact aw);(case hn=>rfl)))
      refine bq () ?_
      exact aw
     |false=>
      rw[hb,Bool.false_or]at hany
      refine aa (bG ?_)
      refine aK (m-1) (by omega) (.ex (i+1) (.all ?_))
      refine aq ?_
      exact .pu ⟨by omega,rfl,hany⟩ .refl
    ·rw[List.drop_of_length_le (by omega),List.any_nil]at hany
     rw[hany]at hok
     have e:jF l=((jQ l,tr v),true):=by
      unfold jF
      rw[<- hv,hok];rfl
     rw[e]
     refine aa (o_ b_ ?_);refine fO ?_;(((refine' aT (cG ?hn) ?hi ?_);(case hi=>exact aw);(case hn=>rfl)))
     refine bq () ?_
     exact aw
   ·have hno:lJ v=false:=by
     unfold lJ
     rw[dF_ (fun c=>h4 (by have:=c.2.2;rw[List.getElem?_eq_getElem (by omega)]at this;exact Option.some.inj this))];rfl
    rw[bad hno,dT_ h4]
    refine ab (o_ b_ ?_);refine fO ?_;(((refine' aT (cG ?hn) ?hi ?_);(case hi=>exact aw);(case hn=>rfl)))
    refine bq () ?_
    exact aw
  ·have hno:lJ v=false:=by
    unfold lJ
    rw[dF_ (fun c=>h3 (by have:=c.2.1;rw[List.getElem?_eq_getElem (by omega)]at this;exact Option.some.inj this))];rfl
   rw[bad hno,dT_ h3]
   refine ao (ao (ao (ao (ao (ao (o_ ah (ab (o_ b_ ?_))))))));refine fO ?_;(((refine' aT (cG ?hn) ?hi ?_);(case hi=>exact aw);(case hn=>rfl)))
   refine bq () ?_
   exact aw
theorem DE {W:World}{l:List UInt8}(hl:l.length<=4611686018427387904):Cn p_ 21 [bm l] W [] (fun _:Unit=> .tuple #[yK (jF l).1,.int .i64 (if(jF l).2 then 0 else 42)]) (fun _=>[]):=by
 have hbad:(jF l).2=false->(jF l).1=(false,[]):=by
  unfold jF
  split
  ·intro h;cases h
  ·intro _;rfl
 (refine Shp.cn (Sg.g_ Tryz.call21 Tryz.func21) fun F=>?_;simp only[ca_,na_])
 refine bp fun b2=>?_
 refine c_ (Tq hl) fun _=>?_
 refine o_ (bM (vs:=[_,_]) .here) ?_
 refine o_ (bM (vs:=[_,_]) (.there .here)) ?_
 refine bp fun b4=>?_
 unfold yK
 cases h:(jF l).2 with
 |true=>
  refine fO ?_;refine o_ dJ (aa (lG ?_));refine fO ?_;(((refine' aT (cG ?hn) ?hi ?_);(case hi=>exact aw);(case hn=>rfl)))
  refine bq () ?_
  exact aw
 |false=>
  rw[hbad h]
  refine fO ?_;refine o_ dh (ab (o_ b_ ?_));refine fO ?_;(((refine' aT (cG ?hn) ?hi ?_);(case hi=>exact aw);(case hn=>rfl)))
  refine bq () ?_
  exact aw
theorem GV {W:World}{x:Bool × List UInt8}(hl:x.2.length<=4611686018427387904):Cn p_ 52 [yK x] W [] (fun _:Unit=>bm (Bx x)) (fun _=>[]):=by
 (refine Shp.cn (Sg.g_ Tryz.call52 Tryz.func52 (an:={cuts:=[(4,[3])]})) fun F=>?_;simp only[ca_,na_])
 unfold yK
 refine bV fun b1=>?_
 refine dD (fun z=>pu (z=bm (if x.1 then [87,47]else []))::pt b1 (.cells #[.bool x.1,bm x.2] 48 (0,0))::F) ?_ ?_
 ·intro ds z
  refine aG .here fun hz=>?_
  subst hz
  have hw:((if x.1 then [87,47]else []):List UInt8).length<=2:=by cases x.1 <;> simp
  refine o_ (wj (b:=[34]) (by simp;omega)) ?_
  refine o_ aj (bJ ?_)
  refine o_ (wj (by simp;omega)) ?_
  refine o_ (wj (b:=[34]) (by simp;omega)) ?_
  refine aR () (by unfold Bx;simp) ?_
  exact aw
 ·(refine o_ aj ?_);refine bJ ?_
  cases hx:x.1 with
  |true=>
   refine ab (aD (.pu rfl ?_))
   exact .refl
  |false=>
   refine aa (aD (.pu rfl ?_))
   exact .refl
theorem Kz (c:UInt8):wn c=((decide ((c.toNat:Int)<32)&&decide (c≠9))||decide (c=127)):=by
 have e:decide ((c.toNat:Int)<32)=decide (c<32):=by
  rw[decide_eq_decide,UInt8.lt_iff_toNat_lt]
  simp only[show(32:UInt8).toNat=32 from rfl]
  omega
 rw[e]
 unfold wn
 by_cases h1:c<32 <;> by_cases h2:c=9 <;> by_cases h3:c=127 <;> simp[h1,h2,h3]
theorem GW {a:Option Addr}{n:Nat}(h:0<n->∃g,a=some ⟨g,0,none⟩):a=none->n=0:=fun e=>by
 rcases Nat.eq_zero_or_pos n with c|c
 ·exact c
 ·obtain⟨g,hg⟩:=h c
  rw[e]at hg;cases hg
theorem Ac {l:List UInt8}(h:0<l.length):sI l=if l[0]=34 then mK [] (l.drop 1)else([],false):=by
 cases l with
 |nil=>simp at h
 |cons c r=>rfl
theorem GX {W:World}{l:List UInt8}(hl:l.length<=4194304):Cn p_ 97 [bm l] W [] (fun _:Unit=> .tuple #[bm (sI l).1,.bool (sI l).2]) (fun _=>[]):=by
 (refine Shp.cn (Sg.g_ Tryz.call97 Tryz.func97 (an:={cuts:=[(15,[5,6])],loops:=[(5,[4,5])]})) fun F=>?_;simp only[ca_,na_])
 refine o_ ce (o_ az ?_)
 have e0:(Value.string ⟨#[]⟩)=bm []:=rfl
 rw[e0]
 by_cases h2:l.length<2
 ·have hno:sI l=([],false):=by
   match l,h2 with
   |[],_=>rfl
   |[c],_=>
    show(if c=34 then mK [] []else([],false))=([],false)
    split <;> rfl
   |_::_::_,h=>exact absurd h (by simp)
  rw[hno,dT_ (by omega)]
  refine ao (ao (ao (o_ ah (ab (bq () ?_)))))
  exact aw
 ·rw[dF_ (by omega)]
  refine Dw (fun _=>h_ (l:=l) 0 rfl (by omega)) (fun _=>GI 34 rfl) ?_
  rw[Bool.false_or]
  by_cases h3:l[0]'(by omega)=34
  ·rw[dF_ (fun c=>c h3)]
   have hu:sI l=mK [] (l.drop 1):=by rw[Ac (by omega),if_pos h3]
   rw[hu]
   refine aa (bI (fun m x y=>[ex fun st:(List UInt8 × Option Addr × Nat) × Nat=>all [pu (m+st.2=l.length+1/\st.2<=l.length/\x= .slice st.1.2.1 st.1.1.length st.1.2.2/\y= .int .i64 (st.2:Int)/\st.1.1.length<=st.2/\mK [] (l.drop 1)=mK st.1.1 (l.drop st.2)),Sl 1 5 st.1.2.1 st.1.2.2 st.1.1.length (st.1.1.map B)]]++F) l.length ?_ ?_)
   ·refine Imp.ex (([],none,0),1) (.all ?_)
    refine aq ?_
    refine .pu ⟨rfl,by(try dsimp only);omega,rfl,rfl,by simp,rfl⟩ ?_
    exact bR .refl
   intro m ds x y
   refine aq ?_
   refine aH Pick.here fun st=>ap Pick.here ?_
   obtain⟨⟨acc,sa,sc⟩,i⟩:=st
   refine aq ?_
   refine aG Pick.here fun hi=>?_
   (try dsimp only at hi)
   obtain⟨hmi,hil,rfl,rfl,hac,hun⟩:=hi
   refine o_ ce (ay az .nil (fun h=>?_) (fun h=>?_))
   rotate_left
   ·have hie:i=l.length:=by omega
    rw[show l.drop i=[]from List.drop_of_length_le (by omega)]at hun
    have hun:mK [] (l.drop 1)=([],false):=by rw[hun];rfl
    rw[hun]
    refine aa (bq () ?_)
    exact aw
   have hlt:i<l.length:=by omega
   rw[dr hlt,By]at hun
   refine ab (o_ (h_ i rfl hlt) ?_)
   refine ja (fun z5 z6=>(ex fun st:Nat × UInt8=>pu (z5= .int .i64 (st.1:Int)/\z6=B st.2/\i<=st.1/\st.1<l.length/\mK [] (l.drop 1)=if wn st.2 then([],false)else mK (acc++[st.2]) (l.drop (st.1+1))))::Sl 1 5 sa sc acc.length (acc.map B)::F) ?_ ?_
   ·intro ds2 z5 z6
    refine aH .here fun st=>aG .here fun hz=>?_
    obtain⟨j,d⟩:=st
    (try dsimp only at hz)
    obtain⟨rfl,rfl,hij,hjl,hun2⟩:=hz
    refine o_ (az (q:= .u8) (a:=(d.toNat:Int)) (b:=32)) ?_
    refine qK (fun _=>GI 9 rfl) ?_
    refine Dv (fun _=>qN 127 rfl) ?_
    rw[<- Kz]
    cases hb:wn d with
    |true=>
     rw[hb,if_pos rfl]at hun2
     rw[hun2]
     refine ab (bq () ?_)
     exact aw
    |false=>
     rw[hb,if_neg (by decide)]at hun2
     refine aa (eI fun gb=>?_)
     refine bO (m:=1) (news:=[B d]) (by repeat constructor) (cA (e':=5) (by kernel_rfl) .here (by rfl) (by intro u hu;rw[List.mem_singleton.1 hu];rfl)) (by omega) (by omega) fun a' c'=>?_
     refine bG ?_
     refine bo (m-(j+1-i)) (by omega) (.ex ((acc++[d],a',c'),j+1) (.all ?_))
     refine aq ?_
     refine .pu ⟨by(try dsimp only);omega,by(try dsimp only);omega,by simp,rfl,by simp;omega,hun2⟩ ?_
     rw[List.length_append,List.map_append]
     simp only[List.length_singleton,List.map_cons,List.map_nil]
     exact aw
   ·refine o_ (qN 34 rfl) ?_
    by_cases h34:l[i]=34
    ·rw[dT_ h34]
     rw[if_pos h34]at hun
     rw[hun]
     refine ab (aF .here fun f1 f2 f3 f4=>?_)
     refine am (iF (l:=acc) (cq (by simp) f4) (GW f4)) (.pick .here .nil) ?_
     refine bG ?_
     refine o_ ce (o_ aP ?_)
     have e:decide ((i:Int)+1=(l.length:Int))=(l.drop (i+1)).isEmpty:=by
      rw[Bool.eq_iff_iff]
      simp only[decide_eq_true_iff,List.isEmpty_iff,List.drop_eq_nil_iff]
      omega
     rw[e]
     refine bq () ?_
     exact aw
    ·rw[dF_ h34]
     rw[if_neg h34]at hun
     refine aa (o_ (qN 92 rfl) ?_)
     by_cases h92:l[i]=92
     ·rw[dT_ h92]
      rw[if_pos h92]at hun
      refine ab (bG ?_)
      refine o_ ce (ay aP .nil (fun h5=>?_) (fun h5=>?_))
      ·rw[show l.drop (i+1)=[]from List.drop_of_length_le (by omega)]at hun
       simp only at hun
       rw[hun]
       refine ab (bq () ?_)
       exact aw
      ·have hi1:i+1<l.length:=by omega
       rw[dr hi1]at hun
       simp only at hun
       refine aa (o_ (h_ (i+1) rfl hi1) ?_)
       refine aD (.ex (i+1,l[i+1]) (.pu ⟨rfl,rfl,by(try dsimp only);omega,hi1,hun⟩ .refl))
     ·rw[dF_ h92]
      rw[if_neg h92]at hun
      refine aa (aD (.ex (i,l[i]) (.pu ⟨rfl,rfl,Nat.le_refl _,hlt,hun⟩ .refl)))
  ·rw[dT_ h3]
   have hno:sI l=([],false):=by rw[Ac (by omega),if_neg h3]
   rw[hno]
   refine ab (bq () ?_)
   exact aw
theorem GY {W:World}[hG:Gl W]{l:List UInt8}(hl:l.length<=2097152):Cn p_ 35 [bm l] W [] (fun r:Option Addr × Nat=> .tuple #[.slice r.1 (nR (fC l)).1.length r.2,.int .i64 (nR (fC l)).2])
  (fun r=>[Sl 2 67 r.1 r.2 (nR (fC l)).1.length ((nR (fC l)).1.flatMap dV)]):=by
 (refine Shp.cn (Sg.g_ Tryz.call35 Tryz.func35) fun F=>?_;simp only[ca_,na_])
 refine o_ b_ ?_
 refine aB (wB hl fun w hw=>Kv (by omega)) .nil fun r=>?_
 refine aq ?_
 refine o_ (bM (vs:=[_,_]) .here) ?_
 refine o_ (bM (vs:=[_,_]) (.there .here)) ?_
 refine bq r ?_
 exact .refl
theorem BO {W:World}{l:List UInt8}(hl:l.length<=4194304):Cn p_ 62 [bm l] W [] (fun _:Unit=> .tuple #[yJ (uC l).1,.bool (uC l).2]) (fun _=>[]):=by
 have hA:=mL (c:=61) l
 have hB:=mY (c:=61) l
 (refine Shp.cn (Sg.g_ Tryz.call62 Tryz.func62) fun F=>?_;simp only[ca_,na_])
 refine bp fun b2=>?_
 refine c_ (GG (c:=61) (l:=l) (by omega)) fun _=>?_
 refine o_ (bM (vs:=[_,_,_]) .here) ?_
 refine o_ (bM (vs:=[_,_,_]) (.there .here)) ?_
 refine o_ (bM (vs:=[_,_,_]) (.there (.there .here))) ?_
 refine o_ aj (eE ?_);refine o_ aj (eE ?_);refine o_ aj (eE ?_);refine o_ aj (bJ ?_)
 refine c_ (Dm (l:=cu 61 l) (by omega)) fun _=>?_
 refine o_ aj (bJ ?_)
 refine c_ (mU (l:=cu 61 l) (by omega)) fun _=>?_
 refine o_ aj (eE ?_);refine o_ aj (bJ ?_)
 cases hs:nY 61 l with
 |false=>
  have e:uC l=(⟨cC (cu 61 l),cD 61 l,false⟩,mJ (cu 61 l)):=by unfold uC;rw[hs];rfl
  rw[e]
  refine af (af (af (af (o_ ag (aa (lG ?_))))));refine fO ?_;(((refine' aT (cG ?hn) ?hi ?_);(case hi=>exact aw);(case hn=>rfl)))
  refine bq () ?_
  exact aw
 |true=>
  refine ae (o_ aj (ae (bJ ?_)));refine ae (c_ (Dm (l:=cD 61 l) (by omega)) fun _=>?_)
  refine ae (o_ fU (o_ ah ?_))
  cases ht:mJ (cD 61 l)with
  |true=>
   have e:uC l=(⟨cC (cu 61 l),cD 61 l,true⟩,mJ (cu 61 l)):=by unfold uC;rw[hs,ht];rfl
   rw[e,show(!true)=false from rfl]
   refine aa (lG ?_);refine fO ?_;(((refine' aT (cG ?hn) ?hi ?_);(case hi=>exact aw);(case hn=>rfl)))
   refine bq () ?_
   exact aw
  |false=>
   have e:uC l=(⟨cC (cu 61 l),(sI (cD 61 l)).1,true⟩,mJ (cu 61 l)&&(sI (cD 61 l)).2):=by unfold uC;rw[hs,ht];rfl
   rw[e,show(!false)=true from rfl]
   refine ab (o_ aj (bJ ?_))
   refine c_ (GX (l:=cD 61 l) (by omega)) fun _=>?_
   refine fP ?_;refine fP ?_;refine o_ aj (eE ?_)
   refine uH ?_
   refine lG ?_;refine fO ?_;(((refine' aT (cG ?hn) ?hi ?_);(case hi=>exact aw);(case hn=>rfl)))
   refine bq () ?_
   exact aw
theorem yL {W:World}{l:List UInt8}(hl:l.length<=2097152):Cn p_ 43 [bm l] W [] (fun r:Option Addr × Nat=> .tuple #[.slice r.1 (nR (qF l)).1.length r.2,.int .i64 (nR (qF l)).2])
  (fun r=>[Sl 3 78 r.1 r.2 (nR (qF l)).1.length ((nR (qF l)).1.flatMap mX)]):=by
 (refine Shp.cn (Sg.g_ Tryz.call43 Tryz.func43) fun F=>?_;simp only[ca_,na_])
 refine o_ b_ ?_
 refine aB (Du hl fun w hw=>BO (by omega)) .nil fun r=>?_
 refine aq ?_
 refine o_ (bM (vs:=[_,_]) .here) ?_
 refine o_ (bM (vs:=[_,_]) (.there .here)) ?_
 refine bq r ?_
 exact .refl
theorem BP {W:World}{xs:List (List UInt8 × Int)}{i n g c:Nat}(h:i<xs.length)(hn:n=xs.length):bg p_ W [Sl 2 67 (some ⟨g,0,none⟩) c n (xs.flatMap dV)] (aI 67 (.pointer (some ⟨g,0+i * 2,none⟩))) (jG xs[i]):=by
 subst hn
 exact jE (vs:=dV xs[i]) (nV (dp (f:=dV) (s:=2) (fun _=>rfl) xs) (fun _=>⟨g,rfl⟩)) rfl (fun j hj=>et (f:=dV) (s:=2) (fun _=>rfl) xs i j h hj)
theorem KA {W:World}{xs:List Dir}{i n g c:Nat}(h:i<xs.length)(hn:n=xs.length):bg p_ W [Sl 3 78 (some ⟨g,0,none⟩) c n (xs.flatMap mX)] (aI 78 (.pointer (some ⟨g,0+i * 3,none⟩))) (yJ xs[i]):=by
 subst hn
 exact jE (vs:=mX xs[i]) (nV (dp (f:=mX) (s:=3) (fun _=>rfl) xs) (fun _=>⟨g,rfl⟩)) rfl (fun j hj=>et (f:=mX) (s:=3) (fun _=>rfl) xs i j h hj)
def qV (c:UInt8):Nat->List UInt8->List (List UInt8)
 |0,_=>[]
 |f+1,l=>if l=[]then []else if bX (cu c l)=[]then qV c f (cD c l)else bX (cu c l)::qV c f (cD c l)
def pM (c:UInt8)(l:List UInt8):List (List UInt8):=qV c (l.length+1) l
theorem iq (c:UInt8):∀l:List UInt8,(cu c l).length<=l.length/\(l≠[]->(cD c l).length<l.length)
 |[]=>⟨Nat.le_refl _,fun h=>absurd rfl h⟩
 |x::l=>by
  obtain⟨h1,h2⟩:=iq c l
  constructor
  ·unfold cu;split <;> simp;omega
  ·intro _
   unfold cD
   split
   ·simp
   ·by_cases hl:l=[]
    ·subst hl;simp[cD]
    ·have:=h2 hl;simp;omega
theorem DF (c:UInt8){l:List UInt8}(h:l≠[]):∀f,l.length<f->qV c f l=if bX (cu c l)=[]then qV c (f-1) (cD c l)else bX (cu c l)::qV c (f-1) (cD c l)
 |0,hf=>by omega
 |f+1,hf=>by rw[qV,if_neg h,Nat.add_sub_cancel]
theorem wE (c:UInt8):∀(n:Nat) (l:List UInt8),l.length<=n->∀f g,l.length<f->l.length<g->qV c f l=qV c g l
 |n,l,hn,0,g,hf,hg=>by omega
 |n,l,hn,f+1,0,hf,hg=>by omega
 |n,l,hn,f+1,g+1,hf,hg=>by
  rw[qV,qV]
  by_cases h:l=[]
  ·rw[if_pos h,if_pos h]
  ·rw[if_neg h,if_neg h]
   have hl:=(iq c l).2 h
   cases n with
   |zero=>have:l=[]:=List.eq_nil_of_length_eq_zero (by omega);exact absurd this h
   |succ n=>rw[wE c n (cD c l) (by omega) f g (by omega) (by omega)]
theorem uN (c:UInt8):pM c []=[]:=rfl
theorem wF (c:UInt8){l:List UInt8}(h:l≠[]):pM c l=(if bX (cu c l)=[]then []else [bX (cu c l)])++pM c (cD c l):=by
 have hl:=(iq c l).2 h
 unfold pM
 rw[DF c h _ (by omega),Nat.add_sub_cancel,wE c _ (cD c l) (Nat.le_refl _) l.length ((cD c l).length+1) hl (by omega)]
 split <;> rfl
theorem p9 (c:UInt8):∀(n:Nat) (l:List UInt8),l.length<=n->(pM c l).length<=l.length/\∀w∈pM c l,w.length<=l.length
 |0,l,h=>by
  have:l=[]:=List.eq_nil_of_length_eq_zero (by omega)
  subst this
  exact⟨Nat.le_refl _,fun w hw=>by simp[uN]at hw⟩
 |n+1,l,h=>by
  by_cases hl:l=[]
  ·subst hl;exact⟨Nat.le_refl _,fun w hw=>by simp[uN]at hw⟩
  ·have h1:=(iq c l).2 hl
   obtain⟨i1,i2⟩:=p9 c n (cD c l) (by omega)
   rw[wF c hl]
   constructor
   ·rw[List.length_append]
    split <;> simp <;> omega
   ·intro w hw
    rcases List.mem_append.1 hw with hw|hw
    ·split at hw
     ·cases hw
     ·rw[List.mem_singleton.1 hw]
      exact Nat.le_trans (kq _) (iq c l).1
    ·exact Nat.le_trans (i2 w hw) (by omega)
theorem split {W:World}{l:List UInt8}{c:UInt8}(hl:l.length<=4194304):Cn p_ 19 [bm l,Sl.B c] W [] (fun r:Option Addr × Nat=> .slice r.1 (pM c l).length r.2) (fun r=>[Sl 1 9 r.1 r.2 (pM c l).length ((pM c l).map bm)]):=by
 have hnum:=(p9 c _ l (Nat.le_refl _)).1
 (refine Shp.cn (Sg.g_ Tryz.call19 Tryz.func19 (an:={cuts:=[(8,[0,6])],loops:=[(2,[0,5])],drs:=[(6,.ofL [(0,1),(1,1),(2,1),(3,1),(4,1),(5,1),(6,1),(7,1),(8,1)])]})) fun F=>?_;simp only[ca_,na_])
 refine bI (fun m x y=>(ex fun st:(Option Addr × Nat) × (List UInt8 × List (List UInt8))=>all [pu (m=st.2.1.length/\x=bm st.2.1/\y= .slice st.1.1 st.2.2.length st.1.2/\pM c l=st.2.2++pM c st.2.1/\st.2.1.length<=l.length),Sl 1 9 st.1.1 st.1.2 st.2.2.length (st.2.2.map bm)])::F) l.length ?_ ?_
 ·refine .ex ((none,0),(l,[])) (.all ?_)
  refine aq ?_
  refine .pu ⟨rfl,rfl,rfl,rfl,Nat.le_refl _⟩ ?_
  exact bR .refl
 intro m ds x y
 refine aH .here fun st=>ap .here ?_
 obtain⟨⟨sa,sc⟩,⟨r,out⟩⟩:=st
 refine aq ?_
 refine aG .here fun hi=>?_
 (try dsimp only at hi)
 obtain⟨rfl,rfl,rfl,hsp,hrl⟩:=hi
 (try dsimp only)
 have hol:=congrArg List.length hsp
 rw[List.length_append]at hol
 refine o_ ce (o_ aV ?_)
 by_cases hr:r=[]
 ·subst hr
  rw[dF_ (by decide)]
  refine aa ?_
  rw[uN,List.append_nil]at hsp
  rw[hsp]
  refine bq ((sa,sc)) ?_
  exact aw
 have hr0:0<r.length:=List.length_pos_iff.2 hr
 rw[dT_ (by omega)]
 refine ab (ja (fun x y=>pu (x=bm (cD c r)/\y=bm (cu c r))::Sl 1 9 sa sc out.length (out.map bm)::F) ?_ ?_)
 rotate_left
 ·refine c_ (indexByte (l:=r) (c:=c)) fun _=>?_
  obtain⟨k1,k2⟩:=yF (c:=c) (l:=r)
  refine ay cH .nil (fun h=>?_) (fun h=>?_)
  ·have hm:=n_.1 h
   obtain⟨_,q1,q2⟩:=k1 hm
   have hix:sr r c=((r.findIdx (· ==c):Nat):Int):=by unfold sr;rw[if_pos hm]
   have hfl:r.findIdx (· ==c)<r.length:=List.findIdx_lt_length_of_exists ⟨c,hm,by simp⟩
   rw[hix]
   refine ab (bA (t_ (qC (r.findIdx (· ==c)) rfl (by omega)) ?_))
   refine t_ (bU (by omega) (by omega)) ?_
   refine t_ (qE (r.findIdx (· ==c)+1) (by norm_cast) (by omega)) ?_
   rw[q1,q2]
   refine aD (.pu ⟨rfl,rfl⟩ ?_)
   exact aw
  ·have hm:c∉r:=fun d=>h (n_.2 d)
   obtain⟨_,q1,q2⟩:=k2 hm
   refine aa ?_
   rw[q1,q2]
   refine aD (.pu ⟨rfl,rfl⟩ ?_)
   exact aw
 intro ds2 x y
 refine aG .here fun hi=>?_
 obtain⟨rfl,rfl⟩:=hi
 obtain⟨l1,l2⟩:=iq c r
 have l2:=l2 hr
 have hst:=wF c hr
 refine c_ (wz (l:=cu c r) (by omega)) fun _=>?_
 refine o_ (ij (m:=[])) ?_
 by_cases ht:bX (cu c r)=[]
 ·rw[dF_ (fun h=>h ht)]
  rw[if_pos ht,List.nil_append]at hst
  refine aa (bo (cD c r).length l2 (.ex ((sa,sc),(cD c r,out)) (.all ?_)))
  refine aq ?_
  refine .pu ⟨rfl,rfl,rfl,by rw[hsp,hst],by(try dsimp only);omega⟩ ?_
  exact aw
 ·rw[dT_ ht]
  rw[if_neg ht]at hst
  refine ab (f_ (n:=1) (vs:=[bm (bX (cu c r))]) rfl rfl (by intro v hv;rw[List.mem_singleton.1 hv];rfl) (by omega) fun gb=>?_)
  refine bO (m:=1) (news:=[bm (bX (cu c r))]) (by(repeat constructor):Pick _ (Sl 1 9 sa sc out.length (out.map bm)) _) (cA (s:=1) (e':=9) (by kernel_rfl) .here (by rfl) (by intro u hu;rw[List.mem_singleton.1 hu];rfl)) (by omega) (by omega) fun a' c'=>?_
  refine bo (cD c r).length l2 (.ex ((a',c'),(cD c r,out++[bX (cu c r)])) (.all ?_))
  refine aq ?_
  rw[List.length_append,List.map_append]
  refine .pu ⟨rfl,rfl,rfl,by rw[hsp,hst,List.append_assoc],by(try dsimp only);omega⟩ ?_
  exact aw
end FD
namespace Sl
open Go Go.RowKit Sh
theorem O6 {n:Nat}(h:n<18446744073709551616):IntKind.u64.wrap (n:Int)=n:=by
 simp only[IntKind.wrap,IntKind.bits,IntKind.signed]
 simp;omega
theorem ib {n:Nat}(h:n<4294967296):IntKind.u32.wrap (n:Int)=n:=by
 simp only[IntKind.wrap,IntKind.bits,IntKind.signed]
 simp;omega
theorem O7 {n:Nat}(h:n<256):IntKind.u8.wrap (n:Int)=n:=by
 simp only[IntKind.wrap,IntKind.bits,IntKind.signed]
 simp;omega
theorem mb {P:Program}{W:World}{t:TypeId}{q:IntKind}{a b:Nat}(hb:0<b)(hw:q.wrap ((a / b:Nat):Int)=((a / b:Nat):Int)):bg P W [] (aY .quo t (.int q (a:Int)) (.int q (b:Int))) (.int q ((a / b:Nat):Int)):=fun w _=>by
 have h0:¬(b:Int)=0:=by omega
 have hw':q.wrap ((a:Int) / (b:Int))=(a:Int) / (b:Int):=by rw[show(a:Int) / (b:Int)=((a / b:Nat):Int) by norm_cast,hw]
 simp[aY,sv,eqGuard,binOp,Op.intDiv,h0,show ¬b=0 by omega,hw']
theorem me {P:Program}{W:World}{t:TypeId}{q:IntKind}{a b:Nat}(hb:0<b):bg P W [] (aY .rem t (.int q (a:Int)) (.int q (b:Int))) (.int q ((a%b:Nat):Int)):=by
 have:=mH (P:=P) (W:=W) (t:=t) (q:=q) (a:=(a:Int)) (b:=(b:Int)) (by omega) (by omega)
 rw[show(a:Int)%(b:Int)=((a%b:Nat):Int) by norm_cast]at this
 exact this
theorem mf {P:Program}{W:World}{t:TypeId}{q:IntKind}{a b:Nat}(hw:q.wrap ((a * b:Nat):Int)=((a * b:Nat):Int)):bg P W [] (aY .mul t (.int q (a:Int)) (.int q (b:Int))) (.int q ((a * b:Nat):Int)):=by
 have:=CX (P:=P) (W:=W) (t:=t) (q:=q) (a:=(a:Int)) (b:=(b:Int))
 rw[show(a:Int) * (b:Int)=((a * b:Nat):Int) by norm_cast,hw]at this
 exact this
theorem DG {P:Program}{W:World}{t:TypeId}{q:IntKind}{a b:Nat}(hw:q.wrap ((a+b:Nat):Int)=((a+b:Nat):Int)):bg P W [] (aY .add t (.int q (a:Int)) (.int q (b:Int))) (.int q ((a+b:Nat):Int)):=by
 have:=uv (P:=P) (W:=W) (t:=t) (q:=q) (a:=(a:Int)) (b:=(b:Int))
 rw[show(a:Int)+(b:Int)=((a+b:Nat):Int) by norm_cast,hw]at this
 exact this
theorem yM {P:Program}{W:World}{t:TypeId}{r:IntKind}{a k:Nat}(hk:k<=64):bg P W [] (aY .shr t (.int .u64 (a:Int)) (.int r (k:Int))) (.int .u64 ((a / 2^k:Nat):Int)):=by
 have:=eQ (P:=P) (W:=W) (t:=t) (q:= .u64) (r:=r) (a:=(a:Int)) (b:=(k:Int)) (by omega)
 rw[show min ((k:Int)).toNat IntKind.u64.bits=k by simp only[IntKind.bits,Int.toNat_natCast];omega,Int.fdiv_eq_ediv_of_nonneg _ (Int.le_of_lt (Int.pow_pos (by decide))),show(a:Int) / 2^k=((a / 2^k:Nat):Int) by norm_cast]at this
 exact this
theorem O8 {P:Program}{W:World}{q:IntKind}{a:Int}:bg P W [] (Bu .neg (.int q a)) (.int q (q.wrap (-a))):=fun w _=>by
 simp[Bu,Op.unary,Op.intArith]
theorem DH {P:Program}{W:World}{t e:TypeId}{s len:Nat}{g l:Nat}{q r:IntKind}{i j:Int}(h:Nat)[ht:ArrT P t len e s](hi:i=(l:Int))(hj:j=(h:Int))(hlh:l<=h)(hl:h<=len)(h0:l<len):bg P W [] (ly t (.pointer (some ⟨g,0,none⟩)) (some (.int q i)) (some (.int r j)) none) (.slice (some ⟨g,l * s,none⟩) (h-l) (len-l)):=fun w _=>by
 have hne:¬len=l:=by omega
 simp[ly,Instr.sliceAt,Instr.sliceBounds,ht.ut,ht.size,eC h hj hl,eC l hi hlh,Instr.sureAddr,hne,Addr.add]
 exact fun h=>h.symm
theorem G0 {P:Program}{W:World}{t e:TypeId}{s len:Nat}{g:Nat}{q:IntKind}{j:Int}(h:Nat)[ht:ArrT P t len e s](hj:j=(h:Int))(hl:h<=len)(h0:0<len):bg P W [] (ly t (.pointer (some ⟨g,0,none⟩)) none (some (.int q j)) none) (.slice (some ⟨g,0,none⟩) h len):=fun w _=>by
 have hne:len≠0:=by omega
 simp[ly,Instr.sliceAt,Instr.sliceBounds,ht.ut,ht.size,eC h hj hl,Instr.sureAddr,hne,Addr.add]
theorem I7 {P:Program}{W:World}{t:TypeId}{l:List UInt8}{q r:IntKind}{i j:Int}(a b:Nat)[ht:StrT P t](hi:i=(a:Int))(hj:j=(b:Int))(hab:a<=b)(hb:b<=l.length):bg P W [] (ly t (bm l) (some (.int q i)) (some (.int r j)) none) (bm ((l.take b).drop a)):=fun w _=>by
 have e:(⟨l.toArray⟩:ByteArray).extract a b=⟨((l.take b).drop a).toArray⟩:=by
  apply ByteArray.ext
  apply Array.ext'
  rw[ByteArray.data_extract]
  simp[List.extract_eq_take_drop,List.drop_take]
 have h1:=nX (P:=P) (q:=q) (w:=w) (i:=i) (y:=b) (c:= .sliceB) a hi hab
 have h2:=nX (P:=P) (q:=r) (w:=w) (i:=j) (y:=l.length) (c:= .sliceAlen) b hj hb
 have e0:(⟨l.toArray⟩:ByteArray).size=l.length:=rfl
 simp[ly,Instr.sliceAt,Instr.slice,Instr.sliceBounds,run_underlying ht.ut,bm,e0,h1,h2,e]
theorem DI {W:World}{g o n:Nat}{cs:Array Value}{ds:List Value}{T:TypeId}{fz:Nat × Nat}(hl:ds.length=n)(h:∀(j:Nat) (v:Value),ds[j]? =some v->cs[o+j]? =some v):RdB W (pt g (.cells cs T fz)) (some ⟨g,o,none⟩) n ds:=⟨hl,fun _=>⟨g,o,rfl,fun w L hw j v hv=>by rw[hw.cell];exact h j v hv⟩⟩
end Sl
namespace FD
open Go Go.Proofs Go.RowKit Sh Sl T
class Gp (W:World):Prop where
 lt:1<W.heap.size
 at_:∀j,j<20->W.cell? ⟨1,j,none⟩=some (.int .u64 ((10^j:Nat):Int))
def kw (u n:Nat):Prop:=u<2^n/\(n=0\/2^(n-1)<=u)
theorem ky {u k n:Nat}(h:kw (u / 2^k) n)(hk:2^k<=u):kw u (n+k):=by
 obtain⟨h1,h2⟩:=h
 have h0:0<u / 2^k:=Nat.div_pos hk (Nat.pow_pos (by decide))
 refine⟨?_,.inr ?_⟩
 ·rw[Nat.pow_add];exact(Nat.div_lt_iff_lt_mul (Nat.pow_pos (by decide))).1 h1
 ·rcases h2 with h2|h2
  ·subst h2;simp at h1;omega
  ·have hn:n≠0:=fun c=>by subst c;simp at h1;omega
   rw[show n+k-1=(n-1)+k by omega,Nat.pow_add]
   exact(Nat.le_div_iff_mul_le (Nat.pow_pos (by decide))).1 h2
theorem Sp:∀x,x<256->∃n,S.qH[x]? =some (UInt8.ofNat n)/\n<=8/\kw x n:=by
 have:∀x,x<256->((S.qH[x]?.map UInt8.toNat).getD 9<=8/\x<2^((S.qH[x]?.map UInt8.toNat).getD 9)/\((S.qH[x]?.map UInt8.toNat).getD 9=0\/2^((S.qH[x]?.map UInt8.toNat).getD 9-1)<=x)):=by decide+kernel
 intro x hx
 obtain⟨h1,h2,h3⟩:=this x hx
 have hl:x<S.qH.length:=by rw[show S.qH.length=256 by decide+kernel];exact hx
 refine⟨S.qH[x].toNat,?_,?_,?_,?_⟩
 ·rw[List.getElem?_eq_getElem hl,UInt8.ofNat_toNat]
 all_goals rw[List.getElem?_eq_getElem hl]at h1 h2 h3
 ·exact h1
 ·exact h2
 ·exact h3
theorem O9 {W:World}{u:Nat}(hu:u<18446744073709551616):Cn p_ 162 [.int .u64 (u:Int)] W [] (fun n:{n:Nat // n<=64/\kw u n}=> .int .i64 (n.1:Int)) (fun _=>[]):=by
 (refine S.mQ.cn fun F=>?_;unfold S.jT;simp only[ca_,na_])
 refine ja (fun x y=>pu (∃v s:Nat,x= .int .u64 (v:Int)/\y= .int .i64 (s:Int)/\v<4294967296/\s<=32/\∀n,kw v n->kw u (n+s))::F) ?_ ?_
 rotate_left
 ·refine ay cH .nil (fun h=>?_) (fun h=>?_)
  ·refine ab (o_ (yM (k:=32) (by decide)) ?_)
   refine aD (.pu ⟨_,32,rfl,rfl,by omega,by omega,fun n hn=>ky hn (by omega)⟩ .refl)
  ·refine aa (aD (.pu ⟨u,0,rfl,rfl,by omega,by omega,fun n hn=>hn⟩ .refl))
 intro ds x y
 refine aG .here fun hi=>?_
 obtain⟨v,s,rfl,rfl,hv,hs,hL⟩:=hi
 refine ja (fun x y=>pu (∃v s:Nat,x= .int .u64 (v:Int)/\y= .int .i64 (s:Int)/\v<65536/\s<=48/\∀n,kw v n->kw u (n+s))::F) ?_ ?_
 rotate_left
 ·refine ay cH .nil (fun h=>?_) (fun h=>?_)
  ·refine ab (o_ (yM (k:=16) (by decide)) ?_)
   refine bG ?_
   refine aD (.pu ⟨_,s+16,rfl,by norm_cast,by omega,by omega,fun n hn=>by rw[show n+(s+16)=(n+16)+s by omega];exact hL _ (ky hn (by omega))⟩ .refl)
  ·refine aa (aD (.pu ⟨v,s,rfl,rfl,by omega,by omega,hL⟩ .refl))
 intro ds2 x y
 refine aG .here fun hi=>?_
 obtain⟨v2,s2,rfl,rfl,hv2,hs2,hL2⟩:=hi
 refine ja (fun x y=>pu (∃v s:Nat,x= .int .u64 (v:Int)/\y= .int .i64 (s:Int)/\v<256/\s<=56/\∀n,kw v n->kw u (n+s))::F) ?_ ?_
 rotate_left
 ·refine ay cH .nil (fun h=>?_) (fun h=>?_)
  ·refine ab (o_ (yM (k:=8) (by decide)) ?_)
   refine bG ?_
   refine aD (.pu ⟨_,s2+8,rfl,by norm_cast,by omega,by omega,fun n hn=>by rw[show n+(s2+8)=(n+8)+s2 by omega];exact hL2 _ (ky hn (by omega))⟩ .refl)
  ·refine aa (aD (.pu ⟨v2,s2,rfl,rfl,by omega,by omega,hL2⟩ .refl))
 intro ds3 x y
 refine aG .here fun hi=>?_
 obtain⟨v3,s3,rfl,rfl,hv3,hs3,hL3⟩:=hi
 refine o_ (br (q:= .u8)) ?_
 rw[O7 hv3]
 obtain⟨n,h1,h2,h3⟩:=Sp v3 hv3
 have hl:v3<S.qH.length:=by rw[show S.qH.length=256 by decide+kernel];exact hv3
 rw[List.getElem?_eq_getElem hl]at h1
 have h1:=Option.some.inj h1
 refine o_ (h_ v3 rfl hl) ?_
 rw[h1,show Sl.B (UInt8.ofNat n)= .int .u8 (n:Int) by unfold Sl.B;rw[UInt8.toNat_ofNat'];rw[Nat.mod_eq_of_lt (by omega)]]
 refine o_ (br (q:= .i64)) ?_
 rw[mx (by omega) (by omega)]
 refine bG ?_
 refine aR ⟨n+s3,by omega,hL3 n h3⟩ (by(try dsimp only);congr 1;omega) ?_
 exact .refl
def KB (u n:Nat):Prop:=1<=n/\n<=20/\10^(n-1)<=u/\u<10^n
theorem DJ:∀b,b<=64->b * 78913 / 262144<=19/\2^b<=10^(b * 78913 / 262144+1)/\(b * 78913 / 262144≠0->10^(b * 78913 / 262144-1)<=2^(b-1)):=by decide+kernel
theorem O_ {u b:Nat}(hu:u≠0)(hb:b<=64)(h:kw u b):KB u (b * 78913 / 262144+(if 10^(b * 78913 / 262144)<=u then 1 else 0)):=by
 obtain⟨h1,h2⟩:=h
 obtain⟨t1,t2,t3⟩:=DJ b hb
 generalize b * 78913 / 262144=k at t1 t2 t3 ⊢
 by_cases c:10^k<=u
 ·rw[if_pos c]
  exact⟨by omega,by omega,by rw[Nat.add_sub_cancel];exact c,by omega⟩
 ·rw[if_neg c]
  have hk:k≠0:=fun e=>c (by subst e;simp;omega)
  have hb0:b≠0:=fun e=>by subst e;simp at h1;omega
  exact⟨by omega,by omega,by have:=t3 hk;rw[Nat.add_zero];omega,by rw[Nat.add_zero];omega⟩
theorem BQ {W:World}[hG:Gp W]{u:Nat}(hu:u<18446744073709551616)(h0:u≠0):Cn p_ 120 [.int .u64 (u:Int)] W [] (fun n:{n:Nat // KB u n}=> .int .i64 (n.1:Int)) (fun _=>[]):=by
 have hlog:∀b:Nat,b<=64->Cn p_ 161 [.int .i64 (b:Int)] W [] (fun _:Unit=> .int .i64 ((b * 78913 / 262144:Nat):Int)) (fun _=>[]):=fun b hb=>by
  (refine Shp.cn (Sg.g_ Tryz.call161 Tryz.func161) fun F=>?_;simp only[ca_,na_])
  refine o_ (eh (by omega) (by omega)) ?_
  refine o_ (eQ (by decide)) ?_
  rw[show min (18:Int).toNat IntKind.i64.bits=18 from rfl,Int.fdiv_eq_ediv_of_nonneg _ (by decide),show((b:Int) * 78913) / 2^18=((b * 78913 / 262144:Nat):Int) by omega]
  refine bq () ?_
  exact .refl
 have hbool:∀b:Bool,Cn p_ 163 [.bool b] W [] (fun _:Unit=> .int .i64 (if b then 1 else 0)) (fun _=>[]):=fun b=>by
  (refine Shp.cn (Sg.g_ Tryz.call163 Tryz.func163) fun F=>?_;simp only[ca_,na_])
  cases b with
  |true=>
   refine ab (bq () ?_)
   exact .refl
  |false=>
   refine aa (bq () ?_)
   exact .refl
 (refine Shp.cn (Sg.g_ Tryz.call120 Tryz.func120) fun F=>?_;simp only[ca_,na_])
 refine c_ (O9 hu) fun _=>?_
 rename_i b
 obtain⟨b,hb,hL⟩:=b
 (try dsimp only)
 refine c_ (hlog b hb) fun _=>?_
 have hnd:=O_ h0 hb hL
 have hk:=(DJ b hb).1
 generalize b * 78913 / 262144=k at hk hnd ⊢
 refine o_ (dm k rfl (by omega)) ?_
 rw[Nat.zero_add,Nat.mul_one]
 refine o_ (zX hG.lt (hG.at_ k (by omega))) ?_
 refine o_ cH (c_ (hbool _) fun _=>?_)
 refine o_ (bU (by split <;> omega) (by split <;> omega)) ?_
 refine aR ⟨_,hnd⟩ ?_ .refl
 (try dsimp only)
 congr 1
 by_cases c:10^k<=u
 ·rw[if_pos c,if_pos (dT_ (by norm_cast))];norm_cast
 ·rw[if_neg c,if_neg (fun d=>c (by have:=of_decide_eq_true d;norm_cast at this))];norm_cast
end FD
namespace FD
open Go Go.Proofs Go.RowKit Sh Sl T
def Dn (f:Nat->Nat):Array Value:=((List.range 24).map fun j=>Value.int .u8 (f j:Int)).toArray
theorem i7 (f:Nat->Nat):(Dn f).size=24:=by simp[Dn]
theorem qW {j:Nat}{f:Nat->Nat}(h:j<24):(Dn f)[j]? =some (.int .u8 (f j:Int)):=by simp[Dn,h]
def uO (f:Nat->Nat)(j v:Nat):Nat->Nat:=fun i=>if i=j then v else f i
theorem uP {j:Nat}{f:Nat->Nat}{v:Nat}:(Dn f).setIfInBounds j (.int .u8 (v:Int))=Dn (uO f j v):=by
 apply Array.ext_getElem?
 intro i
 rw[Array.getElem?_setIfInBounds]
 by_cases h:i<24
 ·rw[qW h,qW h]
  unfold uO
  by_cases c:j=i
  ·subst c;rw[if_pos rfl,if_pos (by rw[i7];exact h),if_pos rfl]
  ·rw[if_neg c,if_neg (fun e=>c e.symm)]
 ·rw[Array.getElem?_eq_none (xs:=Dn f) (by rw[i7];omega),Array.getElem?_eq_none (xs:=Dn (uO f j v)) (by rw[i7];omega)]
  by_cases c:j=i
  ·subst c;rw[if_pos rfl,if_neg (by rw[i7];exact h)]
  ·rw[if_neg c]
def gL (u n k:Nat)(f:Nat->Nat):Nat->Nat:=fun j=>if k<j/\j<=n then 48+u / 10^(n-j)%10 else f j
theorem DK (u n:Nat)(f:Nat->Nat):gL u n n f=f:=by
 funext j
 unfold gL
 rw[if_neg (by omega)]
theorem Ad (u a b:Nat):u / 10^(a+b)=u / 10^a / 10^b:=by rw[Nat.pow_add,Nat.div_div_eq_div_mul]
theorem qX {u n k:Nat}{f:Nat->Nat}(h1:1<=k)(h2:k<=n):uO (gL u n k f) k (48+u / 10^(n-k)%10)=gL u n (k-1) f:=by
 funext j
 unfold uO gL
 by_cases c:j=k
 ·subst c;rw[if_pos rfl,if_pos (by omega)]
 ·rw[if_neg c]
  by_cases d:k<j/\j<=n
  ·rw[if_pos d,if_pos (by omega)]
  ·rw[if_neg d,if_neg (by omega)]
theorem BR {u n k y:Nat}{f:Nat->Nat}(h1:2<=k)(h2:k<=n)(hy:y=u / 10^(n-k)%100):uO (uO (gL u n k f) k (48+y%10)) (k-1) (48+y / 10)=gL u n (k-2) f:=by
 have e1:48+y%10=48+u / 10^(n-k)%10:=by omega
 have e2:48+y / 10=48+u / 10^(n-(k-1))%10:=by
  rw[show n-(k-1)=(n-k)+1 by omega,Ad,Nat.pow_one];omega
 rw[e1,e2,qX (by omega) h2,qX (by omega) (by omega)]
 rfl
theorem DL:∀y,y<100->S.gf[y * 2]? =some (UInt8.ofNat (48+y / 10))/\S.gf[y * 2+1]? =some (UInt8.ofNat (48+y%10)):=by decide+kernel
theorem qY:S.gf.length=200:=by decide+kernel
theorem Ae {n:Nat}(h:n<256):Sl.B (UInt8.ofNat n)= .int .u8 (n:Int):=by unfold Sl.B;rw[UInt8.toNat_ofNat'];rw[Nat.mod_eq_of_lt h]
theorem Pa {W:World}{y:Nat}(hy:y<100):bg p_ W [] (nQ 9 (bm S.gf) (.int .u32 ((y * 2:Nat):Int))) (.int .u8 ((48+y / 10:Nat):Int)):=by
 have hl:y * 2<S.gf.length:=by rw[qY];omega
 have h:=(DL y hy).1
 rw[List.getElem?_eq_getElem hl]at h
 have:=h_ (P:=p_) (W:=W) (t:=9) (l:=S.gf) (q:= .u32) (i:=((y * 2:Nat):Int)) (y * 2) rfl hl
 rw[Option.some.inj h,Ae (by omega)]at this
 exact this
theorem Pb {W:World}{y:Nat}(hy:y<100):bg p_ W [] (nQ 9 (bm S.gf) (.int .u32 ((y * 2+1:Nat):Int))) (.int .u8 ((48+y%10:Nat):Int)):=by
 have hl:y * 2+1<S.gf.length:=by rw[qY];omega
 have h:=(DL y hy).2
 rw[List.getElem?_eq_getElem hl]at h
 have:=h_ (P:=p_) (W:=W) (t:=9) (l:=S.gf) (q:= .u32) (i:=((y * 2+1:Nat):Int)) (y * 2+1) rfl hl
 rw[Option.some.inj h,Ae (by omega)]at this
 exact this
theorem mg {W:World} {L:List HP} {Kp:PK} {REST:WP} {g n c k u y:Nat} {K c1 c2:Int} {f:Nat->Nat} {T:TypeId} (hK1:K-c1=((k-1:Nat):Int)) (hK2:K-c2=((k-2:Nat):Int)) (h1:2<=k) (h2:k<=n) (h3:n<=20) (hy:y=u / 10^(n-k)%100)
    (h:aZ W (pt g (.cells (Dn (gL u n (k-2) f)) T (0,0))::L) REST):
    aZ W (pt g (.cells (Dn (gL u n k f)) T (0,0))::L) (oW (stS p_ (aY .sub 3 (.int .i64 K) (.int .i64 c1)) fun x44=>
     stD p_ (aY .sub 3 (.int .i64 K) (.int .i64 c2)) fun D5 x47=>
     stS p_ (aY .add 112 (.int .u32 ((y * 2:Nat):Int)) (.int .u32 1)) fun x49=>
     stS p_ (nQ 9 (bm S.gf) x49) fun x50=>
     stD p_ (nQ 9 (bm S.gf) (.int .u32 ((y * 2:Nat):Int))) fun D10 x52=>
     stS p_ (iR 23 (.slice (some ⟨g,1,none⟩) n c) x44) fun x53=>
     opN p_ (aJ 5 x53 x50) Kp fun _=>
     (fun w=>D10 w/\(fun w=>D5 w/\(stS p_ (iR 23 (.slice (some ⟨g,1,none⟩) n c) x47) fun x54=>
        opN p_ (aJ 5 x54 x52) Kp fun _=>REST) w) w))):=by
  have hy100:y<100:=by omega
  refine bA (t_ (dv (by omega) (by omega)) ?_)
  refine bh (dv (by omega) (by omega)) .nil ?_
  refine t_ (DG (a:=y * 2) (b:=1) (ib (by omega))) ?_
  refine t_ (Pb hy100) ?_
  refine bh (Pa hy100) .nil ?_
  refine t_ (bj (k-1) hK1 (by omega)) ?_
  refine l8 .here (by rw[i7];omega) ?_
  refine bZ Imp.nil (bZ .nil ?_)
  refine t_ (bj (k-2) hK2 (by omega)) ?_
  refine l8 .here (by rw[Array.size_setIfInBounds,i7];omega) ?_
  rw[uP,uP,show 1+(k-1)=k by omega,show 1+(k-2)=k-1 by omega,BR h1 h2 hy]
  exact h
theorem Af {W:World}{n:Nat}(h:n<4294967296):bg p_ W [] (fR 170 112 (.int .u64 (n:Int))) (.int .u32 (n:Int)):=by
 have:=br (P:=p_) (W:=W) (s:=170) (t:=112) (p:= .u64) (q:= .u32) (r:= .u64) (n:=(n:Int))
 rw[ib h]at this
 exact this
theorem DM {W:World}{g n c u:Nat}{f:Nat->Nat}{T:TypeId}(h1:1<=n)(h3:n<=20)(hu:u<10^n)(hu64:u<18446744073709551616):
  Cn p_ 121 [.slice (some ⟨g,1,none⟩) n c,.int .u64 (u:Int)] W [pt g (.cells (Dn f) T (0,0))] (fun _:Unit=> .tuple #[]) (fun _=>[pt g (.cells (Dn (gL u n 0 f)) T (0,0))]):=by
 (refine S.jm.cn fun F=>?_;unfold S.fV;simp only[ca_,na_])
 refine o_ aC (bI (fun m x y=>(ex fun k:Nat=>all [pu (m=k/\y= .int .i64 (k:Int)/\x= .int .u64 ((u / 10^(n-k):Nat):Int)/\k<=n),pt g (.cells (Dn (gL u n k f)) T (0,0))])::F) n ?_ ?_)
 ·refine .ex n (.all ?_)
  refine aq ?_
  refine .pu ⟨rfl,rfl,by rw[Nat.sub_self];simp,Nat.le_refl _⟩ ?_
  rw[DK]
  exact aw
 intro m ds x y
 refine aH .here fun k=>ap .here ?_
 refine aq ?_
 refine aG .here fun hi=>?_
 obtain⟨rfl,rfl,rfl,hk⟩:=hi
 obtain⟨v,hv⟩:∃v,v=u / 10^(n-m):=⟨_,rfl⟩
 have hvu:v<18446744073709551616:=Nat.lt_of_le_of_lt (by rw[hv];exact Nat.div_le_self _ _) hu64
 have hvk:v<10^m:=by
  rw[hv,Nat.div_lt_iff_lt_mul (Nat.pow_pos (by decide)),<- Nat.pow_add,show m+(n-m)=n by omega];exact hu
 rw[<- hv]
 refine ay cH .nil (fun h=>?_) (fun h=>?_)
 ·have h8:8<=m:=by omega
  have hs:∀i,i<=m->u / 10^(n-(m-i))=v / 10^i:=fun i hi=>by rw[show n-(m-i)=(n-m)+i by omega,Ad,<- hv]
  refine ab (o_ (me (b:=100000000) (by decide)) ?_)
  refine o_ (Af (by omega)) ?_
  refine o_ (mb (b:=100000000) (by decide) (O6 (by omega))) ?_
  refine o_ (mb (b:=10000) (by decide) (ib (by omega))) ?_
  refine o_ (me (b:=10000) (by decide)) ?_
  refine o_ (mb (b:=100) (by decide) (ib (by omega))) ?_
  refine o_ (mf (b:=2) (ib (by omega))) ?_
  refine o_ (me (b:=100) (by decide)) ?_
  refine o_ (mf (b:=2) (ib (by omega))) ?_
  refine o_ (mb (b:=100) (by decide) (ib (by omega))) ?_
  refine o_ (mf (b:=2) (ib (by omega))) ?_
  refine o_ (me (b:=100) (by decide)) ?_
  refine o_ (mf (b:=2) (ib (by omega))) ?_
  refine mg (u:=u) (n:=n) (k:=m) (by omega) (by omega) (by omega) hk h3 (by rw[<- hv];omega) ?_
  refine mg (u:=u) (n:=n) (k:=m-2) (by omega) (by omega) (by omega) (by omega) h3 (by rw[hs 2 (by omega)];omega) ?_
  refine mg (u:=u) (n:=n) (k:=m-2-2) (by omega) (by omega) (by omega) (by omega) h3 (by rw[show m-2-2=m-4 by omega,hs 4 (by omega)];omega) ?_
  refine mg (u:=u) (n:=n) (k:=m-2-2-2) (by omega) (by omega) (by omega) (by omega) h3 (by rw[show m-2-2-2=m-6 by omega,hs 6 (by omega)];omega) ?_
  refine dX ?_
  refine bo (m-8) (by omega) (.ex (m-8) (.all ?_))
  refine aq ?_
  refine .pu ⟨rfl,by congr 1;omega,by rw[hs 8 h8],by omega⟩ ?_
  rw[show m-2-2-2-2=m-8 by omega]
  exact aw
 ·have h8:m<8:=by omega
  have hv8:v<100000000:=Nat.lt_of_lt_of_le hvk (Nat.pow_le_pow_right (by decide) (show m<=8 by omega))
  refine aa (o_ (Af (by omega)) ?_)
  refine ja (fun x y=>(ex fun k:Nat=>all [pu (x= .int .i64 (k:Int)/\y= .int .u32 ((u / 10^(n-k):Nat):Int)/\k<=n/\k<4/\u / 10^(n-k)<10^k),pt g (.cells (Dn (gL u n k f)) T (0,0))])::F) ?_ ?_
  rotate_left
  ·refine ay cH .nil (fun h=>?_) (fun h=>?_)
   ·have h4:4<=m:=by omega
    have hs:∀i,i<=m->u / 10^(n-(m-i))=v / 10^i:=fun i hi=>by rw[show n-(m-i)=(n-m)+i by omega,Ad,<- hv]
    refine ab (o_ (me (b:=10000) (by decide)) ?_)
    refine o_ (mb (b:=10000) (by decide) (ib (by omega))) ?_
    refine o_ (mb (b:=100) (by decide) (ib (by omega))) ?_
    refine o_ (mf (b:=2) (ib (by omega))) ?_
    refine o_ (me (b:=100) (by decide)) ?_
    refine o_ (mf (b:=2) (ib (by omega))) ?_
    refine mg (u:=u) (n:=n) (k:=m) (by omega) (by omega) (by omega) hk h3 (by rw[<- hv];omega) ?_
    refine mg (u:=u) (n:=n) (k:=m-2) (by omega) (by omega) (by omega) (by omega) h3 (by rw[hs 2 (by omega)];omega) ?_
    refine dX ?_
    refine aD (.ex (m-4) (.all ?_))
    refine aq ?_
    rw[hs 4 h4]
    refine .pu ⟨by congr 1;omega,rfl,by omega,by omega,?_⟩ ?_
    ·rw[Nat.div_lt_iff_lt_mul (Nat.pow_pos (by decide)),<- Nat.pow_add,show m-4+4=m by omega];exact hvk
    rw[show m-2-2=m-4 by omega]
    exact aw
   ·refine aa (aD (.ex m (.all ?_)))
    refine aq ?_
    rw[<- hv]
    refine .pu ⟨rfl,rfl,hk,by omega,hvk⟩ ?_
    exact aw
  clear hvk hv8 hvu hv h8 hk
  clear v
  intro ds2 x y
  refine aH .here fun k=>ap .here ?_
  refine aq ?_
  refine aG .here fun hi=>?_
  obtain⟨rfl,rfl,hk,hk4,hvk⟩:=hi
  obtain⟨v,hv⟩:∃v,v=u / 10^(n-k):=⟨_,rfl⟩
  rw[<- hv]at hvk ⊢
  have hv4:v<10000:=Nat.lt_of_lt_of_le hvk (Nat.pow_le_pow_right (by decide) (show k<=4 by omega))
  refine ja (fun x y=>(ex fun k:Nat=>all [pu (x= .int .i64 (k:Int)/\y= .int .u32 ((u / 10^(n-k):Nat):Int)/\k<=n/\k<2/\u / 10^(n-k)<10^k),pt g (.cells (Dn (gL u n k f)) T (0,0))])::F) ?_ ?_
  rotate_left
  ·refine ay cH .nil (fun h=>?_) (fun h=>?_)
   ·have h2:2<=k:=by omega
    have hs:∀i,i<=k->u / 10^(n-(k-i))=v / 10^i:=fun i hi=>by rw[show n-(k-i)=(n-k)+i by omega,Ad,<- hv]
    refine ab (o_ (me (b:=100) (by decide)) ?_)
    refine o_ (mf (b:=2) (ib (by omega))) ?_
    refine o_ (mb (b:=100) (by decide) (ib (by omega))) ?_
    refine mg (u:=u) (n:=n) (k:=k) (by omega) (by omega) (by omega) hk h3 (by rw[<- hv]) ?_
    refine dX ?_
    refine aD (.ex (k-2) (.all ?_))
    refine aq ?_
    rw[hs 2 h2]
    refine .pu ⟨by congr 1;omega,rfl,by omega,by omega,?_⟩ ?_
    ·rw[Nat.div_lt_iff_lt_mul (Nat.pow_pos (by decide)),<- Nat.pow_add,show k-2+2=k by omega];exact hvk
    exact aw
   ·refine aa (aD (.ex k (.all ?_)))
    refine aq ?_
    rw[<- hv]
    refine .pu ⟨rfl,rfl,hk,by omega,hvk⟩ ?_
    exact aw
  clear hvk hv4 hv hk hk4
  clear v k
  intro ds3 x y
  refine aH .here fun k=>ap .here ?_
  refine aq ?_
  refine aG .here fun hi=>?_
  obtain⟨rfl,rfl,hk,hk2,hvk⟩:=hi
  refine ay aV .nil (fun h=>?_) (fun h=>?_)
  ·obtain rfl:k=1:=by omega
   have hv1:u / 10^(n-1)<10:=by simpa using hvk
   refine ab (o_ (DG (a:=48) (ib (by omega))) ?_)
   refine o_ (br (q:= .u8)) ?_
   rw[O7 (by omega)]
   refine o_ (bj 0 rfl (by omega)) ?_
   refine l8 .here (by rw[i7];omega) ?_
   rw[uP,Nat.add_zero,show 48+u / 10^(n-1)=48+u / 10^(n-1)%10 by rw[Nat.mod_eq_of_lt hv1],qX (by omega) h1]
   refine bq () ?_
   exact aw
  ·obtain rfl:k=0:=by omega
   refine aa (bq () ?_)
   exact aw
def uQ (u n:Nat):List UInt8:=(List.range n).map fun j=>UInt8.ofNat (48+u / 10^(n-1-j)%10)
def Rn (u:Nat):Nat:=((List.range 21).find? fun n=>decide (u<10^n)).getD 20
theorem KC {u n:Nat}(h:KB u n):Rn u=n:=by
 obtain⟨h1,h2,h3,h4⟩:=h
 have:(List.range 21).find? (fun n=>decide (u<10^n))=some n:=by
  rw[List.find?_range_eq_some]
  refine⟨by simpa using h4,by simp;omega,fun j hj=>?_⟩
  have:10^j<=10^(n-1):=Nat.pow_le_pow_right (by decide) (by omega)
  simp;omega
 unfold Rn
 rw[this];rfl
def vP (i:Int):List UInt8:=
 if 0<=i/\i<100 then(if i<10 then [UInt8.ofNat (48+i.toNat)]else [UInt8.ofNat (48+i.toNat / 10),UInt8.ofNat (48+i.toNat%10)])
 else if i<0 then 45::uQ i.natAbs (Rn i.natAbs)else uQ i.natAbs (Rn i.natAbs)
theorem m9 (u n:Nat):(uQ u n).length=n:=by simp[uQ]
theorem KD {W:World}{g u n:Nat}{f:Nat->Nat}{T:TypeId}(h3:n<=20):RdB W (pt g (.cells (Dn (gL u n 0 f)) T (0,0))) (some ⟨g,1,none⟩) n ((uQ u n).map Sl.B):=by
 refine DI (by rw[List.length_map,m9]) fun j v hv=>?_
 have hj:j<n:=by
  rcases Nat.lt_or_ge j n with c|c
  ·exact c
  ·rw[List.getElem?_eq_none (by rw[List.length_map,m9];exact c)]at hv;cases hv
 rw[List.getElem?_map]at hv
 unfold uQ at hv
 rw[List.getElem?_map,List.getElem?_range hj]at hv
 simp only[Option.map_some]at hv
 rw[Ae (by omega)]at hv
 rw[qW (by omega),<- hv]
 unfold gL
 rw[if_pos (by omega),show n-(1+j)=n-1-j by omega]
theorem Ag {G H:Prop}(k:G->H)(m:G):H:=k m
theorem Pc {W:World}{n:Nat}(h:n<100):Cn p_ 119 [.int .i64 (n:Int)] W [] (fun _:Unit=>bm (vP n)) (fun _=>[]):=by
 have hd:vP (n:Int)=if n<10 then [UInt8.ofNat (48+n)]else [UInt8.ofNat (48+n / 10),UInt8.ofNat (48+n%10)]:=by
  unfold vP
  rw[if_pos (by omega),Int.toNat_natCast]
  by_cases c:n<10
  ·rw[if_pos (by omega),if_pos c]
  ·rw[if_neg (by omega),if_neg c]
 (refine S.n8.cn fun F=>?_;unfold S.ku;simp only[ca_,na_])
 refine ay az .nil (fun h=>?_) (fun h=>?_)
 ·have h10:n<10:=by omega
  rw[hd,if_pos h10]
  refine ab (bG ?_)
  refine o_ (I7 (l:=[48,49,50,51,52,53,54,55,56,57,97,98,99,100,101,102,103,104,105,106,107,108,109,110,111,112,113,114,115,116,117,118,119,120,121,122]) n (n+1) rfl (by omega) (by omega) (by simp;omega)) ?_
  have:∀n,n<10->((([48,49,50,51,52,53,54,55,56,57,97,98,99,100,101,102,103,104,105,106,107,108,109,110,111,112,113,114,115,116,117,118,119,120,121,122]:List UInt8).take (n+1)).drop n)=[UInt8.ofNat (48+n)]:=by decide+kernel
  rw[this n h10]
  refine bq () ?_
  exact .refl
 ·have h10:¬n<10:=by omega
  rw[hd,if_neg h10]
  refine aa (o_ (eh (by omega) (by omega)) ?_)
  refine o_ (eh (by omega) (by omega)) ?_
  refine bG ?_
  refine o_ (I7 (n * 2) (n * 2+2) (by omega) (by omega) (by omega) (by rw[qY];omega)) ?_
  have:∀n,n<100->((S.gf.take (n * 2+2)).drop (n * 2))=[UInt8.ofNat (48+n / 10),UInt8.ofNat (48+n%10)]:=by decide+kernel
  rw[this n (by omega)]
  refine bq () ?_
  exact .refl
theorem BT {W:World}[hG:Gp W]{i:Int}(h1: -9223372036854775808<=i)(h2:i<=9223372036854775807):Cn p_ 87 [.int .i64 i,.int .i64 10] W [] (fun _:Unit=>bm (vP i)) (fun _=>[]):=by
 (refine Shp.cn (Sg.g_ Tryz.call87 Tryz.func87 (an:={cuts:=[(8,[6])]})) fun F=>?_;simp only[ca_,na_])
 refine o_ aP ?_
 rw[dT_ rfl]
 refine ab ?_
 by_cases hs:0<=i/\i<100
 ·obtain⟨n,rfl⟩:=Int.eq_ofNat_of_zero_le hs.1
  refine o_ cZ ?_
  rw[dT_ hs.1]
  refine ae (ae (o_ az ?_))
  rw[dT_ hs.2]
  refine o_ ah (ab (c_ (Pc (n:=n) (by omega)) fun _=>?_))
  refine bq () ?_
  exact .refl
 have hu:i.natAbs<18446744073709551616:=by omega
 have hu0:i.natAbs≠0:=by omega
 have d1:i<0->decide (0<=i)=false:=fun h=>dF_ (by omega)
 have d2:¬i<0->decide (0<=i)=true:=fun h=>dT_ (by omega)
 have d3:¬i<0->decide (i<100)=false:=fun h=>dF_ (by omega)
 refine' Ag ?_ ?_
 rotate_left
 ·intro main
  by_cases h0:i<0
  ·refine o_ cZ ?_
   rw[d1 h0]
   exact af (af (o_ ag main))
  ·refine o_ cZ ?_
   rw[d2 h0]
   refine ae (ae (o_ az ?_))
   rw[d3 h0]
   exact o_ ah main
 refine aa (bp fun g=>?_)
 refine bF (M:=pt g (.cells (Dn fun _=>0) 169 (0,0))::F) .refl ?_
 refine o_ (br (q:= .u64)) ?_
 refine dD (fun x=>pu (x= .int .u64 (i.natAbs:Int))::pt g (.cells (Dn fun _=>0) 169 (0,0))::F) ?_ ?_
 rotate_left
 ·refine ay az .nil (fun h=>?_) (fun h=>?_)
  ·refine ab (o_ O8 ?_)
   refine aD (.pu ?_ .refl)
   congr 1
   simp only[IntKind.wrap,IntKind.bits,IntKind.signed]
   simp;omega
  ·refine aa (aD (.pu ?_ .refl))
   congr 1
   simp only[IntKind.wrap,IntKind.bits,IntKind.signed]
   simp;omega
 intro ds x
 refine aG .here fun hx=>?_
 subst hx
 refine c_ (BQ hu hu0) fun _=>?_
 rename_i n
 obtain⟨n,hn⟩:=n
 have hnd:=KC hn
 obtain⟨n1,n2,n3,n4⟩:=hn
 (try dsimp only)
 refine bG ?_
 refine o_ (DH (l:=1) (1+n) rfl (by norm_cast) (by omega) (by omega) (by omega)) ?_
 rw[Nat.one_mul,Nat.add_sub_cancel_left]
 refine c_ (DM (f:=fun _=>0) n1 n2 n4 hu) fun _=>?_
 have hrd:=KD (W:=W) (g:=g) (u:=i.natAbs) (n:=n) (f:=fun _=>0) (T:=169) n2
 have hdg:vP i=if i<0 then 45::uQ i.natAbs n else uQ i.natAbs n:=by
  unfold vP
  rw[if_neg hs,hnd]
 by_cases h0:i<0
 ·rw[if_pos h0]at hdg
  refine o_ az ?_
  rw[dT_ h0]
  refine ab (o_ (dm 0 rfl (by decide)) ?_)
  refine l8 .here (by rw[i7];decide) ?_
  rw[show(Value.int .u8 45)= .int .u8 ((45:Nat):Int)from rfl,uP]
  refine bG ?_
  refine o_ (G0 (1+n) (by norm_cast) (by omega) (by decide)) ?_
  have hr2:RdB W (pt g (.cells (Dn (uO (gL i.natAbs n 0 fun _=>0) (0+0 * 1) 45)) 169 (0,0))) (some ⟨g,0,none⟩) (1+n) ((vP i).map Sl.B):=by
   rw[hdg]
   refine DI (by rw[List.length_map,List.length_cons,m9];omega) fun j v hv=>?_
   cases j with
   |zero=>
    rw[<- hv,qW (by omega)]
    rfl
   |succ j=>
    obtain⟨_,_,he,hc⟩:=hrd.at_ (by omega)
    have hj:j<n:=by
     rcases Nat.lt_or_ge j n with c|c
     ·exact c
     ·rw[List.getElem?_eq_none (by rw[List.length_map,List.length_cons,m9];omega)]at hv;cases hv
    rw[List.map_cons,List.getElem?_cons_succ,List.getElem?_map]at hv
    unfold uQ at hv
    rw[List.getElem?_map,List.getElem?_range hj]at hv
    simp only[Option.map_some]at hv
    rw[Ae (by omega)]at hv
    rw[qW (by omega),<- hv]
    unfold uO gL
    rw[if_neg (by omega),if_pos (by omega),show n-(0+(j+1))=n-1-j by omega]
  refine bt (iF hr2 (fun c=>by cases c)) ?_
  refine bq () ?_
  exact aw
 ·rw[if_neg h0]at hdg
  refine o_ az ?_
  rw[dF_ h0]
  refine aa (bG ?_)
  refine o_ (DH (l:=1) (1+n) rfl (by norm_cast) (by omega) (by omega) (by omega)) ?_
  rw[Nat.one_mul,Nat.add_sub_cancel_left]
  rw[<- hdg]at hrd
  refine bt (iF hrd (fun c=>by cases c)) ?_
  refine bq () ?_
  exact aw
theorem KE {W:World}[hG:Gp W]{i:Int}(h1: -9223372036854775808<=i)(h2:i<=9223372036854775807):Cn p_ 17 [.int .i64 i] W [] (fun _:Unit=>bm (vP i)) (fun _=>[]):=by
 have a1:Cn p_ 56 [.int .i64 i] W [] (fun _:Unit=>bm (vP i)) (fun _=>[]):=by
  (refine Shp.cn (Sg.g_ Tryz.call56 Tryz.func56) fun F=>?_;simp only[ca_,na_])
  refine c_ (BT h1 h2) fun _=>?_
  refine bq () ?_
  exact aw
 have a2:Cn p_ 37 [.int .i64 i] W [] (fun _:Unit=>bm (vP i)) (fun _=>[]):=by
  (refine Shp.cn (Sg.g_ Tryz.call37 Tryz.func37) fun F=>?_;simp only[ca_,na_])
  refine c_ a1 fun _=>?_
  refine bq () ?_
  exact aw
 (refine Shp.cn (Sg.g_ Tryz.call17 Tryz.func17) fun F=>?_;simp only[ca_,na_])
 refine c_ a2 fun _=>?_
 refine bq () ?_
 exact aw
theorem m_ {L:List Fd}:∀u∈L.flatMap dO,u.oneCell'=true:=fun u hu=>by
 obtain⟨f,_,hf⟩:=List.mem_flatMap.1 hu
 simp[dO]at hf
 rcases hf with rfl|rfl <;> rfl
theorem nf {W:World}{a:Option Addr}{c:Nat}{l:List Fd}(h:0<l.length->∃g,a=some ⟨g,0,none⟩):k9 W (Sl 2 52 a c l.length (l.flatMap dO)) a l:=nV (dp (f:=dO) (s:=2) (fun _=>rfl) l) h
theorem gY {W:World}{L:List HP}{A B:WP}(h1:aZ W L A)(h2:aZ W L B):aZ W L (yi A B):=fun w hw=>⟨h1 w hw,h2 w hw⟩
theorem BU (sep:List UInt8):∀V:List (List UInt8),(mZ sep V).length<=zL V+sep.length * V.length
 |[]=>Nat.zero_le _
 |v::r=>by
  have h:=qT sep r
  have h2:jd r<=zL r:=by
   clear h
   induction r with
   |nil=>exact Nat.le_refl _
   |cons w r ih=>rw[uL];unfold jd;omega
  unfold mZ
  rw[List.length_append,h,uL,List.length_cons,Nat.mul_add,Nat.mul_one]
  omega
end FD
namespace M
open Go Sl
def val:List Bool->Nat
 |[]=>0
 |b::l=>b.toNat+2 * val l
theorem qZ:∀l:List Bool,val l<2^l.length
 |[]=>by simp[val]
 |b::l=>by have:=qZ l;cases b <;> simp[val,Nat.pow_succ] <;> omega
theorem iH (m:List Bool):∀l:List Bool,val (l++m)=val l+2^l.length * val m
 |[]=>by simp[val]
 |b::l=>by
  simp only[List.cons_append,val,iH m l,List.length_cons,Nat.pow_succ]
  rw[Nat.mul_add,Nat.mul_comm (2^l.length) 2,Nat.mul_assoc];omega
def cY (L:List Bool)(i:Nat):Nat:=val ((L.drop (8 * i)).take 8)
theorem tH (L:List Bool)(i:Nat):cY L i<256:=by
 have h:=qZ ((L.drop (8 * i)).take 8)
 have hl:((L.drop (8 * i)).take 8).length<=8:=List.length_take_le _ _
 exact Nat.lt_of_lt_of_le h (Nat.pow_le_pow_right (by omega) hl)
def F8 (L:List Bool)(m:Nat):List UInt8:=(List.range m).map fun i=>UInt8.ofNat (cY L i)
def pk (L:List Bool):List UInt8:=F8 L ((L.length+7) / 8)
def vQ (L:List Bool):List UInt8:=F8 L (L.length / 8+1)
theorem gp (L:List Bool):(pk L).length=(L.length+7) / 8:=by simp[pk,F8]
theorem q6 (L:List Bool):(vQ L).length=L.length / 8+1:=by simp[vQ,F8]
theorem Sq {L:List Bool}(h:L.length%8=0):vQ L=pk L++[0]:=by
 unfold vQ pk F8
 rw[show(L.length+7) / 8=L.length / 8 by omega,List.range_succ,List.map_append]
 congr 1
 have:L.drop (8 * (L.length / 8))=[]:=List.drop_eq_nil_of_le (by omega)
 simp[cY,this,val]
theorem Sr {L:List Bool}(h:¬L.length%8=0):vQ L=pk L:=by
 unfold vQ pk
 rw[show(L.length+7) / 8=L.length / 8+1 by omega]
theorem kz {L:List Bool}{b:Bool}{i:Nat}(h:i<L.length / 8):cY (L++[b]) i=cY L i:=by
 unfold cY
 rw[List.drop_append_of_le_length (by omega),List.take_append_of_le_length (by simp;omega)]
theorem iI {L:List Bool}{b:Bool}:cY (L++[b]) (L.length / 8)=cY L (L.length / 8)+2^(L.length%8) * b.toNat:=by
 unfold cY
 rw[List.drop_append_of_le_length (by omega),List.take_of_length_le (by simp;omega),List.take_of_length_le (by simp;omega),iH]
 have:(L.drop (8 * (L.length / 8))).length=L.length%8:=by simp;omega
 rw[this];simp[val]
theorem wG (L:List Bool):cY L (L.length / 8)<2^(L.length%8):=by
 unfold cY
 refine Nat.lt_of_lt_of_le (qZ _) (Nat.pow_le_pow_right (by omega) ?_)
 rw[List.length_take,List.length_drop];omega
theorem BV (L:List Bool):pk (L++[false])=vQ L:=by
 unfold pk vQ F8
 simp only[List.length_append,List.length_singleton]
 rw[show(L.length+1+7) / 8=L.length / 8+1 by omega]
 refine List.map_congr_left fun i hi=>?_
 rw[List.mem_range]at hi
 by_cases h:i<L.length / 8
 ·rw[kz h]
 ·rw[show i=L.length / 8 by omega,iI];simp
theorem BW (L:List Bool):pk (L++[true])=(vQ L).set (L.length / 8) (UInt8.ofNat (cY L (L.length / 8)+2^(L.length%8))):=by
 apply List.ext_getElem?
 intro i
 unfold pk vQ F8
 simp only[List.length_append,List.length_singleton]
 rw[show(L.length+1+7) / 8=L.length / 8+1 by omega,List.getElem?_set]
 simp only[List.length_map,List.length_range,List.getElem?_map]
 by_cases h:L.length / 8=i
 ·subst h
  simp[iI]
 ·rw[if_neg h]
  by_cases h2:i<L.length / 8
  ·rw[List.getElem?_range (by omega)];simp[kz h2]
  ·rw[List.getElem?_eq_none (by simp;omega)];rfl
theorem DN (L:List Bool):(vQ L)[L.length / 8]? =some (UInt8.ofNat (cY L (L.length / 8))):=by
 simp[vQ,F8]
def aX (n k:Nat):List Bool:=(List.range k).map n.testBit
theorem pw (n k:Nat):aX n (k+1)=aX n k++[n.testBit k]:=by simp[aX,List.range_succ]
theorem aS (n k:Nat):(aX n k).length=k:=by simp[aX]

theorem Ah {n:Nat}(h:n<256):IntKind.u8.wrap (n:Int)=n:=by
 simp only[IntKind.wrap,IntKind.bits,IntKind.signed]
 simp;omega
theorem i8 {n:Nat}(h:n<18446744073709551616):IntKind.u64.wrap (n:Int)=n:=by
 simp only[IntKind.wrap,IntKind.bits,IntKind.signed]
 simp;omega
theorem Kb {a:Nat}(h:a<9223372036854775808):co .and .i64 (a:Int) 1=((a%2:Nat):Int):=by
 unfold co
 have h1:(BitVec.ofInt IntKind.i64.bits (a:Int)).toNat=a:=by
  rw[BitVec.ofInt_natCast,BitVec.toNat_ofNat];exact Nat.mod_eq_of_lt (by simp only[IntKind.bits];omega)
 have h2:(BitVec.ofInt IntKind.i64.bits 1).toNat=1:=by decide
 simp only[BitVec.toNat_and,h1,h2,Nat.and_one_is_mod]
 exact mx (by omega) (by omega)
theorem Tr {a r:Nat}(hr:r<8)(h:a<2^r):co .or .u8 (a:Int) ((2^r:Nat):Int)=((a+2^r:Nat):Int):=by
 have hp:2^r<=128:=by
  have:2^r<=2^7:=Nat.pow_le_pow_right (by omega) (by omega)
  simpa using this
 unfold co
 have h1:(BitVec.ofInt IntKind.u8.bits (a:Int)).toNat=a:=by
  rw[BitVec.ofInt_natCast,BitVec.toNat_ofNat];exact Nat.mod_eq_of_lt (by simp only[IntKind.bits];omega)
 have h2:(BitVec.ofInt IntKind.u8.bits ((2^r:Nat):Int)).toNat=2^r:=by
  rw[BitVec.ofInt_natCast,BitVec.toNat_ofNat];exact Nat.mod_eq_of_lt (by simp only[IntKind.bits];omega)
 have h3:a ||| 2^r=a+2^r:=by
  have:=Nat.two_pow_add_eq_or_of_lt h 1
  rw[Nat.mul_one]at this
  rw[Nat.or_comm,<- this];omega
 simp only[BitVec.toNat_or,h1,h2,h3]
 exact Ah (by omega)
theorem G1 {n k:Nat}(hk:k<64):((n:Int).fdiv (2^(min ((k:Int)).toNat IntKind.i64.bits)))=((n / 2^k:Nat):Int):=by
 have:min ((k:Int)).toNat IntKind.i64.bits=k:=by simp only[IntKind.bits,Int.toNat_natCast];omega
 rw[this,Int.fdiv_eq_ediv_of_nonneg _ (Int.le_of_lt (Int.pow_pos (by decide)))]
 norm_cast
theorem i9 (n k:Nat):n / 2^k%2=(n.testBit k).toNat:=by
 rw[Nat.testBit_eq_decide_div_mod_eq]
 rcases Nat.mod_two_eq_zero_or_one (n / 2^k)with h|h <;> simp[h]
theorem eZ {x:Nat}(h:x<256):B (UInt8.ofNat x)= .int .u8 (x:Int):=by
 unfold B;rw[UInt8.toNat_ofNat'];rw[Nat.mod_eq_of_lt h]
theorem G2 {r:Nat}(h:r<8):(#[.int .u8 1,.int .u8 2,.int .u8 4,.int .u8 8,.int .u8 16,.int .u8 32,.int .u8 64,.int .u8 128]:Array Value)[r]? =some (.int .u8 ((2^r:Nat):Int)):=by
 have:r=0\/r=1\/r=2\/r=3\/r=4\/r=5\/r=6\/r=7:=by omega
 rcases this with rfl|rfl|rfl|rfl|rfl|rfl|rfl|rfl <;> rfl

def px (c:UInt8):List Bool:=aX c.toNat 8
def ub (l:List UInt8):List Bool:=l.flatMap px
theorem fE (c:UInt8):(px c).length=8:=aS _ _
theorem fp:∀l:List UInt8,(ub l).length=8 * l.length
 |[]=>rfl
 |c::l=>by
  have:=fp l
  unfold ub at *
  rw[List.flatMap_cons,List.length_append,this,fE,List.length_cons];omega
theorem q7 (n:Nat):∀k,val (aX n k)=n%2^k
 |0=>by simp[aX,val,Nat.mod_one]
 |k+1=>by
  rw[pw,iH,aS,q7 n k,Nat.mod_pow_succ,i9]
  simp[val]
theorem BX (c:UInt8):val (px c)=c.toNat:=by
 unfold px;rw[q7];exact Nat.mod_eq_of_lt c.toNat_lt
theorem uR {l:List UInt8}{i:Nat}(h:i<l.length)(m:List Bool):cY (ub l++m) i=l[i].toNat:=by
 unfold cY
 have e:ub l=ub (l.take i)++(px l[i]++ub (l.drop (i+1))):=by
  unfold ub
  rw[<- List.flatMap_cons,<- List.flatMap_append,<- List.drop_eq_getElem_cons h,List.take_append_drop]
 have hl:(ub (l.take i)).length=8 * i:=by rw[fp,List.length_take];omega
 rw[e,List.append_assoc,List.append_assoc,<- hl,List.drop_left]
 have h8:=fE l[i]
 rw[show(8:Nat)=(px l[i]).length from h8.symm,List.take_left,BX]
def ee (L:List Bool):List Bool:=L++List.replicate ((8-L.length%8)%8) false
theorem fd (L:List Bool):(ee L).length=8 * ((L.length+7) / 8):=by
 unfold ee;simp;omega
theorem tI:∀n,val (List.replicate n false)=0
 |0=>rfl
 |n+1=>by simp[List.replicate_succ,val,tI n]
theorem yN (L:List Bool)(n i:Nat):cY (L++List.replicate n false) i=cY L i:=by
 unfold cY
 rw[List.drop_append,List.take_append,iH,List.drop_replicate,List.take_replicate,tI]
 simp
theorem DP (L:List Bool):pk (ee L)=pk L:=by
 unfold pk
 rw[fd,show(8 * ((L.length+7) / 8)+7) / 8=(L.length+7) / 8 by omega]
 unfold F8 ee
 refine List.map_congr_left fun i _=>?_
 rw[yN]
theorem BY {L:List Bool}(h:L.length%8=0)(l:List UInt8):pk (L++ub l)=pk L++l:=by
 unfold pk F8
 rw[List.length_append,fp]
 rw[show(L.length+8 * l.length+7) / 8=L.length / 8+l.length by omega,show(L.length+7) / 8=L.length / 8 by omega]
 rw[List.range_add,List.map_append]
 congr 1
 ·refine List.map_congr_left fun i hi=>?_
  rw[List.mem_range]at hi
  unfold cY
  rw[List.drop_append_of_le_length (by omega),List.take_append_of_le_length (by simp;omega)]
 ·rw[List.map_map]
  apply List.ext_getElem
  ·simp
  ·intro i h1 h2
   simp only[List.getElem_map,List.getElem_range,Function.comp_apply]
   have:cY (L++ub l) (L.length / 8+i)=cY (ub l) i:=by
    unfold cY
    rw[List.drop_append,List.drop_eq_nil_of_le (by omega),List.nil_append]
    congr 3;omega
   have h3:=uR h2 []
   rw[List.append_nil]at h3
   rw[this,h3];simp
theorem Pd {n k:Nat}(hk:k<8):((n:Int).fdiv (2^(min ((k:Int)).toNat IntKind.u8.bits)))=((n / 2^k:Nat):Int):=by
 have:min ((k:Int)).toNat IntKind.u8.bits=k:=by simp only[IntKind.bits,Int.toNat_natCast];omega
 rw[this,Int.fdiv_eq_ediv_of_nonneg _ (Int.le_of_lt (Int.pow_pos (by decide)))]
 norm_cast
theorem DQ {a:Nat}(h:a<256):co .and .u8 (a:Int) 1=((a%2:Nat):Int):=by
 unfold co
 have h1:(BitVec.ofInt IntKind.u8.bits (a:Int)).toNat=a:=by
  rw[BitVec.ofInt_natCast,BitVec.toNat_ofNat];exact Nat.mod_eq_of_lt (by simp only[IntKind.bits];omega)
 have h2:(BitVec.ofInt IntKind.u8.bits 1).toNat=1:=by decide
 simp only[BitVec.toNat_and,h1,h2,Nat.and_one_is_mod]
 exact Ah (by omega)
theorem yO:∀ {l:List UInt8} {i:Nat} (h:i / 8<l.length),(ub l)[i]? =some (l[i / 8].toNat.testBit (i%8))
 |c::l,i,h=>by
  have e:ub (c::l)=px c++ub l:=by unfold ub;rw[List.flatMap_cons]
  rw[e]
  by_cases hi:i<8
  ·rw[List.getElem?_append_left (by rw[fE];exact hi)]
   have h0:i / 8=0:=by omega
   have h1:i%8=i:=by omega
   simp only[h0,h1,List.getElem_cons_zero,px,aX]
   simp[hi]
  ·rw[List.getElem?_append_right (by rw[fE];omega),fE]
   have h0:i / 8=(i-8) / 8+1:=by omega
   have h1:i%8=(i-8)%8:=by omega
   rw[yO (l:=l) (i:=i-8) (by rw[h0]at h;simpa using h)]
   simp only[h0,h1,List.getElem_cons_succ]
def DR (L:List Bool)(at_ k:Nat):Nat:=val ((L.drop at_).take k)
theorem oe (L:List Bool)(at_ k:Nat):DR L at_ k<2^k:=by
 refine Nat.lt_of_lt_of_le (qZ _) (Nat.pow_le_pow_right (by omega) (List.length_take_le _ _))
theorem wH {L:List Bool}{at_ k:Nat}{b:Bool}(h:L[at_+k]? =some b):DR L at_ (k+1)=DR L at_ k+2^k * b.toNat:=by
 have hl:at_+k<L.length:=by
  rcases Nat.lt_or_ge (at_+k) L.length with c|c
  ·exact c
  ·rw[List.getElem?_eq_none c]at h;cases h
 unfold DR
 have hd:(L.drop at_)[k]? =some b:=by rw[List.getElem?_drop];exact h
 have hk:k<(L.drop at_).length:=by rw[List.length_drop];omega
 rw[List.take_succ_eq_append_getElem hk,iH,List.length_take,Nat.min_eq_left (by omega)]
 have:(L.drop at_)[k]=b:=by rw[List.getElem?_eq_getElem hk]at hd;exact Option.some.inj hd
 rw[this];simp[val]
theorem wI (L:List Bool)(at_:Nat):DR L at_ 0=0:=by simp[DR,val]
theorem DS {a k:Nat}{b:Bool}(hk:k<33)(h:a<2^k):co .or .i64 (a:Int) (((b.toNat * 2^k:Nat)):Int)=((a+2^k * b.toNat:Nat):Int):=by
 have hp:2^k<=4294967296:=by
  have:2^k<=2^32:=Nat.pow_le_pow_right (by omega) (by omega)
  simpa using this
 have hb:b.toNat * 2^k<=4294967296:=by cases b <;> simp <;> omega
 unfold co
 have h1:(BitVec.ofInt IntKind.i64.bits (a:Int)).toNat=a:=by
  rw[BitVec.ofInt_natCast,BitVec.toNat_ofNat];exact Nat.mod_eq_of_lt (by simp only[IntKind.bits];omega)
 have h2:(BitVec.ofInt IntKind.i64.bits ((b.toNat * 2^k:Nat):Int)).toNat=b.toNat * 2^k:=by
  rw[BitVec.ofInt_natCast,BitVec.toNat_ofNat];exact Nat.mod_eq_of_lt (by simp only[IntKind.bits];omega)
 have h3:a ||| b.toNat * 2^k=a+2^k * b.toNat:=by
  have:=Nat.two_pow_add_eq_or_of_lt h b.toNat
  rw[Nat.or_comm,Nat.mul_comm b.toNat,<- this];omega
 simp only[BitVec.toNat_or,h1,h2,h3]
 have:2^k * b.toNat<=4294967296:=by rw[Nat.mul_comm];exact hb
 exact mx (by omega) (by omega)

def DU (n:Int)(i:Nat):Bool:=decide (n / 2^i%2=1)
def bl (n:Int)(i:Nat):List Bool:=(List.range i).map (DU n)
theorem G3 (n:Int)(i:Nat):bl n (i+1)=bl n i++[DU n i]:=by simp[bl,List.range_succ]
theorem BZ (n:Int)(i:Nat):(bl n i).length=i:=by simp[bl]
def rv (n:Int)(i:Nat):Nat:=val (bl n i).reverse
theorem G4 (n:Int)(i:Nat):rv n (i+1)=2 * rv n i+(DU n i).toNat:=by
 unfold rv;rw[G3,List.reverse_append];simp[val];omega
theorem I8 (n:Int)(i:Nat):rv n i<2^i:=by
 have:=qZ (bl n i).reverse
 rwa [List.length_reverse,BZ]at this
theorem B0 (n:Int)(i:Nat):((DU n i).toNat:Int)=n / 2^i%2:=by
 unfold DU
 rcases Int.emod_two_eq (n / 2^i)with h|h <;> simp[h]
theorem Pe (a:Int):co .and .i64 a 1=a%2:=by
 unfold co
 have h2:(BitVec.ofInt IntKind.i64.bits 1).toNat=1:=by decide
 simp only[BitVec.toNat_and,h2,Nat.and_one_is_mod,BitVec.toNat_ofInt]
 rw[mx (by omega) (by omega)]
 simp only[IntKind.bits]
 omega
theorem Ss {n:Int}{k:Nat}(hk:k<64):n.fdiv (2^(min ((k:Int)).toNat IntKind.i64.bits))=n / 2^k:=by
 have:min ((k:Int)).toNat IntKind.i64.bits=k:=by simp only[IntKind.bits,Int.toNat_natCast];omega
 rw[this,Int.fdiv_eq_ediv_of_nonneg _ (Int.le_of_lt (Int.pow_pos (by decide)))]
theorem DV {a:Nat}{b:Bool}(h:a<4294967296):co .or .i64 (((a * 2:Nat)):Int) (b.toNat:Int)=((2 * a+b.toNat:Nat):Int):=by
 have hb:b.toNat<=1:=Bool.toNat_le b
 unfold co
 have h1:(BitVec.ofInt IntKind.i64.bits ((a * 2:Nat):Int)).toNat=a * 2:=by
  rw[BitVec.ofInt_natCast,BitVec.toNat_ofNat];exact Nat.mod_eq_of_lt (by simp only[IntKind.bits];omega)
 have h2:(BitVec.ofInt IntKind.i64.bits (b.toNat:Int)).toNat=b.toNat:=by
  rw[BitVec.ofInt_natCast,BitVec.toNat_ofNat];exact Nat.mod_eq_of_lt (by simp only[IntKind.bits];omega)
 have h3:a * 2 ||| b.toNat=2 * a+b.toNat:=by
  have:=Nat.two_pow_add_eq_or_of_lt (i:=1) (b:=b.toNat) (by omega) a
  rw[Nat.pow_one]at this
  rw[Nat.mul_comm a 2,<- this]
 simp only[BitVec.toNat_or,h1,h2,h3]
 exact mx (by omega) (by omega)
end M
namespace B
open Go Go.Proofs Sh Sl T M
theorem ir {W:World}{p:Nat}{a b:Value}{m:Bool}:Cn p_ 157 [.pointer (some ⟨p,0,none⟩)] W [pt p (.cells #[a,b,.bool m] 205)] (fun _:Unit=> .bool (!m)) (fun _=>[pt p (.cells #[a,b,.bool m] 205)]):=by
 (refine Shp.cn (Sg.g_ Tryz.call157 Tryz.func157) fun F=>?_;simp only[ca_,na_])
 refine o_ qz ?_;refine ae (ae (o_ au (ae (o_ aj (ae (bJ ?_))))));refine ae (o_ fU (o_ ag ?_))
 (refine aR Unit.unit (by rfl) ?_;(repeat(first|exact .refl|exact .nil|(apply Imp.pick;(focus ((repeat constructor);done)))|refine .drop ?_)))
def iu (p:Nat)(l:List Bool):HP:=ex fun q:Option Addr × Nat=>all [pt p (.cells #[.slice q.1 (pk l).length q.2,.int .i64 (l.length:Int),.bool true] 205),Sl 1 5 q.1 q.2 (pk l).length ((pk l).map B),pu (l.length<=8388608)]
def nj (n k:Int):Prop:=k<0\/32<k\/n<0\/2^k.toNat<=n
instance (n k:Int):Decidable (nj n k):=by unfold nj;infer_instance
def q9 (l:List Bool)(n k:Int):Int:=if nj n k then 1 else if 8388608-(l.length:Int)<k then 6 else 0
def q_ (l:List Bool)(n k:Int):List Bool:=if q9 l n k=0 then l++aX n.toNat k.toNat else l
theorem Pf {W:World}:Cn p_ 204 [] W [] (fun _:Unit=> .agg #[.int .u8 1,.int .u8 2,.int .u8 4,.int .u8 8,.int .u8 16,.int .u8 32,.int .u8 64,.int .u8 128]) (fun _=>[]):=by
 (refine Shp.cn (Sg.g_ Tryz.call204 Tryz.func204) fun F=>?_;simp only[ca_,na_])
 refine bp fun g=>?_;refine o_ b_ ?_;refine fO ?_;(((refine' aT (cG ?hn) ?hi ?_);(case hi=>exact aw);(case hn=>rfl)))
 (refine aR Unit.unit (by rfl) ?_;(repeat(first|exact .refl|exact .nil|(apply Imp.pick;(focus ((repeat constructor);done)))|refine .drop ?_)))
def Su (p:Nat)(l:List Bool):HP:=ex fun q:Option Addr × Nat=>all [pt p (.cells #[.slice q.1 (vQ l).length q.2,.int .i64 (l.length:Int),.bool true] 205),Sl 1 5 q.1 q.2 (vQ l).length ((vQ l).map B)]
theorem put {W : World} {p : Nat} {l : List Bool} {n k : Int} : Cn p_ 156 [.pointer (some ⟨p, 0, none⟩), .int .i64 n, .int .i64 k] W [iu p l] (fun _ : Unit => .int .i64 (q9 l n k)) (fun _ => [iu p (q_ l n k)]) := by
 (refine Shp.cn (Sg.g_ Tryz.call156 Tryz.func156 (an := { cuts := [(6, [9]), (15, []), (17, [])], loops := [(11, [35])], drs := [(16, .ofL [(0, 1), (1, 1), (2, 1), (3, 1), (4, 1), (5, 1), (6, 1), (7, 1), (8, 1), (9, 1), (10, 1), (11, 1), (12, 1), (13, 1), (14, 1), (15, 1), (16, 1), (17, 1), (18, 1), (19, 1), (20, 0)])] })) fun F => ?_; simp only [ca_, na_])
 refine aH Pick.here fun q => ?_
 obtain ⟨qa, qc⟩ := q
 refine ap Pick.here ?_
 (try simp only [ca_, na_])
 refine aG (.there (.there .here)) fun hL => ?_
 refine dD (fun z => pt p (.cells #[.slice qa (pk l).length qc, .int .i64 (l.length : Int), .bool true] 205) :: Sl 1 5 qa qc (pk l).length ((pk l).map B) :: pu (z = .bool (decide (nj n k))) :: F) ?_ ?_
 ·intro ds z
  refine aG (.there (.there .here)) fun hz => ?_
  subst hz
  by_cases hb : nj n k
  ·rw [dT_ hb]
   refine ab ?_
   refine aR () (by simp [q9, hb]) ?_
   rw [show q_ l n k = l by simp [q_, q9, hb]]
   refine Imp.ex (qa, qc) (.all ?_)
   (try simp only [ca_, na_])
   refine .pick .here (.pick .here (.pu hL .refl))
  ·rw [dF_ hb]
   refine aa ?_; refine am au .nil ?_; refine am aj .nil ?_; (((refine' am (bC ?hc) ?hi ?_); (case hi => exact .pick (by repeat constructor) .nil); (case hc => repeat constructor))); (refine am (dv (by omega) (by omega)) .nil ?_)
   refine ay aV .nil (fun h => ?_) (fun h => ?_)
   ·(refine ab ?_)
    refine aR () (by simp [q9, hb, h]) ?_
    rw [show q_ l n k = l by simp [q_, q9, hb, h]]
    refine Imp.ex (qa, qc) (.all ?_)
    (try simp only [ca_, na_])
    refine .pick .here (.pick .here (.pu hL .refl))
   ·(refine aa ?_)
    (refine' aB (Pf) ?hp fun _ => ?_; (case hp => (repeat (first | exact Picks.nil | (apply Picks.cons; (focus repeat constructor))))); (try simp only [ca_, na_, Bool.not_true, Bool.not_false]))
    refine bp fun g => ?_; (((refine' bS ?hp ?hn ?hv ?h1 ?_); (case hp => (repeat constructor)); (case hn => rfl); (case hv => rfl); (case h1 => simp [Value.oneCell'])))
    rename_i g
    have hR : q9 l n k = 0 := by simp [q9, hb, h]
    have hb' : 0 <= k /\ k <= 32 /\ 0 <= n /\ n < 2 ^ k.toNat := by unfold nj at hb; omega
    have hPL : q_ l n k = l ++ aX n.toNat k.toNat := by simp [q_, hR]
    rw [hR, hPL]
    obtain ⟨h1, h2, h3, h4⟩ := hb'
    obtain ⟨K, rfl⟩ := Int.eq_ofNat_of_zero_le h1
    obtain ⟨N, rfl⟩ := Int.eq_ofNat_of_zero_le h3
    rw [Int.toNat_natCast] at h4
    rw [Int.toNat_natCast, Int.toNat_natCast]
    have hN : N < 4294967296 := by
     have : (2 : Int) ^ K = ((2 ^ K : Nat) : Int) := by norm_cast
     have h32 : 2 ^ K <= 2 ^ 32 := Nat.pow_le_pow_right (by omega) (by omega)
     omega
    clear hR hPL hb h4
    refine a_ (fun m y => [ex fun i : Nat => all [pu (m + i = K /\ y = .int .i64 (i : Int)), pt g (.cells #[.int .u8 1, .int .u8 2, .int .u8 4, .int .u8 8, .int .u8 16, .int .u8 32, .int .u8 64, .int .u8 128] 266), iu p (l ++ aX N i)]] ++ F) K ?_ ?_
    ·refine Imp.ex 0 (.all ?_)
     (try simp only [ca_, na_])
     refine .pu ⟨by omega, rfl⟩ (.pick .here (.ex (qa, qc) (.all ?_)))
     (try simp only [ca_, na_])
     rw [show l ++ aX N 0 = l by simp [aX]]
     exact .pick .here (.pick .here (.pu hL .refl))
    ·intro m ds y
     (try simp only [ca_, na_])
     refine aH Pick.here fun i => ap Pick.here ?_
     (try simp only [ca_, na_])
     refine aG Pick.here fun hi => ?_
     obtain ⟨hm, rfl⟩ := hi
     obtain ⟨L, hLe⟩ : ∃ L, L = l ++ aX N i := ⟨_, rfl⟩
     have hLl : L.length = l.length + i := by rw [hLe, List.length_append, aS]
     rw [<- hLe]
     refine ay az .nil (fun h => ?_) (fun h => ?_)
     ·have hik : i < K := by omega
      refine ab ?_
      refine cP ([pt g (.cells #[.int .u8 1, .int .u8 2, .int .u8 4, .int .u8 8, .int .u8 16, .int .u8 32, .int .u8 64, .int .u8 128] 266), Su p L] ++ F) ?_ ?_
      ·intro ds2
       (try simp only [ca_, na_])
       refine aH (.there .here) fun q2 => ?_
       obtain ⟨xa, xc⟩ := q2
       refine ap Pick.here ?_
       (try simp only [ca_, na_])
       refine cP ([pt g (.cells #[.int .u8 1, .int .u8 2, .int .u8 4, .int .u8 8, .int .u8 16, .int .u8 32, .int .u8 64, .int .u8 128] 266), pt p (.cells #[.slice xa (vQ L).length xc, .int .i64 (L.length : Int), .bool true] 205), Sl 1 5 xa xc (vQ L).length ((pk (L ++ [N.testBit i])).map B)] ++ F) ?_ ?_
       ·intro ds3
        (try simp only [ca_, na_])
        refine am au .nil ?_; refine am aj .nil ?_; (((refine' am (bC ?hc) ?hi ?_); (case hi => exact .pick (by repeat constructor) .nil); (case hc => repeat constructor))); (refine am (bU (by omega) (by omega)) .nil ?_); refine am au .nil ?_; refine am aj .nil ?_; (((refine' eR ?hp ?ho ?_); (case hp => (repeat constructor)); (case ho => repeat constructor))); (refine am (bU (by omega) (by omega)) .nil ?_)
        refine aK (m - 1) (by omega) (.ex (i + 1) (.all ?_))
        (try simp only [ca_, na_])
        refine .pu ⟨by omega, by norm_cast⟩ (.pick (.there .here) (.ex (xa, xc) (.all ?_)))
        (try simp only [ca_, na_])
        have e1 : l ++ aX N (i + 1) = L ++ [N.testBit i] := by rw [hLe, pw, List.append_assoc]
        have e2 : (pk (L ++ [N.testBit i])).length = (vQ L).length := by rw [gp, q6]; simp; omega
        rw [e1, e2]
        have e3 : ((L ++ [N.testBit i]).length : Int) = (L.length : Int) + 1 := by simp
        rw [e3]
        exact .pick .here (.pick (.here) (.pu (by simp; omega) .refl))
       ·refine am br .nil ?_
        rw [i8 (by omega)]
        refine am (eQ (by omega)) .nil ?_
        rw [G1 (by omega)]
        refine am fT .nil ?_
        have hdiv : N / 2 ^ i <= N := Nat.div_le_self _ _
        rw [Kb (by omega), i9]
        refine ay aP .nil (fun h => ?_) (fun h => ?_)
        ·have hbit : N.testBit i = true := by
          cases hh : N.testBit i with
          | true => rfl
          | false => rw [hh] at h; simp at h
         have hpx := q6 L
         refine dA (.there .here) (by omega) fun g1 hg1 => ?_
         subst hg1
         refine ab ?_; refine bA ?_; refine aT au .nil ?_; refine aT aj .nil ?_; (((refine' aT (bC ?hc) ?hi ?_); (case hi => exact .pick (by repeat constructor) .nil); (case hc => repeat constructor))); refine aT au .nil ?_; refine aT aj .nil ?_; (((refine' aT (bC ?hc) ?hi ?_); (case hi => exact .pick (by repeat constructor) .nil); (case hc => repeat constructor))); (((refine aT (hH ?h1 ?h2 ?h3) .nil ?_); (case h1 => omega); (case h2 => omega); (case h3 => omega)))
         refine aT (bj (L.length / 8) (by norm_cast) (by omega)) .nil ?_
         refine aT (cI (v := B (UInt8.ofNat (cY L (L.length / 8)))) (by rw [Nat.zero_add, List.getElem?_map, DN]; rfl)) (.pick (.there .here) .nil) ?_
         refine aT au .nil ?_; refine aT aj .nil ?_; (((refine' aT (bC ?hc) ?hi ?_); (case hi => exact .pick (by repeat constructor) .nil); (case hc => repeat constructor))); (((refine aT (mH ?h1 ?h2) .nil ?_); (case h1 => omega); (case h2 => omega)))
         refine aT (dm (L.length % 8) (by norm_cast) (by omega)) .nil ?_
         refine aT (e_ (by rw [Nat.zero_add, Nat.mul_one]; exact G2 (by omega))) (.pick (.there (.there .here)) .nil) ?_
         rw [eZ (tH _ _)]
         refine aT sH .nil ?_
         rw [Tr (by omega) (wG L)]
         refine aT (bj (L.length / 8) (by norm_cast) (by omega)) .nil ?_
         refine fZ (.there .here) (by simp; omega) ?_
         refine aD ?_
         have e4 : cY L (L.length / 8) + 2 ^ (L.length % 8) < 256 := by
          have := tH (L ++ [true]) (L.length / 8)
          rw [iI] at this; simpa using this
         rw [hbit, BW, Nat.zero_add, List.map_set, eZ e4]
         (try simp only [ca_, na_])
         (repeat (first | exact .refl | exact .nil | (apply Imp.pick; (focus ((repeat constructor); done))) | refine .drop ?_))
        ·have hbit : N.testBit i = false := by
          cases hh : N.testBit i with
          | false => rfl
          | true => rw [hh] at h; simp at h
         refine aa ?_
         refine aD ?_
         rw [hbit, BV]
         (try simp only [ca_, na_])
         (repeat (first | exact .refl | exact .nil | (apply Imp.pick; (focus ((repeat constructor); done))) | refine .drop ?_))
      ·refine aH (.there .here) fun q2 => ?_
       obtain ⟨xa, xc⟩ := q2
       refine ap Pick.here ?_
       (try simp only [ca_, na_])
       refine aG (.there (.there .here)) fun hL2 => ?_
       refine am au .nil ?_; refine am aj .nil ?_; (((refine' am (bC ?hc) ?hi ?_); (case hi => exact .pick (by repeat constructor) .nil); (case hc => repeat constructor))); (((refine am (mH ?h1 ?h2) .nil ?_); (case h1 => omega); (case h2 => omega)))
       have hpk := gp L
       refine ay aP .nil (fun h => ?_) (fun h => ?_)
       ·(refine ab ?_); refine am au .nil ?_; refine am aj .nil ?_; (((refine' am (bC ?hc) ?hi ?_); (case hi => exact .pick (by repeat constructor) .nil); (case hc => repeat constructor))); refine eI fun g => ?_
        refine bO (m := 1) (news := [B 0]) (.there (.there .here)) (cA (e' := 5) (by kernel_rfl) .here (by rfl) (dY (l := [0]))) (by omega) (by omega) fun a' c' => ?_
        refine am au .nil ?_; refine am aj .nil ?_; (((refine' eR ?hp ?ho ?_); (case hp => (repeat constructor)); (case ho => repeat constructor)))
        refine aD ?_
        (try simp only [ca_, na_])
        refine .pick (.there (.there (.there .here))) (.ex (a', c') (.all ?_))
        (try simp only [ca_, na_])
        have h8 : L.length % 8 = 0 := by omega
        rw [Sq h8]
        simp only [List.length_append, List.length_singleton, List.map_append, List.map_cons, List.map_nil]
        (repeat (first | exact .refl | exact .nil | (apply Imp.pick; (focus ((repeat constructor); done))) | refine .drop ?_))
       ·(refine aa ?_)
        refine aD ?_
        (try simp only [ca_, na_])
        refine .pick (.there (.there .here)) (.ex (xa, xc) (.all ?_))
        (try simp only [ca_, na_])
        rw [Sr (by omega)]
        (repeat (first | exact .refl | exact .nil | (apply Imp.pick; (focus ((repeat constructor); done))) | refine .drop ?_))
     ·have : i = K := by omega
      subst this
      refine aa ?_
      refine dR () ?_
      rw [<- hLe]
      exact .pick (.there .here) (.drop .refl)
 ·(refine' aB (ir) ?hp fun _ => ?_; (case hp => (repeat (first | exact Picks.nil | (apply Picks.cons; (focus repeat constructor))))); (try simp only [ca_, na_, Bool.not_true, Bool.not_false]))
  refine aa ?_
  have fin : ∀ z : Value, z = .bool (decide (nj n k)) -> aZ W (pt p (.cells #[.slice qa (pk l).length qc, .int .i64 (l.length : Int), .bool true] 205) :: Sl 1 5 qa qc (pk l).length ((pk l).map B) :: F) (fun w => sat W (pt p (.cells #[.slice qa (pk l).length qc, .int .i64 (l.length : Int), .bool true] 205) :: Sl 1 5 qa qc (pk l).length ((pk l).map B) :: pu (z = .bool (decide (nj n k))) :: F) w) := fun z hz => aD (.pick .here (.pick .here (.pu hz .refl)))
  refine ay az .nil (fun h => ?_) (fun h => ?_)
  ·(refine ab ?_)
   exact fin _ (by rw [dT_ (show nj n k from .inl h)])
  ·(refine aa ?_)
   refine ay aV .nil (fun h => ?_) (fun h => ?_)
   ·(refine ab ?_)
    exact fin _ (by rw [dT_ (show nj n k from .inr (.inl ‹_›))])
   ·(refine aa ?_)
    refine ay az .nil (fun h => ?_) (fun h => ?_)
    ·(refine ab ?_)
     exact fin _ (by rw [dT_ (show nj n k from .inr (.inr (.inl ‹_›)))])
    ·(refine aa ?_)
     refine am qx .nil ?_
     rw [if_neg (by omega)]
     refine am zN .nil ?_
     rw [show (if (0 : Int) < k then k else 0) = k by split <;> omega]
     obtain ⟨K, rfl⟩ := Int.eq_ofNat_of_zero_le (show 0 <= k by omega)
     refine am br .nil ?_
     rw [i8 (by omega)]
     refine am (fS (by omega)) .nil ?_
     have hm : min ((K : Int)).toNat IntKind.i64.bits = K := by simp only [IntKind.bits, Int.toNat_natCast]; omega
     have h32 : 2 ^ K <= 2 ^ 32 := Nat.pow_le_pow_right (by omega) (by omega)
     have hc : (2 : Int) ^ K = ((2 ^ K : Nat) : Int) := by norm_cast
     obtain ⟨E, hE⟩ : ∃ E, E = 2 ^ K := ⟨_, rfl⟩
     rw [<- hE] at hc h32
     rw [hm, Int.one_mul, hc, mx (by omega) (by omega)]
     refine am cH .nil ?_
     refine fin _ ?_
     have : ((E : Int) <= n) ↔ nj n K := by
      unfold nj
      rw [Int.toNat_natCast, hc]
      constructor
      ·exact fun h => .inr (.inr (.inr h))
      ·rintro (h | h | h | h)
       ·omega
       ·omega
       ·omega
       ·exact h
     rw [decide_eq_decide.2 this]
theorem tJ {W:World}:Cn p_ 110 [] W [] (fun p:Nat=> .pointer (some ⟨p,0,none⟩)) (fun p=>[iu p []]):=by
 (refine Shp.cn (Sg.g_ Tryz.call110 Tryz.func110) fun F=>?_;simp only[ca_,na_])
 refine o_ b_ ?_;refine bV fun g=>?_
 refine aR g rfl ?_
 refine .ex (none,0) (.all ?_)
 refine aq ?_
 refine .pick .here ?_
 rw[show(pk []).length=0 from rfl,show List.map B (pk [])=[]from rfl]
 exact bR (.pu (by simp) .refl)
theorem bits {W:World}{p:Nat}{l:List Bool}:Cn p_ 155 [.pointer (some ⟨p,0,none⟩)] W [iu p l] (fun _:Unit=> .int .i64 (l.length:Int)) (fun _=>[iu p l]):=by
 (refine Shp.cn (Sg.g_ Tryz.call155 Tryz.func155) fun F=>?_;simp only[ca_,na_])
 refine aH Pick.here fun q=>?_
 obtain⟨qa,qc⟩:=q
 refine ap Pick.here ?_
 refine aq ?_
 refine aG (.there (.there .here)) fun hL=>?_
 refine c_ ir fun _=>?_
 refine aa (o_ au (o_ aj (bJ ?_)))
 refine aR () rfl ?_
 refine .ex (qa,qc) (.all ?_)
 refine aq ?_
 exact .pick .here (.pick .here (.pu hL .refl))
theorem KF {W:World}{p n qc:Nat}{qa:Option Addr}{m:Int}(hn:n<=4611686018427387904 / 8):Cn p_ 197 [.pointer (some ⟨p,0,none⟩)] W [pt p (.cells #[.slice qa n qc,.int .i64 m,.bool true] 205)] (fun _:Unit=> .tuple #[]) (fun _=>[pt p (.cells #[.slice qa n qc,.int .i64 (8 * (n:Int)),.bool true] 205)]):=by
 (refine Shp.cn (Sg.g_ Tryz.call197 Tryz.func197) fun F=>?_;simp only[ca_,na_])
 refine c_ ir fun _=>?_
 refine o_ dh (ab (o_ au (o_ aj (bJ ?_))));refine o_ aC ?_;(refine o_ (eh (by omega) (by omega)) ?_);refine o_ au (o_ aj (eE ?_))
 refine dR () ?_
 exact .pick .here .refl
theorem Pg {W:World}{p:Nat}{l:List Bool}:Cn p_ 197 [.pointer (some ⟨p,0,none⟩)] W [iu p l] (fun _:Unit=> .tuple #[]) (fun _=>[iu p (ee l)]):=by
 (refine Shp.cn (Sg.g_ Tryz.call197 Tryz.func197) fun F=>?_;simp only[ca_,na_])
 refine aH Pick.here fun q=>?_
 obtain⟨qa,qc⟩:=q
 refine ap Pick.here ?_
 refine aq ?_
 refine aG (.there (.there .here)) fun hL=>?_
 have hpk:=gp l
 refine c_ ir fun _=>?_
 refine o_ dh (ab (o_ au (o_ aj (bJ ?_))));refine o_ aC ?_;(refine o_ (eh (by omega) (by omega)) ?_);refine o_ au (o_ aj (eE ?_))
 refine dR () ?_
 refine .ex (qa,qc) (.all ?_)
 refine aq ?_
 rw[DP,show((ee l).length:Int)=8 * ((pk l).length:Int) by rw[fd,hpk];norm_cast]
 exact .pick .here (.pick .here (.pu (by rw[fd];omega) .refl))
theorem bytes {W:World}{p:Nat}{l:List Bool}:Cn p_ 113 [.pointer (some ⟨p,0,none⟩)] W [iu p l] (fun q:Option Addr × Nat=> .slice q.1 (pk l).length q.2) (fun q=>[Sl 1 5 q.1 q.2 (pk l).length ((pk l).map B),iu p l]):=by
 (refine Shp.cn (Sg.g_ Tryz.call113 Tryz.func113) fun F=>?_;simp only[ca_,na_])
 refine aH Pick.here fun q=>?_
 obtain⟨qa,qc⟩:=q
 refine ap Pick.here ?_
 refine aq ?_
 refine aG (.there (.there .here)) fun hL=>?_
 have hpk:=gp l
 refine c_ ir fun _=>?_
 refine aa (o_ au (o_ aj (bJ ?_)))
 refine cU (s:=1) (e:=5) ?_
 refine bO (m:=(pk l).length) (news:=(pk l).map B) .here (yx (e':=5) (by kernel_rfl) (.there (.there .here)) dY) (by omega) (by omega) fun a' c'=>?_
 rw[Nat.zero_add,List.nil_append]
 refine aR (a',c') rfl ?_
 refine .pick .here (.ex (qa,qc) (.all ?_))
 refine aq ?_
 exact .pick .here (.pick .here (.pu hL .refl))
def yP (l:List Bool)(b:List UInt8):Int:=if 1048576<(pk l).length+b.length then 6 else 0
def yQ (l:List Bool)(b:List UInt8):List Bool:=if yP l b=0 then ee l++ub b else l
theorem Ts {W : World} {p : Nat} {l : List Bool} {a : Option Addr} {cap : Nat} {b : List UInt8} {A : HP} (hr : RdB W A a b.length (b.map B)) (ha : a = none -> b.length = 0) (hb : b.length <= 4611686018427387904) :
  Cn p_ 198 [.pointer (some ⟨p, 0, none⟩), .slice a b.length cap] W [iu p l, A] (fun _ : Unit => .int .i64 (yP l b)) (fun _ => [iu p (yQ l b), A]) := by
 (refine Shp.cn (Sg.g_ Tryz.call198 Tryz.func198) fun F => ?_; simp only [ca_, na_])
 refine aH Pick.here fun q => ?_
 obtain ⟨qa, qc⟩ := q
 refine ap Pick.here ?_
 (try simp only [ca_, na_])
 refine aG (.there (.there .here)) fun hL => ?_
 have hpk := gp l
 (refine' aB (ir) ?hp fun _ => ?_; (case hp => (repeat (first | exact Picks.nil | (apply Picks.cons; (focus repeat constructor))))); (try simp only [ca_, na_, Bool.not_true, Bool.not_false]))
 refine aa ?_; refine am aC .nil ?_; refine am au .nil ?_; refine am aj .nil ?_; (((refine' am (bC ?hc) ?hi ?_); (case hi => exact .pick (by repeat constructor) .nil); (case hc => repeat constructor))); refine am aC .nil ?_; (refine am (dv (by omega) (by omega)) .nil ?_)
 refine ay aV .nil (fun h => ?_) (fun h => ?_)
 ·(refine ab ?_)
  have hR : yP l b = 6 := by unfold yP; rw [if_pos (by omega)]
  rw [hR]
  refine aR () rfl ?_
  rw [show yQ l b = l by simp [yQ, hR]]
  refine .ex (qa, qc) (.all ?_)
  (try simp only [ca_, na_])
  exact .pick .here (.pick .here (.pu hL .refl))
 ·have hR : yP l b = 0 := by unfold yP; rw [if_neg (by omega)]
  rw [hR, show yQ l b = ee l ++ ub b by simp [yQ, hR]]
  refine aa ?_; refine am au .nil ?_; refine am aj .nil ?_; (((refine' am (bC ?hc) ?hi ?_); (case hi => exact .pick (by repeat constructor) .nil); (case hc => repeat constructor)))
  refine bO (m := b.length) (news := b.map B) (.there .here) (dF (A := A) (e' := 5) (by kernel_rfl) (.there (.there .here)) hr ha dY) (by omega) (by omega) fun a' c' => ?_
  refine am au .nil ?_; refine am aj .nil ?_; (((refine' eR ?hp ?ho ?_); (case hp => (repeat constructor)); (case ho => repeat constructor)))
  (refine' aB (KF (n := (pk l).length + b.length) (by omega)) ?hp fun _ => ?_; (case hp => (repeat (first | exact Picks.nil | (apply Picks.cons; (focus repeat constructor))))); (try simp only [ca_, na_, Bool.not_true, Bool.not_false]))
  refine dR () ?_
  refine .ex (a', c') (.all ?_)
  (try simp only [ca_, na_])
  have hp8 : (ee l).length % 8 = 0 := by rw [fd]; omega
  have cL : (ee l ++ ub b).length = 8 * ((pk l).length + b.length) := by rw [List.length_append, fd, fp]; omega
  rw [BY hp8, DP, cL, List.length_append, List.map_append, show ((8 * ((pk l).length + b.length) : Nat) : Int) = 8 * (((pk l).length + b.length : Nat) : Int) by norm_cast]
  exact .pick .here (.pick .here (.pu (by omega) (.pick .here .refl)))
def pN (p:Nat)(b:List UInt8)(at_:Nat):HP:=ex fun q:Option Addr × Nat=>all [pt p (.cells #[.slice q.1 b.length q.2,.int .i64 (at_:Int),.bool true] 229),Sl 1 5 q.1 q.2 b.length (b.map B),pu (at_<=8 * b.length/\b.length<=140737488355328)]
theorem jH {W:World}{p:Nat}{a b:Value}{m:Bool}:Cn p_ 183 [.pointer (some ⟨p,0,none⟩)] W [pt p (.cells #[a,b,.bool m] 229)] (fun _:Unit=> .bool (!m)) (fun _=>[pt p (.cells #[a,b,.bool m] 229)]):=by
 (refine Shp.cn (Sg.g_ Tryz.call183 Tryz.func183) fun F=>?_;simp only[ca_,na_])
 refine o_ qz ?_;refine ae (ae (o_ au (ae (o_ aj (ae (bJ ?_))))));refine ae (o_ fU (o_ ag ?_))
 (refine aR Unit.unit (by rfl) ?_;(repeat(first|exact .refl|exact .nil|(apply Imp.pick;(focus ((repeat constructor);done)))|refine .drop ?_)))
theorem Ai {W:World}{p n c at_:Nat}{a:Option Addr}{m:Value}(hn:n<=140737488355328)(ha:at_<=8 * n):Cn p_ 184 [.pointer (some ⟨p,0,none⟩)] W [pt p (.cells #[.slice a n c,.int .i64 (at_:Int),m] 229)] (fun _:Unit=> .int .i64 (8 * (n:Int)-at_)) (fun _=>[pt p (.cells #[.slice a n c,.int .i64 (at_:Int),m] 229)]):=by
 (refine Shp.cn (Sg.g_ Tryz.call184 Tryz.func184 (an:={drs:=[(1,.ofL [(0,1),(1,1),(2,1),(3,1),(4,1),(5,1),(6,1),(7,1),(8,1),(9,1),(10,1),(11,1)])]})) fun F=>?_;simp only[ca_,na_])
 refine bA (t_ au (t_ aj (ew ?_)));refine t_ aC ?_;(refine t_ (eh (by omega) (by omega)) ?_);refine t_ au (t_ aj (ew ?_));(refine t_ (dv (by omega) (by omega)) ?_)
 (refine aR Unit.unit (by rfl) ?_;(repeat(first|exact .refl|exact .nil|(apply Imp.pick;(focus ((repeat constructor);done)))|refine .drop ?_)))
theorem KG {W:World}{p at_:Nat}{b:List UInt8}{v:Bool}(hv:(ub b)[at_]? =some v):Cn p_ 215 [.pointer (some ⟨p,0,none⟩)] W [pN p b at_] (fun _:Unit=> .int .i64 (v.toNat:Int)) (fun _=>[pN p b (at_+1)]):=by
 (refine Shp.cn (Sg.g_ Tryz.call215 Tryz.func215 (an:={drs:=[(1,.ofL [(0,1),(1,1),(2,1),(3,1),(4,1),(5,1),(6,1),(7,1),(8,1),(9,1),(10,1),(11,1),(12,1),(13,1),(14,1),(15,1),(16,1),(17,1),(18,1),(19,1),(20,1)])]})) fun F=>?_;simp only[ca_,na_])
 refine aH Pick.here fun q=>?_
 obtain⟨qa,qc⟩:=q
 refine ap Pick.here ?_
 refine aq ?_
 refine aG (.there (.there .here)) fun hL=>?_
 have hlt:at_<8 * b.length:=by
  rw[<- fp]
  rcases Nat.lt_or_ge at_ (ub b).length with h|h
  ·exact h
  ·rw[List.getElem?_eq_none h]at hv;cases hv
 have h8:at_ / 8<b.length:=by omega
 rw[yO h8]at hv
 have hv':=Option.some.inj hv
 refine dA (.there .here) (by omega) fun g hg=>?_
 subst hg
 refine bA (t_ au (t_ aj (ew ?_)));refine t_ au (t_ aj (ew ?_));(((refine t_ (hH ?h1 ?h2 ?h3) ?_);(case h1=>omega);(case h2=>omega);(case h3=>omega)))
 refine t_ (bj (at_ / 8) (by norm_cast) (by omega)) ?_
 refine aT (cI (v:=B b[at_ / 8]) (by rw[Nat.zero_add];exact wi h8)) (.pick (.there .here) .nil) ?_
 refine t_ au (t_ aj (ew ?_));(((refine t_ (mH ?h1 ?h2) ?_);(case h1=>omega);(case h2=>omega)))
 have hb:=b[at_ / 8].toNat_lt
 refine t_ br ?_
 rw[show((at_:Int)%8)=((at_%8:Nat):Int) by norm_cast,i8 (by omega)]
 refine t_ (eQ (by omega)) ?_
 rw[Pd (by omega)]
 refine t_ fT ?_
 have hdiv:b[at_ / 8].toNat / 2^(at_%8)<=b[at_ / 8].toNat:=Nat.div_le_self _ _
 rw[DQ (by omega),i9,hv']
 refine t_ br ?_
 rw[mx (by omega) (by cases v <;> simp)]
 refine o_ au (o_ aj (bJ ?_));refine bG ?_;refine o_ au (o_ aj (eE ?_))
 refine aR () rfl ?_
 refine .ex (some ⟨g,0,none⟩,qc) (.all ?_)
 refine aq ?_
 rw[show((at_+1:Nat):Int)=(at_:Int)+1 by norm_cast]
 exact .pick .here (.pick .here (.pu ⟨by omega,hL.2⟩ .refl))
theorem B3 {W:World}{a:Option Addr}{cap:Nat}{b:List UInt8}{A:HP}(hr:RdB W A a b.length (b.map B))(ha:a=none->b.length=0)(hb:b.length<=140737488355328):
  Cn p_ 133 [.slice a b.length cap] W [A] (fun p:Nat=> .pointer (some ⟨p,0,none⟩)) (fun p=>[pN p b 0,A]):=by
 (refine Shp.cn (Sg.g_ Tryz.call133 Tryz.func133) fun F=>?_;simp only[ca_,na_])
 refine cU (s:=1) (e:=5) ?_
 refine bO (m:=b.length) (news:=b.map B) .here (dF (A:=A) (e':=5) (by kernel_rfl) (.there .here) hr ha dY) (by omega) (by omega) fun a' c'=>?_
 rw[Nat.zero_add,List.nil_append]
 refine o_ b_ ?_;refine o_ b_ ?_;refine bV fun g=>?_
 refine aR g rfl ?_
 refine .ex (a',c') (.all ?_)
 refine aq ?_
 exact .pick .here (.pick .here (.pu ⟨by omega,hb⟩ (.pick .here .refl)))
theorem left {W:World}{p at_:Nat}{b:List UInt8}:Cn p_ 139 [.pointer (some ⟨p,0,none⟩)] W [pN p b at_] (fun _:Unit=> .int .i64 (8 * (b.length:Int)-at_)) (fun _=>[pN p b at_]):=by
 (refine Shp.cn (Sg.g_ Tryz.call139 Tryz.func139) fun F=>?_;simp only[ca_,na_])
 refine aH Pick.here fun q=>?_
 obtain⟨qa,qc⟩:=q
 refine ap Pick.here ?_
 refine aq ?_
 refine aG (.there (.there .here)) fun hL=>?_
 refine c_ jH fun _=>?_
 refine aa (o_ au (o_ aj (c_ (Ai hL.2 hL.1) fun _=>?_)))
 refine bq () ?_
 refine .ex (qa,qc) (.all ?_)
 refine aq ?_
 exact .pick .here (.pick .here (.pu hL .refl))
def bQ (b:List UInt8)(at_:Nat)(k:Int):Int:=if k<0\/32<k then 1 else if 8 * (b.length:Int)-at_<k then 20 else 0
def bE (b:List UInt8)(at_:Nat)(k:Int):Nat:=if bQ b at_ k=0 then DR (ub b) at_ k.toNat else 0
def aN (b:List UInt8)(at_:Nat)(k:Int):Nat:=if bQ b at_ k=0 then at_+k.toNat else at_
theorem take {W:World}{p at_:Nat}{b:List UInt8}{k:Int}:Cn p_ 182 [.pointer (some ⟨p,0,none⟩),.int .i64 k] W [pN p b at_] (fun _:Unit=> .tuple #[.int .i64 (bE b at_ k:Int),.int .i64 (bQ b at_ k)]) (fun _=>[pN p b (aN b at_ k)]):=by
 (refine Shp.cn (Sg.g_ Tryz.call182 Tryz.func182 (an:={cuts:=[(4,[8])],loops:=[(9,[6,23])]})) fun F=>?_;simp only[ca_,na_])
 refine dD (fun z=>pN p b at_::pu (z= .bool (decide (k<0\/32<k)))::F) ?_ ?_
 ·intro ds z
  refine aG (.there .here) fun hz=>?_
  subst hz
  by_cases hb:k<0\/32<k
  ·rw[dT_ hb]
   have hR:bQ b at_ k=1:=by simp[bQ,hb]
   rw[hR,show bE b at_ k=0 by simp[bE,hR],show aN b at_ k=at_ by simp[aN,hR]]
   refine ab (bq () ?_)
   exact aw
  ·rw[dF_ hb]
   refine aH Pick.here fun q=>?_
   obtain⟨qa,qc⟩:=q
   refine ap Pick.here ?_
   refine aq ?_
   refine aG (.there (.there .here)) fun hL=>?_
   refine aa (o_ au (o_ aj (c_ (Ai hL.2 hL.1) fun _=>?_)))
   refine ay aV .nil (fun h=>?_) (fun h=>?_)
   ·(refine ab ?_)
    have hR:bQ b at_ k=20:=by simp[bQ,hb,h]
    rw[hR,show bE b at_ k=0 by simp[bE,hR],show aN b at_ k=at_ by simp[aN,hR]]
    refine bq () ?_
    refine .ex (qa,qc) (.all ?_)
    refine aq ?_
    exact .pick .here (.pick .here (.pu hL .refl))
   ·(refine aa ?_)
    have hR:bQ b at_ k=0:=by simp[bQ,hb,h]
    rw[hR,show bE b at_ k=DR (ub b) at_ k.toNat by simp[bE,hR],show aN b at_ k=at_+k.toNat by simp[aN,hR]]
    obtain⟨K,rfl⟩:=Int.eq_ofNat_of_zero_le (show 0<=k by omega)
    rw[Int.toNat_natCast]
    refine bI (fun m x y=>[ex fun i:Nat=>all [pu (m+i=K/\y= .int .i64 (i:Int)/\x= .int .i64 (DR (ub b) at_ i:Int)),pN p b (at_+i)]]++F) K ?_ ?_
    ·refine Imp.ex 0 (.all ?_)
     refine aq ?_
     refine .pu ⟨by omega,rfl,by rw[wI];rfl⟩ (.ex (qa,qc) (.all ?_))
     refine aq ?_
     exact .pick .here (.pick .here (.pu hL .refl))
    ·intro m ds x y
     refine aq ?_
     refine aH Pick.here fun i=>ap Pick.here ?_
     refine aq ?_
     refine aG Pick.here fun hi=>?_
     obtain⟨hm,rfl,rfl⟩:=hi
     refine ay az .nil (fun h=>?_) (fun h=>?_)
     ·have hik:i<K:=by omega
      obtain⟨v,hv⟩:∃v,(ub b)[at_+i]? =some v:=⟨_,List.getElem?_eq_getElem (by rw[fp];omega)⟩
      refine ab (o_ au (o_ aj (c_ (KG hv) fun _=>?_)))
      refine o_ br ?_
      rw[i8 (by omega)]
      refine o_ (fS (by omega)) ?_
      have hmin:min ((i:Int)).toNat IntKind.i64.bits=i:=by simp only[IntKind.bits,Int.toNat_natCast];omega
      have hp:2^i<=2^32:=Nat.pow_le_pow_right (by omega) (by omega)
      have hc:(v.toNat:Int) * 2^i=((v.toNat * 2^i:Nat):Int):=by norm_cast
      have hle:v.toNat * 2^i<=2^i:=by cases v <;> simp
      obtain⟨E,hE⟩:∃E,E=v.toNat * 2^i:=⟨_,rfl⟩
      rw[hmin,hc,<- hE,mx (by omega) (by omega)]
      refine o_ sH ?_
      rw[hE,DS (by omega) (oe _ _ _),<- wH hv]
      refine bG ?_
      refine bo (m-1) (by omega) (.ex (i+1) (.all ?_))
      refine aq ?_
      refine .pu (by refine⟨by omega,?_⟩;first|trivial|exact⟨by norm_cast,trivial⟩|norm_cast) ?_
      rw[<- Nat.add_assoc]
      exact aw
     ·have:i=K:=by omega
      subst this
      refine aa (bq () ?_)
      exact aw
 ·refine aH Pick.here fun q=>?_
  obtain⟨qa,qc⟩:=q
  refine ap Pick.here ?_
  refine aq ?_
  refine aG (.there (.there .here)) fun hL=>?_
  refine c_ jH fun _=>?_
  refine aa ?_
  have fin:∀z:Value,z= .bool (decide (k<0\/32<k))->aZ W (pt p (.cells #[.slice qa b.length qc,.int .i64 (at_:Int),.bool true] 229)::Sl 1 5 qa qc b.length (b.map B)::F) (fun w=>sat W (pN p b at_::pu (z= .bool (decide (k<0\/32<k)))::F) w):=fun z hz=>aD (.ex (qa,qc) (.all (.pick .here (.pick .here (.pu hL (.pu hz .refl))))))
  refine ay az .nil (fun h=>?_) (fun h=>?_)
  ·(refine ab ?_)
   exact fin _ (by rw[dT_ (.inl h)])
  ·(refine aa ?_)
   refine o_ aV (fin _ ?_)
   congr 1
   exact decide_eq_decide.2 ⟨fun h=> .inr h,fun h'=>h'.resolve_left h⟩
theorem KH {W:World}{p at_:Nat}{b:List UInt8}:Cn p_ 171 [.pointer (some ⟨p,0,none⟩)] W [pN p b at_] (fun _:Unit=> .tuple #[]) (fun _=>[pN p b ((at_+7) / 8 * 8)]):=by
 (refine Shp.cn (Sg.g_ Tryz.call171 Tryz.func171) fun F=>?_;simp only[ca_,na_])
 refine aH Pick.here fun q=>?_
 obtain⟨qa,qc⟩:=q
 refine ap Pick.here ?_
 refine aq ?_
 refine aG (.there (.there .here)) fun hL=>?_
 refine c_ jH fun _=>?_
 refine o_ dh (ab (o_ au (o_ aj (o_ aj (bJ ?_)))));refine bG ?_;(((refine o_ (hH ?h1 ?h2 ?h3) ?_);(case h1=>omega);(case h2=>omega);(case h3=>omega)));(refine o_ (eh (by omega) (by omega)) ?_);refine o_ au (o_ aj (o_ aj (eE ?_)))
 refine bq () ?_
 refine .ex (qa,qc) (.all ?_)
 refine aq ?_
 rw[show(((at_+7) / 8 * 8:Nat):Int)=((at_:Int)+7) / 8 * 8 by norm_cast]
 exact .pick .here (.pick .here (.pu ⟨by omega,hL.2⟩ .refl))
def lim (k:Int):Nat:=(if 32<k then 32 else k).toNat
theorem KI (k:Int):lim k<=32:=by unfold lim;split <;> omega
theorem KJ (k:Int):(if(0:Int)<(if(32:Int)<k then 32 else k)then(if(32:Int)<k then 32 else k)else 0)=(lim k:Int):=by
 unfold lim;repeat' split <;> omega
theorem reverse {W:World}{n k:Int}:Cn p_ 238 [.int .i64 n,.int .i64 k] W [] (fun _:Unit=> .int .i64 (rv n (lim k):Int)) (fun _=>[]):=by
 (refine Shp.cn (Sg.g_ Tryz.call238 Tryz.func238 (an:={loops:=[(3,[5,10])]})) fun F=>?_;simp only[ca_,na_])
 have hK:=KI k
 refine o_ qx (o_ zN ?_)
 rw[KJ]
 obtain⟨K,hKe⟩:∃K,K=lim k:=⟨_,rfl⟩
 rw[<- hKe]at hK
 rw[<- hKe]
 refine bI (fun m x y=>[ex fun i:Nat=>pu (m+i=K/\y= .int .i64 (i:Int)/\x= .int .i64 (rv n i:Int))]++F) K ?_ ?_
 ·exact Imp.ex 0 (.pu ⟨by omega,rfl,rfl⟩ .refl)
 ·intro m ds x y
  refine aq ?_
  refine aH Pick.here fun i=>aG Pick.here fun hi=>?_
  obtain⟨hm,rfl,rfl⟩:=hi
  refine ay az .nil (fun h=>?_) (fun h=>?_)
  ·have hik:i<K:=by omega
   have hr:=I8 n i
   have hp:2^i<=2^31:=Nat.pow_le_pow_right (by omega) (by omega)
   refine ab (o_ (fS (by omega)) ?_)
   rw[show(rv n i:Int) * 2^(min ((1:Int)).toNat IntKind.i64.bits)=((rv n i * 2:Nat):Int) by norm_cast,mx (by omega) (by omega)]
   refine o_ br ?_
   rw[i8 (by omega)]
   refine o_ (eQ (by omega)) ?_
   rw[Ss (by omega)]
   refine o_ fT ?_
   rw[Pe,<- B0]
   refine o_ sH ?_
   rw[DV (by omega),<- G4]
   refine bG ?_
   exact bo (m-1) (by omega) (.ex (i+1) (.pu (by refine⟨by omega,?_⟩;first|trivial|norm_cast) .refl))
  ·have:i=K:=by omega
   subst this
   refine aa (bq () ?_)
   exact .refl
theorem RdB.none {W:World}{A:HP}{a:Option Addr}{n:Nat}{cs:List Value}(h:RdB W A a n cs)(c:a=none):n=0:=by
 rcases Nat.eq_zero_or_pos n with z|z
 ·exact z
 ·obtain⟨_,_,e,_⟩:=h.at_ z
  rw[c]at e;cases e
def tK (p:Nat)(b:List UInt8)(at_:Nat):HP:=ex fun q:Option Addr × Nat=>all [pt p (.cells #[.slice q.1 b.length q.2,.int .i64 (at_:Int)] 203),Sl 1 5 q.1 q.2 b.length (b.map B),pu (at_<=8 * b.length/\b.length<=140737488355328)]
def ss (b:List UInt8)(at_:Nat)(n:Int):Int:=if n<0 then 1 else if(b.length:Int)-((at_+7) / 8:Nat)<n then 20 else 0
def jz (b:List UInt8)(at_:Nat)(n:Int):List UInt8:=if ss b at_ n=0 then(b.drop ((at_+7) / 8)).take n.toNat else []
def jI (b:List UInt8)(at_:Nat)(n:Int):Nat:=if ss b at_ n=0 then 8 * ((at_+7) / 8+n.toNat)else at_
theorem Sv {W:World}{p at_:Nat}{b:List UInt8}{n:Int}:Cn p_ 174 [.pointer (some ⟨p,0,none⟩),.int .i64 n] W [pN p b at_] (fun q:Option Addr × Nat=> .tuple #[.slice q.1 (jz b at_ n).length q.2,.int .i64 (ss b at_ n)]) (fun q=>[Sl 1 5 q.1 q.2 (jz b at_ n).length ((jz b at_ n).map B),pN p b (jI b at_ n)]):=by
 (refine Shp.cn (Sg.g_ Tryz.call174 Tryz.func174) fun F=>?_;simp only[ca_,na_])
 refine aH Pick.here fun q=>?_
 obtain⟨qa,qc⟩:=q
 refine ap Pick.here ?_
 refine aq ?_
 refine aG (.there (.there .here)) fun hL=>?_
 refine c_ jH fun _=>?_
 refine ae (ae (ay az .nil (fun h=>?_) (fun h=>?_)))
 ·have hR:ss b at_ n=1:=by simp[ss,h]
  have hB:jz b at_ n=[]:=by simp[jz,hR]
  have hA:jI b at_ n=at_:=by simp[jI,hR]
  rw[hR,hB,hA]
  refine o_ ag (ab (bq ((none,0)) ?_))
  refine bR (.ex (qa,qc) (.all ?_))
  refine aq ?_
  exact .pick .here (.pick .here (.pu hL .refl))
 ·(refine o_ ag ?_);refine aa ?_;refine o_ au ?_;refine o_ aj ?_;refine o_ aj ?_;refine bJ ?_;refine bG ?_;(((refine o_ (hH ?h1 ?h2 ?h3) ?_);(case h1=>omega);(case h2=>omega);(case h3=>omega)));refine o_ au ?_;refine o_ aj ?_;refine o_ aj ?_;refine bJ ?_;refine o_ aC ?_;refine dX ?_
  have h0:=h
  refine ay aV .nil (fun h=>?_) (fun h=>?_)
  ·have hR:ss b at_ n=20:=by rw[ss,if_neg h0,if_pos (by push_cast;omega)]
   have hB:jz b at_ n=[]:=by simp[jz,hR]
   have hA:jI b at_ n=at_:=by simp[jI,hR]
   rw[hR,hB,hA]
   refine ab (bq ((none,0)) ?_)
   refine bR (.ex (qa,qc) (.all ?_))
   refine aq ?_
   exact .pick .here (.pick .here (.pu hL .refl))
  ·have hR:ss b at_ n=0:=by rw[ss,if_neg h0,if_neg (by push_cast;omega)]
   obtain⟨N,rfl⟩:=Int.eq_ofNat_of_zero_le (show 0<=n by omega)
   have hB:jz b at_ N=(b.drop ((at_+7) / 8)).take N:=by simp[jz,hR]
   have hA:jI b at_ N=8 * ((at_+7) / 8+N):=by simp[jI,hR]
   have hN:(at_+7) / 8+N<=b.length:=by omega
   have hBl:(jz b at_ N).length=N:=by rw[hB,List.length_take,List.length_drop];omega
   rw[hR,hA]
   refine aF (.there .here) fun f1 f2 f3 f4=>?_
   refine aa (bG ?_);(refine o_ (eh (by omega) (by omega)) ?_);refine o_ au (o_ aj (o_ aj (eE ?_)));refine o_ au (o_ aj (o_ aj (bJ ?_)));refine bG ?_
   refine o_ (tq ((at_+7) / 8) ((at_+7) / 8+N) (by norm_cast) (by norm_cast) (by omega) (by omega)) ?_
   have hcut:=(cq (W:=W) (e:=5) (cap:=qc) (cs:=b.map B) (by simp) f4).cut (cap:=qc) (l:=(at_+7) / 8) (h:=(at_+7) / 8+N) (by omega) (by omega) (by omega)
   refine cU (s:=1) (e:=5) ?_
   refine bO (m:=(at_+7) / 8+N-(at_+7) / 8) .here (dF (e':=5) (by kernel_rfl) (.there (.there .here)) hcut (RdB.none hcut) (fun u hu=>dY u (List.mem_of_mem_drop (List.mem_of_mem_take hu)))) (by omega) (by omega) fun a' c'=>?_
   rw[List.nil_append,Nat.zero_add,Nat.add_sub_cancel_left,<- List.map_drop,<- List.map_take,<- hB]
   refine aR (a',c') (by rw[hBl]) ?_
   rw[hBl]
   refine .pick (by repeat constructor) (.ex (qa,qc) (.all ?_))
   refine aq ?_
   rw[show((8 * ((at_+7) / 8+N):Nat):Int)=8 * (((at_:Int)+7) / 8+N) by norm_cast]
   exact .pick (by repeat constructor) (.pick (by repeat constructor) (.pu (by omega) .refl))
theorem KK (b:List UInt8)(t:Nat)(n:Int):(jz b t n).length<=b.length:=by
 unfold jz;split <;> simp <;> omega
theorem Sw {W:World}{a:Option Addr}{cap:Nat}{b:List UInt8}{A:HP}(hr:RdB W A a b.length (b.map B))(ha:a=none->b.length=0)(hb:b.length<=140737488355328):
  Cn p_ 142 [.slice a b.length cap] W [A] (fun p:Nat=> .pointer (some ⟨p,0,none⟩)) (fun p=>[tK p b 0,A]):=by
 (refine Shp.cn (Sg.g_ Tryz.call142 Tryz.func142) fun F=>?_;simp only[ca_,na_])
 refine f_ (vs:=[]) rfl rfl (by simp) (by omega) fun g0=>?_
 refine tj (s:=1) (n:=0) .here (by rfl) (by unfold maxLen;omega) ?_
 refine bO (m:=b.length) (news:=b.map B) .here (dF (A:=A) (e':=5) (by kernel_rfl) (.there .here) hr ha dY) (by omega) (by omega) fun a' c'=>?_
 rw[Nat.zero_add,List.nil_append]
 refine o_ b_ ?_;refine bV fun g=>?_
 refine aR g rfl ?_
 refine .ex (a',c') (.all ?_)
 refine aq ?_
 exact .pick .here (.pick .here (.pu ⟨by omega,hb⟩ (.pick .here .refl)))
theorem Ph {W:World}{p at_:Nat}{b:List UInt8}:Cn p_ 216 [.pointer (some ⟨p,0,none⟩)] W [tK p b at_] (fun _:Unit=> .int .i64 (8 * (b.length:Int)-at_)) (fun _=>[tK p b at_]):=by
 (refine Shp.cn (Sg.g_ Tryz.call216 Tryz.func216 (an:={drs:=[(1,.ofL [(0,1),(1,1),(2,1),(3,1),(4,1),(5,1),(6,1),(7,1),(8,1),(9,1),(10,1),(11,1)])]})) fun F=>?_;simp only[ca_,na_])
 refine aH Pick.here fun q=>?_
 obtain⟨qa,qc⟩:=q
 refine ap Pick.here ?_
 refine aq ?_
 refine aG (.there (.there .here)) fun hL=>?_
 refine bA (t_ au (t_ aj (ew ?_)));refine t_ aC ?_;(refine t_ (eh (by omega) (by omega)) ?_);refine t_ au (t_ aj (ew ?_));(refine t_ (dv (by omega) (by omega)) ?_)
 refine bq () ?_
 refine .ex (qa,qc) (.all ?_)
 refine aq ?_
 exact .pick .here (.pick .here (.pu hL .refl))
theorem KL {W:World}{p at_:Nat}{b:List UInt8}:Cn p_ 186 [.pointer (some ⟨p,0,none⟩)] W [tK p b at_] (fun _:Unit=> .tuple #[]) (fun _=>[tK p b ((at_+7) / 8 * 8)]):=by
 (refine Shp.cn (Sg.g_ Tryz.call186 Tryz.func186) fun F=>?_;simp only[ca_,na_])
 refine aH Pick.here fun q=>?_
 obtain⟨qa,qc⟩:=q
 refine ap Pick.here ?_
 refine aq ?_
 refine aG (.there (.there .here)) fun hL=>?_
 refine o_ au (o_ aj (bJ ?_));refine bG ?_;(((refine o_ (hH ?h1 ?h2 ?h3) ?_);(case h1=>omega);(case h2=>omega);(case h3=>omega)));(refine o_ (eh (by omega) (by omega)) ?_);refine o_ au (o_ aj (eE ?_))
 refine bq () ?_
 refine .ex (qa,qc) (.all ?_)
 refine aq ?_
 rw[show(((at_+7) / 8 * 8:Nat):Int)=((at_:Int)+7) / 8 * 8 by norm_cast]
 exact .pick .here (.pick .here (.pu ⟨by omega,hL.2⟩ .refl))
theorem Sx {W:World}{p at_:Nat}{b:List UInt8}{n:Int}:Cn p_ 187 [.pointer (some ⟨p,0,none⟩),.int .i64 n] W [tK p b at_] (fun q:Option Addr × Nat=> .tuple #[.slice q.1 (jz b at_ n).length q.2,.int .i64 (ss b at_ n)]) (fun q=>[Sl 1 5 q.1 q.2 (jz b at_ n).length ((jz b at_ n).map B),tK p b (jI b at_ n)]):=by
 (refine Shp.cn (Sg.g_ Tryz.call187 Tryz.func187) fun F=>?_;simp only[ca_,na_])
 refine aH Pick.here fun q=>?_
 obtain⟨qa,qc⟩:=q
 refine ap Pick.here ?_
 refine aq ?_
 refine aG (.there (.there .here)) fun hL=>?_
 refine ay az .nil (fun h=>?_) (fun h=>?_)
 ·have hR:ss b at_ n=1:=by simp[ss,h]
  have hB:jz b at_ n=[]:=by simp[jz,hR]
  have hA:jI b at_ n=at_:=by simp[jI,hR]
  rw[hR,hB,hA]
  refine ab (bq ((none,0)) ?_)
  refine bR (.ex (qa,qc) (.all ?_))
  refine aq ?_
  exact .pick .here (.pick .here (.pu hL .refl))
 ·(refine aa ?_);refine o_ au ?_;refine o_ aj ?_;refine bJ ?_;refine bG ?_;(((refine o_ (hH ?h1 ?h2 ?h3) ?_);(case h1=>omega);(case h2=>omega);(case h3=>omega)));refine o_ au ?_;refine o_ aj ?_;refine bJ ?_;refine o_ aC ?_;refine dX ?_
  have h0:=h
  refine ay aV .nil (fun h=>?_) (fun h=>?_)
  ·have hR:ss b at_ n=20:=by rw[ss,if_neg h0,if_pos (by push_cast;omega)]
   have hB:jz b at_ n=[]:=by simp[jz,hR]
   have hA:jI b at_ n=at_:=by simp[jI,hR]
   rw[hR,hB,hA]
   refine ab (bq ((none,0)) ?_)
   refine bR (.ex (qa,qc) (.all ?_))
   refine aq ?_
   exact .pick .here (.pick .here (.pu hL .refl))
  ·have hR:ss b at_ n=0:=by rw[ss,if_neg h0,if_neg (by push_cast;omega)]
   obtain⟨N,rfl⟩:=Int.eq_ofNat_of_zero_le (show 0<=n by omega)
   have hB:jz b at_ N=(b.drop ((at_+7) / 8)).take N:=by simp[jz,hR]
   have hA:jI b at_ N=8 * ((at_+7) / 8+N):=by simp[jI,hR]
   have hN:(at_+7) / 8+N<=b.length:=by omega
   have hBl:(jz b at_ N).length=N:=by rw[hB,List.length_take,List.length_drop];omega
   rw[hR,hA]
   refine aF (.there .here) fun f1 f2 f3 f4=>?_
   refine aa (bG ?_)
   refine o_ (eh (by omega) (by omega)) ?_
   refine o_ au (o_ aj ?_)
   ((refine' eR ?hp ?ho ?_);(case hp=>(repeat constructor));(case ho=>repeat constructor))
   refine f_ (vs:=[]) rfl rfl (by simp) (by omega) fun g0=>?_
   refine tj (s:=1) (n:=0) .here (by rfl) (by unfold maxLen;omega) ?_
   refine o_ au (o_ aj (bJ ?_));refine bG ?_
   refine o_ (tq ((at_+7) / 8) ((at_+7) / 8+N) (by norm_cast) (by norm_cast) (by omega) (by omega)) ?_
   have hcut:=(cq (W:=W) (e:=5) (cap:=qc) (cs:=b.map B) (by simp) f4).cut (cap:=qc) (l:=(at_+7) / 8) (h:=(at_+7) / 8+N) (by omega) (by omega) (by omega)
   refine bO (m:=(at_+7) / 8+N-(at_+7) / 8) .here (dF (e':=5) (by kernel_rfl) (.there (.there .here)) hcut (RdB.none hcut) (fun u hu=>dY u (List.mem_of_mem_drop (List.mem_of_mem_take hu)))) (by omega) (by omega) fun a' c'=>?_
   rw[List.nil_append,Nat.zero_add,Nat.add_sub_cancel_left,<- List.map_drop,<- List.map_take,<- hB]
   refine aR (a',c') (by rw[hBl]) ?_
   rw[hBl]
   refine .pick (by repeat constructor) (.ex (qa,qc) (.all ?_))
   refine aq ?_
   rw[show((8 * ((at_+7) / 8+N):Nat):Int)=8 * (((at_:Int)+7) / 8+N) by norm_cast]
   exact .pick (by repeat constructor) (.pick (by repeat constructor) (.pu (by omega) .refl))
theorem I9 {W:World}{p at_:Nat}{b:List UInt8}{k:Int}:Cn p_ 185 [.pointer (some ⟨p,0,none⟩),.int .i64 k] W [tK p b at_] (fun _:Unit=> .tuple #[.int .i64 (bE b at_ k:Int),.int .i64 (bQ b at_ k)]) (fun _=>[tK p b (aN b at_ k)]):=by
 (refine Shp.cn (Sg.g_ Tryz.call185 Tryz.func185 (an:={loops:=[(7,[6,7])],drs:=[(9,.ofL [(0,1),(1,1),(2,1),(3,1),(4,1),(5,1),(6,1),(7,1),(8,1),(9,1),(10,1),(11,1),(12,1),(13,1),(14,1),(15,1),(16,1),(17,1),(18,1),(19,1),(20,1),(21,1),(22,1),(23,1),(24,1),(25,1)])]})) fun F=>?_;simp only[ca_,na_])
 refine aH Pick.here fun q=>?_
 obtain⟨qa,qc⟩:=q
 refine ap Pick.here ?_
 refine aq ?_
 refine aG (.there (.there .here)) fun hL=>?_
 refine bF (M:=tK p b at_::F) (.ex (qa,qc) (.all (.pick .here (.pick .here (.pu hL .refl))))) ?_
 refine ay az .nil (fun h=>?_) (fun h=>?_)
 ·have hR:bQ b at_ k=1:=by simp[bQ,h]
  rw[hR,show bE b at_ k=0 by simp[bE,hR],show aN b at_ k=at_ by simp[aN,hR]]
  refine ao (ao (o_ ah (ab (bq () ?_))))
  exact aw
 have h0:=h
 refine ae (ae (ay aV .nil (fun h=>?_) (fun h=>?_)))
 ·have hR:bQ b at_ k=1:=by simp[bQ,h]
  rw[hR,show bE b at_ k=0 by simp[bE,hR],show aN b at_ k=at_ by simp[aN,hR]]
  refine o_ ag (ab (bq () ?_))
  exact aw
 have h1:=h
 have hb:¬(k<0\/32<k):=by omega
 refine o_ ag (aa (c_ Ph fun _=>?_))
 refine ay aV .nil (fun h=>?_) (fun h=>?_)
 ·have hR:bQ b at_ k=20:=by simp[bQ,hb,h]
  rw[hR,show bE b at_ k=0 by simp[bE,hR],show aN b at_ k=at_ by simp[aN,hR]]
  refine ab (bq () ?_)
  exact aw
 have h2:=h
 have hR:bQ b at_ k=0:=by simp[bQ,hb,h]
 rw[hR,show bE b at_ k=DR (ub b) at_ k.toNat by simp[bE,hR],show aN b at_ k=at_+k.toNat by simp[aN,hR]]
 obtain⟨K,rfl⟩:=Int.eq_ofNat_of_zero_le (show 0<=k by omega)
 rw[Int.toNat_natCast]
 refine aa (bI (fun m x y=>[ex fun i:Nat=>all [pu (m+i=K/\y= .int .i64 (i:Int)/\x= .int .i64 (DR (ub b) at_ i:Int)),tK p b (at_+i)]]++F) K ?_ ?_)
 ·refine Imp.ex 0 (.all ?_)
  refine aq ?_
  exact .pu ⟨by omega,rfl,by rw[wI];rfl⟩ .refl
 ·intro m ds x y
  refine aq ?_
  refine aH Pick.here fun i=>ap Pick.here ?_
  refine aq ?_
  refine aG Pick.here fun hi=>?_
  obtain⟨hm,rfl,rfl⟩:=hi
  refine ay az .nil (fun h=>?_) (fun h=>?_)
  ·have hik:i<K:=by omega
   obtain⟨v,hv⟩:∃v,(ub b)[at_+i]? =some v:=⟨_,List.getElem?_eq_getElem (by rw[fp];omega)⟩
   refine aH Pick.here fun q=>?_
   obtain⟨qa,qc⟩:=q
   refine ap Pick.here ?_
   refine aq ?_
   refine aG (.there (.there .here)) fun hL2=>?_
   have h8:(at_+i) / 8<b.length:=by omega
   have hv0:=hv
   rw[yO h8]at hv
   have hv':=Option.some.inj hv
   refine dA (.there .here) (by omega) fun g hg=>?_
   subst hg
   refine ab (bA (t_ au (t_ aj (ew ?_))));refine t_ au (t_ aj (ew ?_));(((refine t_ (hH ?h1 ?h2 ?h3) ?_);(case h1=>omega);(case h2=>omega);(case h3=>omega)))
   refine t_ (bj ((at_+i) / 8) (by norm_cast) (by omega)) ?_
   refine aT (cI (v:=B b[(at_+i) / 8]) (by rw[Nat.zero_add];exact wi h8)) (.pick (.there .here) .nil) ?_
   refine t_ au (t_ aj (ew ?_));(((refine t_ (mH ?h1 ?h2) ?_);(case h1=>omega);(case h2=>omega)))
   have hb:=b[(at_+i) / 8].toNat_lt
   refine t_ br ?_
   rw[show(((at_+i:Nat):Int)%8)=(((at_+i)%8:Nat):Int) by norm_cast,i8 (by omega)]
   refine t_ (eQ (by omega)) ?_
   rw[Pd (by omega)]
   refine t_ fT ?_
   have hdiv:b[(at_+i) / 8].toNat / 2^((at_+i)%8)<=b[(at_+i) / 8].toNat:=Nat.div_le_self _ _
   rw[DQ (by omega),i9,hv']
   refine t_ br ?_
   rw[mx (by omega) (by cases v <;> simp)]
   refine t_ br ?_
   rw[i8 (by omega)]
   refine t_ (fS (by omega)) ?_
   have hmin:min ((i:Int)).toNat IntKind.i64.bits=i:=by simp only[IntKind.bits,Int.toNat_natCast];omega
   have hp:2^i<=2^32:=Nat.pow_le_pow_right (by omega) (by omega)
   have hc:(v.toNat:Int) * 2^i=((v.toNat * 2^i:Nat):Int):=by norm_cast
   have hle:v.toNat * 2^i<=2^i:=by cases v <;> simp
   obtain⟨E,hE⟩:∃E,E=v.toNat * 2^i:=⟨_,rfl⟩
   rw[hmin,hc,<- hE,mx (by omega) (by omega)]
   refine t_ sH ?_
   rw[hE,DS (by omega) (oe _ _ _),<- wH hv0]
   refine o_ au (o_ aj (bJ ?_));refine bG ?_;refine o_ au (o_ aj (eE ?_));refine bG ?_
   refine bo (m-1) (by omega) (.ex (i+1) (.all ?_))
   refine aq ?_
   refine .pu (by refine⟨by omega,?_⟩;first|trivial|exact⟨by norm_cast,trivial⟩|norm_cast) (.ex (some ⟨g,0,none⟩,qc) (.all ?_))
   refine aq ?_
   rw[show((at_+(i+1):Nat):Int)=((at_+i:Nat):Int)+1 by norm_cast]
   exact .pick .here (.pick .here (.pu ⟨by omega,hL2.2⟩ .refl))
  ·have:i=K:=by omega
   subst this
   refine aa (bq () ?_)
   exact aw
end B
namespace HM
def cV:List Int->Nat->Nat
 |[],_=>0
 |x::l,j=>(if x=(j:Int)then 1 else 0)+cV l j
theorem fe (j:Nat):∀l m:List Int,cV (l++m) j=cV l j+cV m j
 |[],m=>by simp[cV]
 |x::l,m=>by simp[cV,fe j l m];omega
theorem uS (j:Nat):∀l:List Int,cV l j<=l.length
 |[]=>by simp[cV]
 |x::l=>by have:=uS j l;simp[cV];split <;> omega
theorem eT {l:List Int}{i:Nat}(h:i<l.length)(j:Nat):cV (l.take (i+1)) j=cV (l.take i) j+if l[i]=(j:Int)then 1 else 0:=by
 rw[List.take_succ_eq_append_getElem h,fe];simp[cV]
theorem py {l:List Int}{j:Nat}:∀ {a b:Nat},a<=b->cV (l.take a) j<=cV (l.take b) j:=fun {a b} h=>by
 have e:l.take b=l.take a++(l.take b).drop a:=by
  have:=(List.take_append_drop a (l.take b)).symm
  rwa [List.take_take,Nat.min_eq_left h]at this
 rw[e,fe];omega
theorem nk (l:List Int)(i j:Nat):cV (l.take i) j<=cV l j:=by
 have e:=(List.take_append_drop i l).symm
 have:cV l j=cV (l.take i) j+cV (l.drop i) j:=by rw[<- fe,<- e]
 omega
def room (l:List Int):Nat->Int
 |0=>1
 |k+1=>2 * room l k-cV l (k+1)
def nx (l:List Int):Nat->Nat
 |0=>0
 |1=>0
 |k+2=>2 * (nx l (k+1)+cV l (k+1))
def vR (l:List Int):Prop:=∀x∈l,0<=x/\x<=15
structure okL (l:List Int):Prop where
 len:l.length<=320
 ins:vR l
 room:0<=room l 15
instance (l:List Int):Decidable (vR l):=by unfold vR;infer_instance
instance (l:List Int):Decidable (okL l):=decidable_of_iff (l.length<=320/\vR l/\0<=HM.room l 15) ⟨fun⟨a,b,c⟩=>⟨a,b,c⟩,fun⟨a,b,c⟩=>⟨a,b,c⟩⟩
theorem Aj (l:List Int):∀k,((nx l (k+1)+cV l (k+1):Nat):Int)=2^(k+1)-room l (k+1)
 |0=>by simp[nx,room];omega
 |k+1=>by
  have ih:=Aj l k
  have e:(2:Int)^(k+1+1)=2 * 2^(k+1):=by rw[Int.pow_succ];omega
  rw[e]
  simp only[nx,room]at *
  push_cast at *
  omega
theorem wJ {l:List Int}{k:Nat}(h:room l k<0):∀m,room l (k+m)<0
 |0=>h
 |m+1=>by have:=wJ h m;rw[<- Nat.add_assoc];simp only[room];omega
theorem pz {l:List Int}{n k:Nat}(h:0<=room l n)(hk:k<=n):0<=room l k:=by
 rcases Int.lt_or_le (room l k) 0 with c|c
 ·have:=wJ c (n-k)
  rw[show k+(n-k)=n by omega]at this;omega
 ·exact c
theorem Ak (l : List Int) : ∀ k, room l k ≤ 2 ^ k
  | 0 => by simp [room]
  | k + 1 => by have := Ak l k; have e : (2 : Int) ^ (k + 1) = 2 * 2 ^ k := by rw [Int.pow_succ]; omega
                simp only [room]; omega
theorem okL.fit {l:List Int}(h:okL l){k:Nat}(hk:k+1<=15):nx l (k+1)+cV l (k+1)<=2^(k+1):=by
 have h1:=Aj l k
 have h2:=pz h.room hk
 have h3:((nx l (k+1)+cV l (k+1):Nat):Int)<=((2^(k+1):Nat):Int):=by push_cast at *;omega
 exact Int.ofNat_le.1 h3
theorem uT (l:List Int){n:Nat}(h:1<=n):nx l (n+1)=2 * (nx l n+cV l n):=by
 obtain⟨k,rfl⟩:∃k,n=k+1:=⟨n-1,by omega⟩
 rfl
def e8 (l:List Int)(n i:Nat):Nat:=nx l n+cV (l.take i) n
theorem kB {l:List Int}{n i:Nat}(h:i<l.length):e8 l n (i+1)=e8 l n i+if l[i]=(n:Int)then 1 else 0:=by
 unfold e8;rw[eT h];omega
theorem DW {l:List Int}{n:Nat}(h:1<=n):e8 l (n+1) 0=2 * e8 l n l.length:=by
 unfold e8;rw[uT l h];simp[cV]
theorem okL.cur_lt {l:List Int}(h:okL l){n i:Nat}(h1:1<=n)(h2:n<=15):e8 l n i<=2^n:=by
 obtain⟨k,rfl⟩:∃k,n=k+1:=⟨n-1,by omega⟩
 have:=h.fit h2
 have:=nk l i (k+1)
 unfold e8;omega
theorem okL.cur_lt' {l:List Int}(h:okL l){n i:Nat}(hi:i<l.length)(hn:l[i]=(n:Int))(h1:1<=n)(h2:n<=15):e8 l n i<2^n:=by
 have:=h.cur_lt (i:=i+1) h1 h2
 rw[kB hi,if_pos hn]at this;omega
def cv (l:List Int)(i:Nat):Nat:=match l[i]? with
 |some x=>if 0<x then e8 l x.toNat i else 0
 |none=>0
def eW (l:List Int):List Int:=(List.range l.length).map fun i=>(cv l i:Int)
theorem fF (l:List Int):(eW l).length=l.length:=by simp[eW]
theorem jJ {l:List Int}{i n:Nat}(h:i<l.length)(hn:l[i]=(n:Int))(h1:1<=n):cv l i=e8 l n i:=by
 unfold cv
 rw[List.getElem?_eq_getElem h]
 simp only
 rw[if_pos (by omega),hn,Int.toNat_natCast]
theorem pA {l:List Int}{i:Nat}(h:i<l.length)(hn:l[i]<=0):cv l i=0:=by
 unfold cv
 rw[List.getElem?_eq_getElem h]
 simp only
 rw[if_neg (by omega)]
def wk:List Int->Nat->Nat
 |[],_=>0
 |x::l,k=>(if 0<x/\x<=k then 2^(k-x.toNat)else 0)+wk l k
theorem Al (k:Nat):∀l:List Int,wk l (k+1)=2 * wk l k+cV l (k+1)
 |[]=>by simp[wk,cV]
 |x::l=>by
  have ih:=Al k l
  simp only[wk,cV,ih]
  by_cases h:0<x/\x<=k
  ·rw[if_pos h,if_pos ⟨h.1,by omega⟩,if_neg (by omega),show k+1-x.toNat=(k-x.toNat)+1 by omega,Nat.pow_succ];omega
  ·rw[if_neg h]
   by_cases h2:x=((k+1:Nat):Int)
   ·rw[if_pos (by omega),if_pos h2,show k+1-x.toNat=0 by omega];omega
   ·rw[if_neg (by omega),if_neg h2];omega
theorem Am:∀l:List Int,wk l 0=0
 |[]=>rfl
 |x::l=>by simp only[wk,Am l];rw[if_neg (by omega)]
theorem uW (l:List Int):∀k,room l k=2^k-wk l k
 |0=>by simp[room,Am]
 |k+1=>by
  have ih:=uW l k
  have e:(2:Int)^(k+1)=2 * 2^k:=by rw[Int.pow_succ];omega
  rw[Al,room,ih,e];push_cast;omega
theorem nl {l:List Int}:okL l↔l.length<=320/\vR l/\wk l 15<=32768:=by
 have:=uW l 15
 have e:(2:Int)^15=32768:=by decide
 rw[e]at this
 exact⟨fun h=>⟨h.len,h.ins,by have:=h.room;omega⟩,fun⟨a,b,c⟩=>⟨a,b,by omega⟩⟩
theorem B4 {l:List Int}:room l 15=0↔wk l 15=32768:=by
 have:=uW l 15
 have e:(2:Int)^15=32768:=by decide
 rw[e]at this
 omega

theorem I_ {l:List Int}{a:Nat}(ha:1<=a):∀d,(nx l a+cV l a) * 2^(d+1)<=nx l (a+(d+1))
 |0=>by rw[uT l ha];omega
 |d+1=>by
  have ih:=I_ (l:=l) ha d
  rw[show a+(d+1+1)=(a+(d+1))+1 by omega,uT l (by omega),Nat.pow_succ]
  have:(nx l a+cV l a) * (2^(d+1) * 2)=2 * ((nx l a+cV l a) * 2^(d+1)):=by rw[<- Nat.mul_assoc,Nat.mul_comm]
  rw[this];omega
theorem apart {l:List Int}{i k a b:Nat}(hi:i<l.length)(hk:k<l.length)(hne:i≠k)(ha:l[i]=(a:Int))(hb:l[k]=(b:Int))(h1:1<=a)(hab:a<=b):cv l k / 2^(b-a)≠cv l i:=by
 rw[jJ hi ha h1,jJ hk hb (by omega)]
 have c1:e8 l a i<nx l a+cV l a:=by
  have:=nk l (i+1) a
  rw[eT hi,if_pos ha]at this
  unfold e8;omega
 rcases Nat.lt_or_ge a b with h|h
 ·obtain⟨d,rfl⟩:∃d,b=a+(d+1):=⟨b-a-1,by omega⟩
  have:=I_ (l:=l) h1 d
  rw[show a+(d+1)-a=d+1 by omega]
  have c2:nx l a+cV l a<=e8 l (a+(d+1)) k / 2^(d+1):=(Nat.le_div_iff_mul_le (Nat.two_pow_pos _)).2 (Nat.le_trans this (by unfold e8;omega))
  omega
 ·obtain rfl:a=b:=by omega
  rw[Nat.sub_self,Nat.pow_zero,Nat.div_one]
  unfold e8
  rcases Nat.lt_or_gt_of_ne hne with c|c
  ·have:=py (l:=l) (j:=a) (show i+1<=k by omega)
   rw[eT hi,if_pos ha]at this;omega
  ·have:=py (l:=l) (j:=a) (show k+1<=i by omega)
   rw[eT hk,if_pos hb]at this;omega
end HM
namespace HF
open Go Go.Proofs Sh Sl T HM
def jK (f:Nat->Int):Array Value:=An 16 f
theorem Th:(#[.int .i64 0,.int .i64 0,.int .i64 0,.int .i64 0,.int .i64 0,.int .i64 0,.int .i64 0,.int .i64 0,.int .i64 0,.int .i64 0,.int .i64 0,.int .i64 0,.int .i64 0,.int .i64 0,.int .i64 0,.int .i64 0]:Array Value)=jK fun _=>0:=by rfl
theorem DX {f:Nat->Int}:∀u∈(jK f).toList,u.oneCell'=true:=by
 intro u hu
 simp only[jK,An]at hu
 obtain⟨j,_,rfl⟩:=List.mem_map.1 hu
 rfl
theorem ff {W:World}{a:Option Addr}{cap:Nat}{l:List Int}{A:HP}(hr:RdB W A a l.length (l.map I))(hl:l.length<=4611686018427387904):
  Cn p_ 214 [.slice a l.length cap] W [A] (fun f:Nat->Int=> .tuple #[.agg (jK f),.bool (decide (okL l))]) (fun f=>[pu ((okL l->∀j,j<16->f j=cV l j)/\∀j,0<=f j/\f j<=320),A]):=by
 (refine Shp.cn (Sg.g_ Tryz.call214 Tryz.func214 (an:={loops:=[(4,[15]),(12,[6,34])]})) fun F=>?_;simp only[ca_,na_])
 refine bp fun g=>?_;refine o_ aC ?_
 rw[Th]
 have fin:∀(f:Nat->Int) (b:Bool),b=decide (okL l)->(okL l->∀j,j<16->f j=cV l j)->(∀j,0<=f j/\f j<=320)->aZ W (pt g (.cells (jK f) 280 (0,0))::A::F) (opN p_ (aJ 280 (.pointer (some ⟨g,0,none⟩)) (.agg (jK f))) gH fun _=>
   (stS p_ (dG 280 (.pointer (some ⟨g,0,none⟩))) fun r0=>fun w=>∃x:Nat->Int,(.tuple #[r0,(.bool b)]:Value)= .tuple #[.agg (jK x),.bool (decide (okL l))]/\sat W ([pu ((okL l->∀j,j<16->x j=cV l j)/\∀j,0<=x j/\x j<=320),A]++F) w)):=by
  intro f b hb h1 h2
  refine bS .here (cF 16 f) (cF 16 f) DX ?_
  refine aT (cG (cF 16 f)) (.pick .here .nil) ?_
  subst hb
  refine aR f rfl ?_
  exact .pu ⟨h1,h2⟩ (.drop .refl)
 refine ay aV .nil (fun h=>?_) (fun h=>?_)
 ·(refine ab ?_);refine lG ?_
  refine fin _ _ (by rw[dF_ (fun c=>by have:=c.len;omega)]) (fun c=>by have:=c.len;omega) (fun j=>by omega)
 refine aa (o_ aC ?_)
 have cL:l.length<=320:=by omega
 refine a_ (fun m y=>[ex fun i:Nat=>all [pu (m+i=l.length/\y= .int .i64 (i:Int)/\∀k (hk:k<l.length),k<i->0<=l[k]/\l[k]<=15),pt g (.cells (jK fun j=>(cV (l.take i) j:Int)) 280 (0,0)),A]]++F) l.length ?_ ?_
 ·refine Imp.ex 0 (.all ?_)
  refine aq ?_
  exact .pu ⟨by omega,rfl,fun k hk h=>by omega⟩ .refl
 intro m ds y
 refine aq ?_
 refine aH Pick.here fun i=>ap Pick.here ?_
 refine aq ?_
 refine aG Pick.here fun hi=>?_
 obtain⟨hmi,rfl,hin⟩:=hi
 have hb320:∀j,(0:Int)<=(cV (l.take i) j:Int)/\(cV (l.take i) j:Int)<=320:=fun j=>by
  have:=uS j (l.take i)
  rw[List.length_take]at this;omega
 refine ay az .nil (fun h=>?_) (fun h=>?_)
 ·have hil:i<l.length:=by omega
  obtain⟨ga,oa,rfl,_⟩:=hr.at_ (by omega)
  refine ab (o_ (bj i (by rfl) hil) ?_)
  refine am (bP hr (dK hil)) (.pick (.there .here) .nil) ?_
  refine ay az .nil (fun h=>?_) (fun h=>?_)
  ·(refine ao ?_);refine ao ?_;refine o_ ah ?_;refine ab ?_;refine lG ?_
   exact fin _ _ (by rw[dF_ (fun c=>by have:=c.ins l[i] (List.getElem_mem hil);omega)]) (fun c=>by have:=c.ins l[i] (List.getElem_mem hil);omega) hb320
  have h0:=h
  refine ae (ae (ay aV .nil (fun h=>?_) (fun h=>?_)))
  ·(refine o_ ag ?_);refine ab ?_;refine lG ?_
   exact fin _ _ (by rw[dF_ (fun c=>by have:=c.ins l[i] (List.getElem_mem hil);omega)]) (fun c=>by have:=c.ins l[i] (List.getElem_mem hil);omega) hb320
  have h1:=h
  obtain⟨x,hx⟩:=Int.eq_ofNat_of_zero_le (show 0<=l[i] by omega)
  have hx15:x<16:=by omega
  refine o_ ag (aa (o_ (dm x hx hx15) ?_))
  rw[Nat.zero_add,Nat.mul_one]
  refine am (e_ (iG hx15)) (.pick .here .nil) ?_
  refine o_ (bU (by have:=hb320 x;omega) (by have:=hb320 x;omega)) ?_
  refine o_ (dm x hx hx15) ?_
  rw[Nat.zero_add,Nat.mul_one]
  refine l8 .here (by rw[jK,cF];exact hx15) ?_
  refine bG ?_
  refine aK (m-1) (by omega) (.ex (i+1) (.all ?_))
  refine aq ?_
  refine .pu ⟨by omega,by norm_cast,fun k hk hki=>?_⟩ ?_
  ·by_cases c:k=i
   ·subst c;omega
   ·exact hin k hk (by omega)
  ·have e:(jK fun j=>(cV (l.take i) j:Int)).setIfInBounds x (.int .i64 ((cV (l.take i) x:Int)+1))=jK fun j=>(cV (l.take (i+1)) j:Int):=by
    refine qG.trans (eu fun j hj=>?_)
    rw[eT hil]
    by_cases c:j=x
    ·subst c;rw[if_pos rfl,if_pos hx];push_cast;rfl
    ·rw[if_neg c,if_neg (by omega)];simp
   rw[e]
   exact aw
 ·have hie:i=l.length:=by omega
  subst hie
  rw[List.take_length]
  rw[List.take_length]at hb320
  have hins:vR l:=fun x hx=>by
   obtain⟨k,hk,rfl⟩:=List.mem_iff_getElem.1 hx
   exact hin k hk (by omega)
  refine aa (o_ (Di (l:=1) (by rfl) (by omega)) ?_)
  refine o_ aC ?_
  have hrd:RdB W (pt g (.cells (jK fun j=>(cV l j:Int)) 280 (0,0))) (some ⟨g,1 * 1,none⟩) 15 ((List.range 15).map fun j=>I (cV l (1+j))):=Dj (n:=16) (f:=fun j=>(cV l j:Int)) (tm (by simp)) (by omega)
  refine bI (fun m x y=>[all [pu (∃i:Nat,m+i=15/\i<=15/\y= .int .i64 (i:Int)/\x= .int .i64 (room l i)/\∀k,k<=i->0<=room l k),pt g (.cells (jK fun j=>(cV l j:Int)) 280 (0,0)),A]]++F) 15 ?_ ?_
  ·refine Imp.all ?_
   refine aq ?_
   exact .pu ⟨0,by omega,by omega,rfl,rfl,fun k hk=>by rw[show k=0 by omega];simp[room]⟩ .refl
  intro m ds x y
  refine aq ?_
  refine ap Pick.here ?_
  refine aq ?_
  refine aG Pick.here fun hi=>?_
  obtain⟨i,hmi,hi15,rfl,rfl,hrm⟩:=hi
  have hr0:=hrm i (Nat.le_refl _)
  have hr1:=Ak l i
  have h2i:(2:Int)^i<=32768:=by
   have h1:(2:Nat)^i<=32768:=Nat.le_trans (Nat.pow_le_pow_right (by omega) hi15) (by decide)
   have h2:((2^i:Nat):Int)=2^i:=Int.natCast_pow 2 i
   omega
  refine ay az .nil (fun h=>?_) (fun h=>?_)
  ·have hi14:i<15:=by omega
   refine ab (o_ (bj i (by rfl) (by omega)) ?_)
   refine am (bP hrd (v:=I (cV l (1+i))) (by rw[List.getElem?_map,List.getElem?_range hi14];rfl)) (.pick .here .nil) ?_
   have hc:=hb320 (1+i)
   (refine o_ (eh (by omega) (by omega)) ?_);refine dX ?_
   have hroom:2 * room l i-(cV l (1+i):Int)=room l (i+1):=by rw[room,Nat.add_comm 1 i]
   rw[hroom]
   refine ay az .nil (fun h=>?_) (fun h=>?_)
   ·(refine ab ?_);refine lG ?_
    exact fin _ _ (by rw[dF_ (fun c=>by have:=pz c.room (show i+1<=15 by omega);omega)]) (fun _ j _=>rfl) hb320
   ·refine aa (bG ?_)
    refine bo (m-1) (by omega) (.all ?_)
    refine aq ?_
    refine .pu ⟨i+1,by omega,by omega,by norm_cast,rfl,fun k hk=>?_⟩ .refl
    by_cases c:k=i+1
    ·subst c;omega
    ·exact hrm k (by omega)
  ·have hie:i=15:=by omega
   subst hie
   refine aa (lG ?_)
   exact fin _ _ (by rw[dT_ ⟨cL,hins,hr0⟩]) (fun _ j _=>rfl) hb320
def Ln (n:Nat)(f:Nat->Int):List Value:=(List.range n).map fun j=>I (f j)
theorem iJ (n:Nat)(f:Nat->Int):(Ln n f).length=n:=by simp[Ln]
theorem kC {n j:Nat}{f:Nat->Int}(h:j<n):(Ln n f)[j]? =some (I (f j)):=by simp[Ln,h]
theorem re {n:Nat}{f:Nat->Int}{m:List Value}(hm:m.length=n)(h:∀j,j<n->m[j]? =some (I (f j))):Ln n f=m:=by
 apply List.ext_getElem?
 intro j
 by_cases c:j<n
 ·rw[kC c,h j c]
 ·rw[List.getElem?_eq_none (by rw[iJ];omega),List.getElem?_eq_none (by omega)]
theorem d4 {n:Nat}{f g:Nat->Int}(h:∀j,j<n->f j=g j):Ln n f=Ln n g:=re (iJ n g) fun j hj=>by rw[kC hj,h j hj]
theorem oh {n j:Nat}{f:Nat->Int}{v:Int}:(Ln n f).set j (I v)=Ln n fun i=>if i=j then v else f i:=by
 refine(re (by simp[iJ]) fun i hi=>?_).symm
 rw[List.getElem?_set,iJ]
 by_cases c:j=i
 ·subst c;simp[hi]
 ·rw[if_neg c,kC hi,if_neg (fun e=>c e.symm)]
theorem dH (n:Nat):List.replicate n (.int .i64 0)=Ln n fun _=>0:=(re (by simp) fun j hj=>by rw[List.getElem?_replicate,if_pos hj];rfl).symm
def xZ (l:List Int):Int:=if okL l then 0 else 30
def gZ (l:List Int):List Int:=if okL l then eW l else []
theorem wK (l:List Int):Ln l.length (fun k=>if k<l.length then(cv l k:Int)else 0)=(eW l).map I:=re (by rw[List.length_map,fF]) fun j hj=>by
 rw[if_pos hj,List.getElem?_map,eW,List.getElem?_map,List.getElem?_range hj];rfl
theorem jW {i:Nat}(h:i<=15):(2:Nat)^i<=32768:=Nat.le_trans (Nat.pow_le_pow_right (by omega) h) (by decide)
theorem wL {l:List Int}(h:okL l){k:Nat}(hk:k<=15):nx l k<=32768:=by
 match k,hk with
 |0,_=>simp[nx]
 |k+1,hk=>have:=h.fit hk;have:=jW hk;omega
theorem yR {W:World}{a:Option Addr}{cap:Nat}{l:List Int}{A:HP}(hr:RdB W A a l.length (l.map I))(hl:l.length<=4611686018427387904):
  Cn p_ 226 [.slice a l.length cap] W [A] (fun q:Option Addr × Nat=> .tuple #[.slice q.1 (gZ l).length q.2,.int .i64 (xZ l)]) (fun q=>[Sl 1 3 q.1 q.2 (gZ l).length ((gZ l).map I),A]):=by
 (refine Shp.cn (Sg.g_ Tryz.call226 Tryz.func226 (an:={loops:=[(7,[7]),(12,[40])],drs:=[(9,.ofL [(0,1),(1,1),(2,1),(3,1),(4,1),(5,1),(6,1),(7,1),(8,1),(9,1),(10,1),(11,1),(12,0)])]})) fun F=>?_;simp only[ca_,na_])
 refine c_ (ff hr hl) fun _=>?_
 rename_i f
 refine aG Pick.here fun hf=>?_
 obtain⟨hf1,hf2⟩:=hf
 refine o_ (bk (v:= .agg (jK f)) rfl) ?_
 refine o_ (bk (v:= .bool (decide (okL l))) rfl) ?_
 refine bp fun g=>?_
 refine bS .here (by rfl) (cF 16 f) DX ?_
 by_cases hok:¬okL l
 ·rw[dF_ hok]
  have hR:xZ l=30:=by simp[xZ,hok]
  have hB:gZ l=[]:=by simp[gZ,hok]
  rw[hR,hB]
  refine o_ dh (ab (bq ((none,0)) ?_))
  refine bR ?_
  exact aw
 have hok:=Decidable.not_not.1 hok
 rw[dT_ hok]
 have hR:xZ l=0:=by simp[xZ,hok]
 have hB:gZ l=eW l:=by simp[gZ,hok]
 have cL:=hok.len
 have hcl:=fF l
 rw[hR,hB]
 have hf:=hf1 hok
 refine o_ fU (aa (o_ (dm 0 (by rfl) (by omega)) ?_))
 refine l8 .here (by rw[jK,cF];omega) ?_
 rw[show(jK f).setIfInBounds (0+0 * 1) (.int .i64 0)=jK (fun j=>if j=0 then 0 else(cV l j:Int))from qG.trans (eu fun j hj=>by
  by_cases c:j=0
  ·rw[if_pos c,if_pos c]
  ·rw[if_neg c,if_neg c,hf j hj])]
 refine bp fun g2=>?_
 rw[Th]
 refine a_ (fun m y=>[ex fun i:Nat=>all [pu (m+i=16/\1<=i/\y= .int .i64 (i:Int)),pt g2 (.cells (jK fun j=>if j<i then(nx l j:Int)else 0) 280 (0,0)),pt g (.cells (jK fun j=>if j=0 then 0 else(cV l j:Int)) 280 (0,0)),A]]++F) 15 ?_ ?_
 ·refine Imp.ex 1 (.all ?_)
  refine aq ?_
  refine .pu ⟨by omega,by omega,rfl⟩ ?_
  rw[show jK (fun j=>if j<1 then(nx l j:Int)else 0)=jK (fun _=>0)from eu fun j hj=>by
   by_cases c:j<1
   ·rw[if_pos c,show j=0 by omega];simp[nx]
   ·rw[if_neg c]]
  exact aw
 ·intro m ds y
  refine aq ?_
  refine aH Pick.here fun i=>ap Pick.here ?_
  refine aq ?_
  refine aG Pick.here fun hi=>?_
  obtain⟨hmi,hi1,rfl⟩:=hi
  refine ay cZ .nil (fun h=>?_) (fun h=>?_)
  ·have hi15:i<=15:=by omega
   obtain⟨k,rfl⟩:∃k,i=k+1:=⟨i-1,by omega⟩
   have hk1:=wL hok (show k<=15 by omega)
   have hk2:=wL hok hi15
   have hk3:=uS k l
   refine ab (bA ?_);(refine t_ (dv (by omega) (by omega)) ?_)
   refine t_ (dm k (by omega) (by omega)) ?_
   refine aT (e_ (v:=I (nx l k)) (by rw[Nat.zero_add,Nat.mul_one,jK,iG (by omega),if_pos (by omega)])) (.pick .here .nil) ?_
   (refine t_ (dv (by omega) (by omega)) ?_)
   refine t_ (dm k (by omega) (by omega)) ?_
   refine aT (e_ (v:=I (if k=0 then 0 else(cV l k:Int))) (by rw[Nat.zero_add,Nat.mul_one,jK,iG (by omega)])) (.pick (.there .here) .nil) ?_
   have hs:((nx l k:Int)+(if k=0 then 0 else(cV l k:Int))) * 2=(nx l (k+1):Int):=by
    match k with
    |0=>simp[nx]
    |k+1=>rw[if_neg (by omega),nx];push_cast;omega
   obtain⟨c,hc⟩:∃c,c=(if k=0 then 0 else(cV l k:Int)):=⟨_,rfl⟩
   rw[<- hc]at hs ⊢
   refine t_ (bU (by omega) (by omega)) ?_
   refine t_ (fS (by omega)) ?_
   rw[show((nx l k:Int)+c) * 2^(min ((1:Int)).toNat IntKind.i64.bits)=(nx l (k+1):Int) by rw[<- hs];rfl,mx (by omega) (by omega)]
   refine t_ (dm (k+1) (by norm_cast) (by omega)) ?_
   refine l8 .here (by rw[jK,cF];omega) ?_
   rw[show(jK fun j=>if j<k+1 then(nx l j:Int)else 0).setIfInBounds (0+(k+1) * 1) (.int .i64 (nx l (k+1):Int))=jK (fun j=>if j<k+1+1 then(nx l j:Int)else 0)from by
    rw[Nat.zero_add,Nat.mul_one]
    refine qG.trans (eu fun j hj=>?_)
    by_cases e:j=k+1
    ·subst e;rw[if_pos rfl,if_pos (by omega)]
    ·rw[if_neg e]
     by_cases e2:j<k+1
     ·rw[if_pos e2,if_pos (by omega)]
     ·rw[if_neg e2,if_neg (by omega)]]
   refine bG ?_
   refine aK (m-1) (by omega) (.ex (k+1+1) (.all ?_))
   refine aq ?_
   exact .pu ⟨by omega,by omega,by norm_cast⟩ .refl
  ·have:i=16:=by omega
   subst this
   refine aa (o_ aC (ep l.length l.length (by rfl) (by rfl) (by omega) (by omega) (by unfold maxLen;omega) fun g3=>?_))
   rw[dH]
   refine o_ aC (a_ (fun m y=>[ex fun i:Nat=>all [pu (m+i=l.length/\y= .int .i64 (i:Int)),Sl 1 3 (some ⟨g3,0,none⟩) l.length l.length (Ln l.length fun k=>if k<i then(cv l k:Int)else 0),pt g2 (.cells (jK fun j=>if j=0 then 0 else(e8 l j i:Int)) 280 (0,0)),A]]++F) l.length ?_ ?_)
   ·refine Imp.ex 0 (.all ?_)
    refine aq ?_
    refine .pu ⟨by omega,rfl⟩ ?_
    rw[show jK (fun j=>if j=0 then 0 else(e8 l j 0:Int))=jK (fun j=>if j<16 then(nx l j:Int)else 0)from eu fun j hj=>by
     rw[if_pos hj]
     by_cases c:j=0
     ·rw[if_pos c,c];simp[nx]
     ·rw[if_neg c];simp[e8,cV]]
    exact aw
   ·intro m ds y
    refine aq ?_
    refine aH Pick.here fun i=>ap Pick.here ?_
    refine aq ?_
    refine aG Pick.here fun hi=>?_
    obtain⟨hmi,rfl⟩:=hi
    refine ay az .nil (fun h=>?_) (fun h=>?_)
    ·have hil:i<l.length:=by omega
     obtain⟨ga,oa,rfl,_⟩:=hr.at_ (by omega)
     refine ab (o_ (bj i (by rfl) hil) ?_)
     refine am (bP hr (dK hil)) (.pick (.there (.there .here)) .nil) ?_
     have hin:=hok.ins l[i] (List.getElem_mem hil)
     refine ay aV .nil (fun h=>?_) (fun h=>?_)
     ·obtain⟨x,hx⟩:=Int.eq_ofNat_of_zero_le (show 0<=l[i] by omega)
      have hx15:x<16:=by omega
      have hcu:=hok.cur_lt' hil hx (by omega) (by omega)
      have h15:=jW (show x<=15 by omega)
      refine ab (o_ (dm x hx hx15) ?_)
      refine am (e_ (v:=I (e8 l x i)) (by rw[Nat.zero_add,Nat.mul_one,jK,iG hx15,if_neg (by omega)])) (.pick (.there .here) .nil) ?_
      refine o_ (bj i (by rfl) hil) ?_
      refine fZ .here (by rw[iJ];omega) ?_
      rw[show(Ln l.length fun k=>if k<i then(cv l k:Int)else 0).set (0+i) (I (e8 l x i))=Ln l.length (fun k=>if k<i+1 then(cv l k:Int)else 0)from by
       rw[Nat.zero_add]
       refine oh.trans (d4 fun j hj=>?_)
       by_cases e:j=i
       ·subst e;rw[if_pos rfl,if_pos (by omega),jJ hil hx (by omega)]
       ·rw[if_neg e]
        by_cases e2:j<i
        ·rw[if_pos e2,if_pos (by omega)]
        ·rw[if_neg e2,if_neg (by omega)]]
      refine o_ (dm x hx hx15) ?_
      refine am (e_ (v:=I (e8 l x i)) (by rw[Nat.zero_add,Nat.mul_one,jK,iG hx15,if_neg (by omega)])) (.pick (.there .here) .nil) ?_
      refine bG ?_
      refine o_ (dm x hx hx15) ?_
      refine l8 (.there .here) (by rw[jK,cF];omega) ?_
      rw[show(jK fun j=>if j=0 then 0 else(e8 l j i:Int)).setIfInBounds (0+x * 1) (.int .i64 ((e8 l x i:Int)+1))=jK (fun j=>if j=0 then 0 else(e8 l j (i+1):Int))from by
       rw[Nat.zero_add,Nat.mul_one]
       refine qG.trans (eu fun j hj=>?_)
       rw[kB hil]
       by_cases e:j=x
       ·subst e;rw[if_pos rfl,if_neg (by omega),if_pos hx];push_cast;rfl
       ·rw[if_neg e,if_neg (show ¬l[i]=(j:Int) by omega)];simp]
      refine bG ?_
      refine aK (m-1) (by omega) (.ex (i+1) (.all ?_))
      refine aq ?_
      refine .pu ⟨by omega,by norm_cast⟩ ?_
      exact aw
     ·(refine aa ?_);refine bG ?_
      refine aK (m-1) (by omega) (.ex (i+1) (.all ?_))
      refine aq ?_
      refine .pu ⟨by omega,by norm_cast⟩ ?_
      rw[show(Ln l.length fun k=>if k<i+1 then(cv l k:Int)else 0)=Ln l.length (fun k=>if k<i then(cv l k:Int)else 0)from d4 fun j hj=>by
       by_cases e:j=i
       ·subst e;rw[if_pos (by omega),if_neg (by omega),pA hil (by omega)];rfl
       ·by_cases e2:j<i
        ·rw[if_pos e2,if_pos (by omega)]
        ·rw[if_neg e2,if_neg (by omega)]]
      rw[show jK (fun j=>if j=0 then 0 else(e8 l j (i+1):Int))=jK (fun j=>if j=0 then 0 else(e8 l j i:Int))from eu fun j hj=>by
       by_cases e:j=0
       ·rw[if_pos e,if_pos e]
       ·rw[if_neg e,if_neg e,kB hil,if_neg (by omega)];simp]
      exact aw
    ·have:i=l.length:=by omega
     subst this
     refine aa ?_
     rw[wK]
     refine aR (some ⟨g3,0,none⟩,l.length) (by rw[hcl]) ?_
     rw[hcl]
     exact aw
def rm (f:Nat->Int):Nat->Int
 |0=>1
 |k+1=>2 * rm f k-f (k+1)
theorem Ao {l:List Int}{f:Nat->Int}(h:∀j,j<16->f j=cV l j):∀k,k<=15->rm f k=room l k
 |0,_=>rfl
 |k+1,hk=>by rw[rm,room,Ao h k (by omega),h (k+1) (by omega)]
theorem wM {f:Nat->Int}(h:∀j,0<=f j/\f j<=320):∀k,rm f k<=(2^k:Nat)/\ -(320 * ((2^k:Nat):Int))<=rm f k-320
 |0=>by simp[rm]
 |k+1=>by
  have ih:=wM h k
  have hf:=h (k+1)
  have e:(2:Nat)^(k+1)=2 * 2^k:=by rw[Nat.pow_succ];omega
  rw[e,rm]
  push_cast
  push_cast at ih
  omega
def fq (l:List Int):Bool:=decide (okL l)&&decide (wk l 15=32768)
theorem KM {W:World}{a:Option Addr}{cap:Nat}{l:List Int}{A:HP}(hr:RdB W A a l.length (l.map I))(hl:l.length<=4611686018427387904):
  Cn p_ 179 [.slice a l.length cap] W [A] (fun _:Unit=> .bool (fq l)) (fun _=>[A]):=by
 (refine Shp.cn (Sg.g_ Tryz.call179 Tryz.func179 (an:={loops:=[(4,[5,15])]})) fun F=>?_;simp only[ca_,na_])
 refine c_ (ff hr hl) fun _=>?_
 rename_i f
 refine aG Pick.here fun hf=>?_
 obtain⟨hf1,hf2⟩:=hf
 refine o_ (bk (v:= .agg (jK f)) rfl) ?_
 refine o_ (bk (v:= .bool (decide (okL l))) rfl) ?_
 refine bp fun g=>?_
 refine bS .here (by rfl) (cF 16 f) DX ?_
 refine o_ (Di (l:=1) (by rfl) (by omega)) ?_
 refine o_ aC ?_
 have hrd:RdB W (pt g (.cells (jK f) 280 (0,0))) (some ⟨g,1 * 1,none⟩) 15 ((List.range 15).map fun j=>I (f (1+j))):=Dj (n:=16) (f:=f) (tm (by simp)) (by omega)
 refine bI (fun m x y=>[all [pu (∃i:Nat,m+i=15/\i<=15/\y= .int .i64 (i:Int)/\x= .int .i64 (rm f i)),pt g (.cells (jK f) 280 (0,0)),A]]++F) 15 ?_ ?_
 ·refine Imp.all ?_
  refine aq ?_
  exact .pu ⟨0,by omega,by omega,rfl,rfl⟩ .refl
 intro m ds x y
 refine aq ?_
 refine ap Pick.here ?_
 refine aq ?_
 refine aG Pick.here fun hi=>?_
 obtain⟨i,hmi,hi15,rfl,rfl⟩:=hi
 have hb:=wM hf2 i
 have h15:=jW hi15
 refine ay az .nil (fun h=>?_) (fun h=>?_)
 ·have hi14:i<15:=by omega
  refine ab (o_ (bj i (by rfl) (by omega)) ?_)
  refine am (bP hrd (v:=I (f (1+i))) (by rw[List.getElem?_map,List.getElem?_range hi14];rfl)) (.pick .here .nil) ?_
  have hc:=hf2 (1+i)
  (refine o_ (eh (by omega) (by omega)) ?_);refine dX ?_;refine bG ?_
  refine bo (m-1) (by omega) (.all ?_)
  refine aq ?_
  exact .pu ⟨i+1,by omega,by omega,by norm_cast,by rw[rm,Nat.add_comm 1 i]⟩ .refl
 ·have hie:i=15:=by omega
  subst hie
  refine aa ?_
  by_cases hok:okL l
  ·have hrr:=Ao (hf1 hok) 15 (by omega)
   rw[dT_ hok]
   refine ae (ae (o_ aP ?_))
   rw[show decide (rm f 15=0)=fq l by unfold fq;rw[dT_ hok,Bool.true_and];exact decide_eq_decide.2 (by rw[hrr];exact B4)]
   refine o_ ah (bq () ?_)
   exact aw
  ·rw[dF_ hok]
   refine af (af (o_ ag ?_))
   rw[show fq l=false by unfold fq;rw[dF_ hok,Bool.false_and]]
   refine bq () ?_
   exact aw
def DY (l:List Int):Int:=if vR l then(wk l 15:Int)else 0
theorem ol (k:Nat):∀l m:List Int,wk (l++m) k=wk l k+wk m k
 |[],m=>by simp[wk]
 |x::l,m=>by simp only[List.cons_append,wk,ol k l m];omega
theorem Ja:∀l:List Int,wk l 15<=16384 * l.length
 |[]=>by simp[wk]
 |x::l=>by
  have:=Ja l
  simp only[wk,List.length_cons]
  split
  ·rename_i h
   have h2:2^(15-x.toNat)<=2^14:=Nat.pow_le_pow_right (by omega) (by omega)
   have e:(2:Nat)^14=16384:=by decide
   omega
  ·omega
theorem uX {l:List Int}{i:Nat}(h:i<l.length)(hp:0<l[i]/\l[i]<=15):wk (l.take (i+1)) 15=wk (l.take i) 15+2^(15-l[i].toNat):=by
 rw[List.take_succ_eq_append_getElem h,ol]
 simp only[wk]
 rw[if_pos ⟨hp.1,by omega⟩];omega
theorem D_ {l:List Int}{i:Nat}(h:i<l.length)(hp:¬0<l[i]):wk (l.take (i+1)) 15=wk (l.take i) 15:=by
 rw[List.take_succ_eq_append_getElem h,ol]
 simp only[wk]
 rw[if_neg (by omega)];omega
theorem d7 {n:Int}(h0:0<=n)(h:n<18446744073709551616):IntKind.u64.wrap n=n:=by
 obtain⟨N,rfl⟩:=Int.eq_ofNat_of_zero_le h0
 simp only[IntKind.wrap,IntKind.bits,IntKind.signed]
 simp;omega
theorem pB {a:Int}{k:Nat}(hk:k<=32)(h0:0<=a)(h:a<=65536):IntKind.i64.wrap (a * 2^(min ((k:Int)).toNat IntKind.i64.bits))=a * ((2^k:Nat):Int):=by
 have h2:(2:Nat)^k<=2^32:=Nat.pow_le_pow_right (by omega) hk
 have e:(2:Nat)^32=4294967296:=by decide
 rw[show min ((k:Int)).toNat IntKind.i64.bits=k by simp only[IntKind.bits,Int.toNat_natCast];omega,show(2:Int)^k=((2^k:Nat):Int)from(Int.natCast_pow 2 k).symm]
 obtain⟨E,hE⟩:∃E:Nat,E=2^k:=⟨_,rfl⟩
 rw[<- hE]at h2 ⊢
 have h3:a * (E:Int)<=65536 * 4294967296:=Int.mul_le_mul h (by omega) (by omega) (by omega)
 have h4:0<=a * (E:Int):=Int.mul_nonneg h0 (by omega)
 exact mx (by omega) (by omega)
theorem qO {W:World}{a:Option Addr}{cap:Nat}{l:List Int}{A:HP}(hr:RdB W A a l.length (l.map I))(hl:l.length<=1099511627776):
  Cn p_ 218 [.slice a l.length cap] W [A] (fun _:Unit=> .tuple #[.int .i64 (DY l),.bool (decide (okL l))]) (fun _=>[A]):=by
 (refine Shp.cn (Sg.g_ Tryz.call218 Tryz.func218 (an:={loops:=[(3,[4,5])]})) fun F=>?_;simp only[ca_,na_])
 refine bI (fun m x y=>[all [pu (∃i:Nat,m+i=l.length/\y= .int .i64 (i:Int)/\x= .int .i64 (wk (l.take i) 15:Int)/\∀k (hk:k<l.length),k<i->0<=l[k]/\l[k]<=15),A]]++F) l.length ?_ ?_
 ·refine Imp.all ?_
  refine aq ?_
  exact .pu ⟨0,by omega,rfl,rfl,fun k hk h=>by omega⟩ .refl
 intro m ds x y
 refine aq ?_
 refine ap Pick.here ?_
 refine aq ?_
 refine aG Pick.here fun hi=>?_
 obtain⟨i,hmi,rfl,rfl,hin⟩:=hi
 have hwl:=Ja (l.take i)
 rw[List.length_take]at hwl
 refine o_ aC (ay az .nil (fun h=>?_) (fun h=>?_))
 ·have hil:i<l.length:=by omega
  obtain⟨ga,oa,rfl,_⟩:=hr.at_ (by omega)
  have bad:¬(0<=l[i]/\l[i]<=15)->¬vR l:=fun hn c=>hn (c l[i] (List.getElem_mem hil))
  refine ab (o_ (bj i (by rfl) hil) ?_)
  refine am (bP hr (dK hil)) (.pick .here .nil) ?_
  refine ay az .nil (fun h=>?_) (fun h=>?_)
  ·have hb:=bad (by omega)
   rw[show DY l=0 from if_neg hb,dF_ (fun c=>hb c.ins)]
   refine ao (ao (ao (ao (ao (o_ ah (ab (bq () ?_)))))))
   exact aw
  have h0:=h
  refine ae (ae (ae (o_ (bj i (by rfl) hil) ?_)))
  refine ae (am (bP hr (dK hil)) (.pick .here .nil) ?_)
  refine ae (ay aV .nil (fun h=>?_) (fun h=>?_))
  ·have hb:=bad (by omega)
   rw[show DY l=0 from if_neg hb,dF_ (fun c=>hb c.ins)]
   refine o_ ag (ab (bq () ?_))
   exact aw
  have h1:=h
  refine o_ ag (aa (o_ (bj i (by rfl) hil) ?_))
  refine am (bP hr (dK hil)) (.pick .here .nil) ?_
  have hin':∀k (hk:k<l.length),k<i+1->0<=l[k]/\l[k]<=15:=fun k hk hki=>by
   by_cases c:k=i
   ·subst c;omega
   ·exact hin k hk (by omega)
  refine ay aV .nil (fun h=>?_) (fun h=>?_)
  ·refine ab (o_ (bj i (by rfl) hil) ?_)
   refine am (bP hr (dK hil)) (.pick .here .nil) ?_
   refine dX ?_
   refine o_ br ?_
   obtain⟨x,hx⟩:=Int.eq_ofNat_of_zero_le (show 0<=l[i] by omega)
   rw[d7 (by omega) (by omega),show(15:Int)-l[i]=((15-x:Nat):Int) by omega]
   refine o_ (fS (by omega)) ?_
   rw[pB (by omega) (by omega) (by omega),Int.one_mul]
   have h15:=jW (show 15-x<=15 by omega)
   obtain⟨E,hE⟩:∃E:Nat,E=2^(15-x):=⟨_,rfl⟩
   rw[<- hE]at h15 ⊢
   refine bG ?_
   refine bG ?_
   refine bo (m-1) (by omega) (.all ?_)
   refine aq ?_
   refine .pu ⟨i+1,by omega,by norm_cast,?_,hin'⟩ .refl
   rw[uX hil (by omega),hx,Int.toNat_natCast,<- hE];push_cast;rfl
  ·(refine aa ?_);refine bG ?_
   refine bo (m-1) (by omega) (.all ?_)
   refine aq ?_
   refine .pu ⟨i+1,by omega,by norm_cast,?_,hin'⟩ .refl
   rw[D_ hil h]
 ·have hie:i=l.length:=by omega
  subst hie
  rw[List.take_length]
  rw[List.take_length]at hwl
  have hins:vR l:=fun x hx=>by
   obtain⟨k,hk,rfl⟩:=List.mem_iff_getElem.1 hx
   exact hin k hk (by omega)
  rw[show DY l=(wk l 15:Int)from if_pos hins]
  refine aa (o_ aC (ay cZ .nil (fun h=>?_) (fun h=>?_)))
  ·(refine ae ?_);refine ae ?_
   refine o_ cZ ?_
   rw[show decide ((wk l 15:Int)<=32768)=decide (okL l)from decide_eq_decide.2 ⟨fun c=>nl.2 ⟨by omega,hins,by omega⟩,fun c=>by have:=(nl.1 c).2.2;omega⟩]
   refine o_ ah (bq () ?_)
   exact aw
  ·(refine af ?_);refine af ?_;refine o_ ag ?_
   rw[dF_ (fun c:okL l=>by have:=c.len;omega)]
   refine bq () ?_
   exact aw
theorem uY {W:World}{a:Option Addr}{cap:Nat}{l:List Int}{A:HP}(hr:RdB W A a l.length (l.map I))(hl:l.length<=1099511627776):
  Cn p_ 192 [.slice a l.length cap] W [A] (fun _:Unit=> .bool (fq l)) (fun _=>[A]):=by
 (refine Shp.cn (Sg.g_ Tryz.call192 Tryz.func192) fun F=>?_;simp only[ca_,na_])
 refine c_ (qO hr hl) fun _=>?_
 refine o_ (bk (v:= .int .i64 (DY l)) rfl) ?_
 refine o_ (bk (v:= .bool (decide (okL l))) rfl) ?_
 by_cases hok:okL l
 ·rw[dT_ hok]
  refine ae (ae (o_ aP ?_))
  rw[show decide (DY l=32768)=fq l by unfold fq DY;rw[dT_ hok,Bool.true_and,if_pos hok.ins];exact decide_eq_decide.2 (by omega)]
  refine o_ ah (bq () ?_)
  exact aw
 ·rw[dF_ hok]
  refine af (af (o_ ag ?_))
  rw[show fq l=false by unfold fq;rw[dF_ hok,Bool.false_and]]
  refine bq () ?_
  exact aw
def dn (l:List Int)(n i k:Nat):Int:=match l[k]? with
 |some x=>if 0<x/\(x<n\/x=n/\k<i)then(cv l k:Int)else 0
 |none=>0
theorem rf {l:List Int}{n i k:Nat}(h:k<l.length):dn l n i k=if 0<l[k]/\(l[k]<n\/l[k]=n/\k<i)then(cv l k:Int)else 0:=by
 unfold dn;rw[List.getElem?_eq_getElem h]
theorem G5 {l:List Int}{n i k:Nat}(hi:i<l.length)(hne:l[i]≠(n:Int))(h:k<l.length):dn l n (i+1) k=dn l n i k:=by
 rw[rf h,rf h]
 by_cases c:k=i
 ·subst c
  by_cases d:0<l[k]/\l[k]<n
  ·rw[if_pos ⟨d.1,.inl d.2⟩,if_pos ⟨d.1,.inl d.2⟩]
  ·rw[if_neg (by omega),if_neg (by omega)]
 ·by_cases d:0<l[k]/\(l[k]<n\/l[k]=n/\k<i)
  ·rw[if_pos d,if_pos (by omega)]
  ·rw[if_neg d,if_neg (by omega)]
theorem KO {l:List Int}{n i k:Nat}(hi:i<l.length)(hn:1<=n)(he:l[i]=(n:Int))(h:k<l.length):dn l n (i+1) k=if k=i then(cv l i:Int)else dn l n i k:=by
 rw[rf h,rf h]
 by_cases c:k=i
 ·subst c
  rw[if_pos rfl,if_pos (by omega)]
 ·rw[if_neg c]
  by_cases d:0<l[k]/\(l[k]<n\/l[k]=n/\k<i)
  ·rw[if_pos d,if_pos (by omega)]
  ·rw[if_neg d,if_neg (by omega)]
theorem G6 {l:List Int}{n k:Nat}(h:k<l.length):dn l n l.length k=dn l (n+1) 0 k:=by
 rw[rf h,rf h]
 by_cases d:0<l[k]/\(l[k]<n\/l[k]=n/\k<l.length)
 ·rw[if_pos d,if_pos (by omega)]
 ·rw[if_neg d,if_neg (by omega)]
theorem Ea {l:List Int}{k:Nat}:dn l 1 0 k=0:=by
 unfold dn
 split
 ·rw[if_neg (by omega)]
 ·rfl
theorem G7 {l:List Int}{k:Nat}(hin:vR l)(h:k<l.length):dn l 16 0 k=cv l k:=by
 have:=hin l[k] (List.getElem_mem h)
 rw[rf h]
 by_cases d:0<l[k]
 ·rw[if_pos (by omega)]
 ·rw[if_neg (by omega),pA h (by omega)];rfl
def St (l:List Int)(n i:Nat)(code last:Int):Prop:=(last=0/\code=0/\e8 l n i=0)\/∃c p:Nat,code=c/\last=p/\1<=p/\p<=n/\(c+1) * 2^(n-p)=e8 l n i
theorem Eb {W:World}{a:Option Addr}{cap:Nat}{l:List Int}{A:HP}(hr:RdB W A a l.length (l.map I))(hl:l.length<=1099511627776):
  Cn p_ 217 [.slice a l.length cap] W [A] (fun q:Option Addr × Nat=> .tuple #[.slice q.1 (gZ l).length q.2,.int .i64 (xZ l)]) (fun q=>[Sl 1 3 q.1 q.2 (gZ l).length ((gZ l).map I),A]):=by
 (refine Shp.cn (Sg.g_ Tryz.call217 Tryz.func217 (an:={cuts:=[(16,[7])],loops:=[(8,[7,8,9]),(11,[7,8,10])]})) fun F=>?_;simp only[ca_,na_])
 refine c_ (qO hr hl) fun _=>?_
 refine o_ (bk (v:= .int .i64 (DY l)) rfl) ?_
 refine o_ (bk (v:= .bool (decide (okL l))) rfl) ?_
 by_cases hok:¬okL l
 ·rw[dF_ hok]
  have hR:xZ l=30:=by simp[xZ,hok]
  have hB:gZ l=[]:=by simp[gZ,hok]
  rw[hR,hB]
  refine o_ dh (ab (bq ((none,0)) ?_))
  refine bR ?_
  exact aw
 have hok:=Decidable.not_not.1 hok
 rw[dT_ hok]
 have hR:xZ l=0:=by simp[xZ,hok]
 have hB:gZ l=eW l:=by simp[gZ,hok]
 have cL:=hok.len
 have hcl:=fF l
 rw[hR,hB]
 refine o_ dJ (aa (o_ aC (ep l.length l.length (by rfl) (by rfl) (by omega) (by omega) (by unfold maxLen;omega) fun g3=>?_)))
 rw[dH]
 refine gD (fun m x y z=>[ex fun n:Nat=>all [pu (m+n=16/\1<=n/\z= .int .i64 (n:Int)/\∃c p:Int,x= .int .i64 c/\y= .int .i64 p/\St l n 0 c p),Sl 1 3 (some ⟨g3,0,none⟩) l.length l.length (Ln l.length (dn l n 0)),A]]++F) 15 ?_ ?_
 ·refine Imp.ex 1 (.all ?_)
  refine aq ?_
  refine .pu ⟨by omega,by omega,rfl,0,0,rfl,rfl,.inl ⟨rfl,rfl,by simp[e8,nx,cV]⟩⟩ ?_
  rw[d4 (fun j _=>Ea (l:=l) (k:=j))]
  exact aw
 intro m ds x y z
 refine aq ?_
 refine aH Pick.here fun n=>ap Pick.here ?_
 refine aq ?_
 refine aG Pick.here fun hi=>?_
 obtain⟨hmn,hn1,rfl,c,p,rfl,rfl,hst⟩:=hi
 refine ay cZ .nil (fun h=>?_) (fun h=>?_)
 ·have hn15:n<=15:=by omega
  refine ab (gD (fun m2 x y z=>[ex fun i:Nat=>all [pu (m2+i=l.length/\z= .int .i64 (i:Int)/\∃c p:Int,x= .int .i64 c/\y= .int .i64 p/\St l n i c p),Sl 1 3 (some ⟨g3,0,none⟩) l.length l.length (Ln l.length (dn l n i)),A]]++F) l.length ?_ ?_)
  ·refine Imp.ex 0 (.all ?_)
   refine aq ?_
   exact .pu ⟨by omega,rfl,c,p,rfl,rfl,hst⟩ .refl
  clear hst
  intro m2 ds x y z
  refine aq ?_
  refine aH Pick.here fun i=>ap Pick.here ?_
  refine aq ?_
  refine aG Pick.here fun hi=>?_
  obtain⟨hmi,rfl,c,p,rfl,rfl,hst⟩:=hi
  have h15:=jW hn15
  refine o_ aC (ay az .nil (fun h=>?_) (fun h=>?_))
  ·have hil:i<l.length:=by omega
   obtain⟨ga,oa,rfl,_⟩:=hr.at_ (by omega)
   refine ab (o_ (bj i (by rfl) hil) ?_)
   refine am (bP hr (dK hil)) (.pick (.there .here) .nil) ?_
   refine ay bK .nil (fun h=>?_) (fun h=>?_)
   ·(refine ab ?_);refine bG ?_
    refine cr (m2-1) (by omega) (.ex (i+1) (.all ?_))
    refine aq ?_
    refine .pu ⟨by omega,by norm_cast,c,p,rfl,rfl,?_⟩ ?_
    ·unfold St at hst ⊢
     rw[kB hil,if_neg h];exact hst
    ·rw[d4 (fun j hj=>G5 hil h hj)]
     exact aw
   ·have hln:l[i]=(n:Int):=Decidable.not_not.1 h
    have hcu:=hok.cur_lt' hil hln hn1 hn15
    have hca:=jJ hil hln hn1
    refine aa (dD (fun z=>pu (z= .int .i64 (cv l i:Int))::Sl 1 3 (some ⟨g3,0,none⟩) l.length l.length (Ln l.length (dn l n i))::A::F) ?_ ?_)
    ·intro ds z
     refine aG Pick.here fun hz=>?_
     subst hz
     refine o_ (bj i (by rfl) hil) ?_
     refine fZ .here (by rw[iJ];omega) ?_
     rw[show(Ln l.length (dn l n i)).set (0+i) (.int .i64 (cv l i:Int))=Ln l.length (dn l n (i+1))from by
      rw[Nat.zero_add]
      exact oh.trans (d4 fun j hj=>(KO hil hn1 hln hj).symm)]
     refine bG ?_
     refine cr (m2-1) (by omega) (.ex (i+1) (.all ?_))
     refine aq ?_
     refine .pu ⟨by omega,by norm_cast,(cv l i:Int),(n:Int),rfl,rfl,.inr ⟨cv l i,n,rfl,rfl,hn1,by omega,?_⟩⟩ .refl
     rw[kB hil,if_pos hln,hca,Nat.sub_self];omega
    ·rcases hst with ⟨rfl,rfl,hc0⟩|⟨c',p',rfl,rfl,hp1,hpn,hcur⟩
     ·refine o_ aV ?_
      rw[dF_ (by omega)]
      refine aa (aD (.pu ?_ .refl))
      rw[hca,hc0];rfl
     ·have hle:c'+1<=(c'+1) * 2^(n-p'):=Nat.le_mul_of_pos_right _ (Nat.two_pow_pos _)
      refine o_ aV ?_
      rw[dT_ (by omega)]
      refine ab (bG ?_);refine dX ?_
      refine o_ br ?_
      rw[d7 (by omega) (by omega),show(n:Int)-(p':Int)=((n-p':Nat):Int) by omega]
      refine o_ (fS (by omega)) ?_
      rw[pB (by omega) (by omega) (by omega)]
      refine aD (.pu ?_ .refl)
      rw[hca,<- hcur];push_cast;rfl
  ·have hie:i=l.length:=by omega
   subst hie
   refine aa (bG ?_)
   refine cr (m-1) (by omega) (.ex (n+1) (.all ?_))
   refine aq ?_
   refine .pu ⟨by omega,by omega,by norm_cast,c,p,rfl,rfl,?_⟩ ?_
   ·unfold St at hst ⊢
    rw[DW hn1]
    rcases hst with ⟨h1,h2,h3⟩|⟨c',p',h1,h2,h3,h4,h5⟩
    ·exact .inl ⟨h1,h2,by omega⟩
    ·refine .inr ⟨c',p',h1,h2,h3,by omega,?_⟩
     rw[<- h5,show n+1-p'=(n-p')+1 by omega,Nat.pow_succ,<- Nat.mul_assoc,Nat.mul_comm]
   ·rw[d4 (fun j hj=>(G6 (l:=l) (n:=n) hj).symm)]
    exact aw
 ·have hne:n=16:=by omega
  subst hne
  refine aa ?_
  rw[show Ln l.length (dn l 16 0)=(eW l).map I from(d4 fun j hj=>by rw[G7 hok.ins hj,if_pos hj]).trans (wK l)]
  refine aR (some ⟨g3,0,none⟩,l.length) (by rw[hcl]) ?_
  rw[hcl]
  exact aw
end HF
namespace Sl
open Go Go.RowKit Sh
variable {P:Program} {W:World} {L L':List HP} {Kp:PK} {k:Value->WP}
variable {κ:Type} [DecidableEq κ] {enc:κ->Value} {t kt:TypeId}
theorem k_ (q:κ)(v:Value):∀m:List (κ × Value),(m.map (·.1)).Nodup->((gK q v m).map (·.1)).Nodup/\∀x,x∈(gK q v m).map (·.1)->x=q\/x∈m.map (·.1)
 |[],_=>by simp[gK]
 |p::m,h=>by
  rw[List.map_cons,List.nodup_cons]at h
  have ih:=k_ q v m h.2
  unfold gK
  by_cases c:q=p.1
  ·rw[if_pos c]
   refine⟨by rw[List.map_cons,List.nodup_cons];exact h,fun x hx=> .inr hx⟩
  ·rw[if_neg c]
   refine⟨?_,fun x hx=>?_⟩
   ·rw[List.map_cons,List.nodup_cons]
    refine⟨fun hx=>?_,ih.1⟩
    rcases ih.2 _ hx with e|e
    ·exact c e.symm
    ·exact h.1 e
   ·rw[List.map_cons,List.mem_cons]at hx
    rcases hx with e|e
    ·exact .inr (by rw[List.map_cons,e];exact List.mem_cons_self ..)
    ·rcases ih.2 _ e with e|e
     ·exact .inl e
     ·exact .inr (by rw[List.map_cons];exact List.mem_cons_of_mem _ e)
def eG (g:Nat)(enc:κ->Value)(f:κ->Option Value):HP:=ex fun m=>all [pu ((m.map (·.1)).Nodup/\∀q,jc q m=f q),gJ g enc m]
def B6 (f:κ->Option Value)(q:κ)(v:Option Value):κ->Option Value:=fun x=>if x=q then v else f x
theorem G8 {g:Nat}{f:κ->Option Value}{S:WP}(p:Pick L (eG g enc f) L')(h:∀m,(m.map (·.1)).Nodup->(∀q,jc q m=f q)->aZ W (gJ g enc m::L') S):aZ W L S:=by
 refine aH p fun m=>ap .here ?_
 refine aG .here fun hm=>h m hm.1 hm.2
theorem rg {g:Nat}{f:κ->Option Value}{M:List HP}{m:List (κ × Value)}(p:Pick L (gJ g enc m) L')(h1:(m.map (·.1)).Nodup)(h2:∀q,jc q m=f q)(h:Imp W L' M):Imp W L (eG g enc f::M):=
 .ex m (.all (.pu ⟨h1,h2⟩ (.pick p h)))
theorem om {e:TypeId}{z:Value}{g:Nat}{f:κ->Option Value}{q:κ}[ht:MapT P t kt e][hz:ZeroT P e z](K:KeyLaw P kt enc)(p:Pick L (eG g enc f) L')(h:aZ W (eG g enc f::L') (k (.tuple #[(f q).getD z,.bool (f q).isSome]))):aZ W L (opN P (o7 t (.map (some g)) (enc q) true) Kp k):=
 G8 p fun m h1 h2=>am (wo K) (.pick .here .nil) (bF (rg .here h1 h2 .refl) (by rw[h2];exact h))
theorem KP {e:TypeId}{g:Nat}{f:κ->Option Value}{q:κ}{v:Value}[ht:MapT P t kt e](K:KeyLaw P kt enc)(p:Pick L (eG g enc f) L')(h:aZ W (eG g enc (B6 f q (some v))::L') (k undef)):aZ W L (opN P (iW t (.map (some g)) (enc q) v) Kp k):=
 G8 p fun m h1 h2=>wq K .here (bF (rg .here (k_ q v m h1).1 (fun x=>by rw[k5,h2];rfl) .refl) h)
theorem Jb {e:TypeId}(enc:κ->Value)[ht:MapT P t kt e](h:∀g,aZ W (eG g enc (fun _=>none)::L) (k (.map (some g)))):aZ W L (opN P (qt t none) Kp k):=
 zW enc fun g=>bF (rg .here (by simp) (fun q=>by simp[jc,pL]) .refl) (h g)
theorem G9 {P:Program}{W:World}{t kt e:TypeId}{ox oy:Operand}{g:Nat}[ht:MapT P t kt e]:bg P W [] (kj .eql t ox oy (.map (some g)) (.map none)) (.bool false):=fun w _=>by
 have h:(Op.equal t (.map (some g)) (.map none)).run P w= .ok false w:=by
  unfold Op.equal Op.maxDepth Op.equalIn
  simp only[Sem.run_bind,run_underlying ht.ut,Result.andThen_ok]
  rfl
 simp[kj,sv,eqGuard,binOp,h,Result.andThen]
end Sl
end Go.Proofs.YtndojgomlkpeaaaGreatDoor
