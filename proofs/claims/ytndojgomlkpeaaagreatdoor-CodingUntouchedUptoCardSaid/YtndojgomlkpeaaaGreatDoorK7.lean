/- The finder of copies: how far, candidates, the piece at a place. No conditions but those that each names. (18 texts made one; each says below what it is.) -/
import Derived.Test.YtndojgomlkpeaaaGreatDoorK6
set_option linter.unusedVariables false
set_option linter.unusedSimpArgs false
set_option linter.unusedSectionVars false
namespace Go.Proofs.YtndojgomlkpeaaaGreatDoor
namespace IF
open Go Go.Proofs Go.RowKit Sh Sl T HM HF B M
theorem UV {a b:UInt8}:decide ((a.toNat:Int)=(b.toNat:Int))=decide (some a=some b):=by
 by_cases c:a=b
 ·subst c;simp
 ·have:(a.toNat:Int)≠(b.toNat:Int):=fun d=>c (UInt8.toNat_inj.1 (Int.ofNat.inj d))
  simp[c,this]
theorem MU {W:World}{p:Nat}{a:Option Addr}{v1 v2 v3 v4:Value}{c i j:Nat}{b:List UInt8}{A:HP}(hA:RdB W A a b.length (b.map Sl.B))(hb:b.length<=1048576)(hij:i<j)(hj:j<b.length):
  Cn p_ 223 [.pointer (some ⟨p,0,none⟩),.int .i64 (i:Int),.int .i64 (j:Int)] W [pt p (.cells #[.slice a b.length c,v1,v2,v3,v4] 253),A] (fun _:Unit=> .int .i64 (ec b i j:Int)) (fun _=>[pt p (.cells #[.slice a b.length c,v1,v2,v3,v4] 253),A]):=by
 (refine S.qh.cn fun F=>?_;unfold S.lx;simp only[ca_,na_])
 refine bj (fun k y=>(ex fun n:Nat=>pu (k+n=259/\y= .int .i64 (n:Int)/\Hg b i j k n=ec b i j))::pt p (.cells #[.slice a b.length c,v1,v2,v3,v4] 253)::A::F) 259 ?_ ?_
 ·exact .ex 0 (.pu ⟨rfl,rfl,rfl⟩ aC)
 intro k ds y
 refine aX .here fun n=>aT .here fun hk=>?_
 obtain⟨hkn,rfl,hal⟩:=hk
 have done:∀h:¬(n<258/\j+n<b.length/\b[i+n]? =b[j+n]?),ec b i j=n:=fun h=>by
  rw[<- hal]
  cases k with
  |zero=>rfl
  |succ k=>rw[Hg,if_neg h]
 refine bM ?_
 by_cases h1:(n:Int)<258
 ·refine t_ aI ?_
  rw[dT_ h1]
  refine ag (ag (ag ?_));(refine t_ (ct (by omega) (by omega)) ?_);refine ag (ag (t_ aW (ag (t_ aw (ag (kS ?_))))));refine ag (t_ aN (ag ?_))
  by_cases h2:(j:Int)+(n:Int)<(b.length:Int)
  ·refine t_ aI ?_
   rw[dT_ h2]
   refine t_ aq (ag (ag (t_ aW (ag (t_ aw (ag (kS ?_)))))));refine ag (ag (ag ?_));(refine t_ (ct (by omega) (by omega)) ?_);refine ag ?_
   obtain⟨g,o,rfl,_⟩:=hA.at_ (by omega)
   refine t_ (bA (i+n) (by rfl) (by omega)) ?_
   refine ag (jB (cX (v:=Sl.B b[i+n]) hA (by rw[List.getElem?_map,List.getElem?_eq_getElem (by omega)];rfl)) ?_)
   refine ag (ag (t_ aW (ag (t_ aw (ag (kS ?_))))));refine ag (ag (ag ?_));(refine t_ (ct (by omega) (by omega)) ?_);refine ag (t_ (bA (j+n) (by rfl) (by omega)) ?_)
   refine ag (jB (cX (v:=Sl.B b[j+n]) hA (by rw[List.getElem?_map,List.getElem?_eq_getElem (by omega)];rfl)) ?_)
   refine ag ?_
   unfold Sl.B
   refine t_ bF ?_
   rw[UV]
   by_cases h3:some b[i+n]=some b[j+n]
   ·rw[dT_ h3]
    refine t_ aq (ab (bW ?_))
    obtain⟨k,rfl⟩:∃k',k=k'+1:=⟨k-1,by omega⟩
    refine aP k (by omega) (.ex (n+1) (.pu ⟨by omega,by rfl,?_⟩ aC))
    rw[<- hal,Hg,if_pos ⟨by omega,by omega,by rw[List.getElem?_eq_getElem (by omega),List.getElem?_eq_getElem (by omega)];exact h3⟩]
   ·rw[dF_ h3]
    refine t_ aq (aa ?_)
    rw[done (fun h=>h3 (by have:=h.2.2;rwa [List.getElem?_eq_getElem (by omega),List.getElem?_eq_getElem (by omega)]at this))]
    refine bC () ?_
    exact aC
  ·refine t_ aI ?_
   rw[dF_ h2]
   refine t_ aq (ah (ah (ah (ah (ah (ah (ah (ah (ah (ah (ah (ah (ah (ah (ah (ah (ah (ah (ah (t_ ap (aa ?_)))))))))))))))))))))
   rw[done (fun h=>h2 (by omega))]
   refine bC () ?_
   exact aC
 ·refine t_ aI ?_
  rw[dF_ h1]
  refine ah (ah (ah (ah (ah (ah (ah (ah (ah (t_ ap (ah (ah (ah (ah (ah (ah (ah (ah (ah (ah (ah (ah (ah (ah (ah (ah (ah (ah (ah (t_ ap (aa ?_))))))))))))))))))))))))))))))
  rw[done (fun h=>h1 (by omega))]
  refine bC () ?_
  exact aC
theorem EW {W:World}{p:Nat}{j:Int}:Cn p_ 222 [.pointer (some ⟨p,0,none⟩),.int .i64 j] W [] (fun q:Nat × Nat=> .func (.func 236) #[] [.pointer (some ⟨q.2,0,none⟩),.pointer (some ⟨q.1,0,none⟩)].toArray) (fun q=>[pt q.1 (.cells #[.pointer (some ⟨p,0,none⟩)] 250),pt q.2 (.cells #[.int .i64 j] 3)]):=by
 (refine S.lW.cn fun F=>?_;unfold S.iL;simp only[ca_,na_])
 refine fK fun c1=>?_
 refine fK fun c2=>?_
 refine o_ iB (bC ((c1,c2)) ?_)
 exact aC
def yR (b:List UInt8)(w d j:Nat):List Nat:=if j+3<=b.length then ym w j (xg b j (qA b j)).reverse d else []
def Hz (b:List UInt8)(w d j:Nat):List (List Value):=(yR b w d j).map fun i=>[NI i]
theorem PJ {b:List UInt8}{w d j i:Nat}(h:i∈yR b w d j):i<j:=by
 unfold yR at h
 split at h
 ·have key:∀(l:List Nat) (d:Nat),i∈ym w j l d->i∈l:=by
   intro l
   induction l with
   |nil=>intro d h;simp[ym]at h
   |cons x l ih=>
    intro d h
    cases d with
    |zero=>simp[ym]at h
    |succ d=>
     rw[ym]at h
     split at h
     ·cases h
     ·rcases List.mem_cons.1 h with e|e
      ·rw[e];simp
      ·exact List.mem_cons_of_mem _ (ih d e)
  have:=key _ _ h
  rw[List.mem_reverse]at this
  exact A1 this
 ·cases h
theorem Dx {W:World} {p c1 c2 l gm:Nat} {mv:Value} {Q:Qm} {a:Option Addr} {c w d j:Nat} {b:List UInt8} {A:HP} {G:Nat->HP} {Gx T T':HP} (hA:RdB W A a b.length (b.map Sl.B)) (hc:b.length<=c) (hb:b.length<=1048576) (hj:j<b.length)
  (hQ:∀n,xg b (min j (b.length-2)) (un n)=[]->Q n=(none,0))
  (hy:m0 p_ l (Hz b w d j) (fun k=>all [T,all [pt c1 (.cells #[.pointer (some ⟨p,0,none⟩)] 250),pt c2 (.cells #[.int .i64 (j:Int)] 3),pt p (.cells #[.slice a b.length c,.map (some gm),mv,.int .i64 (w:Int),.int .i64 (d:Int)] 253),fj gm qx (Gm Q b (min j (b.length-2))),BS KN (BQ Q b (min j (b.length-2))),A,G k]]) (all [T',Gx]) W):
  Cn p_ 236 [yv l,.pointer (some ⟨c2,0,none⟩),.pointer (some ⟨c1,0,none⟩)] W [all [T,all [pt c1 (.cells #[.pointer (some ⟨p,0,none⟩)] 250),pt c2 (.cells #[.int .i64 (j:Int)] 3),pt p (.cells #[.slice a b.length c,.map (some gm),mv,.int .i64 (w:Int),.int .i64 (d:Int)] 253),fj gm qx (Gm Q b (min j (b.length-2))),BS KN (BQ Q b (min j (b.length-2))),A,G 0]]] (fun _:Bool=> .tuple #[])
   (fun r=>[if r then all [T,all [pt c1 (.cells #[.pointer (some ⟨p,0,none⟩)] 250),pt c2 (.cells #[.int .i64 (j:Int)] 3),pt p (.cells #[.slice a b.length c,.map (some gm),mv,.int .i64 (w:Int),.int .i64 (d:Int)] 253),fj gm qx (Gm Q b (min j (b.length-2))),BS KN (BQ Q b (min j (b.length-2))),A,G (Hz b w d j).length]]else all [T',Gx]]):=by
 (refine S.kK.cn fun F=>?_;unfold S.gG;simp only[ca_,na_])
 refine aB .here ?_
 refine ay ?_
 refine aB (.there .here) ?_
 refine ay ?_
 refine bM (kS ?_);(refine t_ (ct (by omega) (by omega)) ?_);refine kS ?_;refine t_ aW (t_ aw (kS ?_));refine t_ aN ?_
 by_cases h1:(b.length:Int)<(j:Int)+3
 ·refine t_ bq ?_
  rw[dT_ h1]
  refine ab ?_
  have hl:(Hz b w d j).length=0:=by unfold Hz yR;rw[if_neg (by omega)];rfl
  rw[hl]
  refine bC true ?_
  refine .all ?_
  refine ay ?_
  refine .pick (by repeat constructor) (.all ?_)
  refine ay ?_
  exact aC
 refine t_ bq ?_
 rw[dF_ h1]
 have hmj:min j (b.length-2)=j:=by omega
 rw[hmj]at hQ hy ⊢
 refine aa (bM (kS ?_));refine t_ aW (t_ aw (kS ?_));refine kS ?_;refine t_ aW (t_ aw (kS ?_));refine kS ?_
 obtain⟨g,o,rfl,_⟩:=hA.at_ (by omega)
 refine t_ (Kg j rfl (by omega) (by omega)) ?_
 refine t_ (Kf (by omega)) ?_
 refine jB (Vn hA (by omega)) ?_
 refine LR (g:=gm) (by repeat constructor) fun ml hm1 hm2=>?_
 refine jB (Oh (z:= .slice none 0 0) (q:=qA b j) NS) ?_
 refine cr (w9 (M:=_) .here hm1 hm2 .refl) ?_
 rw[hm2,Gn hQ]
 obtain⟨L,hL⟩:∃L,L=xg b j (qA b j):=⟨_,rfl⟩
 obtain⟨xs,hxs⟩:∃xs,xs=yR b w d j:=⟨_,rfl⟩
 have hxL:xs=ym w j L.reverse d:=by rw[hxs,hL,yR,if_pos (by omega)]
 have hvl:(Hz b w d j).length=xs.length:=by rw[hxs];simp[Hz]
 have hget:∀k (h:k<xs.length),(Hz b w d j)[k]? =some [NI xs[k]]:=fun k h=>by
  subst hxs
  unfold Hz
  rw[List.getElem?_map,List.getElem?_eq_getElem h];rfl
 have hLlen:L.length<=b.length:=by have:=FK b j (qA b j);rw[hL];omega
 rw[<- hL,hvl]
 refine o_ aN (fI ?_)
 refine cg (fun m y z=>(ex fun n:Nat=>all [pu (m+n=L.length/\y= .int .i64 ((L.length:Int)-1-n)/\z= .int .i64 (n:Int)/\n<=xs.length/\xs.drop n=ym w j (L.reverse.drop n) (d-n)),all [T,all [pt c1 (.cells #[.pointer (some ⟨p,0,none⟩)] 250),pt c2 (.cells #[.int .i64 (j:Int)] 3),pt p (.cells #[.slice (some ⟨g,o,none⟩) b.length c,.map (some gm),mv,.int .i64 (w:Int),.int .i64 (d:Int)] 253),fj gm qx (Gm Q b (j)),BS KN (BQ Q b (j)),A,G n]]])::F) L.length ?_ ?_
 ·refine .ex 0 (.all ?_)
  refine ay ?_
  refine .pu ⟨by omega,by simp,rfl,by omega,by simp[hxL]⟩ (.all ?_)
  refine ay ?_
  refine .pick (by repeat constructor) (.all ?_)
  refine ay ?_
  exact aC
 intro m ds y z
 refine aX .here fun n=>aB .here ?_
 refine ay ?_
 refine aT .here fun hk=>?_
 obtain⟨hmn,rfl,rfl,hnx,hcd⟩:=hk
 have fin:xs.length<=n->n=xs.length:=fun h=>by omega
 by_cases h2:(0:Int)<=(L.length:Int)-1-n
 ·have hnL:n<L.reverse.length:=by rw[List.length_reverse];omega
  rw[List.drop_eq_getElem_cons hnL]at hcd
  refine o_ dg ?_
  rw[dT_ h2]
  refine ag (ag (aB .here ?_))
  refine ay ?_
  refine aB (.there .here) ?_
  refine ay ?_
  refine ck ?_;refine ag (o_ aW (ag (o_ aw (ag (ck ?_)))));refine ag ?_
  by_cases h3:(n:Int)<(d:Int)
  ·refine o_ aI ?_
   rw[dT_ h3]
   refine o_ aq (ab (bM (kS ?_)))
   obtain⟨d',hd'⟩:∃d',d-n=d'+1:=⟨d-n-1,by omega⟩
   rw[hd',ym]at hcd
   have hri:L.reverse[n]=L[L.length-1-n]'(by omega):=by rw[List.getElem_reverse]
   obtain⟨i,hi⟩:∃i,i=L[L.length-1-n]'(by omega):=⟨_,rfl⟩
   rw[hri,<- hi]at hcd
   have hij:i<j:=by
    have:i∈L:=by rw[hi];exact List.getElem_mem _
    rw[hL]at this
    exact A1 this
   refine Nk (F:=BQ Q b j) (by repeat constructor) (kn (qA b j)) (Dv _) ?_
   unfold BQ
   rw[sK,<- hL]
   refine fE .here (by omega) fun gq hgq=>?_
   rw[hgq]
   refine t_ (bA (L.length-1-n) (by omega) (by omega)) ?_
   have hld:((L.map NI)[0+(L.length-1-n)]?)=some (NI i):=by
    rw[Nat.zero_add,List.getElem?_map,List.getElem?_eq_getElem (by omega),hi];rfl
   refine aQ (dP hld) (.pick .here .nil) ?_
   refine t_ (ep (by omega) (by omega)) ?_
   refine kS ?_;refine t_ aW (t_ aw (kS ?_))
   by_cases h4:(w:Int)<(j:Int)-(i:Int)
   ·refine t_ bq ?_
    rw[dT_ h4]
    rw[if_pos (by omega)]at hcd
    have hn:=fin (List.drop_eq_nil_iff.1 hcd)
    subst hn
    refine aA (aA (aA (aA (aA (aA (aA (t_ aq (ab (bC true ?_)))))))))
    refine .all ?_
    refine ay ?_
    refine .pick (by repeat constructor) (.all ?_)
    refine ay ?_
    refine .pick (by repeat constructor) (.pick (by repeat constructor) (.pick (by repeat constructor) (.pick (by repeat constructor) ?_)))
    refine Ak (kn (qA b j)) (Dv _) (F:=BQ Q b j) (fun _ _ _=>rfl) ?_
    unfold BQ
    rw[sK,<- hL,hgq]
    refine .pick (by repeat constructor) ?_
    exact aC
   ·refine t_ bq ?_
    rw[dF_ h4]
    rw[if_neg (by omega)]at hcd
    have hlt:n<xs.length:=by
     rcases Nat.lt_or_ge n xs.length with h|h
     ·exact h
     ·rw[List.drop_eq_nil_iff.2 h]at hcd;cases hcd
    rw[List.drop_eq_getElem_cons hlt]at hcd
    obtain⟨hx1,hx2⟩:=List.cons.inj hcd
    refine ag (ag (ag (ag (t_ (bA (L.length-1-n) (by omega) (by omega)) ?_))))
    refine ag (aQ (dP hld) (.pick .here .nil) ?_)
    refine ag (cr (M:=all [T,all [pt c1 (.cells #[.pointer (some ⟨p,0,none⟩)] 250),pt c2 (.cells #[.int .i64 (j:Int)] 3),pt p (.cells #[.slice (some ⟨g,o,none⟩) b.length c,.map (some gm),mv,.int .i64 (w:Int),.int .i64 (d:Int)] 253),fj gm qx (Gm Q b j),BS KN (BQ Q b j),A,G n]]::F) ?_ ?_)
    ·refine .all ?_
     refine ay ?_
     refine .pick (by repeat constructor) (.all ?_)
     refine ay ?_
     refine .pick (by repeat constructor) (.pick (by repeat constructor) (.pick (by repeat constructor) (.pick (by repeat constructor) ?_)))
     refine Ak (kn (qA b j)) (Dv _) (F:=BQ Q b j) (fun _ _ _=>rfl) ?_
     unfold BQ
     rw[sK,<- hL,hgq]
     refine .pick (by repeat constructor) ?_
     exact aC
    refine ka hy n (by rw[hget n hlt,hx1]) .here ?_ ?_
    ·(refine ag ?_);refine t_ eT ?_;refine t_ ap ?_;refine aa ?_;refine fI ?_;refine bW ?_
     refine bH (m-1) (by omega) (.ex (n+1) (.all ?_))
     refine ay ?_
     refine .pu ⟨by omega,by congr 1;omega,rfl,by omega,?_⟩ .refl
     rw[hx2]
     congr 1
     omega
    ·(refine ag ?_);refine t_ ee ?_;refine t_ ap ?_;refine ab ?_
     refine bC false ?_
     exact .refl
  ·refine o_ aI ?_
   rw[dF_ h3]
   refine o_ aq (aa ?_)
   rw[show d-n=0 by omega,ym]at hcd
   have hn:=fin (List.drop_eq_nil_iff.1 hcd)
   subst hn
   refine bC true ?_
   refine .all ?_
   refine ay ?_
   refine .pick (by repeat constructor) (.all ?_)
   refine ay ?_
   exact aC
 ·refine o_ dg ?_
  rw[dF_ h2]
  refine ah (ah (ah (ah (ah (ah (o_ ap (aa ?_)))))))
  rw[List.drop_eq_nil_iff.2 (show L.reverse.length<=n by rw[List.length_reverse];omega),show ym w j [] (d-n)=[] by simp[ym]]at hcd
  have hn:=fin (List.drop_eq_nil_iff.1 hcd)
  subst hn
  refine bC true ?_
  exact .refl
def vp (b:List UInt8)(j:Nat)(l:List Nat):Pz:=l.foldl (fun p i=>NJ j i (ec b i j) p) ⟨0,0,b.getD j 0⟩
theorem EX {b:List UInt8}{w d j:Nat}:fJ b w d j=vp b j (yR b w d j):=by
 unfold fJ yR vp
 by_cases h:j+3<=b.length
 ·rw[if_pos h,A3 h j d _ (Nat.le_refl _)]
 ·rw[if_neg h,zr (by omega)];rfl
theorem HA {b:List UInt8}{j k:Nat}{l:List Nat}(h:k<l.length):vp b j (l.take (k+1))=NJ j l[k] (ec b l[k] j) (vp b j (l.take k)):=by
 unfold vp
 rw[List.take_succ_eq_append_getElem h,List.foldl_append];rfl
theorem NU {W:World}{p:Nat}{a:Option Addr}{c w d j:Nat}{b:List UInt8}{A:HP}(hA:RdB W A a b.length (b.map Sl.B))(hc:b.length<=c)(hb:b.length<=1048576)(hj:j<b.length):
  Cn p_ 196 [.pointer (some ⟨p,0,none⟩),.int .i64 (j:Int)] W [Dw p a c b (min j (b.length-2)) w d,A] (fun _:Unit=>NH (fJ b w d j)) (fun _=>[Dw p a c b (min j (b.length-2)) w d,A]):=by
 (refine S.rt.cn fun F=>?_;unfold S.my;simp only[ca_,na_])
 refine aX .here fun q=>aB .here ?_
 obtain⟨gm,Q⟩:=q
 refine ay ?_
 refine aT .here fun hQ=>?_
 (try dsimp only at hQ)
 refine fK fun b2=>?_
 refine fK fun b3=>?_
 refine bm fun b4=>?_
 refine bM ?_
 (((refine' aZ (br ?hc) ?hi ?_);(case hi=>exact .pick (by repeat constructor) .nil);(case hc=>repeat constructor)));refine aZ aW .nil ?_;refine aZ aw .nil ?_;(((refine' aZ (br ?hc) ?hi ?_);(case hi=>exact .pick (by repeat constructor) .nil);(case hc=>repeat constructor)));(((refine' aZ (br ?hc) ?hi ?_);(case hi=>exact .pick (by repeat constructor) .nil);(case hc=>repeat constructor)))
 have hA0:=hA
 obtain⟨ga,o,ha,_⟩:=hA.at_ (by omega)
 rw[ha]at hA ⊢
 refine aZ (bA j rfl hj) .nil ?_
 refine aZ (cX (v:=Sl.B (b.getD j 0)) hA (by rw[List.getElem?_map,List.getElem?_eq_getElem hj,List.getD_eq_getElem?_getD,List.getElem?_eq_getElem hj];rfl)) (.pick (by repeat constructor) .nil) ?_
 refine aZ cu .nil ?_;refine bm fun g=>?_;refine cq ?_;refine cq ?_;refine cq ?_;refine cq ?_;refine cq ?_;refine cq ?_;refine cq ?_;refine cq ?_;refine gS ?_;refine ck ?_;refine ck ?_
 rename Nat=>b5
 refine c_ (EW (j:=(j:Int))) fun _=>?_
 rename_i qc
 obtain⟨bc,bd⟩:=qc
 (try dsimp only)
 refine ay ?_
 have hvl:(Hz b w d j).length=(yR b w d j).length:=by simp[Hz]
 refine GG (f:=236) (cap:=[.pointer (some ⟨bd,0,none⟩),.pointer (some ⟨bc,0,none⟩)]) (Hz b w d j)
  (fun k=>all [pt bc (.cells #[.pointer (some ⟨p,0,none⟩)] 250),pt bd (.cells #[.int .i64 (j:Int)] 3),pt p (.cells #[.slice (some ⟨ga,o,none⟩) b.length c,.map (some gm),.int .i64 ((min j (b.length-2):Nat):Int),.int .i64 (w:Int),.int .i64 (d:Int)] 253),fj gm qx (Gm Q b (min j (b.length-2))),BS KN (BQ Q b (min j (b.length-2))),A,all [pu (k<=(yR b w d j).length),pt b2 (.cells #[.pointer (some ⟨p,0,none⟩)] 250),pt b3 (.cells #[.int .i64 (j:Int)] 3),pt b4 (.cells #[.int .i64 0,.int .i64 0,.int .u8 0] 209),pt b5 (.cells #[.int .i64 (vp b j ((yR b w d j).take k)).len,.int .i64 (vp b j ((yR b w d j).take k)).dist,Sl.B (vp b j ((yR b w d j).take k)).c] 209),all F]]) (pu False) rfl ?_ ?_ ?_ ?_ ?_ ?_
 ·intro x hx
  obtain⟨k,_,rfl⟩:=List.mem_map.1 hx
  rfl
 ·refine .all ?_
  refine ay ?_
  refine .pick (by repeat constructor) (.pick (by repeat constructor) (.pick (by repeat constructor) (.pick (by repeat constructor) (.pick (by repeat constructor) (.pick (by repeat constructor) (.all ?_))))))
  refine ay ?_
  refine .pu (by omega) (.pick (by repeat constructor) (.pick (by repeat constructor) (.pick (by repeat constructor) (.pick (by repeat constructor) (.all ?_)))))
  rw[List.append_nil]
  exact .refl
 ·intro l T T' hy
  exact Dx (G:=fun k=>all [pu (k<=(yR b w d j).length),pt b2 (.cells #[.pointer (some ⟨p,0,none⟩)] 250),pt b3 (.cells #[.int .i64 (j:Int)] 3),pt b4 (.cells #[.int .i64 0,.int .i64 0,.int .u8 0] 209),pt b5 (.cells #[.int .i64 (vp b j ((yR b w d j).take k)).len,.int .i64 (vp b j ((yR b w d j).take k)).dist,Sl.B (vp b j ((yR b w d j).take k)).c] 209),all F]) hA hc hb hj hQ hy
 ·intro k hk F2 T0 T1 B N J hB hN hJ
  rw[hvl]at hk
  have e0:∀h,(Hz b w d j)[k]'h=[NI (yR b w d j)[k]]:=fun h=>by simp[Hz]
  rw[e0]
  simp only[kU,List.headD_cons,List.tail_cons]
  have hij:(yR b w d j)[k]<j:=PJ (List.getElem_mem hk)
  obtain⟨i,hi⟩:∃i,i=(yR b w d j)[k]:=⟨_,rfl⟩
  have hfs:=HA (b:=b) (j:=j) hk
  rw[<- hi]at hij hfs ⊢
  obtain⟨P0,hP0⟩:∃P0,P0=vp b j ((yR b w d j).take k):=⟨_,rfl⟩
  rw[<- hP0]at hfs ⊢
  refine aB (.there .here) ?_
  refine ay ?_
  refine aB (.there (.there (.there (.there (.there (.there .here)))))) ?_
  refine ay ?_
  refine aT .here fun hkn=>?_
  refine hB _ _ _ (by repeat constructor) ?_
  unfold NI I
  refine ck ?_;refine ck ?_
  refine c_ (MU (i:=i) (j:=j) hA hb hij hj) fun _=>?_
  refine o_ aw (ck ?_)
  have hal:=(l8 b i j).1
  refine aF bq .nil (fun h=>?_) (fun h=>?_)
  ·refine ab (ck ?_);refine fI ?_;refine o_ cu ?_;refine gS ?_
   refine hN _ ?_
   refine .pick (by repeat constructor) (.all ?_)
   refine ay ?_
   refine .pick (by repeat constructor) (.pick (by repeat constructor) (.pick (by repeat constructor) (.pick (by repeat constructor) (.pick (by repeat constructor) (.pick (by repeat constructor) (.all ?_))))))
   refine ay ?_
   rw[hfs,NJ,if_pos h]
   refine .pu (by omega) ?_
   exact aC
  ·refine aa (hN _ ?_)
   refine .pick (by repeat constructor) (.all ?_)
   refine ay ?_
   refine .pick (by repeat constructor) (.pick (by repeat constructor) (.pick (by repeat constructor) (.pick (by repeat constructor) (.pick (by repeat constructor) (.pick (by repeat constructor) (.all ?_))))))
   refine ay ?_
   rw[hfs,NJ,if_neg h]
   refine .pu (by omega) ?_
   exact aC
 ·intro d1
  rw[hvl,List.take_length,<- EX]
  refine aB (.there .here) ?_
  refine ay ?_
  refine aB (.there (.there (.there (.there (.there (.there .here)))))) ?_
  refine ay ?_
  refine aT .here fun hkn=>?_
  refine sP ?_;refine gS ?_
  refine Ai (by repeat constructor) ?_
  (((refine' aQ (cN ?hn) ?hi ?_);(case hi=>exact aC);(case hn=>rfl)))
  rw[<- ha]
  refine m6 (M:=[Dw p a c b (min j (b.length-2)) w d,A]) (F:=F) ?_ ?_
  ·refine .ex (gm,Q) (.all ?_)
   refine ay ?_
   refine .pu hQ ?_
   exact aC
  ·refine ay ?_
   refine bC () ?_
   exact .refl
 ·intro d1
  exact aT (.there .here) fun h=>h.elim
theorem Gq {W:World}{L M:List HP}{F:Nat->HP}:∀n,(∀j,j<n->∀ {L M:List HP},Imp W L M->Imp W L (F j::M))->Imp W L M->Imp W L (BS n F::M)
 |0,_,h=>Lh h
 |n+1,hF,h=>Li (F:=F) (fun _ _=>rfl) (Gq n (fun j hj=>hF j (by omega)) (hF n (by omega) h))
theorem Dy (b:List UInt8)(k:K3):xg b 0 k=[]:=rfl
theorem MV {W:World}{L L' M:List HP}{p gm w d c:Nat}{a:Option Addr}{b:List UInt8}(q:Picks L [pt p (.cells #[.slice a b.length c,.map (some gm),.int .i64 0,.int .i64 (w:Int),.int .i64 (d:Int)] 253),fj gm qx (fun _=>none)] L')(h:Imp W L' M):Imp W L (Dw p a c b 0 w d::M):=by
 cases q with
 |cons p1 q=>
  cases q with
  |cons p2 q=>
   cases q
   refine .ex (gm,fun _=>(none,0)) (.all ?_)
   simp only[ca_,na_,-eq_self]
   refine .pu (fun _ _=>rfl) (.pick p1 ?_)
   rw[show Gm (fun _=>(none,0)) b 0=fun _=>none from funext fun k=>by unfold Gm;rw[if_pos (Dy b k)]]
   refine .pick p2 ?_
   refine Gq KN (fun j _ L M h=>?_) h
   unfold BQ
   rw[Dy]
   exact cQ h
theorem PL {W:World}{a:Option Addr}{c w d:Nat}{b:List UInt8}{A:HP}(hA:RdB W A a b.length (b.map Sl.B))(hc:b.length<=c)(hb:b.length<=1048576)(hw:1<=w/\w<=32768)(hd:d<=4096):
  Cn p_ 149 [.slice a b.length c,.int .i64 (w:Int),.int .i64 (d:Int)] W [A] (fun q:Option Addr × Nat=> .tuple #[.slice q.1 (oM b w d).length q.2,.int .i64 0]) (fun q=>[Sl 3 209 q.1 q.2 (oM b w d).length ((oM b w d).flatMap qq),A]):=by
 (refine S.Cp.cn fun F=>?_;unfold S.zj;simp only[ca_,na_])
 refine eR (fun z=>pu (z= .bool false)::A::F) ?_ ?_
 rotate_left
 ·refine o_ aI ?_
  rw[dF_ (by omega)]
  refine aa (o_ bq ?_)
  rw[dF_ (by omega)]
  refine aa (o_ aI ?_)
  rw[dF_ (by omega)]
  refine aa (o_ bq ?_)
  rw[dF_ (by omega)]
  refine a_ (.pu rfl ?_)
  exact .refl
 intro ds z
 refine aT .here fun hz=>?_
 subst hz
 refine aa (o_ aN (o_ bq ?_))
 rw[dF_ (by omega)]
 refine aa (NE qx fun gm=>?_)
 refine o_ cu ?_;refine cv fun g=>?_
 rename Nat=>p
 refine cg (fun m x y=>(ex fun st:(Option Addr × Nat) × Nat × Nat=>ex fun o:List Pz=>all [pu (b.length+1<=m+st.2.1/\x= .slice st.1.1 o.length st.1.2/\y= .int .i64 (st.2.1:Int)/\st.2.1<=b.length/\st.2.2<=min st.2.1 (b.length-2)/\o++LX b w d m st.2.1=oM b w d/\o.length<=st.2.1),Dw p a c b st.2.2 w d,Sl 3 209 st.1.1 st.1.2 o.length (o.flatMap qq)])::A::F) (b.length+1) ?_ ?_
 ·refine .ex ((none,0),0,0) (.ex [] (.all ?_))
  refine ay ?_
  refine .pu ⟨by omega,rfl,rfl,by omega,by omega,rfl,by simp⟩ ?_
  refine MV (.cons (by repeat constructor) (.cons (by repeat constructor) .nil)) ?_
  exact cQ .refl
 intro m ds x y
 refine aX .here fun st=>aX .here fun o=>aB .here ?_
 obtain⟨⟨sa,sc⟩,j,mk⟩:=st
 refine ay ?_
 refine aT .here fun hi=>?_
 (try dsimp only at hi)
 obtain⟨hmj,rfl,rfl,hj,hmk,hex,hol⟩:=hi
 (try dsimp only)
 refine o_ aN (aF aI .nil (fun h=>?_) (fun h=>?_))
 ·refine ab ?_
  have hjl:j<b.length:=by omega
  obtain⟨m,rfl⟩:∃m',m=m'+1:=⟨m-1,by omega⟩
  rw[LX,if_pos hjl]at hex
  have hgp:gP b j (fJ b w d j):=xi hw.2
  obtain⟨he1,he2,he3⟩:=tP hgp hjl
  have hpn:=sj (fJ b w d j)
  refine c_ (Sn (to:=j) hA hc hb hj hmk) fun _=>?_
  refine c_ (NU hA hc hb hjl) fun _=>?_
  generalize fJ b w d j=P at *
  unfold NH
  refine bm fun b8=>?_
  refine bY .here (by rfl) (by rfl) (by intro u hu;simp at hu;rcases hu with rfl|rfl|rfl <;> rfl) ?_
  refine sP ?_
  refine fp (n:=1) (vs:=[NH P]) rfl (by decide) rfl (by intro v hv;rw[List.mem_singleton.1 hv];rfl) (by decide) fun gb=>?_
  refine co (m:=1) (news:=qq P) (by repeat constructor) (dq (e':=209) (by kernel_rfl) .here (by rfl) (by intro u hu;simp[qq]at hu;rcases hu with rfl|rfl|rfl <;> rfl)) (by omega) (by omega) fun a' c'=>?_
  refine o_ aw (ck ?_)
  refine o_ Fc ?_
  have e3:(if(1:Int)<P.len then P.len else 1)=(gT P:Int):=by rw[he3];split <;> split <;> omega
  rw[e3]
  refine bW ?_
  refine bH m (by omega) (.ex ((a',c'),j+gT P,min j (b.length-2)) (.ex (o++[P]) (.all ?_)))
  refine ay ?_
  rw[List.length_append,List.flatMap_append]
  refine .pu ⟨by omega,rfl,rfl,he1,by omega,by rw[List.append_assoc];exact hex,by simp only[List.length_singleton];omega⟩ ?_
  exact aC
 ·have hje:b.length<=j:=by omega
  rw[LY hje,List.append_nil]at hex
  subst hex
  refine aa (bC ((sa,sc)) ?_)
  exact aC
abbrev Bv:=(Option Addr × Nat) × (Option Addr × Nat)
def Gr (level:Int)(x:ff × Bv):List Value:=[.slice x.2.1.1 x.1.1.length x.2.1.2,.slice x.2.2.1 x.1.2.length x.2.2.2,.int .i64 level]
def DN (level:Int)(x:ff × Bv):Value:= .agg #[.slice x.2.1.1 x.1.1.length x.2.1.2,.slice x.2.2.1 x.1.2.length x.2.2.2,.int .i64 level]
structure BkOk (W:World)(AL AB:HP)(x:ff × Bv):Prop where
 rl:RdB W AL x.2.1.1 (x.1.1.length * 3) (x.1.1.flatMap qq)
 rb:RdB W AB x.2.2.1 x.1.2.length (x.1.2.map Sl.B)
 bc:x.1.2.length<=x.2.2.2
theorem Kh {l:List Pz}(i n:Nat):((l.flatMap qq).drop (i * 3)).take (n * 3)=((l.drop i).take n).flatMap qq:=by
 induction l generalizing i n with
 |nil=>simp
 |cons p l ih=>
  have hp:(qq p).length=3:=rfl
  cases i with
  |succ i=>
   rw[List.flatMap_cons,List.drop_succ_cons,<- ih i n,show(i+1) * 3=(qq p).length+i * 3 by rw[hp];omega,<- List.drop_drop,List.drop_left]
  |zero=>
   cases n with
   |zero=>simp
   |succ n=>
    have:=ih 0 n
    simp only[Nat.zero_mul,List.drop_zero]at this ⊢
    rw[List.take_succ_cons,List.flatMap_cons,List.flatMap_cons,<- this,show(n+1) * 3=(qq p).length+n * 3 by rw[hp];omega,List.take_length_add_append]
theorem x_ {W:World}{A:HP}{a:Option Addr}{c:Nat}{l:List Pz}{i j:Nat}(hA:RdB W A a (l.length * 3) (l.flatMap qq))(h1:i<=j)(h2:j<=l.length)(h3:l.length<=c):
  RdB W A (if c=i then a else a.map (·.add (i * 3))) (((l.drop i).take (j-i)).length * 3) (((l.drop i).take (j-i)).flatMap qq):=by
 have h:=RdB.cut (l:=i * 3) (h:=j * 3) (cap:=c * 3) hA (by omega) (by omega) (by omega)
 rw[<- Nat.sub_mul,Kh,Nat.mul_one]at h
 have e:((l.drop i).take (j-i)).length=j-i:=by rw[List.length_take,List.length_drop];omega
 rw[e]
 by_cases c1:c=i
 ·subst c1
  rw[if_pos rfl]at h ⊢
  exact h
 ·rw[if_neg (by omega)]at h
  rw[if_neg c1]
  exact h
theorem mb {b:List UInt8}{fr at_:Nat}(h1:fr<=at_)(h2:at_<=b.length):(seg b fr at_).length=at_-fr:=by
 unfold seg
 rw[List.length_take,List.length_drop];omega
theorem sL {W:World}{A:HP}{a:Option Addr}{c:Nat}{b:List UInt8}{i j:Nat}(hA:RdB W A a b.length (b.map Sl.B))(h1:i<=j)(h2:j<=b.length)(h3:b.length<=c):
  RdB W A (if c=i then a else a.map (·.add (i * 1))) (seg b i j).length ((seg b i j).map Sl.B):=by
 have h:=RdB.cut (l:=i) (h:=j) (cap:=c) hA h1 h2 h3
 rw[mb h1 h2]
 unfold seg
 rw[List.map_take,List.map_drop]
 exact h
theorem BC (level:Int)(x:ff × Bv):(Gr level x).length=3:=rfl
theorem ot {W : World} {g1 g2 g3 g4 g5 g6 g7 : Nat} {oa pa a : Option Addr} {oc pc c fi to fr at_ : Nat} {level : Int} {l : List Pz} {b : List UInt8} {X : List (ff × Bv)} (h1 : fi ≤ to) (h2 : to ≤ l.length) (h3 : l.length ≤ pc) (h4 : fr ≤ at_) (h5 : at_ ≤ b.length) (h6 : b.length ≤ c) (h7 : X.length ≤ 1099511627776) :
  Cn p_ 150 [.int .i64 (to : Int), .pointer (some ⟨g1, 0, none⟩), .pointer (some ⟨g2, 0, none⟩), .pointer (some ⟨g3, 0, none⟩), .pointer (some ⟨g4, 0, none⟩), .pointer (some ⟨g5, 0, none⟩), .pointer (some ⟨g6, 0, none⟩), .pointer (some ⟨g7, 0, none⟩)] W
   [pt g1 (.cells #[.slice oa X.length oc] 158), Sl 3 162 oa oc X.length (X.flatMap (Gr level)), pt g2 (.cells #[.slice pa l.length pc] 160), pt g3 (.cells #[.int .i64 (fi : Int)] 3), pt g4 (.cells #[.slice a b.length c] 23), pt g5 (.cells #[.int .i64 (fr : Int)] 3), pt g6 (.cells #[.int .i64 (at_ : Int)] 3), pt g7 (.cells #[.int .i64 level] 3)]
   (fun _ : Option Addr × Nat => .tuple #[])
   (fun q => [pt g1 (.cells #[.slice q.1 (X ++ [((((l.drop fi).take (to - fi)), seg b fr at_), ((if pc = fi then pa else pa.map (·.add (fi * 3)), pc - fi), (if c = fr then a else a.map (·.add (fr * 1)), c - fr)))]).length q.2] 158),
    Sl 3 162 q.1 q.2 (X ++ [((((l.drop fi).take (to - fi)), seg b fr at_), ((if pc = fi then pa else pa.map (·.add (fi * 3)), pc - fi), (if c = fr then a else a.map (·.add (fr * 1)), c - fr)))]).length ((X ++ [((((l.drop fi).take (to - fi)), seg b fr at_), ((if pc = fi then pa else pa.map (·.add (fi * 3)), pc - fi), (if c = fr then a else a.map (·.add (fr * 1)), c - fr)))]).flatMap (Gr level)),
    pt g2 (.cells #[.slice pa l.length pc] 160), pt g3 (.cells #[.int .i64 (to : Int)] 3), pt g4 (.cells #[.slice a b.length c] 23), pt g5 (.cells #[.int .i64 (at_ : Int)] 3), pt g6 (.cells #[.int .i64 (at_ : Int)] 3), pt g7 (.cells #[.int .i64 level] 3)]) := by
 (refine S.pX.cn fun F => ?_; unfold S.li; simp only [ca_, na_])
 refine bM ?_
 (((refine' aZ (br ?hc) ?hi ?_); (case hi => exact .pick (by repeat constructor) .nil); (case hc => repeat constructor))); refine kS ?_; refine kS ?_
 refine t_ (H8 fi to rfl rfl h1 (by omega)) ?_
 refine kS ?_; refine kS ?_; refine kS ?_
 refine t_ (H8 fr at_ rfl rfl h4 (by omega)) ?_
 refine kS ?_; refine t_ cu ?_
 have e1 : ((l.drop fi).take (to - fi)).length = to - fi := by rw [List.length_take, List.length_drop]; omega
 have e2 := mb h4 h5
 obtain ⟨nx, hnx⟩ : ∃ nx : ff × Bv, nx = (((l.drop fi).take (to - fi), seg b fr at_), ((if pc = fi then pa else pa.map (·.add (fi * 3)), pc - fi), (if c = fr then a else a.map (·.add (fr * 1)), c - fr))) := ⟨_, rfl⟩
 have hv : DN level nx = .agg #[.slice (if pc = fi then pa else pa.map (·.add (fi * 3))) (to - fi) (pc - fi), .slice (if c = fr then a else a.map (·.add (fr * 1))) (at_ - fr) (c - fr), .int .i64 level] := by
  rw [hnx, DN, e1, e2]
 rw [← hnx, ← hv]
 refine fp (n := 1) (vs := [DN level nx]) rfl (by decide) rfl (by intro v hv; rw [List.mem_singleton.1 hv]; rfl) (by decide) fun gb => ?_
 refine cq ?_
 refine co (m := 1) (news := Gr level nx) (by repeat constructor) (dq (e' := 162) (by kernel_rfl) (by repeat constructor) (by rfl) (by intro u hu; simp [Gr] at hu; rcases hu with rfl | rfl | rfl <;> rfl)) (by omega) (by omega) fun a' c' => ?_
 refine fX ?_; refine bM ?_; (((refine' aZ (br ?hc) ?hi ?_); (case hi => exact .pick (by repeat constructor) .nil); (case hc => repeat constructor))); refine fX ?_; refine cq ?_; refine fX ?_
 refine bC ((a', c')) ?_
 (try dsimp only)
 rw [List.length_append, List.flatMap_append]
 refine .pick (by repeat constructor) ?_
 exact aC
theorem BkOk.up {W:World}{AL AB:HP}{X:List (ff × Bv)}{x:ff × Bv}(h:∀y∈X,BkOk W AL AB y)(hx:BkOk W AL AB x):∀y∈X++[x],BkOk W AL AB y:=fun y hy=>by
 rcases List.mem_append.1 hy with c|c
 ·exact h y c
 ·rw[List.mem_singleton.1 c];exact hx
theorem MW {n:Nat}(h1:1<=n)(h2:n<=9):IntKind.i64.wrap (2 * 2^(min (IntKind.u64.wrap (n:Int)).toNat IntKind.i64.bits))=((2 * 2^n:Nat):Int)/\2 * 2^n<=4096:=by
 rcases(show n=1\/n=2\/n=3\/n=4\/n=5\/n=6\/n=7\/n=8\/n=9 by omega)with e|e|e|e|e|e|e|e|e <;> subst e <;> exact⟨by decide,by decide⟩
theorem MX {W:World}{a:Option Addr}{c:Nat}{level:Int}{b:List UInt8}{A:HP}(hA:RdB W A a b.length (b.map Sl.B))(hc:b.length<=c)(hb:b.length<=1048576)(hl:0<=level/\level<=9):
  Cn p_ 111 [.slice a b.length c,.int .i64 level] W [A] (fun q:(Option Addr × Nat) × (Option Addr × Nat) × List (ff × Bv)=> .slice q.1.1 q.2.2.length q.1.2)
   (fun q=>[pu (q.2.2.map Prod.fst=cO b level/\∀x∈q.2.2,BkOk W (Sl 3 209 q.2.1.1 q.2.1.2 (jQ b level).length ((jQ b level).flatMap qq)) A x),Sl 3 162 q.1.1 q.1.2 q.2.2.length (q.2.2.flatMap (Gr level)),Sl 3 209 q.2.1.1 q.2.1.2 (jQ b level).length ((jQ b level).flatMap qq),A]):=by
 (refine S.tp.cn fun F=>?_;unfold S.nw;simp only[ca_,na_])
 refine fK fun g2=>?_
 refine fK fun g3=>?_
 refine dQ fun g5=>?_
 have hpl:=Jp b level
 refine jx ((ex fun q:Option Addr × Nat=>all [pt g5 (.cells #[.slice q.1 (jQ b level).length q.2] 160),Sl 3 209 q.1 q.2 (jQ b level).length ((jQ b level).flatMap qq)])::pt g2 (.cells #[.slice a b.length c] 23)::pt g3 (.cells #[.int .i64 level] 3)::A::F) ?_ ?_
 rotate_left
 ·refine ck ?_
  refine aF bq .nil (fun h=>?_) (fun h=>?_)
  ·refine ab (ck ?_);refine ck ?_
   refine o_ (bO (q:= .u64)) ?_
   obtain⟨N,rfl⟩:=Int.eq_ofNat_of_zero_le hl.1
   obtain⟨s1,s2⟩:=MW (n:=N) (by omega) (by omega)
   refine o_ (me (by simp[oJ (show N<18446744073709551616 by omega)])) ?_
   rw[s1]
   refine c_ (PL (w:=32768) (d:=2 * 2^N) hA hc hb (by omega) s2) fun _=>?_
   rename_i q
   obtain⟨qa,qc⟩:=q
   (try dsimp only)
   have hp:jQ b (N:Int)=oM b 32768 (2 * 2^N):=by unfold jQ;rw[if_pos h,Int.toNat_natCast]
   rw[<- hp]
   refine iC ?_;refine iC ?_;refine fX ?_
   refine a_ (.ex (qa,qc) (.all ?_))
   refine ay ?_
   exact aC
  ·refine aa (ck ?_);refine o_ aN ?_
   have hp:jQ b level=tR b:=by unfold jQ;rw[if_neg h]
   rw[hp]
   refine bj (fun m y=>(ex fun i:Nat=>ex fun q:Option Addr × Nat=>all [pu (m+i=b.length/\y= .int .i64 (i:Int)),pt g5 (.cells #[.slice q.1 (tR (b.take i)).length q.2] 160),Sl 3 209 q.1 q.2 (tR (b.take i)).length ((tR (b.take i)).flatMap qq)])::pt g2 (.cells #[.slice a b.length c] 23)::pt g3 (.cells #[.int .i64 level] 3)::A::F) b.length ?_ ?_
   ·refine .ex 0 (.ex (none,0) (.all ?_))
    refine ay ?_
    refine .pu ⟨by omega,rfl⟩ (.pick (by repeat constructor) ?_)
    refine cQ ?_
    exact aC
   intro m ds y
   refine aX .here fun i=>aX .here fun q=>aB .here ?_
   obtain⟨qa,qc⟩:=q
   refine ay ?_
   refine aT .here fun hk=>?_
   (try dsimp only at hk)
   obtain⟨hmi,rfl⟩:=hk
   (try dsimp only)
   refine aF aI .nil (fun h2=>?_) (fun h2=>?_)
   ·have hil:i<b.length:=by omega
    refine ab ?_
    obtain⟨g,o,ha,_⟩:=hA.at_ (by omega)
    have hA2:=hA
    rw[ha]at hA2 ⊢
    refine o_ (bA i rfl hil) ?_
    refine cm (cX (v:=Sl.B b[i]) hA2 (by rw[List.getElem?_map,List.getElem?_eq_getElem hil];rfl)) ?_
    refine ck ?_;refine o_ cu ?_
    refine fp (n:=1) (vs:=[NH ⟨0,0,b[i]⟩]) rfl (by decide) rfl (by intro v hv;rw[List.mem_singleton.1 hv];rfl) (by decide) fun gb=>?_
    have hll:(tR (b.take i)).length=i:=by unfold tR;rw[List.length_map,List.length_take];omega
    refine co (m:=1) (news:=qq ⟨0,0,b[i]⟩) (by repeat constructor) (dq (e':=209) (by kernel_rfl) .here (by rfl) (by intro u hu;simp[qq]at hu;rcases hu with rfl|rfl <;> rfl)) (by omega) (by omega) fun a' c'=>?_
    refine fX ?_;refine bW ?_
    refine aP (m-1) (by omega) (.ex (i+1) (.ex (a',c') (.all ?_)))
    refine ay ?_
    have e1:tR (b.take (i+1))=tR (b.take i)++[⟨0,0,b[i]⟩]:=by unfold tR;rw[List.take_succ_eq_append_getElem hil,List.map_append];rfl
    rw[e1,List.length_append,List.flatMap_append]
    refine .pu ⟨by omega,rfl⟩ ?_
    refine .pick (by repeat constructor) (.pick (by repeat constructor) ?_)
    rw[<- ha]
    exact aC
   ·have:i=b.length:=by omega
    subst this
    rw[List.take_length]
    refine aa (a_ (.ex (qa,qc) (.all ?_)))
    refine ay ?_
    exact aC
 intro ds
 refine aX .here fun q=>aB .here ?_
 obtain⟨pa,pc⟩:=q
 refine ay ?_
 (try dsimp only)
 obtain⟨hg0,hend⟩:=xm b level
 have hbf:sx b level (jQ b level) [] 0 0 []=cO b level:=rfl
 generalize jQ b level=l at *
 refine aJ (by repeat constructor) fun f1 f2 f3 f4=>?_
 have hpc:l.length<=pc:=f2
 have hPL:RdB W (Sl 3 209 pa pc l.length (l.flatMap qq)) pa (l.length * 3) (l.flatMap qq):=sV f1 f4
 refine dQ fun g8=>?_
 refine dQ fun g9=>?_
 refine dQ fun g10=>?_
 refine dQ fun g11=>?_
 refine fX ?_;refine fX ?_;refine fX ?_
 refine o_ iB (ck ?_);refine o_ aN ?_
 refine bj (fun m y=>(ex fun i:Nat=>ex fun st:(Option Addr × Nat) × Nat × Nat=>ex fun X:List (ff × Bv)=>all [pu (m+i=l.length/\y= .int .i64 (i:Int)/\i<=l.length/\st.2.1<=i/\st.2.2<=dZ 0 (l.take i)/\X.length<=i/\sx b level (l.drop i) ((l.drop st.2.1).take (i-st.2.1)) st.2.2 (dZ 0 (l.take i)) (X.map Prod.fst)=cO b level/\∀x∈X,BkOk W (Sl 3 209 pa pc l.length (l.flatMap qq)) A x),
   pt g8 (.cells #[.slice st.1.1 X.length st.1.2] 158),Sl 3 162 st.1.1 st.1.2 X.length (X.flatMap (Gr level)),pt g9 (.cells #[.int .i64 (st.2.1:Int)] 3),pt g10 (.cells #[.int .i64 (st.2.2:Int)] 3),pt g11 (.cells #[.int .i64 (dZ 0 (l.take i):Int)] 3)])::
   pt g5 (.cells #[.slice pa l.length pc] 160)::(Sl 3 209 pa pc l.length (l.flatMap qq))::pt g2 (.cells #[.slice a b.length c] 23)::pt g3 (.cells #[.int .i64 level] 3)::A::F) l.length ?_ ?_
 ·refine .ex 0 (.ex ((none,0),0,0) (.ex [] (.all ?_)))
  refine ay ?_
  refine .pu ⟨by omega,rfl,by omega,by omega,by omega,by simp,by simpa [dZ]using hbf,by simp⟩ ?_
  refine .pick (by repeat constructor) ?_
  refine cQ ?_
  exact aC
 intro m ds2 y
 refine aX .here fun i=>aX .here fun st=>aX .here fun X=>aB .here ?_
 obtain⟨⟨oa,oc⟩,fi,fr⟩:=st
 refine ay ?_
 refine aT .here fun hk=>?_
 (try dsimp only at hk)
 obtain⟨hmi,rfl,hil,hfi,hfr,hXi,hcut,hok⟩:=hk
 (try dsimp only)
 have hsp:CQ b 0 (l.take i++l.drop i):=by rw[List.take_append_drop];exact hg0
 obtain⟨hs1,hs2⟩:=qr.1 hsp
 have hle:=A9 hs1 (by omega)
 obtain⟨e,he⟩:∃e,e=dZ 0 (l.take i):=⟨_,rfl⟩
 rw[<- he]at hcut hfr hs2 hle ⊢
 refine aF aI .nil (fun h=>?_) (fun h=>?_)
 ·have hi2:i<l.length:=by omega
  refine ab ?_
  rw[List.drop_eq_getElem_cons hi2]at hcut hs2
  obtain⟨hs3,hs4,_⟩:=hs2
  obtain⟨q1,q2,q3⟩:=tP hs4 hs3
  have hpn:=sj l[i]
  have hLl:((l.drop fi).take (i-fi)).length=i-fi:=by rw[List.length_take,List.length_drop];omega
  have hLp:(l.drop fi).take (i+1-fi)=(l.drop fi).take (i-fi)++[l[i]]:=by
   rw[show i+1-fi=(i-fi)+1 by omega,List.take_succ_eq_append_getElem (by rw[List.length_drop];omega),List.getElem_drop]
   congr 3
   omega
  have he1:dZ 0 (l.take (i+1))=e+gT l[i]:=by rw[List.take_succ_eq_append_getElem hi2,nZ,<- he];rfl
  rw[sx,hLl,show i-fi+1=i+1-fi by omega]at hcut
  obtain⟨g,o,ha,_⟩:=hPL.at_ (by omega)
  rw[ha]
  refine o_ (dx i rfl hi2) ?_
  have ld:bb p_ W [(Sl 3 209 pa pc l.length (l.flatMap qq))] (af 209 (.pointer (some ⟨g,o+i * 3,none⟩))) (NH l[i]):=lP (vs:=qq l[i]) (by have h:=hPL;rw[ha]at h ⊢;exact h) rfl (fun j hj=>Jg hi2 j hj)
  rw[ha]at ld
  refine cm ld ?_
  rw[<- ha]
  unfold NH
  refine bm fun g=>?_;refine gS ?_;refine ck ?_;refine o_ aw (ck ?_)
  refine o_ Fc ?_
  have e3:(if(1:Int)<(l[i]).len then(l[i]).len else 1)=(gT l[i]:Int):=by rw[q3];split <;> split <;> omega
  rw[e3]
  refine bW ?_
  rw[show(e:Int)+(gT l[i]:Int)=((e+gT l[i]:Nat):Int)from rfl]
  refine fX ?_;refine ck ?_;refine ck ?_;refine fI ?_;refine ck ?_
  refine o_ bF ?_
  by_cases l0:level=0
  ·rw[dT_ l0]
   refine ag (ag (o_ bF ?_))
   by_cases n0:((e+gT l[i]:Nat):Int)-(fr:Int)=30000
   ·rw[dT_ n0]
    refine o_ aq (aA (aA (aA (fD (fD (fD (fD (fD (fD (fD (fD (fD (aA (o_ aq (ab (bW ?_))))))))))))))))
    rw[if_pos (show n_ level (i+1-fi) (e+gT l[i]-fr)from .inl ⟨l0,by omega⟩)]at hcut
    rw[show(i:Int)+1=((i+1:Nat):Int)from rfl]
    refine eg (ot (fi:=fi) (to:=i+1) (fr:=fr) (at_:=e+gT (l[i])) (l:=l) (b:=b) (X:=X) (by omega) (by omega) hpc (by omega) (by omega) hc (by omega)) (by(repeat(first|exact Picks.nil|(apply Picks.cons;(focus repeat constructor))))) fun q=>?_
    obtain⟨qa,qc⟩:=q
    (try dsimp only)
    refine ay ?_
    refine bW ?_
    refine aP (m-1) (by omega) (.ex (i+1) (.ex ((qa,qc),i+1,e+gT (l[i])) (.ex (X++[((((l.drop fi).take (i+1-fi)),seg b fr (e+gT (l[i]))),((if pc=fi then pa else pa.map (·.add (fi * 3)),pc-fi),(if c=fr then a else a.map (·.add (fr * 1)),c-fr)))]) (.all ?_))))
    refine ay ?_
    refine .pu ⟨by omega,rfl,by omega,by omega,by omega,by simp;omega,?_,(BkOk.up hok ⟨by
      have:=x_ (i:=fi) (j:=i+1) (c:=pc) hPL (by omega) (by omega) hpc
      exact this,by
      have:=sL (i:=fr) (j:=(e+gT (l[i]))) (c:=c) hA (by omega) (by omega) hc
      exact this,by
      show(seg b fr (e+gT (l[i]))).length<=c-fr
      rw[mb (by omega) (by omega)];omega⟩)⟩ ?_
    ·rw[Nat.sub_self,List.take_zero,he1,List.map_append,List.map_singleton,hLp]
     exact hcut
    rw[he1]
    exact aC
   ·rw[dF_ n0]
    refine o_ aq (ag (ck ?_));refine ag (o_ bq ?_)
    rw[dF_ (by omega)]
    refine ag (ah (ah (ah (ah (ah (ah (fD (fD (ah (ag (o_ ap (o_ ap (aa (bW ?_))))))))))))))
    rw[if_neg (show ¬n_ level (i+1-fi) (e+gT l[i]-fr)from fun h=>by rcases h with h|h <;> omega)]at hcut
    refine aP (m-1) (by omega) (.ex (i+1) (.ex ((oa,oc),fi,fr) (.ex X (.all ?_))))
    refine ay ?_
    refine .pu ⟨by omega,rfl,by omega,by omega,by omega,by omega,?_,hok⟩ ?_
    ·rw[he1,hLp]
     exact hcut
    rw[he1]
    exact aC
  ·rw[dF_ l0]
   refine ah (ah (o_ ap (ag (ck ?_))));refine ag (o_ bq ?_)
   rw[dT_ (by omega)]
   refine ag (ag (ag (bW ?_)));refine ag (ck ?_);refine ag (fI ?_);refine ag (o_ bF ?_)
   by_cases k0:(i:Int)+1-(fi:Int)=8192
   ·rw[dT_ k0]
    refine ag (aA (aA (ag (o_ aq (ag (o_ aq (o_ ap (ab (bW ?_)))))))))
    rw[if_pos (show n_ level (i+1-fi) (e+gT l[i]-fr)from .inr ⟨by omega,.inl (by omega)⟩)]at hcut
    rw[show(i:Int)+1=((i+1:Nat):Int)from rfl]
    refine eg (ot (fi:=fi) (to:=i+1) (fr:=fr) (at_:=e+gT (l[i])) (l:=l) (b:=b) (X:=X) (by omega) (by omega) hpc (by omega) (by omega) hc (by omega)) (by(repeat(first|exact Picks.nil|(apply Picks.cons;(focus repeat constructor))))) fun q=>?_
    obtain⟨qa,qc⟩:=q
    (try dsimp only)
    refine ay ?_
    refine bW ?_
    refine aP (m-1) (by omega) (.ex (i+1) (.ex ((qa,qc),i+1,e+gT (l[i])) (.ex (X++[((((l.drop fi).take (i+1-fi)),seg b fr (e+gT (l[i]))),((if pc=fi then pa else pa.map (·.add (fi * 3)),pc-fi),(if c=fr then a else a.map (·.add (fr * 1)),c-fr)))]) (.all ?_))))
    refine ay ?_
    refine .pu ⟨by omega,rfl,by omega,by omega,by omega,by simp;omega,?_,(BkOk.up hok ⟨by
      have:=x_ (i:=fi) (j:=i+1) (c:=pc) hPL (by omega) (by omega) hpc
      exact this,by
      have:=sL (i:=fr) (j:=(e+gT (l[i]))) (c:=c) hA (by omega) (by omega) hc
      exact this,by
      show(seg b fr (e+gT (l[i]))).length<=c-fr
      rw[mb (by omega) (by omega)];omega⟩)⟩ ?_
    ·rw[Nat.sub_self,List.take_zero,he1,List.map_append,List.map_singleton,hLp]
     exact hcut
    rw[he1]
    exact aC
   ·rw[dF_ k0]
    refine ag (ag (ag (o_ bq ?_)))
    by_cases n0:30000<((e+gT l[i]:Nat):Int)-(fr:Int)
    ·rw[dT_ n0]
     refine ag (o_ ap (ag (o_ aq (o_ ap (ab (bW ?_))))))
     rw[if_pos (show n_ level (i+1-fi) (e+gT l[i]-fr)from .inr ⟨by omega,.inr (by omega)⟩)]at hcut
     rw[show(i:Int)+1=((i+1:Nat):Int)from rfl]
     refine eg (ot (fi:=fi) (to:=i+1) (fr:=fr) (at_:=e+gT (l[i])) (l:=l) (b:=b) (X:=X) (by omega) (by omega) hpc (by omega) (by omega) hc (by omega)) (by(repeat(first|exact Picks.nil|(apply Picks.cons;(focus repeat constructor))))) fun q=>?_
     obtain⟨qa,qc⟩:=q
     (try dsimp only)
     refine ay ?_
     refine bW ?_
     refine aP (m-1) (by omega) (.ex (i+1) (.ex ((qa,qc),i+1,e+gT (l[i])) (.ex (X++[((((l.drop fi).take (i+1-fi)),seg b fr (e+gT (l[i]))),((if pc=fi then pa else pa.map (·.add (fi * 3)),pc-fi),(if c=fr then a else a.map (·.add (fr * 1)),c-fr)))]) (.all ?_))))
     refine ay ?_
     refine .pu ⟨by omega,rfl,by omega,by omega,by omega,by simp;omega,?_,(BkOk.up hok ⟨by
       have:=x_ (i:=fi) (j:=i+1) (c:=pc) hPL (by omega) (by omega) hpc
       exact this,by
       have:=sL (i:=fr) (j:=(e+gT (l[i]))) (c:=c) hA (by omega) (by omega) hc
       exact this,by
       show(seg b fr (e+gT (l[i]))).length<=c-fr
       rw[mb (by omega) (by omega)];omega⟩)⟩ ?_
     ·rw[Nat.sub_self,List.take_zero,he1,List.map_append,List.map_singleton,hLp]
      exact hcut
     rw[he1]
     exact aC
    ·rw[dF_ n0]
     refine ag (o_ ap (ag (o_ aq (o_ ap (aa (bW ?_))))))
     rw[if_neg (show ¬n_ level (i+1-fi) (e+gT l[i]-fr)from fun h=>by rcases h with h|⟨_,h|h⟩ <;> omega)]at hcut
     refine aP (m-1) (by omega) (.ex (i+1) (.ex ((oa,oc),fi,fr) (.ex X (.all ?_))))
     refine ay ?_
     refine .pu ⟨by omega,rfl,by omega,by omega,by omega,by omega,?_,hok⟩ ?_
     ·rw[he1,hLp]
      exact hcut
     rw[he1]
     exact aC
 ·have hie:i=l.length:=by omega
  subst hie
  rw[List.take_length]at he
  rw[List.drop_length,sx]at hcut
  have hLl:((l.drop fi).take (l.length-fi)).length=l.length-fi:=by rw[List.length_take,List.length_drop];omega
  refine aa (ck ?_);refine ck ?_;refine o_ aN ?_
  by_cases f0:(fi:Int)<(l.length:Int)
  ·refine o_ aI ?_
   rw[dT_ f0]
   refine aA (aA (aA (o_ aq (ab (ck ?_)))));refine o_ aN ?_
   rw[if_pos (show(l.drop fi).take (l.length-fi)≠[]\/X.map Prod.fst=[]from .inl fun c=>by rw[c]at hLl;simp at hLl;omega)]at hcut
   refine eg (ot (fi:=fi) (to:=l.length) (fr:=fr) (at_:=e) (l:=l) (b:=b) (X:=X) (by omega) (by omega) hpc (by omega) (by omega) hc (by omega)) (by(repeat(first|exact Picks.nil|(apply Picks.cons;(focus repeat constructor))))) fun q=>?_
   obtain⟨qa,qc⟩:=q
   (try dsimp only)
   refine ay ?_
   refine ck ?_
   refine bf ((qa,qc),(pa,pc),X++[((((l.drop fi).take (l.length-fi)),seg b fr e),((if pc=fi then pa else pa.map (·.add (fi * 3)),pc-fi),(if c=fr then a else a.map (·.add (fr * 1)),c-fr)))]) rfl ?_
   refine ay ?_
   refine .pu ⟨by rw[List.map_append,List.map_singleton];exact hcut,(BkOk.up hok ⟨by
     have:=x_ (i:=fi) (j:=l.length) (c:=pc) hPL (by omega) (by omega) hpc
     exact this,by
     have:=sL (i:=fr) (j:=e) (c:=c) hA (by omega) (by omega) hc
     exact this,by
     show(seg b fr e).length<=c-fr
     rw[mb (by omega) (by omega)];omega⟩)⟩ ?_
   exact aC
  ·refine o_ aI ?_
   rw[dF_ f0]
   refine ag (ck ?_);refine ag (o_ aN (ag (o_ bF ?_)))
   by_cases x0:(X.length:Int)=0
   ·rw[dT_ x0]
    refine o_ ap (ab (ck ?_));refine o_ aN ?_
    rw[if_pos (show(l.drop fi).take (l.length-fi)≠[]\/X.map Prod.fst=[]from .inr (by rw[List.eq_nil_of_length_eq_zero (show X.length=0 by omega)];rfl))]at hcut
    refine eg (ot (fi:=fi) (to:=l.length) (fr:=fr) (at_:=e) (l:=l) (b:=b) (X:=X) (by omega) (by omega) hpc (by omega) (by omega) hc (by omega)) (by(repeat(first|exact Picks.nil|(apply Picks.cons;(focus repeat constructor))))) fun q=>?_
    obtain⟨qa,qc⟩:=q
    (try dsimp only)
    refine ay ?_
    refine ck ?_
    refine bf ((qa,qc),(pa,pc),X++[((((l.drop fi).take (l.length-fi)),seg b fr e),((if pc=fi then pa else pa.map (·.add (fi * 3)),pc-fi),(if c=fr then a else a.map (·.add (fr * 1)),c-fr)))]) rfl ?_
    refine ay ?_
    refine .pu ⟨by rw[List.map_append,List.map_singleton];exact hcut,(BkOk.up hok ⟨by
      have:=x_ (i:=fi) (j:=l.length) (c:=pc) hPL (by omega) (by omega) hpc
      exact this,by
      have:=sL (i:=fr) (j:=e) (c:=c) hA (by omega) (by omega) hc
      exact this,by
      show(seg b fr e).length<=c-fr
      rw[mb (by omega) (by omega)];omega⟩)⟩ ?_
    exact aC
   ·rw[dF_ x0]
    refine o_ ap (aa (ck ?_))
    rw[if_neg (fun c=>by rcases c with c|c;exact c (List.eq_nil_of_length_eq_zero (by omega));have:=congrArg List.length c;simp at this;rw[this]at x0;exact x0 rfl)]at hcut
    refine bf ((oa,oc),(pa,pc),X) rfl ?_
    refine .pu ⟨hcut,hok⟩ ?_
    exact aC
structure Em where
 w:Bool
 s:Int
 n:Int
 x:Int
def pG (p:Pz):List Em:=if p.len=0 then [⟨false,p.c.toNat,0,0⟩]else [⟨false,(jg p.len).1,(jg p.len).2.1,(jg p.len).2.2⟩,⟨true,(iO p.dist).1,(iO p.dist).2.1,(iO p.dist).2.2⟩]
def o9 (ps:List Pz):List Em:=ps.flatMap pG++[⟨false,256,0,0⟩]
def zW (p:Pz):Prop:=(p.len=0/\p.dist=0)\/(3<=p.len/\p.len<=258/\1<=p.dist/\p.dist<=32768)
def Gs (e:Em):Prop:=0<=e.s/\(e.w=false->e.s<=285)/\(e.w=true->e.s<=29)/\∃k x:Nat,e.n=k/\e.x=x/\k<=13/\x<2^k
theorem Ki {p:Pz}(h:zW p):∀e∈pG p,Gs e:=by
 intro e he
 unfold pG at he
 by_cases h0:p.len=0
 ·rw[if_pos h0,List.mem_singleton]at he
  subst he
  have:=p.c.toNat_lt
  exact⟨by simp,by simp;omega,by simp,0,0,rfl,rfl,by omega,by decide⟩
 ·rw[if_neg h0]at he
  obtain⟨c1,c2,c3,c4⟩:3<=p.len/\p.len<=258/\1<=p.dist/\p.dist<=32768:=by
   rcases h with h|h
   ·exact absurd h.1 h0
   ·exact h
  obtain⟨s,x,k,hs,h1,h2,h3,h4,h5,h6,h7⟩:=sg c1 c2
  obtain⟨t,y,j,ht,g1,g2,g3,g4,g5,g6⟩:=si c3 c4
  rw[hs,ht]at he
  simp only[List.mem_cons,List.not_mem_nil,or_false]at he
  rcases he with rfl|rfl
  ·exact⟨by simp,by simp;omega,by simp,k,x,rfl,rfl,by omega,h5⟩
  ·exact⟨by simp,by simp,by simp;omega,j,y,rfl,rfl,by omega,g4⟩
theorem ud {ps:List Pz}(h:∀p∈ps,zW p):∀e∈o9 ps,Gs e:=by
 intro e he
 unfold o9 at he
 rcases List.mem_append.1 he with he|he
 ·obtain⟨p,hp,he⟩:=List.mem_flatMap.1 he
  exact Ki (h p hp) e he
 ·rw[List.mem_singleton]at he
  subst he
  exact⟨by decide,by decide,by decide,0,0,rfl,rfl,by omega,by decide⟩
structure SetV where
 l:Option Addr
 ln:Nat
 lc:Nat
 c:Option Addr
 cn:Nat
 cc:Nat
def lK (s:SetV):Value:= .agg #[.slice s.l s.ln s.lc,.slice s.c s.cn s.cc]
theorem yb {W:World}{a:Option Addr}{cap:Nat}{l:List Int}{A:HP}(hr:RdB W A a l.length (l.map I))(hl:l.length<=4611686018427387904):
  Cn p_ 200 [.slice a l.length cap] W [A] (fun q:Option Addr × Nat=>lK ⟨a,l.length,cap,q.1,(kN l).length,q.2⟩) (fun q=>[Sl 1 3 q.1 q.2 (kN l).length ((kN l).map I),A]):=by
 (refine S.tE.cn fun F=>?_;unfold S.nH;simp only[ca_,na_])
 refine bm fun g=>?_
 refine c_ (ED hr hl) fun _=>?_
 rename_i q
 obtain⟨qa,qc⟩:=q
 (try dsimp only)
 refine iC ?_;refine iC ?_;refine o_ cu ?_;refine gS ?_;(((refine' aQ (cN ?hn) ?hi ?_);(case hi=>exact aC);(case hn=>rfl)))
 refine bC ((qa,qc)) ?_
 exact aC
theorem yd {W:World} {f:FuncId} {cap:List Value} {J:List Em->HP} {AL:HP} {pa ba:Option Addr} {pc bn bc:Nat} {level:Int} {ps:List Pz} {va vb:SetV} (hA:RdB W AL pa (ps.length * 3) (ps.flatMap qq)) (hl:ps.length<=1048576) (hg:∀p∈ps,zW p)
  (hf:∀(d:List Em) (e:Em) (r:List Em),o9 ps=d++e::r->Cn p_ f ([lK (if e.w then vb else va),.int .i64 e.s,.int .i64 e.n,.int .i64 e.x]++cap) W [J d] (fun _:Unit=> .tuple #[]) (fun _=>[J (d++[e])])):
  Cn p_ 199 [.agg #[.slice pa ps.length pc,.slice ba bn bc,.int .i64 level],lK va,lK vb,.func (.func f) #[] cap.toArray] W [AL,J []] (fun _:Unit=> .tuple #[]) (fun _=>[AL,J (o9 ps)]):=by
 unfold lK at *
 (refine S.lw.cn fun F=>?_;unfold S.im;simp only[ca_,na_])
 refine cv fun b4=>?_
 refine cv fun b5=>?_
 refine cv fun b6=>?_
 refine o_ aw (ck ?_);refine o_ aN ?_
 have lda:bb p_ W [pt b5 (.cells #[.slice va.l va.ln va.lc,.slice va.c va.cn va.cc] 258)] (af 258 (.pointer (some ⟨b5,0,none⟩))) (.agg #[.slice va.l va.ln va.lc,.slice va.c va.cn va.cc]):=bP rfl
 have ldb:bb p_ W [pt b6 (.cells #[.slice vb.l vb.ln vb.lc,.slice vb.c vb.cn vb.cc] 258)] (af 258 (.pointer (some ⟨b6,0,none⟩))) (.agg #[.slice vb.l vb.ln vb.lc,.slice vb.c vb.cn vb.cc]):=bP rfl
 refine bj (fun m y=>(ex fun i:Nat=>all [pu (m+i=ps.length/\y= .int .i64 (i:Int)),J ((ps.take i).flatMap pG)])::AL::pt b5 (.cells #[.slice va.l va.ln va.lc,.slice va.c va.cn va.cc] 258)::pt b6 (.cells #[.slice vb.l vb.ln vb.lc,.slice vb.c vb.cn vb.cc] 258)::F) ps.length ?_ ?_
 ·refine .ex 0 (.all ?_)
  refine ay ?_
  refine .pu ⟨by omega,rfl⟩ ?_
  exact aC
 intro m ds y
 refine aX .here fun i=>aB .here ?_
 refine ay ?_
 refine aT .here fun hk=>?_
 obtain⟨hmi,rfl⟩:=hk
 refine aF aI .nil (fun h=>?_) (fun h=>?_)
 ·have hil:i<ps.length:=by omega
  have hgp:=hg _ (List.getElem_mem hil)
  have htk:(ps.take (i+1)).flatMap pG=(ps.take i).flatMap pG++pG ps[i]:=by rw[List.take_succ_eq_append_getElem hil,List.flatMap_append];simp
  have hem:o9 ps=(ps.take i).flatMap pG++(pG ps[i]++((ps.drop (i+1)).flatMap pG++[⟨false,256,0,0⟩])):=by
   unfold o9
   rw[<- List.append_assoc,<- List.append_assoc,<- htk,<- List.flatMap_append,List.take_append_drop]
  refine ab ?_
  obtain⟨g,o,rfl,_⟩:=hA.at_ (by omega)
  refine o_ (dx i rfl hil) ?_
  have ld:bb p_ W [AL] (af 209 (.pointer (some ⟨g,o+i * 3,none⟩))) (NH ps[i]):=lP (vs:=qq ps[i]) hA rfl (fun j hj=>Jg hil j hj)
  refine cm ld ?_
  generalize ps[i]=p at *
  unfold NH
  refine bm fun b8=>?_
  refine bY .here (by rfl) (by rfl) (by intro u hu;simp at hu;rcases hu with rfl|rfl|rfl <;> rfl) ?_
  have lf0:bb p_ W [pt b8 (.cells #[I p.len,I p.dist,Sl.B p.c] 209 (0,0))] (af 3 (.pointer (some ⟨b8,0,none⟩))) (.int .i64 p.len):=iA rfl
  have lf1:bb p_ W [pt b8 (.cells #[I p.len,I p.dist,Sl.B p.c] 209 (0,0))] (af 3 (.pointer (some ⟨b8,1,none⟩))) (.int .i64 p.dist):=iA rfl
  have lf2:bb p_ W [pt b8 (.cells #[I p.len,I p.dist,Sl.B p.c] 209 (0,0))] (af 5 (.pointer (some ⟨b8,2,none⟩))) (.int .u8 p.c.toNat):=iA rfl
  refine o_ aw (cm lf0 ?_)
  refine o_ bF ?_
  by_cases l0:p.len=0
  ·rw[dT_ l0]
   refine ab (cm lda ?_)
   refine o_ aw (cm lf2 ?_)
   have hc:=p.c.toNat_lt
   refine o_ (bO (q:= .i64)) ?_
   rw[yZ (by omega) (by omega)]
   have he:pG p=[⟨false,p.c.toNat,0,0⟩]:=by unfold pG;rw[if_pos l0]
   rw[he]at htk hem
   refine eg (hf _ _ _ hem) (by(repeat(first|exact Picks.nil|(apply Picks.cons;(focus repeat constructor))))) fun _=>?_
   refine ay ?_
   refine bW ?_
   refine aP (m-1) (by omega) (.ex (i+1) (.all ?_))
   refine ay ?_
   rw[htk]
   refine .pu ⟨by omega,rfl⟩ ?_
   exact aC
  ·rw[dF_ l0]
   have he:pG p=[⟨false,(jg p.len).1,(jg p.len).2.1,(jg p.len).2.2⟩,⟨true,(iO p.dist).1,(iO p.dist).2.1,(iO p.dist).2.2⟩]:=by unfold pG;rw[if_neg l0]
   rw[he]at htk hem
   have hbd:0<=p.len/\0<=p.dist:=by unfold zW at hgp;omega
   refine aa (o_ aw (cm lf0 ?_))
   refine c_ (Jf (n:=p.len) (by omega)) fun _=>?_
   refine iC ?_;refine iC ?_;refine iC ?_;refine sP ?_
   refine eg (hf _ _ _ hem) (by(repeat(first|exact Picks.nil|(apply Picks.cons;(focus repeat constructor))))) fun _=>?_
   refine ay ?_
   refine o_ aw (cm lf1 ?_)
   refine c_ (EH (n:=p.dist) (by omega)) fun _=>?_
   refine iC ?_;refine iC ?_;refine iC ?_;refine sP ?_
   refine eg (hf ((ps.take i).flatMap pG++[⟨false,(jg p.len).1,(jg p.len).2.1,(jg p.len).2.2⟩]) ⟨true,(iO p.dist).1,(iO p.dist).2.1,(iO p.dist).2.2⟩ ((ps.drop (i+1)).flatMap pG++[⟨false,256,0,0⟩]) (by rw[hem];simp)) (by(repeat(first|exact Picks.nil|(apply Picks.cons;(focus repeat constructor))))) fun _=>?_
   refine ay ?_
   refine bW ?_
   refine aP (m-1) (by omega) (.ex (i+1) (.all ?_))
   refine ay ?_
   rw[htk]
   refine .pu ⟨by omega,rfl⟩ ?_
   rw[List.append_assoc]
   exact aC
 ·have hie:i=ps.length:=by omega
  subst hie
  rw[List.take_length]
  refine aa (cm lda ?_)
  refine eg (hf (ps.flatMap pG) ⟨false,256,0,0⟩ [] rfl) (by(repeat(first|exact Picks.nil|(apply Picks.cons;(focus repeat constructor))))) fun _=>?_
  refine ay ?_
  refine bC () ?_
  unfold o9
  exact aC
theorem iX {W:World}{L:List HP}{A B:WP}(h1:be W L A)(h2:be W L B):be W L (qC A B):=fun w hw=>⟨h1 w hw,h2 w hw⟩
def f_ (w:Bool)(d:List Em)(s:Nat):Nat:=d.countP fun e=>decide (e.w=w/\e.s=(s:Int))
theorem Gt (w:Bool)(d:List Em)(s:Nat):f_ w d s<=d.length:=List.countP_le_length
theorem oS (w:Bool)(d:List Em)(e:Em)(s:Nat):f_ w (d++[e]) s=f_ w d s+if e.w=w/\e.s=(s:Int)then 1 else 0:=by
 unfold f_
 rw[List.countP_append]
 congr 1
 by_cases h:e.w=w/\e.s=(s:Int)
 ·rw[if_pos h];simp[h.1,h.2]
 ·rw[if_neg h]
  rw[List.countP_cons_of_neg (by simpa using h)];rfl
theorem MY (p:Pz)(s:Nat):f_ false (pG p) s=(if Ho p=(s:Int)then 1 else 0)/\f_ true (pG p) s=(if p.len≠0/\(iO p.dist).1=(s:Int)then 1 else 0):=by
 unfold f_ pG Ho
 by_cases h0:p.len=0
 ·rw[if_pos h0,if_pos h0]
  constructor
  ·by_cases c:(p.c.toNat:Int)=(s:Int)
   ·rw[if_pos c,List.countP_cons_of_pos (by simpa using c)];rfl
   ·rw[if_neg c,List.countP_cons_of_neg (by simpa using c)];rfl
  ·rw[if_neg (fun c=>c.1 h0),List.countP_cons_of_neg (by simp)];rfl
 ·rw[if_neg h0,if_neg h0]
  constructor
  ·by_cases c:(jg p.len).1=(s:Int)
   ·rw[if_pos c,List.countP_cons_of_pos (by simpa using c),List.countP_cons_of_neg (by simp)];rfl
   ·rw[if_neg c,List.countP_cons_of_neg (by simpa using c),List.countP_cons_of_neg (by simp)];rfl
  ·by_cases c:(iO p.dist).1=(s:Int)
   ·rw[if_pos ⟨h0,c⟩,List.countP_cons_of_neg (by simp),List.countP_cons_of_pos (by simpa using c)];rfl
   ·rw[if_neg (fun x=>c x.2),List.countP_cons_of_neg (by simp),List.countP_cons_of_neg (by simpa using c)];rfl
theorem ye:∀(ps:List Pz) (s:Nat),f_ false (ps.flatMap pG) s=Da ps s/\f_ true (ps.flatMap pG) s=EP ps s
 |[],s=>⟨rfl,rfl⟩
 |p::ps,s=>by
  obtain⟨h1,h2⟩:=ye ps s
  obtain⟨h3,h4⟩:=MY p s
  have key:∀w,f_ w ((p::ps).flatMap pG) s=f_ w (pG p) s+f_ w (ps.flatMap pG) s:=fun w=>by
   rw[List.flatMap_cons];unfold f_;rw[List.countP_append]
  rw[key,key,h1,h2,h3,h4]
  unfold Da EP
  constructor
  ·by_cases c:Ho p=(s:Int)
   ·rw[if_pos c,List.countP_cons_of_pos (by simpa using c)];omega
   ·rw[if_neg c,List.countP_cons_of_neg (by simpa using c)];omega
  ·by_cases c:p.len≠0/\(iO p.dist).1=(s:Int)
   ·rw[if_pos c,List.countP_cons_of_pos (by simpa using c)];omega
   ·rw[if_neg c,List.countP_cons_of_neg (by simpa using c)];omega
theorem MZ (ps:List Pz):Ln 286 (fun s=>(f_ false (o9 ps) s:Int))=(gX ps).map I:=by
 unfold Ln gX
 rw[List.map_map]
 refine List.map_congr_left fun s _=>?_
 show I (f_ false (ps.flatMap pG++[⟨false,256,0,0⟩]) s:Int)=I ((Da ps s:Int)+if s=256 then 1 else 0)
 rw[oS,(ye ps s).1]
 congr 1
 by_cases c:s=256
 ·subst c;rfl
 ·rw[if_neg c,if_neg (fun h=>c (by have:=h.2;simp only at this;omega))];rfl
theorem M2 (ps:List Pz):Ln 30 (fun s=>(f_ true (o9 ps) s:Int))=(kP ps).map I:=by
 unfold Ln kP
 rw[List.map_map]
 refine List.map_congr_left fun s _=>?_
 show I (f_ true (ps.flatMap pG++[⟨false,256,0,0⟩]) s:Int)=I (EP ps s:Int)
 rw[oS,(ye ps s).2]
 rfl
theorem sM (ps:List Pz):(gX ps).length=286:=by simp[gX]
theorem sN (ps:List Pz):(kP ps).length=30:=by simp[kP]
def M3 (g0 g1:Nat)(d:List Em):HP:=all [Sl 1 3 (some ⟨g0,0,none⟩) 286 286 (Ln 286 fun s=>(f_ false d s:Int)),Sl 1 3 (some ⟨g1,0,none⟩) 30 30 (Ln 30 fun s=>(f_ true d s:Int)),pu (d.length<=4194304)]
theorem UW {W:World}{g0 g1:Nat}{d:List Em}{e:Em}(he:Gs e)(hd:d.length+1<=4194304):
  Cn p_ 229 [lK (if e.w then⟨some ⟨g1,0,none⟩,30,30,none,0,0⟩else⟨some ⟨g0,0,none⟩,286,286,none,0,0⟩),.int .i64 e.s,.int .i64 e.n,.int .i64 e.x] W [M3 g0 g1 d] (fun _:Unit=> .tuple #[]) (fun _=>[M3 g0 g1 (d++[e])]):=by
 obtain⟨w,s,n,x⟩:=e
 obtain⟨h0,h1,h2,_⟩:=he
 (try dsimp only at h0 h1 h2)
 obtain⟨N,rfl⟩:=Int.eq_ofNat_of_zero_le h0
 have key:∀(v:Bool) (m:Nat),N<m->w=v->(Ln m fun s=>(f_ v d s:Int)).set N (I ((f_ v d N:Int)+1))=Ln m fun s=>(f_ v (d++[⟨w,(N:Int),n,x⟩]) s:Int):=fun v m hN hv=>by
  rw[w8]
  refine jP fun j hj=>?_
  rw[oS]
  by_cases c:j=N
  ·subst c;rw[if_pos rfl,if_pos ⟨hv,rfl⟩];rfl
  ·rw[if_neg c,if_neg (fun h=>c (by have:=h.2;simp only at this;omega))];rfl
 have keep:∀(v:Bool) (m:Nat),w≠v->(Ln m fun s=>(f_ v d s:Int))=Ln m fun s=>(f_ v (d++[⟨w,(N:Int),n,x⟩]) s:Int):=fun v m hv=>by
  refine jP fun j hj=>?_
  rw[oS,if_neg (fun h=>hv h.1)];rfl
 unfold lK
 cases w with
 |false=>
  have hs:=h1 rfl
  have hc:=Gt false d N
  simp only[Bool.false_eq_true,if_false]
  (refine S.io.cn fun F=>?_;unfold S.fw;simp only[ca_,na_])
  refine cv fun b4=>?_
  refine aB (.there .here) ?_
  refine ay ?_
  refine o_ aw (ck ?_)
  refine o_ (bA N rfl (by omega)) ?_
  have hld:(Ln 286 fun s=>(f_ false d s:Int))[0+N]? =some (I (f_ false d N:Int)):=by rw[Nat.zero_add];exact nU (by omega)
  refine cm (dP hld) ?_
  refine bW ?_
  refine o_ (bA N rfl (by omega)) ?_
  refine jz (by repeat constructor) (by rw[Nat.zero_add,kM];omega) ?_
  rw[Nat.zero_add]
  refine bC () ?_
  refine .all ?_
  refine ay ?_
  rw[<- key false 286 (by omega) rfl,<- keep true 30 (by decide)]
  refine .pick (by repeat constructor) (.pick (by repeat constructor) (.pu (by rw[List.length_append];exact hd) ?_))
  exact aC
 |true=>
  have hs:=h2 rfl
  have hc:=Gt true d N
  simp only[if_true]
  (refine S.io.cn fun F=>?_;unfold S.fw;simp only[ca_,na_])
  refine cv fun b4=>?_
  refine aB (.there .here) ?_
  refine ay ?_
  refine o_ aw (ck ?_)
  refine o_ (bA N rfl (by omega)) ?_
  have hld:(Ln 30 fun s=>(f_ true d s:Int))[0+N]? =some (I (f_ true d N:Int)):=by rw[Nat.zero_add];exact nU (by omega)
  refine cm (dP hld) ?_
  refine bW ?_
  refine o_ (bA N rfl (by omega)) ?_
  refine jz (by repeat constructor) (by rw[Nat.zero_add,kM];omega) ?_
  rw[Nat.zero_add]
  refine bC () ?_
  refine .all ?_
  refine ay ?_
  rw[<- key true 30 (by omega) rfl,<- keep false 286 (by decide)]
  refine .pick (by repeat constructor) (.pick (by repeat constructor) (.pu (by rw[List.length_append];exact hd) ?_))
  exact aC
abbrev Qs:=(Option Addr × Nat) × (Option Addr × Nat)
def sv (l:List Int)(q:Qs):SetV:=⟨q.1.1,l.length,q.1.2,q.2.1,(kN l).length,q.2.2⟩
def fm (l:List Int)(q:Qs):HP:=all [Sl 1 3 q.1.1 q.1.2 l.length (l.map I),Sl 1 3 q.2.1 q.2.2 (kN l).length ((kN l).map I)]
theorem Kk (ps:List Pz):(o9 ps).length<=2 * ps.length+1:=by
 unfold o9
 rw[List.length_append]
 have:∀l:List Pz,(l.flatMap pG).length<=2 * l.length:=by
  intro l
  induction l with
  |nil=>simp
  |cons p l ih=>
   rw[List.flatMap_cons,List.length_append,List.length_cons]
   have:(pG p).length<=2:=by unfold pG;split <;> simp
   omega
 have:=this ps
 simp only[List.length_singleton]
 omega
theorem BD (f:List Int)(lim:Int):(cY f lim).length<=320:=by
 by_cases hE:kO f lim=0
 ·have h:=PM.cV hE
  have h1:=h.1
  have h2:=h.2.1
  omega
 ·unfold cY
  rw[if_pos hE]
  simp
theorem UX {W:World}{AL:HP}{pa ba:Option Addr}{pc bn bc:Nat}{level:Int}{ps:List Pz}(hA:RdB W AL pa (ps.length * 3) (ps.flatMap qq))(hl:ps.length<=1048576)(hg:∀p∈ps,zW p):
  Cn p_ 202 [.agg #[.slice pa ps.length pc,.slice ba bn bc,.int .i64 level]] W [AL] (fun q:Qs × Qs=> .tuple #[lK (sv (iQ ps) q.1),lK (sv (jT ps) q.2)]) (fun q=>[fm (iQ ps) q.1,fm (jT ps) q.2,AL]):=by
 obtain⟨VA,hVA⟩:∃V,V=iQ ps:=⟨_,rfl⟩
 obtain⟨VB,hVB⟩:∃V,V=jT ps:=⟨_,rfl⟩
 have la:VA.length<=320:=by rw[hVA];exact BD _ _
 have lb:VB.length<=320:=by rw[hVB];exact BD _ _
 rw[<- hVA,<- hVB]
 (refine S.o4.cn fun F=>?_;unfold S.kr;simp only[ca_,na_])
 refine cv fun b1=>?_
 refine bm fun b2=>?_
 refine bm fun b3=>?_
 refine eR (fun z=>(ex fun q:Nat × Nat × Nat=>all [pu (z= .pointer (some ⟨q.1,0,none⟩)),pt q.1 (.cells #[.slice (some ⟨q.2.1,0,none⟩) 286 286,.slice (some ⟨q.2.2,0,none⟩) 30 30] 299),Sl 1 3 (some ⟨q.2.1,0,none⟩) 286 286 (Ln 286 fun _=>0),Sl 1 3 (some ⟨q.2.2,0,none⟩) 30 30 (Ln 30 fun _=>0)])::
  pt b1 (.cells #[.slice pa ps.length pc,.slice ba bn bc,.int .i64 level] 162)::pt b2 (.cells #[.slice none 0 0,.slice none 0 0] 258)::pt b3 (.cells #[.slice none 0 0,.slice none 0 0] 258)::AL::F) ?_ ?_
 rotate_left
 ·refine bM (iX ?_ (iX ?_ ?_))
  ·refine gz 286 286 (by rfl) (by rfl) (by omega) (by omega) (by unfold maxLen;omega) fun g0=>?_
   refine iX ?_ ?_
   ·refine gz 30 30 (by rfl) (by rfl) (by omega) (by omega) (by unfold maxLen;omega) fun g1=>?_
    refine aZ cu .nil ?_;refine bm fun g=>?_;refine cq ?_;refine gS ?_
    rename Nat=>g4
    refine a_ (.ex (g4,g0,g1) (.all ?_))
    refine ay ?_
    rw[ej,ej]
    refine .pu rfl ?_
    exact aC
   ·refine bm fun g4=>?_
    refine gz 30 30 (by rfl) (by rfl) (by omega) (by omega) (by unfold maxLen;omega) fun g1=>?_
    refine t_ cu ?_;refine gS ?_
    refine a_ (.ex (g4,g0,g1) (.all ?_))
    refine ay ?_
    rw[ej,ej]
    refine .pu rfl ?_
    exact aC
  ·refine gz 30 30 (by rfl) (by rfl) (by omega) (by omega) (by unfold maxLen;omega) fun g1=>?_
   refine iX ?_ ?_
   ·refine gz 286 286 (by rfl) (by rfl) (by omega) (by omega) (by unfold maxLen;omega) fun g0=>?_
    refine aZ cu .nil ?_;refine bm fun g=>?_;refine cq ?_;refine gS ?_
    rename Nat=>g4
    refine a_ (.ex (g4,g0,g1) (.all ?_))
    refine ay ?_
    rw[ej,ej]
    refine .pu rfl ?_
    exact aC
   ·refine bm fun g4=>?_
    refine gz 286 286 (by rfl) (by rfl) (by omega) (by omega) (by unfold maxLen;omega) fun g0=>?_
    refine t_ cu ?_;refine gS ?_
    refine a_ (.ex (g4,g0,g1) (.all ?_))
    refine ay ?_
    rw[ej,ej]
    refine .pu rfl ?_
    exact aC
  ·refine bm fun g4=>?_
   refine iX ?_ ?_
   ·refine gz 286 286 (by rfl) (by rfl) (by omega) (by omega) (by unfold maxLen;omega) fun g0=>?_
    refine gz 30 30 (by rfl) (by rfl) (by omega) (by omega) (by unfold maxLen;omega) fun g1=>?_
    refine t_ cu ?_;refine gS ?_
    refine a_ (.ex (g4,g0,g1) (.all ?_))
    refine ay ?_
    rw[ej,ej]
    refine .pu rfl ?_
    exact aC
   ·refine gz 30 30 (by rfl) (by rfl) (by omega) (by omega) (by unfold maxLen;omega) fun g1=>?_
    refine gz 286 286 (by rfl) (by rfl) (by omega) (by omega) (by unfold maxLen;omega) fun g0=>?_
    refine t_ cu ?_;refine gS ?_
    refine a_ (.ex (g4,g0,g1) (.all ?_))
    refine ay ?_
    rw[ej,ej]
    refine .pu rfl ?_
    exact aC
 intro ds z
 refine aX .here fun q=>aB .here ?_
 obtain⟨g4,g0,g1⟩:=q
 refine ay ?_
 refine aT .here fun hz=>?_
 subst hz
 refine sP ?_
 refine o_ (dL 0 rfl (by omega)) ?_
 refine ck ?_;refine o_ cu ?_
 refine o_ (dL 1 rfl (by omega)) ?_
 refine ck ?_;refine o_ cu ?_
 have hsym:=yd (W:=W) (f:=229) (cap:=[]) (J:=M3 g0 g1) (va:=⟨some ⟨g0,0,none⟩,286,286,none,0,0⟩) (vb:=⟨some ⟨g1,0,none⟩,30,30,none,0,0⟩) (pc:=pc) (ba:=ba) (bn:=bn) (bc:=bc) (level:=level) hA hl hg
  (fun d e r h=>UW (ud hg e (by rw[h];simp)) (by have:=Kk ps;rw[h]at this;simp at this;omega))
 refine cr (M:=M3 g0 g1 []::AL::pt g4 (.cells #[.slice (some ⟨g0,0,none⟩) 286 286,.slice (some ⟨g1,0,none⟩) 30 30] 299)::pt b2 (.cells #[.slice none 0 0,.slice none 0 0] 258)::pt b3 (.cells #[.slice none 0 0,.slice none 0 0] 258)::F) ?_ ?_
 ·refine .all ?_
  refine ay ?_
  have z1:(Ln 286 fun s=>(f_ false [] s:Int))=Ln 286 fun _=>0:=rfl
  have z2:(Ln 30 fun s=>(f_ true [] s:Int))=Ln 30 fun _=>0:=rfl
  rw[z1,z2]
  refine .pick (by repeat constructor) (.pick (by repeat constructor) (.pu (by simp) ?_))
  exact aC
 refine aH hsym (.cons (by repeat constructor) (.cons (by repeat constructor) .nil)) fun _=>?_
 refine ay ?_
 refine aB (.there .here) ?_
 refine ay ?_
 rw[MZ,M2]
 refine aT (by repeat constructor) fun _=>?_
 have h0:RdB W (Sl 1 3 (some ⟨g0,0,none⟩) 286 286 ((gX ps).map I)) (some ⟨g0,0,none⟩) (gX ps).length ((gX ps).map I):=by
  rw[sM]
  exact dh (by rw[List.length_map,sM]) (fun _=>⟨g0,rfl⟩)
 have h1:RdB W (Sl 1 3 (some ⟨g1,0,none⟩) 30 30 ((kP ps).map I)) (some ⟨g1,0,none⟩) (kP ps).length ((kP ps).map I):=by
  rw[sN]
  exact dh (by rw[List.length_map,sN]) (fun _=>⟨g1,rfl⟩)
 have hla:=Bi (W:=W) (cap:=286) (lim:=15) h0 (by rw[sM];omega)
 have hlb:=Bi (W:=W) (cap:=30) (lim:=15) h1 (by rw[sN];omega)
 rw[sM,show cY (gX ps) 15=VA from hVA.symm]at hla
 rw[sN,show cY (kP ps) 15=VB from hVB.symm]at hlb
 refine o_ (dL 0 rfl (by omega)) ?_
 refine ck ?_
 refine c_ hla fun _=>?_
 rename_i qa
 refine iC ?_;refine iC ?_
 refine o_ (dL 1 rfl (by omega)) ?_
 refine ck ?_
 refine c_ hlb fun _=>?_
 rename_i qb
 refine iC ?_;refine iC ?_
 refine aJ .here fun _ hnb hcb hfb=>?_
 refine aJ (.there (.there .here)) fun _ hna hca hfa=>?_
 have ra:RdB W (Sl 1 3 qa.1 qa.2 VA.length (VA.map I)) qa.1 VA.length (VA.map I):=dh (by rw[List.length_map]) hfa
 have rb:RdB W (Sl 1 3 qb.1 qb.2 VB.length (VB.map I)) qb.1 VB.length (VB.map I):=dh (by rw[List.length_map]) hfb
 refine aH (yb (cap:=qa.2) ra (by omega)) (.cons (.there (.there .here)) .nil) fun ca=>?_
 refine ay ?_
 refine aH (yb (cap:=qb.2) rb (by omega)) (.cons (.there (.there .here)) .nil) fun cb=>?_
 refine ay ?_
 unfold lK
 refine gS ?_;refine gS ?_;(((refine' aQ (cN ?hn) ?hi ?_);(case hi=>exact aC);(case hn=>rfl)));(((refine' aQ (cN ?hn) ?hi ?_);(case hi=>exact aC);(case hn=>rfl)))
 refine bC (((qa,ca),(qb,cb))) ?_
 unfold fm
 refine .all (.pick (by repeat constructor) (.pick (by repeat constructor) (.all (.pick (by repeat constructor) (.pick (by repeat constructor) ?_)))))
 exact aC
theorem M4 {L:List Bool}{e k:Nat}(hk:k<=32)(he:e<2^k)(h:L.length+k<=8388608):w4 L (e:Int) (k:Int)=0:=by
 unfold w4
 rw[if_neg,if_neg (by omega)]
 unfold r8
 rw[Int.toNat_natCast]
 have h3:((e:Nat):Int)<((2^k:Nat):Int):=Int.ofNat_lt.2 he
 push_cast at h3
 omega
theorem vO {L:List Bool}{e k:Nat}(hk:k<=32)(he:e<2^k)(h:L.length+k<=8388608):w5 L (e:Int) (k:Int)=L++aG e k:=by
 unfold w5
 rw[if_pos (M4 hk he h),Int.toNat_natCast,Int.toNat_natCast]
theorem Gu {l:List Int}{s:Int}{L:List Bool}(h:L.length+(xD l s).length<=8388608):QR (kN l) l s L=L++xD l s:=by
 unfold QR xD at *
 cases hs:sym (kN l) l s with
 |none=>simp
 |some p=>
  rw[hs]at h
  simp only at h ⊢
  have hb:=AY hs
  rw[au]at h
  exact vO (by omega) (NC _ _) h
def zX (la lb:List Int)(e:Em):List Bool:=xD (if e.w then lb else la) e.s++aG e.x.toNat e.n.toNat
theorem bits0 (n:Nat):aG n 0=[]:=rfl
theorem Kl (la lb:List Int)(p:Pz):(pG p).flatMap (zX la lb)=EQ la lb p:=by
 unfold pG EQ
 split
 ·simp[zX,bits0]
 ·simp[zX,bits0]
theorem ue (la lb:List Int)(ps:List Pz):(o9 ps).flatMap (zX la lb)=xF la lb ps:=by
 unfold o9 xF
 rw[List.flatMap_append,List.flatMap_assoc]
 congr 1
 ·exact l_ fun p _=>Kl la lb p
 ·simp[zX,bits0]
theorem Dz {la lb:List Int}{ps:List Pz}{d r:List Em}{e:Em}(h:o9 ps=d++e::r):(d.flatMap (zX la lb)).length+(zX la lb e).length<=(xF la lb ps).length:=by
 rw[<- ue,h,List.flatMap_append,List.flatMap_cons]
 simp only[List.length_append]
 omega
theorem So {W:World}{w:Nat}:Cn p_ 201 [.pointer (some ⟨w,0,none⟩)] W [] (fun g:Nat=> .func (.func 227) #[] [.pointer (some ⟨g,0,none⟩)].toArray) (fun g=>[pt g (.cells #[.pointer (some ⟨w,0,none⟩)] 156)]):=by
 (refine S.wD.cn fun F=>?_;unfold S.ry;simp only[ca_,na_])
 refine fK fun c=>?_
 refine o_ iB (bC c ?_)
 exact .refl
def BE (la lb:List Int)(qa qb:Qs)(w g:Nat)(L:List Bool)(d:List Em):HP:=all [jn w (L++d.flatMap (zX la lb)),fm la qa,fm lb qb,pt g (.cells #[.pointer (some ⟨w,0,none⟩)] 156)]
theorem HB (la lb:List Int)(L:List Bool)(d:List Em)(e:Em):L++(d++[e]).flatMap (zX la lb)=(L++d.flatMap (zX la lb)++xD (if e.w then lb else la) e.s)++aG e.x.toNat e.n.toNat:=by
 rw[List.flatMap_append]
 simp[zX]
theorem Cn.frame {P:Program}{W:World}{α:Type}{f:FuncId}{args:List Value}{A A' R:List HP}{r:α->Value}{B B':α->List HP}(h:Cn P f args W A r B)(i:∀F,be W (A'++F) (fun w=>sat W (A++(R++F)) w))(o:∀x F,be W (B x++(R++F)) (fun w=>sat W (B' x++F) w)):Cn P f args W A' r B':=
 ⟨h.call,fun F w hw=>(h.run (R++F) w (i F w hw)).mono fun e w' ⟨x,he,hs⟩=>⟨x,he,o x F w' hs⟩⟩
theorem NV {W:World}{l:List Int}{q:Qs}{w g k x:Nat}{s:Int}{M:List Bool}(hk:k<=13)(hx:x<2^k)(hd:M.length+(xD l s).length+k<=8388608):
  Cn p_ 227 ([lK (sv l q),.int .i64 s,.int .i64 (k:Int),.int .i64 (x:Int)]++[.pointer (some ⟨g,0,none⟩)]) W [jn w M,fm l q,pt g (.cells #[.pointer (some ⟨w,0,none⟩)] 156)] (fun _:Unit=> .tuple #[]) (fun _=>[jn w ((M++xD l s)++aG x k),fm l q,pt g (.cells #[.pointer (some ⟨w,0,none⟩)] 156)]):=by
 unfold lK sv fm
 (refine S.tF.cn fun F=>?_;unfold S.nI;simp only[ca_,na_])
 refine cv fun b4=>?_
 refine aB (.there (.there .here)) ?_
 refine ay ?_
 refine aJ .here fun _ f1 f2 f3=>?_
 refine aJ (.there .here) fun _ g1 g2 g3=>?_
 have r1:RdB W (Sl 1 3 q.1.1 q.1.2 l.length (l.map I)) q.1.1 l.length (l.map I):=dh (by rw[List.length_map]) f3
 have r2:RdB W (Sl 1 3 q.2.1 q.2.2 (kN l).length ((kN l).map I)) q.2.1 (kN l).length ((kN l).map I):=dh (by rw[List.length_map]) g3
 refine ck ?_;refine o_ aw (ck ?_);refine o_ aw (ck ?_)
 refine aH (Ja (L:=M) (s:=s) r2 r1) (.cons (by repeat constructor) (.cons (by repeat constructor) (.cons (by repeat constructor) .nil))) fun _=>?_
 refine ay ?_
 rw[Gu (by omega)]
 refine ck ?_
 refine aH (put (l:=M++xD l s) (n:=(x:Int)) (k:=(k:Int))) (.cons .here .nil) fun _=>?_
 refine ay ?_
 rw[vO (by omega) hx (by rw[List.length_append];omega)]
 refine bC () ?_
 refine .pick (by repeat constructor) (.all (.pick (by repeat constructor) (.pick (by repeat constructor) (.pick (by repeat constructor) ?_))))
 exact aC
theorem NW {W:World}{la lb:List Int}{qa qb:Qs}{w g:Nat}{L:List Bool}{d:List Em}{e:Em}(he:Gs e)(hd:L.length+(d.flatMap (zX la lb)).length+(zX la lb e).length<=8388608):
  Cn p_ 227 ([lK (if e.w then sv lb qb else sv la qa),.int .i64 e.s,.int .i64 e.n,.int .i64 e.x]++[.pointer (some ⟨g,0,none⟩)]) W [BE la lb qa qb w g L d] (fun _:Unit=> .tuple #[]) (fun _=>[BE la lb qa qb w g L (d++[e])]):=by
 have hsn:=HB la lb L d e
 unfold BE
 rw[hsn]
 obtain⟨h0,h1,h2,k,x,hn,hxx,hk,hx⟩:=he
 have hel:(zX la lb e).length=(xD (if e.w then lb else la) e.s).length+k:=by
  unfold zX
  rw[List.length_append,au,hn,Int.toNat_natCast]
 rw[hel]at hd
 rw[hn,hxx,Int.toNat_natCast,Int.toNat_natCast]
 have hML:(L++d.flatMap (zX la lb)).length=L.length+(d.flatMap (zX la lb)).length:=List.length_append
 generalize L++d.flatMap (zX la lb)=M at hML ⊢
 cases hb:e.w with
 |false=>
  rw[hb]at hd
  simp only[Bool.false_eq_true,if_false]at hd ⊢
  refine Cn.frame (R:=[fm lb qb]) (NV (M:=M) (l:=la) (q:=qa) (w:=w) (s:=e.s) hk hx (by omega)) (fun F=>?_) (fun _ F=>?_)
  ·refine aB .here (a_ ?_)
   refine ay ?_
   exact aC
  ·refine a_ (.all ?_)
   refine ay ?_
   exact aC
 |true=>
  rw[hb]at hd
  simp only[if_true]at hd ⊢
  refine Cn.frame (R:=[fm la qa]) (NV (M:=M) (l:=lb) (q:=qb) (w:=w) (s:=e.s) hk hx (by omega)) (fun F=>?_) (fun _ F=>?_)
  ·refine aB .here (a_ ?_)
   refine ay ?_
   exact aC
  ·refine a_ (.all ?_)
   refine ay ?_
   exact aC
theorem Km {W:World}{a:Option Addr}{cap least:Nat}{l:List Int}{A:HP}(hr:RdB W A a l.length (l.map I))(hl:l.length<=1099511627776)(hm:least<=1099511627776):
  Cn p_ 231 [.slice a l.length cap,.int .i64 (least:Int)] W [A] (fun _:Unit=> .int .i64 (upto l least:Int)) (fun _=>[A]):=by
 (refine S.wJ.cn fun F=>?_;unfold S.rI;simp only[ca_,na_])
 refine o_ aN (bj (fun m y=>pu (y= .int .i64 (m:Int)/\m<=l.length/\F6 l least m=upto l least)::A::F) l.length ?_ ?_)
 ·exact .pu ⟨rfl,Nat.le_refl _,rfl⟩ .refl
 intro m ds y
 refine aT .here fun hk=>?_
 obtain⟨rfl,hml,hup⟩:=hk
 by_cases h1:(least:Int)<(m:Int)
 ·obtain⟨m,rfl⟩:∃k,m=k+1:=⟨m-1,by omega⟩
  refine o_ bq ?_
  rw[dT_ h1]
  obtain⟨g,o,rfl,_⟩:=hr.at_ (by omega)
  refine ag (ag (ag (fI ?_)));refine ag (o_ (bA m (by omega) (by omega)) ?_)
  refine ag (cm (cX hr (v:=I l[m]) (gB (by omega))) ?_)
  refine ag ?_
  unfold I
  refine o_ bF ?_
  rw[F6]at hup
  by_cases h2:l[m]=0
  ·rw[dT_ h2]
   refine o_ aq (ab (fI ?_))
   rw[if_pos ⟨by omega,by rw[List.getElem?_eq_getElem (by omega),h2]⟩]at hup
   refine aP m (by omega) (.pu ⟨by rw[show((m+1:Nat):Int)-1=m by omega],by omega,hup⟩ ?_)
   exact aC
  ·rw[dF_ h2]
   refine o_ aq (aa ?_)
   rw[if_neg (fun h=>h2 (by have:=h.2;rw[List.getElem?_eq_getElem (by omega)]at this;exact Option.some.inj this))]at hup
   rw[<- hup]
   refine bC () ?_
   exact aC
 ·refine o_ bq ?_
  rw[dF_ h1]
  refine ah (ah (ah (ah (ah (ah (o_ ap (aa ?_)))))))
  have:F6 l least m=m:=by
   cases m with
   |zero=>rfl
   |succ m=>rw[F6,if_neg (by omega)]
  rw[<- hup,this]
  refine bC () ?_
  exact aC
theorem Sp {W:World}{a:Option Addr}{n c:Nat}:Cn p_ 232 [.slice a n c] W [] (fun g:Nat=> .func (.func 244) #[] [.pointer (some ⟨g,0,none⟩)].toArray) (fun g=>[pt g (.cells #[.slice a n c] 197)]):=by
 (refine S.wK.cn fun F=>?_;unfold S.rJ;simp only[ca_,na_])
 refine fK fun c=>?_
 refine o_ iB (bC c ?_)
 exact .refl
def NX (t:Td):Value:= .agg #[.int .i64 t.sym,.int .i64 (t.bits:Int),.int .i64 (t.extra:Int)]
def qy (row:List Int):List (List Value):=(cF row).map fun t=>[NX t]
def DO (row:List Int):Nat->Nat
 |0=>0
 |k+1=>if DO row k<row.length then DO row k+(fY row (DO row k)).2 else DO row k
theorem yf {row:List Int}{v:Int}{i:Nat}:∀(f g n:Nat),row.length<=f+i+n->row.length<=g+i+n->eN row v i f n=eN row v i g n
 |0,0,n,_,_=>rfl
 |0,g+1,n,h,_=>by rw[eN,eN,List.getElem?_eq_none (by omega),if_neg (by simp)]
 |f+1,0,n,_,h=>by rw[eN,eN,List.getElem?_eq_none (by omega),if_neg (by simp)]
 |f+1,g+1,n,h1,h2=>by rw[eN,eN,yf f g (n+1) (by omega) (by omega)]
theorem DA {row:List Int}{v:Int}{i:Nat}:∀(f n:Nat),i+n<=row.length->i+eN row v i f n<=row.length
 |0,n,h=>h
 |f+1,n,h=>by
  rw[eN]
  split
  ·rename_i c
   have:=(List.getElem?_eq_some_iff.1 c).1
   exact DA f (n+1) (by omega)
  ·exact h
theorem yg {row:List Int}{i:Nat}(hi:i<row.length):1<=(fY row i).2/\i+(fY row i).2<=row.length:=by
 have h1:=DA (row:=row) (v:=row.getD i 0) (i:=i) row.length 1 (by omega)
 have h2:1<=eN row (row.getD i 0) i row.length 1:=by
  have key:∀f n,n<=eN row (row.getD i 0) i f n:=by
   intro f
   induction f with
   |zero=>intro n;exact Nat.le_refl _
   |succ f ih=>
    intro n
    rw[eN]
    split
    ·have:=ih (n+1);omega
    ·omega
  exact key _ _
 unfold fY
 simp only
 generalize eN row (row.getD i 0) i row.length 1=m at *
 split
 ·simp only;omega
 ·split
  ·simp only;omega
  ·split
   ·simp only;omega
   ·simp only;omega
theorem yh {row:List Int}:∀(f g i:Nat),row.length<f+i->row.length<g+i->eO row f i=eO row g i
 |0,0,i,_,_=>rfl
 |0,g+1,i,h,_=>by rw[eO,eO,if_neg (by omega)]
 |f+1,0,i,_,h=>by rw[eO,eO,if_neg (by omega)]
 |f+1,g+1,i,h1,h2=>by
  rw[eO,eO]
  by_cases c:i<row.length
  ·rw[if_pos c,if_pos c,yh f g _ (by have:=(yg c).1;omega) (by have:=(yg c).1;omega)]
  ·rw[if_neg c,if_neg c]
theorem uf (row:List Int):∀k,k<=(cF row).length->DO row k<=row.length/\(cF row).drop k=eO row (row.length+1) (DO row k)
 |0,_=>⟨Nat.zero_le _,rfl⟩
 |k+1,h=>by
  obtain⟨h1,h2⟩:=uf row k (by omega)
  have hlt:DO row k<row.length:=by
   rcases Nat.lt_or_ge (DO row k) row.length with c|c
   ·exact c
   ·have:=congrArg List.length h2
    rw[eO,if_neg (by omega),List.length_drop]at this
    simp at this
    omega
  have hn:=yg hlt
  rw[DO,if_pos hlt]
  refine⟨hn.2,?_⟩
  rw[<- List.tail_drop,h2,eO,if_pos hlt]
  exact yh _ _ _ (by omega) (by omega)
theorem Ko {row:List Int}{k:Nat}(h:k<=(cF row).length):(DO row k<row.length↔k<(cF row).length)/\(k<(cF row).length->(cF row)[k]? =some (fY row (DO row k)).1):=by
 obtain⟨h1,h2⟩:=uf row k h
 have hl:=congrArg List.length h2
 rw[List.length_drop,eO]at hl
 by_cases c:DO row k<row.length
 ·rw[if_pos c,List.length_cons]at hl
  refine⟨⟨fun _=>by omega,fun _=>c⟩,fun d=>?_⟩
  have:(cF row)[k]? =((cF row).drop k)[0]? :=by rw[List.getElem?_drop];rfl
  rw[this,h2,eO,if_pos c];rfl
 ·rw[if_neg c]at hl
  simp at hl
  exact⟨⟨fun d=>absurd d c,fun d=>by omega⟩,fun d=>by omega⟩
theorem NY {W:World} {c1 l:Nat} {a:Option Addr} {n c:Nat} {row:List Int} {A:HP} {G:Nat->HP} {Gx T T':HP} (hA:RdB W A a row.length (row.map I)) (hl:row.length<=1099511627776)
  (hy:m0 p_ l (qy row) (fun k=>all [T,all [pt c1 (.cells #[.slice a row.length c] 197),A,G k]]) (all [T',Gx]) W):
  Cn p_ 244 [yv l,.pointer (some ⟨c1,0,none⟩)] W [all [T,all [pt c1 (.cells #[.slice a row.length c] 197),A,G 0]]] (fun _:Bool=> .tuple #[])
   (fun r=>[if r then all [T,all [pt c1 (.cells #[.slice a row.length c] 197),A,G (qy row).length]]else all [T',Gx]]):=by
 have hTl:(qy row).length=(cF row).length:=by simp[qy]
 rw[hTl]
 (refine S.tI.cn fun F=>?_;unfold S.nM;simp only[ca_,na_])
 refine aB .here ?_
 refine ay ?_
 refine aB (.there .here) ?_
 refine ay ?_
 refine bj (fun m y=>(ex fun k:Nat=>all [pu (m+k=(cF row).length/\y= .int .i64 (DO row k:Int)),T,G k])::pt c1 (.cells #[.slice a row.length c] 197)::A::F) (cF row).length ?_ ?_
 ·refine .ex 0 (.all (.pu ⟨by omega,rfl⟩ ?_))
  refine ay ?_
  exact aC
 intro m ds y
 refine aX .here fun k=>aB .here ?_
 refine ay ?_
 refine aT .here fun hk=>?_
 obtain⟨hmk,rfl⟩:=hk
 obtain⟨g1,g2⟩:=Ko (row:=row) (k:=k) (by omega)
 obtain⟨d1,d2⟩:=uf row k (by omega)
 obtain⟨i,hi⟩:∃i,i=DO row k:=⟨_,rfl⟩
 have hnx:DO row (k+1)=if i<row.length then i+(fY row i).2 else i:=by rw[DO,<- hi]
 rw[<- hi]at g1 g2 d1 ⊢
 refine ck ?_;refine o_ aN ?_
 by_cases h1:(i:Int)<(row.length:Int)
 rotate_left
 ·refine o_ aI ?_
  rw[dF_ h1]
  refine aa ?_
  have:k=(cF row).length:=by
   rcases Nat.lt_or_ge k (cF row).length with c|c
   ·exact absurd (g1.2 c) (by omega)
   ·omega
  subst this
  refine bC true ?_
  refine .all ?_
  refine ay ?_
  refine .pick (by repeat constructor) (.all ?_)
  refine ay ?_
  exact aC
 have hil:i<row.length:=by omega
 have hkl:=g1.1 hil
 refine o_ aI ?_
 rw[dT_ h1]
 refine ab (ck ?_)
 obtain⟨g,o,rfl,_⟩:=hA.at_ (by omega)
 refine o_ (bA i rfl hil) ?_
 refine cm (cX hA (v:=I row[i]) (gB hil)) ?_
 obtain⟨v,hv⟩:∃v,v=row[i]:=⟨_,rfl⟩
 have hvi:row[i]? =some v:=by rw[hv];exact List.getElem?_eq_getElem hil
 have hgd:row.getD i 0=v:=by rw[List.getD_eq_getElem?_getD,hvi];rfl
 rw[<- hv]
 unfold I
 obtain⟨N,hN⟩:∃N,N=eN row v i row.length 1:=⟨_,rfl⟩
 refine bj (fun m2 y=>(ex fun n:Nat=>pu (m2+i+n=row.length/\y= .int .i64 (n:Int)/\1<=n/\eN row v i m2 n=N))::T::G k::pt c1 (.cells #[.slice (some ⟨g,o,none⟩) row.length c] 197)::A::F) (row.length-i-1) ?_ ?_
 ·exact .ex 1 (.pu ⟨by omega,rfl,by omega,by rw[hN];exact yf _ _ _ (by omega) (by omega)⟩ .refl)
 intro m2 ds y5
 refine aX .here fun n=>aT .here fun hn=>?_
 obtain⟨hmn,rfl,hn1,hs⟩:=hn
 have stop:m2=0\/¬row[i+n]? =some v->n=N:=fun h=>by
  rw[<- hs]
  rcases h with rfl|h
  ·rfl
  ·cases m2 with
   |zero=>rfl
   |succ m2=>rw[eN,if_neg h]
 refine bW ?_;refine ck ?_;refine o_ aN ?_
 by_cases h2:(i:Int)+(n:Int)<(row.length:Int)
 ·refine o_ aI ?_
  rw[dT_ h2]
  refine ag (ck ?_);refine ag (ag (ag (bW ?_)));refine ag (o_ (bA (i+n) (by rfl) (by omega)) ?_)
  refine ag (cm (cX hA (v:=I row[i+n]) (gB (by omega))) ?_)
  refine ag (ag ?_)
  unfold I
  refine o_ bF ?_
  by_cases h3:row[i+n]=v
  ·rw[dT_ h3]
   refine o_ aq (ab (bW ?_))
   obtain⟨m2,rfl⟩:∃x,m2=x+1:=⟨m2-1,by omega⟩
   refine aP m2 (by omega) (.ex (n+1) (.pu ⟨by omega,rfl,by omega,?_⟩ aC))
   rw[<- hs,eN,if_pos (by rw[List.getElem?_eq_getElem (by omega),h3])]
  ·rw[dF_ h3]
   refine o_ aq (aa (o_ cu ?_));refine bm fun g=>?_;refine gS ?_
   have hnN:=stop (by rw[List.getElem?_eq_getElem (by omega)];exact .inr (fun h=>h3 (Option.some.inj h)))
   clear stop hs
   subst hnN
   rename Nat=>gt
   have htd:fY row i=if v=0/\11<=n then(⟨18,7,min n 138-11⟩,min n 138)else if v=0/\3<=n then(⟨17,3,n-3⟩,n)else if(v≠0/\3<=n)/\(0<i/\row[i-1]? =some v)then(⟨16,2,min n 6-3⟩,min n 6)else(⟨v,0,0⟩,1):=by
    unfold fY
    simp only
    rw[hgd,<- hN]
   have htn:=yg hil
   obtain⟨tn,htn2⟩:∃tn,tn=fY row i:=⟨_,rfl⟩
   rw[<- htn2]at htd htn hnx g2
   refine eR (fun z=>pu (z= .int .i64 (tn.2:Int))::pt gt (.cells #[.int .i64 tn.1.sym,.int .i64 (tn.1.bits:Int),.int .i64 (tn.1.extra:Int)] 306)::T::G k::pt c1 (.cells #[.slice (some ⟨g,o,none⟩) row.length c] 197)::A::F) ?_ ?_
   rotate_left
   ·refine o_ bF ?_
    by_cases k0:v=0
    ·rw[dT_ k0]
     refine ag (ag (o_ dg ?_))
     by_cases k11:(11:Int)<=(n:Int)
     ·rw[dT_ k11]
      refine o_ aq (ab (o_ vX ?_))
      rw[if_pos ⟨k0,by omega⟩]at htd
      rw[show(if(138:Int)<(n:Int)then(138:Int)else(n:Int))=((min n 138:Nat):Int) by split <;> omega]
      refine fI ?_;refine o_ cu ?_;refine gS ?_
      refine a_ (.pu (by rw[htd]) (.pick (by rw[htd];simp only;rw[show((min n 138-11:Nat):Int)=((min n 138:Nat):Int)-11 by omega];(repeat constructor)) ?_))
      exact aC
     ·rw[dF_ k11]
      rw[if_neg (fun h=>k11 (by omega))]at htd
      refine o_ aq (aa (o_ bF ?_))
      rw[dT_ k0]
      refine ag (ag (o_ dg ?_))
      by_cases k3:(3:Int)<=(n:Int)
      ·rw[dT_ k3]
       rw[if_pos ⟨k0,by omega⟩]at htd
       refine o_ aq (ab (fI ?_));refine o_ cu ?_;refine gS ?_
       refine a_ (.pu (by rw[htd]) (.pick (by rw[htd];simp only;rw[show((n-3:Nat):Int)=(n:Int)-3 by omega];(repeat constructor)) ?_))
       exact aC
      ·rw[dF_ k3]
       rw[if_neg (fun h=>k3 (by omega)),if_neg (fun h=>h.1.1 k0)]at htd
       refine o_ aq (aa (o_ eS ?_))
       rw[dF_ (fun h=>h k0)]
       refine ah (ah (o_ ap (ah (ah (o_ ap (ah (ah (ah (ah (ah (ah (ah (o_ ap (aa (a_ (.pu (by rw[htd];rfl) (.pick (by rw[htd];simp only;(repeat constructor)) ?_)))))))))))))))))
       exact aC
    ·rw[dF_ k0]
     rw[if_neg (fun h=>k0 h.1),if_neg (fun h=>k0 h.1)]at htd
     refine ah (ah (o_ ap (aa (o_ bF ?_))))
     rw[dF_ k0]
     refine ah (ah (o_ ap (aa (o_ eS ?_))))
     rw[dT_ k0]
     refine ag (ag (o_ dg ?_))
     by_cases k3:(3:Int)<=(n:Int)
     ·rw[dT_ k3]
      refine o_ aq (ag (ag (o_ bq ?_)))
      by_cases ki:(0:Int)<(i:Int)
      ·rw[dT_ ki]
       refine o_ aq (ag (ck ?_));refine ag (ag (fI ?_));refine ag (o_ (bA (i-1) (by omega) (by omega)) ?_)
       refine ag (cm (cX hA (v:=I row[i-1]) (gB (by omega))) ?_)
       refine ag (ag ?_)
       unfold I
       refine o_ bF ?_
       by_cases kv:row[i-1]=v
       ·rw[dT_ kv]
        rw[if_pos ⟨⟨k0,by omega⟩,by omega,by rw[List.getElem?_eq_getElem (by omega),kv]⟩]at htd
        refine o_ aq (ab (o_ vX ?_))
        rw[show(if(6:Int)<(n:Int)then(6:Int)else(n:Int))=((min n 6:Nat):Int) by split <;> omega]
        refine fI ?_;refine o_ cu ?_;refine gS ?_
        refine a_ (.pu (by rw[htd]) (.pick (by rw[htd];simp only;rw[show((min n 6-3:Nat):Int)=((min n 6:Nat):Int)-3 by omega];(repeat constructor)) ?_))
        exact aC
       ·rw[dF_ kv]
        rw[if_neg (fun h=>kv (by have:=h.2.2;rw[List.getElem?_eq_getElem (by omega)]at this;exact Option.some.inj this))]at htd
        refine o_ aq (aa (a_ (.pu (by rw[htd];rfl) (.pick (by rw[htd];simp only;(repeat constructor)) ?_))))
        exact aC
      ·rw[dF_ ki]
       rw[if_neg (fun h=>ki (by omega))]at htd
       refine o_ aq (ah (ah (ah (ah (ah (ah (ah (o_ ap (aa (a_ (.pu (by rw[htd];rfl) (.pick (by rw[htd];simp only;(repeat constructor)) ?_))))))))))))
       exact aC
     ·rw[dF_ k3]
      rw[if_neg (fun h=>k3 (by omega))]at htd
      refine o_ aq (ah (ah (o_ ap (ah (ah (ah (ah (ah (ah (ah (o_ ap (aa (a_ (.pu (by rw[htd];rfl) (.pick (by rw[htd];simp only;(repeat constructor)) ?_)))))))))))))))
      exact aC
   ·intro ds z
    refine aT .here fun hz=>?_
    subst hz
    refine sP ?_
    refine cr (M:=all [T,all [pt c1 (.cells #[.slice (some ⟨g,o,none⟩) row.length c] 197),A,G k]]::F) ?_ ?_
    ·refine .all ?_
     refine ay ?_
     refine .pick (by repeat constructor) (.all ?_)
     refine ay ?_
     exact aC
    have hget:(qy row)[k]? =some [NX tn.1]:=by
     unfold qy
     rw[List.getElem?_map,g2 hkl];rfl
    refine ka hy k hget .here ?_ ?_
    ·(refine o_ eT ?_);refine aa ?_;refine bW ?_
     refine aB .here ?_
     refine ay ?_
     refine aB (.there .here) ?_
     refine ay ?_
     rw[if_pos hil]at hnx
     refine aP (m-1) (by omega) (.ex (k+1) (.all (.pu ⟨by omega,by rw[hnx];norm_cast⟩ ?_)))
     refine ay ?_
     exact aC
    ·(refine o_ ee ?_);refine ab ?_
     refine bC false ?_
     exact aC
 ·refine o_ aI ?_
  rw[dF_ h2]
  refine ah (ah (ah (ah (ah (ah (ah (ah (o_ ap (aa (o_ cu ?_))))))))));refine bm fun g=>?_;refine gS ?_
  have hnN:=stop (by exact .inl (by omega))
  clear stop hs
  subst hnN
  rename Nat=>gt
  have htd:fY row i=if v=0/\11<=n then(⟨18,7,min n 138-11⟩,min n 138)else if v=0/\3<=n then(⟨17,3,n-3⟩,n)else if(v≠0/\3<=n)/\(0<i/\row[i-1]? =some v)then(⟨16,2,min n 6-3⟩,min n 6)else(⟨v,0,0⟩,1):=by
   unfold fY
   simp only
   rw[hgd,<- hN]
  have htn:=yg hil
  obtain⟨tn,htn2⟩:∃tn,tn=fY row i:=⟨_,rfl⟩
  rw[<- htn2]at htd htn hnx g2
  refine eR (fun z=>pu (z= .int .i64 (tn.2:Int))::pt gt (.cells #[.int .i64 tn.1.sym,.int .i64 (tn.1.bits:Int),.int .i64 (tn.1.extra:Int)] 306)::T::G k::pt c1 (.cells #[.slice (some ⟨g,o,none⟩) row.length c] 197)::A::F) ?_ ?_
  rotate_left
  ·refine o_ bF ?_
   by_cases k0:v=0
   ·rw[dT_ k0]
    refine ag (ag (o_ dg ?_))
    by_cases k11:(11:Int)<=(n:Int)
    ·rw[dT_ k11]
     refine o_ aq (ab (o_ vX ?_))
     rw[if_pos ⟨k0,by omega⟩]at htd
     rw[show(if(138:Int)<(n:Int)then(138:Int)else(n:Int))=((min n 138:Nat):Int) by split <;> omega]
     refine fI ?_;refine o_ cu ?_;refine gS ?_
     refine a_ (.pu (by rw[htd]) (.pick (by rw[htd];simp only;rw[show((min n 138-11:Nat):Int)=((min n 138:Nat):Int)-11 by omega];(repeat constructor)) ?_))
     exact aC
    ·rw[dF_ k11]
     rw[if_neg (fun h=>k11 (by omega))]at htd
     refine o_ aq (aa (o_ bF ?_))
     rw[dT_ k0]
     refine ag (ag (o_ dg ?_))
     by_cases k3:(3:Int)<=(n:Int)
     ·rw[dT_ k3]
      rw[if_pos ⟨k0,by omega⟩]at htd
      refine o_ aq (ab (fI ?_));refine o_ cu ?_;refine gS ?_
      refine a_ (.pu (by rw[htd]) (.pick (by rw[htd];simp only;rw[show((n-3:Nat):Int)=(n:Int)-3 by omega];(repeat constructor)) ?_))
      exact aC
     ·rw[dF_ k3]
      rw[if_neg (fun h=>k3 (by omega)),if_neg (fun h=>h.1.1 k0)]at htd
      refine o_ aq (aa (o_ eS ?_))
      rw[dF_ (fun h=>h k0)]
      refine ah (ah (o_ ap (ah (ah (o_ ap (ah (ah (ah (ah (ah (ah (ah (o_ ap (aa (a_ (.pu (by rw[htd];rfl) (.pick (by rw[htd];simp only;(repeat constructor)) ?_)))))))))))))))))
      exact aC
   ·rw[dF_ k0]
    rw[if_neg (fun h=>k0 h.1),if_neg (fun h=>k0 h.1)]at htd
    refine ah (ah (o_ ap (aa (o_ bF ?_))))
    rw[dF_ k0]
    refine ah (ah (o_ ap (aa (o_ eS ?_))))
    rw[dT_ k0]
    refine ag (ag (o_ dg ?_))
    by_cases k3:(3:Int)<=(n:Int)
    ·rw[dT_ k3]
     refine o_ aq (ag (ag (o_ bq ?_)))
     by_cases ki:(0:Int)<(i:Int)
     ·rw[dT_ ki]
      refine o_ aq (ag (ck ?_));refine ag (ag (fI ?_));refine ag (o_ (bA (i-1) (by omega) (by omega)) ?_)
      refine ag (cm (cX hA (v:=I row[i-1]) (gB (by omega))) ?_)
      refine ag (ag ?_)
      unfold I
      refine o_ bF ?_
      by_cases kv:row[i-1]=v
      ·rw[dT_ kv]
       rw[if_pos ⟨⟨k0,by omega⟩,by omega,by rw[List.getElem?_eq_getElem (by omega),kv]⟩]at htd
       refine o_ aq (ab (o_ vX ?_))
       rw[show(if(6:Int)<(n:Int)then(6:Int)else(n:Int))=((min n 6:Nat):Int) by split <;> omega]
       refine fI ?_;refine o_ cu ?_;refine gS ?_
       refine a_ (.pu (by rw[htd]) (.pick (by rw[htd];simp only;rw[show((min n 6-3:Nat):Int)=((min n 6:Nat):Int)-3 by omega];(repeat constructor)) ?_))
       exact aC
      ·rw[dF_ kv]
       rw[if_neg (fun h=>kv (by have:=h.2.2;rw[List.getElem?_eq_getElem (by omega)]at this;exact Option.some.inj this))]at htd
       refine o_ aq (aa (a_ (.pu (by rw[htd];rfl) (.pick (by rw[htd];simp only;(repeat constructor)) ?_))))
       exact aC
     ·rw[dF_ ki]
      rw[if_neg (fun h=>ki (by omega))]at htd
      refine o_ aq (ah (ah (ah (ah (ah (ah (ah (o_ ap (aa (a_ (.pu (by rw[htd];rfl) (.pick (by rw[htd];simp only;(repeat constructor)) ?_))))))))))))
      exact aC
    ·rw[dF_ k3]
     rw[if_neg (fun h=>k3 (by omega))]at htd
     refine o_ aq (ah (ah (o_ ap (ah (ah (ah (ah (ah (ah (ah (o_ ap (aa (a_ (.pu (by rw[htd];rfl) (.pick (by rw[htd];simp only;(repeat constructor)) ?_)))))))))))))))
     exact aC
  ·intro ds z
   refine aT .here fun hz=>?_
   subst hz
   refine sP ?_
   refine cr (M:=all [T,all [pt c1 (.cells #[.slice (some ⟨g,o,none⟩) row.length c] 197),A,G k]]::F) ?_ ?_
   ·refine .all ?_
    refine ay ?_
    refine .pick (by repeat constructor) (.all ?_)
    refine ay ?_
    exact aC
   have hget:(qy row)[k]? =some [NX tn.1]:=by
    unfold qy
    rw[List.getElem?_map,g2 hkl];rfl
   refine ka hy k hget .here ?_ ?_
   ·(refine o_ eT ?_);refine aa ?_;refine bW ?_
    refine aB .here ?_
    refine ay ?_
    refine aB (.there .here) ?_
    refine ay ?_
    rw[if_pos hil]at hnx
    refine aP (m-1) (by omega) (.ex (k+1) (.all (.pu ⟨by omega,by rw[hnx];norm_cast⟩ ?_)))
    refine ay ?_
    exact aC
   ·(refine o_ ee ?_);refine ab ?_
    refine bC false ?_
    exact aC
theorem zY {p q:Nat->Bool}{N:Nat}(h:∀j,j≠N->p j=q j):∀n,(List.range n).countP q+(if N<n then(p N).toNat else 0)=(List.range n).countP p+(if N<n then(q N).toNat else 0)
 |0=>by simp
 |n+1=>by
  have ih:=zY h n
  rw[List.range_succ,List.countP_append,List.countP_append]
  have e1:∀r:Nat->Bool,[n].countP r=(r n).toNat:=fun r=>by
   cases hr:r n with
   |true=>rw[List.countP_cons_of_pos hr];rfl
   |false=>rw[List.countP_cons_of_neg (by simp[hr])];rfl
  rw[e1,e1]
  by_cases c:n=N
  ·subst c
   rw[if_neg (by omega),if_neg (by omega)]at ih
   rw[if_pos (by omega),if_pos (by omega)]
   omega
  ·rw[h n c]
   by_cases d:N<n
   ·rw[if_pos d,if_pos d]at ih
    rw[if_pos (by omega),if_pos (by omega)]
    omega
   ·rw[if_neg d,if_neg d]at ih
    rw[if_neg (by omega),if_neg (by omega)]
    omega
def HC (T:List Td):Nat:=(eI T).countP fun x=>decide (0<x)
theorem ug (T:List Td)(t:Td)(s:Nat):fH (T++[t]) s=fH T s+if t.sym=(s:Int)then 1 else 0:=by
 unfold fH
 rw[List.countP_append]
 by_cases c:t.sym=(s:Int)
 ·rw[if_pos c,List.countP_cons_of_pos (by simpa using c)];rfl
 ·rw[if_neg c,List.countP_cons_of_neg (by simpa using c)];rfl
theorem Kr {T:List Td}{t:Td}{N:Nat}(ht:t.sym=(N:Int))(hN:N<19):HC (T++[t])=HC T+if fH T N+1=1 then 1 else 0:=by
 have e:∀T:List Td,HC T=(List.range 19).countP fun s=>decide (0<(fH T s:Int)):=fun T=>by
  unfold HC eI
  rw[List.countP_map];rfl
 have:=zY (p:=fun s=>decide (0<(fH T s:Int))) (q:=fun s=>decide (0<(fH (T++[t]) s:Int))) (N:=N) (fun j hj=>by
  rw[ug,if_neg (fun h=>hj (by omega))];rfl) 19
 rw[if_pos hN,if_pos hN,<- e,<- e]at this
 rw[ug,ht,if_pos rfl]at this
 by_cases c:fH T N+1=1
 ·rw[if_pos c]
  rw[dF_ (by omega),dT_ (by omega)]at this
  exact this
 ·rw[if_neg c]
  rw[dT_ (by omega),dT_ (by omega)]at this
  simp only[Bool.toNat_true]at this
  omega
theorem Gv (T:List Td)(s:Nat):fH T s<=T.length:=List.countP_le_length
theorem Ks (T:List Td):HC T<=19:=by
 unfold HC
 refine Nat.le_trans List.countP_le_length ?_
 simp[eI]
theorem M5 (T:List Td):(eI T).map I=Ln 19 fun s=>(fH T s:Int):=by
 unfold Ln eI
 rw[List.map_map];rfl
theorem M6:∀c:Fin 19,∃k,j8[c.1]? =some k/\k<19:=by decide
theorem kR {L:List Bool}{n k:Int}{e j:Nat}(hn:n=(e:Int))(hk:k=(j:Int))(h1:j<=32)(h2:e<2^j)(h:L.length+j<=8388608):w5 L n k=L++aG e j:=by
 rw[hn,hk]
 exact vO h1 h2 h
def EY (l:List Int)(t:Td):List Bool:=xD l t.sym++aG t.extra t.bits
theorem uh {α:Type}{f:α->List Bool}{l:List α}{k:Nat}(h:k<l.length):(l.take (k+1)).flatMap f=(l.take k).flatMap f++f l[k]:=by
 rw[List.take_succ_eq_append_getElem h,List.flatMap_append];simp
theorem Gw {α:Type}{f:α->List Bool}{l:List α}{k:Nat}(h:k<l.length):((l.take k).flatMap f).length+(f l[k]).length<=(l.flatMap f).length:=by
 have e:l.flatMap f=(l.take (k+1)).flatMap f++(l.drop (k+1)).flatMap f:=by rw[<- List.flatMap_append,List.take_append_drop]
 rw[e,List.length_append,uh h,List.length_append]
 omega
theorem head {W:World}{w:Nat}{la lb:List Int}{qa qb:Qs}{L:List Bool}(va:∀x∈la,0<=x/\x<=15)(vb:∀x∈lb,0<=x/\x<=15)(h1:la.length=286)(h2:lb.length=30)(hL:L.length+(ER la lb).length<=8388608):
  Cn p_ 203 [.pointer (some ⟨w,0,none⟩),lK (sv la qa),lK (sv lb qb)] W [jn w L,fm la qa,fm lb qb] (fun _:Unit=> .tuple #[]) (fun _=>[jn w (L++ER la lb),fm la qa,fm lb qb]):=by
 obtain⟨T,hT⟩:∃T,T=cF (dG la lb):=⟨_,rfl⟩
 obtain⟨u1,u2,u3⟩:=oO la 257 (by omega)
 obtain⟨w1,w2,w3⟩:=oO lb 1 (by omega)
 have hrow:(dG la lb).length=upto la 257+upto lb 1:=by
  unfold dG;rw[List.length_append,List.length_take,List.length_take];omega
 have hrv:=F_ va vb
 have hTl:T.length<=1000:=by
  have:=oQ (dG la lb) ((dG la lb).length+1) 0
  rw[hT];unfold cF;omega
 have hTs:∀t∈T,0<=t.sym/\t.sym<=18/\t.extra<2^t.bits/\t.bits<=7:=fun t ht=>lJ hrv _ _ t (by rw[hT]at ht;exact ht)
 have hTv:qy (dG la lb)=T.map fun t=>[NX t]:=by unfold qy;rw[hT]
 obtain⟨D,hD⟩:∃D,D=d7 la lb:=⟨_,rfl⟩
 have hDe:cY (ji T) 7=D:=by rw[hD,hT];rfl
 have hDE:kO (ji T) 7=0:=by rw[hT];exact ES (by omega)
 have hD19:D.length=19:=by rw[<- hDe,(PM.cV hDE).1];unfold ji;rw[og];simp[eI]
 have hDv:∀x∈D,0<=x/\x<=7:=fun x hx=>(PM.cV hDE).2.2.2.2.1 x (by rw[hDe];exact hx)
 have hlim:=BD (ji T) 7
 obtain⟨O,hO⟩:∃O,O=eZ D:=⟨_,rfl⟩
 have hO19:O.length=19:=by rw[hO];simp[eZ,j8]
 have hOv:∀x∈O,0<=x/\x<=7:=fun x hx=>by
  rw[hO]at hx
  obtain⟨k,_,rfl⟩:=List.mem_map.1 hx
  rw[List.getD_eq_getElem?_getD]
  cases hk:D[k]? with
  |none=>exact⟨by simp,by simp⟩
  |some y=>exact hDv y (List.mem_of_getElem? hk)
 obtain⟨q1,q2,q3⟩:=oO O 4 (by omega)
 obtain⟨c,hc⟩:∃c,c=upto O 4:=⟨_,rfl⟩
 rw[<- hc]at q1 q2 q3
 have hX:ER la lb=aG (upto la 257-257) 5++(aG (upto lb 1-1) 5++(aG (c-4) 4++((O.take c).flatMap (fun n=>aG n.toNat 3)++T.flatMap (EY D)))):=by
  unfold ER
  simp only
  rw[<- hD,<- hO,<- hc,<- hT]
  simp only[List.append_assoc]
  rfl
 rw[hX]at hL ⊢
 simp only[List.length_append,au]at hL
 obtain⟨M0,hM0⟩:∃M0,M0=L++(aG (upto la 257-257) 5++(aG (upto lb 1-1) 5++aG (c-4) 4)):=⟨_,rfl⟩
 have hM0l:M0.length=L.length+14:=by rw[hM0];simp only[List.length_append,au]
 have hfin:L++(aG (upto la 257-257) 5++(aG (upto lb 1-1) 5++(aG (c-4) 4++((O.take c).flatMap (fun n=>aG n.toNat 3)++T.flatMap (EY D)))))=M0++(O.take c).flatMap (fun n=>aG n.toNat 3)++T.flatMap (EY D):=by
  rw[hM0];simp only[List.append_assoc]
 rw[hfin]
 have hrowe:dG la lb=la.take (upto la 257)++lb.take (upto lb 1):=rfl
 obtain⟨R,hR⟩:∃R,R=dG la lb:=⟨_,rfl⟩
 rw[<- hR]at hrow hTv hrowe
 obtain⟨ua,hua⟩:∃ua,ua=upto la 257:=⟨_,rfl⟩
 obtain⟨ub_,hub⟩:∃ub_,ub_=upto lb 1:=⟨_,rfl⟩
 unfold lK sv
 (refine S.wE.cn fun F=>?_;unfold S.rz;simp only[ca_,na_])
 refine fK fun b3=>?_
 refine cv fun b4=>?_
 refine cv fun b5=>?_
 refine aB (M:=[Sl 1 3 qa.1.1 qa.1.2 la.length (la.map I),Sl 1 3 qa.2.1 qa.2.2 (kN la).length ((kN la).map I)]) (.there (.there (.there (.there .here)))) ?_
 refine ay ?_
 refine aB (M:=[Sl 1 3 qb.1.1 qb.1.2 lb.length (lb.map I),Sl 1 3 qb.2.1 qb.2.2 (kN lb).length ((kN lb).map I)]) (.there (.there (.there (.there (.there (.there .here)))))) ?_
 refine ay ?_
 refine aJ (p:=(by(repeat constructor):Pick _ (Sl 1 3 qa.1.1 qa.1.2 la.length (la.map I)) _)) fun _ fa2 fa3 fa4=>?_
 refine aJ (p:=(by(repeat constructor):Pick _ (Sl 1 3 qb.1.1 qb.1.2 lb.length (lb.map I)) _)) fun _ fb2 fb3 fb4=>?_
 obtain⟨⟨qaa,qac⟩,qcc⟩:=qa
 obtain⟨⟨qba,qbc⟩,qdc⟩:=qb
 (try dsimp only at *)
 obtain⟨ga,rfl⟩:=fa4 (by omega)
 obtain⟨gb,rfl⟩:=fb4 (by omega)
 have ra:RdB W (Sl 1 3 (some ⟨ga,0,none⟩) qac la.length (la.map I)) (some ⟨ga,0,none⟩) la.length (la.map I):=dh (by rw[List.length_map]) (fun _=>⟨ga,rfl⟩)
 have rb:RdB W (Sl 1 3 (some ⟨gb,0,none⟩) qbc lb.length (lb.map I)) (some ⟨gb,0,none⟩) lb.length (lb.map I):=dh (by rw[List.length_map]) (fun _=>⟨gb,rfl⟩)
 refine bM (t_ aw (kS ?_));refine aZ aw .nil ?_;(((refine' aZ (br ?hc) ?hi ?_);(case hi=>exact .pick (by repeat constructor) .nil);(case hc=>repeat constructor)))
 refine c_ (Km (cap:=qac) (least:=257) ra (by omega) (by omega)) fun _=>?_
 refine cq ?_;refine cq ?_
 refine c_ (Km (cap:=qbc) (least:=1) rb (by omega) (by omega)) fun _=>?_
 rw[<- hua,<- hub]
 rw[<- hua]at u1 u2 u3 hrow hrowe
 rw[<- hub]at w1 w2 w3 hrow hrowe
 refine bM (t_ aw (kS ?_))
 refine t_ (Al ua rfl (by omega)) ?_
 refine aZ aw .nil ?_;(((refine' aZ (br ?hc) ?hi ?_);(case hi=>exact .pick (by repeat constructor) .nil);(case hc=>repeat constructor)))
 refine aZ (Al ub_ rfl (by omega)) .nil ?_
 refine d_ (s:=1) (e:=3) ?_
 have ta:(la.take ua).length=ua:=by rw[List.length_take];omega
 have tb:(lb.take ub_).length=ub_:=by rw[List.length_take];omega
 have ra2:RdB W (Sl 1 3 (some ⟨ga,0,none⟩) qac la.length (la.map I)) (some ⟨ga,0,none⟩) ua ((la.take ua).map I):=by rw[List.map_take];exact Ic ra u1
 have rb2:RdB W (Sl 1 3 (some ⟨gb,0,none⟩) qbc lb.length (lb.map I)) (some ⟨gb,0,none⟩) ub_ ((lb.take ub_).map I):=by rw[List.map_take];exact Ic rb w1
 refine co (m:=ua) (news:=(la.take ua).map I) .here (fM (A:=Sl 1 3 (some ⟨ga,0,none⟩) qac la.length (la.map I)) (e':=3) (by kernel_rfl) (by repeat constructor) ra2 (fun c=>by cases c) Ce) (by omega) (by omega) fun a1 c1=>?_
 refine cq ?_;refine cq ?_;refine cq ?_
 refine co (m:=ub_) (news:=(lb.take ub_).map I) .here (fM (A:=Sl 1 3 (some ⟨gb,0,none⟩) qbc lb.length (lb.map I)) (e':=3) (by kernel_rfl) (by repeat constructor) rb2 (fun c=>by cases c) Ce) (by omega) (by omega) fun a2 c2=>?_
 rw[show []++(la.take ua).map I++(lb.take ub_).map I=R.map I by rw[hrowe,List.map_append,List.nil_append],show 0+ua+ub_=R.length by omega]
 refine aJ .here fun _ _ _ fr4=>?_
 have rR:RdB W (Sl 1 3 a2 c2 R.length (R.map I)) a2 R.length (R.map I):=dh (by rw[List.length_map]) fr4
 refine gz 19 19 (by rfl) (by rfl) (by omega) (by omega) (by unfold maxLen;omega) fun gc=>?_
 refine dQ fun g=>?_;refine fX ?_;refine dQ fun g=>?_;refine fX ?_
 rename Nat=>b10
 obtain⟨b9,hb9⟩:∃b9,b9=g:=⟨_,rfl⟩
 rw[<- hb9]
 clear hb9 g
 obtain⟨SA,hSA⟩:∃SA,SA=fm la ((some ⟨ga,0,none⟩,qac),qcc):=⟨_,rfl⟩
 obtain⟨SB,hSB⟩:∃SB,SB=fm lb ((some ⟨gb,0,none⟩,qbc),qdc):=⟨_,rfl⟩
 rw[<- hSA,<- hSB]
 obtain⟨SR,hSR⟩:∃SR,SR=Sl 1 3 a2 c2 R.length (R.map I):=⟨_,rfl⟩
 rw[<- hSR]at rR ⊢
 refine cr (M:=pt b10 (.cells #[.int .i64 0] 3)::pt b9 (.cells #[.slice (some ⟨gc,0,none⟩) 19 19] 197)::Sl 1 3 (some ⟨gc,0,none⟩) 19 19 (List.replicate 19 (.int .i64 0))::SR::pt b3 (.cells #[.pointer (some ⟨w,0,none⟩)] 156)::jn w L::SA::SB::[all F]) ?_ ?_
 ·rw[hSA,hSB]
  unfold fm
  refine .pick (by repeat constructor) (.pick (by repeat constructor) (.pick (by repeat constructor) (.pick (by repeat constructor) (.pick (by repeat constructor) (.pick (by repeat constructor) (.all ?_))))))
  refine ay ?_
  refine .pick (by repeat constructor) (.pick (by repeat constructor) (.all ?_))
  refine ay ?_
  refine .pick (by repeat constructor) (.pick (by repeat constructor) (.all ?_))
  rw[List.append_nil]
  exact aC
 refine c_ (Sp (a:=a2) (n:=R.length) (c:=c2)) fun _=>?_
 rename_i r1
 have hTlen:(qy R).length=T.length:=by rw[hTv];simp
 refine GG (f:=244) (cap:=[.pointer (some ⟨r1,0,none⟩)]) (qy R)
  (fun k=>all [pt r1 (.cells #[.slice a2 R.length c2] 197),SR,all [pu (k<=T.length),pt b10 (.cells #[.int .i64 (HC (T.take k):Int)] 3),pt b9 (.cells #[.slice (some ⟨gc,0,none⟩) 19 19] 197),Sl 1 3 (some ⟨gc,0,none⟩) 19 19 (Ln 19 fun s=>(fH (T.take k) s:Int)),all [pt b3 (.cells #[.pointer (some ⟨w,0,none⟩)] 156),jn w L,SA,SB,all F]]]) (pu False) rfl ?_ ?_ ?_ ?_ ?_ ?_
 ·intro x hx
  rw[hTv]at hx
  obtain⟨k,_,rfl⟩:=List.mem_map.1 hx
  rfl
 ·refine .all ?_
  refine ay ?_
  refine .pick (by repeat constructor) (.pick (by repeat constructor) (.all ?_))
  refine ay ?_
  rw[ej]
  refine .pu (by omega) (.pick (by repeat constructor) (.pick (by repeat constructor) (.pick (by repeat constructor) (.all ?_))))
  refine ay ?_
  exact aC
 ·intro l T1 T2 hy
  exact NY (n:=0) (G:=fun k=>all [pu (k<=T.length),pt b10 (.cells #[.int .i64 (HC (T.take k):Int)] 3),pt b9 (.cells #[.slice (some ⟨gc,0,none⟩) 19 19] 197),Sl 1 3 (some ⟨gc,0,none⟩) 19 19 (Ln 19 fun s=>(fH (T.take k) s:Int)),all [pt b3 (.cells #[.pointer (some ⟨w,0,none⟩)] 156),jn w L,SA,SB,all F]]) rR (by omega) hy
 ·intro k hk F2 T0 T1 B N J hB hN hJ
  rw[hTlen]at hk
  have e0:∀h,(qy R)[k]'h=[NX T[k]]:=fun h=>by simp[hTv]
  rw[e0]
  simp only[kU,List.headD_cons,List.tail_cons]
  have hts:=hTs _ (List.getElem_mem hk)
  have htk:T.take (k+1)=T.take k++[T[k]]:=List.take_succ_eq_append_getElem hk
  obtain⟨t,ht⟩:∃t,t=T[k]:=⟨_,rfl⟩
  rw[<- ht]at hts htk ⊢
  obtain⟨n,hn⟩:=Int.eq_ofNat_of_zero_le hts.1
  have hn19:n<19:=by omega
  have hknS:=Kr (T:=T.take k) hn hn19
  rw[<- htk]at hknS
  have hcs:∀s,fH (T.take (k+1)) s=fH (T.take k) s+if t.sym=(s:Int)then 1 else 0:=fun s=>by rw[htk];exact ug _ _ _
  have hc1:=Gv (T.take k) n
  have hc2:=Ks (T.take k)
  have hc3:(T.take k).length<=1000:=by rw[List.length_take];omega
  refine aB (.there .here) ?_
  refine ay ?_
  refine aB (.there (.there .here)) ?_
  refine ay ?_
  refine aT .here fun hkn=>?_
  unfold NX
  rw[hn]
  refine bm fun g=>?_;refine gS ?_
  refine hB _ _ _ (by repeat constructor) ?_
  refine ck ?_;refine o_ aw (ck ?_)
  refine o_ (bA n (by rfl) hn19) ?_
  have hld:(Ln 19 fun s=>(fH (T.take k) s:Int))[0+n]? =some (I (fH (T.take k) n:Int)):=by rw[Nat.zero_add];exact nU hn19
  refine cm (dP hld) ?_
  refine bW ?_
  refine o_ (bA n (by rfl) hn19) ?_
  refine jz (by repeat constructor) (by rw[Nat.zero_add,kM];omega) ?_
  rw[Nat.zero_add]
  have hset:(Ln 19 fun s=>(fH (T.take k) s:Int)).set n (.int .i64 ((fH (T.take k) n:Int)+1))=Ln 19 fun s=>(fH (T.take (k+1)) s:Int):=by
   have:=w8 (n:=19) (j:=n) (f:=fun s=>(fH (T.take k) s:Int)) (v:=(fH (T.take k) n:Int)+1)
   unfold I at this
   rw[this]
   refine jP fun j hj=>?_
   rw[hcs,hn]
   by_cases cj:j=n
   ·subst cj;rw[if_pos rfl,if_pos rfl];rfl
   ·rw[if_neg cj,if_neg (by omega)];rfl
  rw[hset]
  refine ck ?_;refine o_ aw (ck ?_)
  refine o_ (bA n (by rfl) hn19) ?_
  have hld2:(Ln 19 fun s=>(fH (T.take (k+1)) s:Int))[0+n]? =some (I (fH (T.take (k+1)) n:Int)):=by rw[Nat.zero_add];exact nU hn19
  refine cm (dP hld2) ?_
  have hc4:fH (T.take (k+1)) n=fH (T.take k) n+1:=by rw[hcs,hn,if_pos rfl]
  unfold I
  refine o_ bF ?_
  by_cases h1c:(fH (T.take (k+1)) n:Int)=1
  ·rw[dT_ h1c]
   rw[if_pos (by omega)]at hknS
   refine ab (ck ?_);refine bW ?_;refine fX ?_
   refine hN _ ?_
   refine .pick (by repeat constructor) (.all ?_)
   refine ay ?_
   refine .pick (by repeat constructor) (.pick (by repeat constructor) (.all ?_))
   refine ay ?_
   rw[hknS,show((HC (T.take k)+1:Nat):Int)=(HC (T.take k):Int)+1 by rfl]
   refine .pu (by omega) ?_
   exact aC
  ·rw[dF_ h1c]
   rw[if_neg (by omega)]at hknS
   refine aa (hN _ ?_)
   refine .pick (by repeat constructor) (.all ?_)
   refine ay ?_
   refine .pick (by repeat constructor) (.pick (by repeat constructor) (.all ?_))
   refine ay ?_
   rw[hknS,Nat.add_zero]
   refine .pu (by omega) ?_
   exact aC
 rotate_left
 ·intro d1
  exact aT (.there .here) fun h=>h.elim
 intro d1
 rw[hTlen,List.take_length,<- M5]
 refine aB (.there .here) ?_
 refine ay ?_
 refine aB (.there (.there .here)) ?_
 refine ay ?_
 refine aT .here fun _=>?_
 have hf19:(eI T).length=19:=by simp[eI]
 have hfb:∀(j:Nat) (h:j<(eI T).length),0<=(eI T)[j]/\(eI T)[j]<=1000:=fun j h=>by
  have:=Gv T j
  simp only[eI,List.getElem_map,List.getElem_range]
  omega
 have hkT:=Ks T
 refine jx (Sl 1 3 (some ⟨gc,0,none⟩) 19 19 ((ji T).map I)::pt d1 (.deferred (some []))::pt b9 (.cells #[.slice (some ⟨gc,0,none⟩) 19 19] 197)::all [pt b3 (.cells #[.pointer (some ⟨w,0,none⟩)] 156),jn w L,SA,SB,all F]::pt r1 (.cells #[.slice a2 R.length c2] 197)::SR::[]) ?_ ?_
 rotate_left
 ·refine ck ?_
  refine o_ bF ?_
  by_cases k1:(HC T:Int)=1
  rotate_left
  ·rw[dF_ k1]
   refine aa ?_
   have:ji T=eI T:=by
    unfold ji vn
    rw[if_neg (fun h=>k1 (by rw[show HC T=(eI T).countP fun x=>decide (0<x)from rfl,h];rfl))]
   rw[this]
   refine a_ ?_
   exact aC
  rw[dT_ k1]
  refine ab ?_
  have hoK:ji T=if 0<(eI T).getD 0 0 then(eI T).set 1 ((eI T).getD 1 0+1)else(eI T).set 0 ((eI T).getD 0 0+1):=by
   unfold ji vn
   have hk1:HC T=1:=by omega
   rw[if_pos (show((eI T).countP fun x=>decide (0<x))=1 from hk1)]
  have hgD:∀(j:Nat) (h:j<(eI T).length),(eI T).getD j 0=(eI T)[j]:=fun j h=>by rw[List.getD_eq_getElem?_getD,List.getElem?_eq_getElem h];rfl
  rw[hgD 0 (by omega),hgD 1 (by omega)]at hoK
  obtain⟨z0,hz0⟩:∃z0:Int,z0=(eI T)[0]'(by omega):=⟨_,rfl⟩
  obtain⟨z1,hz1⟩:∃z1:Int,z1=(eI T)[1]'(by omega):=⟨_,rfl⟩
  have hb0:=hfb 0 (by omega)
  have hb1:=hfb 1 (by omega)
  have hld0:((eI T).map I)[0+0]? =some (.int .i64 z0):=by rw[hz0];exact gB (by omega)
  have hld1:((eI T).map I)[0+1]? =some (.int .i64 z1):=by rw[hz1,Nat.zero_add];exact gB (by omega)
  rw[<- hz0,<- hz1]at hoK
  rw[<- hz0]at hb0
  rw[<- hz1]at hb1
  refine eR (fun z=>pu (z= .int .i64 (if 0<z0 then 1 else 0))::Sl 1 3 (some ⟨gc,0,none⟩) 19 19 ((eI T).map I)::pt d1 (.deferred (some []))::pt b9 (.cells #[.slice (some ⟨gc,0,none⟩) 19 19] 197)::all [pt b3 (.cells #[.pointer (some ⟨w,0,none⟩)] 156),jn w L,SA,SB,all F]::pt r1 (.cells #[.slice a2 R.length c2] 197)::SR::[]) ?_ ?_
  rotate_left
  ·refine ck ?_
   refine o_ (bA 0 (by rfl) (by omega)) ?_
   refine cm (dP hld0) ?_
   refine o_ bq ?_
   by_cases k2:0<z0
   ·rw[dT_ k2]
    refine ab (a_ (.pu (by rw[if_pos k2]) ?_))
    exact aC
   ·rw[dF_ k2]
    refine aa (a_ (.pu (by rw[if_neg k2]) ?_))
    exact aC
  intro ds z
  refine aT .here fun hz=>?_
  subst hz
  by_cases k2:0<z0
  ·rw[if_pos k2]at hoK ⊢
   refine ck ?_
   refine o_ (bA 1 (by rfl) (by omega)) ?_
   refine cm (dP hld1) ?_
   refine bW ?_
   refine o_ (bA 1 (by rfl) (by omega)) ?_
   refine jz (by repeat constructor) (by rw[List.length_map];omega) ?_
   rw[hoK,List.map_set]
   refine a_ ?_
   exact aC
  ·rw[if_neg k2]at hoK ⊢
   refine ck ?_
   refine o_ (bA 0 (by rfl) (by omega)) ?_
   refine cm (dP hld0) ?_
   refine bW ?_
   refine o_ (bA 0 (by rfl) (by omega)) ?_
   refine jz (by repeat constructor) (by rw[List.length_map];omega) ?_
   rw[hoK,List.map_set]
   refine a_ ?_
   exact aC
 intro ds
 have hfT19:(ji T).length=19:=by unfold ji;rw[og];exact hf19
 have hrf:RdB W (Sl 1 3 (some ⟨gc,0,none⟩) 19 19 ((ji T).map I)) (some ⟨gc,0,none⟩) (ji T).length ((ji T).map I):=by
  rw[hfT19]
  exact dh (by rw[List.length_map,hfT19]) (fun _=>⟨gc,rfl⟩)
 have hln:=Bi (W:=W) (cap:=19) (lim:=7) hrf (by omega)
 rw[hfT19,hDe,hDE]at hln
 refine ck ?_
 refine c_ hln fun _=>?_
 rename_i qD
 refine iC ?_;refine iC ?_
 refine aJ .here fun _ hnd hcd hfd=>?_
 obtain⟨qDa,qDc⟩:=qD
 (try dsimp only at *)
 obtain⟨gd,rfl⟩:=hfd (by omega)
 have rD:RdB W (Sl 1 3 (some ⟨gd,0,none⟩) qDc D.length (D.map I)) (some ⟨gd,0,none⟩) D.length (D.map I):=dh (by rw[List.length_map]) (fun _=>⟨gd,rfl⟩)
 refine c_ (yb (cap:=qDc) rD (by omega)) fun _=>?_
 rename_i qS
 unfold lK
 (try dsimp only)
 refine bm fun g=>?_;refine gS ?_;refine o_ cu ?_
 rename Nat=>b15
 refine aJ (.there .here) fun _ _ _ hfc=>?_
 have rC:RdB W (Sl 1 3 qS.1 qS.2 (kN D).length ((kN D).map I)) qS.1 (kN D).length ((kN D).map I):=dh (by rw[List.length_map]) hfc
 refine aB (.there (.there (.there (.there (.there (.there .here)))))) ?_
 refine ay ?_
 refine cg (fun m y z=>(ex fun st:(Option Addr × Nat) × Nat=>all [pu (m+st.2=19/\st.2<=19/\y= .slice st.1.1 st.2 st.1.2/\z= .int .i64 (st.2:Int)),Sl 1 3 st.1.1 st.1.2 st.2 ((O.take st.2).map I)])::pt b15 (.cells #[.slice (some ⟨gd,0,none⟩) D.length qDc,.slice qS.1 (kN D).length qS.2] 258)::Sl 1 3 qS.1 qS.2 (kN D).length ((kN D).map I)::Sl 1 3 (some ⟨gd,0,none⟩) qDc D.length (D.map I)::pt d1 (.deferred (some []))::pt b3 (.cells #[.pointer (some ⟨w,0,none⟩)] 156)::jn w (L)::SA::SB::pt r1 (.cells #[.slice a2 R.length c2] 197)::SR::[all F]) 19 ?_ ?_
 ·refine .ex ((none,0),0) (.all ?_)
  refine ay ?_
  refine .pu ⟨rfl,by omega,rfl,rfl⟩ ?_
  refine cQ ?_
  exact aC
 intro m ds y z
 refine aX .here fun st=>aB .here ?_
 obtain⟨⟨ta_,tc⟩,i⟩:=st
 refine ay ?_
 refine aT .here fun hi=>?_
 (try dsimp only at hi)
 obtain⟨hmi,hi19,rfl,rfl⟩:=hi
 (try dsimp only)
 refine o_ aI ?_
 by_cases hlt:(i:Int)<19
 ·rw[dT_ hlt]
  refine ab ?_
  obtain⟨k,hk,hk19⟩:=M6 ⟨i,by omega⟩
  (try dsimp only at hk)
  have hkv:(#[(.int .i64 16),(.int .i64 17),(.int .i64 18),(.int .i64 0),(.int .i64 8),(.int .i64 7),(.int .i64 9),(.int .i64 6),(.int .i64 10),(.int .i64 5),(.int .i64 11),(.int .i64 4),(.int .i64 12),(.int .i64 3),(.int .i64 13),(.int .i64 2),(.int .i64 14),(.int .i64 1),(.int .i64 15)]:Array Value)[i]? =some (.int .i64 (k:Int)):=by
   have:i=0\/i=1\/i=2\/i=3\/i=4\/i=5\/i=6\/i=7\/i=8\/i=9\/i=10\/i=11\/i=12\/i=13\/i=14\/i=15\/i=16\/i=17\/i=18:=by omega
   rcases this with rfl|rfl|rfl|rfl|rfl|rfl|rfl|rfl|rfl|rfl|rfl|rfl|rfl|rfl|rfl|rfl|rfl|rfl|rfl <;> (have hk':=Option.some.inj hk;subst hk';rfl)
  refine o_ (pj i rfl (by omega) hkv) ?_
  refine o_ (bA k (by rfl) (by omega)) ?_
  have hOi:O[i]'(by omega)=D[k]'(by omega):=by
   have h1:O[i]? =some (D.getD k 0):=by rw[hO];unfold eZ;rw[List.getElem?_map,hk];rfl
   rw[List.getElem?_eq_getElem (by omega),List.getD_eq_getElem?_getD,List.getElem?_eq_getElem (by omega)]at h1
   exact Option.some.inj h1
  have hld:(D.map I)[0+k]? =some (.int .i64 (O[i]'(by omega))):=by rw[Nat.zero_add,hOi];exact gB (by omega)
  refine cm (dP hld) ?_
  refine kF fun gb=>?_
  refine co (m:=1) (news:=[I (O[i]'(by omega))]) (by repeat constructor) (dq (s:=1) (e':=3) (by kernel_rfl) .here (by rfl) (by intro u hu;simp at hu;rw[hu];rfl)) (by omega) (by omega) fun a' c'=>?_
  have htk:(O.take i).map I++[I (O[i]'(by omega))]=(O.take (i+1)).map I:=by rw[List.take_succ_eq_append_getElem (by omega),List.map_append];rfl
  rw[htk]
  refine bW ?_
  refine bH (m-1) (by omega) (.ex ((a',c'),i+1) (.all ?_))
  refine ay ?_
  refine .pu ⟨by omega,by omega,rfl,by norm_cast⟩ ?_
  exact aC
 have hi19':i=19:=by omega
 subst hi19'
 rw[dF_ hlt]
 refine aa ?_
 rw[show(O.take 19).map I=O.map I by rw[List.take_of_length_le (by omega)],show(19:Nat)=O.length from hO19.symm]
 refine aJ .here fun _ ho2 ho3 ho4=>?_
 obtain⟨go,rfl⟩:=ho4 (by omega)
 have rO:RdB W (Sl 1 3 (some ⟨go,0,none⟩) tc O.length (O.map I)) (some ⟨go,0,none⟩) O.length (O.map I):=dh (by rw[List.length_map]) (fun _=>⟨go,rfl⟩)
 have hup:=Km (W:=W) (cap:=tc) (least:=4) rO (by omega) (by omega)
 rw[<- hc]at hup
 refine c_ hup fun _=>?_
 refine ck ?_;refine fI ?_
 refine c_ (put (l:=L) (n:=(ua:Int)-257) (k:=5)) fun _=>?_
 rw[kR (e:=ua-257) (k:=5) (j:=5) (by omega) rfl (by omega) (by omega) (by omega)]
 refine ck ?_;refine fI ?_
 refine c_ (put (l:=L++aG (ua-257) 5) (n:=(ub_:Int)-1) (k:=5)) fun _=>?_
 rw[kR (e:=ub_-1) (k:=5) (j:=5) (by omega) rfl (by omega) (by omega) (by rw[List.length_append,au];omega)]
 refine ck ?_;refine fI ?_
 refine c_ (put (l:=L++aG (ua-257) 5++aG (ub_-1) 5) (n:=(c:Int)-4) (k:=4)) fun _=>?_
 rw[kR (e:=c-4) (k:=4) (j:=4) (by omega) rfl (by omega) (by omega) (by simp only[List.length_append,au];omega)]
 rw[show L++aG (ua-257) 5++aG (ub_-1) 5++aG (c-4) 4=M0 by rw[hM0,hua,hub];simp only[List.append_assoc]]
 refine o_ (Al c rfl (by omega)) ?_
 refine o_ aN ?_
 have hcl:(O.take c).length=c:=by rw[List.length_take];omega
 refine bj (fun m y=>(ex fun i:Nat=>all [pu (m+i=c/\y= .int .i64 (i:Int)),jn w (M0++((O.take c).take i).flatMap (fun n=>aG n.toNat 3))])::Sl 1 3 (some ⟨go,0,none⟩) tc O.length (O.map I)::pt b15 (.cells #[.slice (some ⟨gd,0,none⟩) D.length qDc,.slice qS.1 (kN D).length qS.2] 258)::Sl 1 3 qS.1 qS.2 (kN D).length ((kN D).map I)::Sl 1 3 (some ⟨gd,0,none⟩) qDc D.length (D.map I)::pt d1 (.deferred (some []))::pt b3 (.cells #[.pointer (some ⟨w,0,none⟩)] 156)::SA::SB::pt r1 (.cells #[.slice a2 R.length c2] 197)::SR::[all F]) c ?_ ?_
 ·refine .ex 0 (.all ?_)
  refine ay ?_
  refine .pu ⟨by omega,rfl⟩ ?_
  rw[List.take_zero,List.flatMap_nil,List.append_nil]
  exact aC
 intro m ds y
 refine aX .here fun i=>aB .here ?_
 refine ay ?_
 refine aT .here fun hi=>?_
 obtain⟨hmi,rfl⟩:=hi
 refine o_ aI ?_
 by_cases hlt:(i:Int)<(c:Int)
 ·rw[dT_ hlt]
  refine ab (o_ (bA i (by rfl) (by omega)) ?_)
  have hld:(O.map I)[0+i]? =some (.int .i64 (O[i]'(by omega))):=by rw[Nat.zero_add];exact gB (by omega)
  refine cm (dP hld) ?_
  refine ck ?_
  have hv:=hOv _ (List.getElem_mem (show i<O.length by omega))
  have hfl:=uh (f:=fun n:Int=>aG n.toNat 3) (l:=O.take c) (k:=i) (by omega)
  have hfe:=Gw (f:=fun n:Int=>aG n.toNat 3) (l:=O.take c) (k:=i) (by omega)
  have hel:(O.take c)[i]'(by omega)=O[i]'(by omega):=List.getElem_take
  rw[hel]at hfl hfe
  obtain⟨v,hvv⟩:∃v,v=O[i]'(by omega):=⟨_,rfl⟩
  rw[<- hvv]at hv hfl hfe ⊢
  (try dsimp only at hfe)
  rw[au]at hfe
  refine c_ (put (l:=M0++((O.take c).take i).flatMap (fun n=>aG n.toNat 3)) (n:=v) (k:=3)) fun _=>?_
  rw[kR (e:=v.toNat) (k:=3) (j:=3) (by omega) rfl (by omega) (by omega) (by rw[List.length_append];omega)]
  refine bW ?_
  refine aP (m-1) (by omega) (.ex (i+1) (.all ?_))
  refine ay ?_
  rw[hfl,<- List.append_assoc]
  refine .pu ⟨by omega,by norm_cast⟩ ?_
  exact aC
 have hic:i=c:=by omega
 subst hic
 rw[dF_ hlt,List.take_of_length_le (show(O.take i).length<=i by omega)]
 obtain⟨M1,hM1⟩:∃M1,M1=M0++(O.take i).flatMap (fun n=>aG n.toNat 3):=⟨_,rfl⟩
 rw[<- hM1]
 have hM1l:M1.length+(T.flatMap (EY D)).length<=8388608:=by rw[hM1,List.length_append];omega
 refine aa (c_ (Sp (a:=a2) (n:=R.length) (c:=c2)) fun _=>?_)
 rename_i r2
 refine GG (f:=244) (cap:=[.pointer (some ⟨r2,0,none⟩)]) (qy R)
  (fun k=>all [pt r2 (.cells #[.slice a2 R.length c2] 197),SR,all [pu (k<=T.length),jn w (M1++(T.take k).flatMap (EY D)),pt b15 (.cells #[.slice (some ⟨gd,0,none⟩) D.length qDc,.slice qS.1 (kN D).length qS.2] 258),Sl 1 3 qS.1 qS.2 (kN D).length ((kN D).map I),Sl 1 3 (some ⟨gd,0,none⟩) qDc D.length (D.map I),pt d1 (.deferred (some [])),pt b3 (.cells #[.pointer (some ⟨w,0,none⟩)] 156),SA,SB,all F]]) (pu False) rfl ?_ ?_ ?_ ?_ ?_ ?_
 ·intro x hx
  rw[hTv]at hx
  obtain⟨k,_,rfl⟩:=List.mem_map.1 hx
  rfl
 ·refine .all ?_
  refine ay ?_
  refine .pick (by repeat constructor) (.pick (by repeat constructor) (.all ?_))
  refine ay ?_
  rw[List.take_zero,List.flatMap_nil,List.append_nil]
  refine .pu (by omega) ?_
  exact aC
 ·intro l T1 T2 hy
  exact NY (n:=0) (G:=fun k=>all [pu (k<=T.length),jn w (M1++(T.take k).flatMap (EY D)),pt b15 (.cells #[.slice (some ⟨gd,0,none⟩) D.length qDc,.slice qS.1 (kN D).length qS.2] 258),Sl 1 3 qS.1 qS.2 (kN D).length ((kN D).map I),Sl 1 3 (some ⟨gd,0,none⟩) qDc D.length (D.map I),pt d1 (.deferred (some [])),pt b3 (.cells #[.pointer (some ⟨w,0,none⟩)] 156),SA,SB,all F]) rR (by omega) hy
 ·intro k hk F2 T0 T1 B N J hB hN hJ
  rw[hTlen]at hk
  have e0:∀h,(qy R)[k]'h=[NX T[k]]:=fun h=>by simp[hTv]
  rw[e0]
  simp only[kU,List.headD_cons,List.tail_cons]
  have hts:=hTs _ (List.getElem_mem hk)
  have hfl:=uh (f:=EY D) (l:=T) hk
  have hfe:=Gw (f:=EY D) (l:=T) hk
  obtain⟨t,ht⟩:∃t,t=T[k]:=⟨_,rfl⟩
  rw[<- ht]at hts hfl hfe ⊢
  unfold EY at hfe
  rw[List.length_append,au]at hfe
  change ((T.take k).flatMap (EY D)).length+((xD D t.sym).length+t.bits)<=(T.flatMap (EY D)).length at hfe
  refine aB (.there .here) ?_
  refine ay ?_
  refine aB (.there (.there .here)) ?_
  refine ay ?_
  refine aT .here fun hkn=>?_
  unfold NX
  refine bm fun g=>?_;refine gS ?_
  refine hB _ _ _ (by repeat constructor) ?_
  refine ck ?_;refine o_ aw (ck ?_);refine o_ aw (ck ?_);refine o_ aw (ck ?_)
  obtain⟨Mk,hMk⟩:∃Mk,Mk=M1++(T.take k).flatMap (EY D):=⟨_,rfl⟩
  have hMkl:Mk.length=M1.length+((T.take k).flatMap (EY D)).length:=by rw[hMk,List.length_append]
  rw[<- hMk]
  refine aH (Ja (L:=Mk) (s:=t.sym) rC rD) (.cons (by repeat constructor) (.cons (by repeat constructor) (.cons (by repeat constructor) .nil))) fun _=>?_
  refine ay ?_
  rw[Gu (by omega)]
  refine ck ?_;refine o_ aw (ck ?_);refine o_ aw (ck ?_)
  refine c_ (put (l:=Mk++xD D t.sym) (n:=(t.extra:Int)) (k:=(t.bits:Int))) fun _=>?_
  rw[vO (by omega) hts.2.2.1 (by rw[List.length_append];omega)]
  refine hN _ ?_
  refine .pick (by repeat constructor) (.all ?_)
  refine ay ?_
  refine .pick (by repeat constructor) (.pick (by repeat constructor) (.all ?_))
  refine ay ?_
  rw[hfl,<- List.append_assoc,<- hMk]
  unfold EY
  rw[<- List.append_assoc]
  refine .pu (by omega) ?_
  exact aC
 rotate_left
 ·intro d2
  exact aT (.there .here) fun h=>h.elim
 intro d2
 rw[hTlen,List.take_length]
 refine aB (.there .here) ?_
 refine ay ?_
 refine aB (.there (.there .here)) ?_
 refine ay ?_
 refine aT .here fun _=>?_
 refine Ai (by repeat constructor) ?_
 refine Ai (by repeat constructor) ?_
 refine m6 (M:=[jn w (M1++T.flatMap (EY D)),SA,SB]) (F:=F) ?_ ?_
 ·refine .pick (by repeat constructor) ?_
  exact aC
 refine ay ?_
 refine bC () ?_
 exact .refl
theorem DB {W:World}{a:Option Addr}{n:Nat}{cs:List Value}{A:HP}(h:RdB W A a n cs)(c:a=none):n=0:=by
 rcases Nat.eq_zero_or_pos n with z|z
 ·exact z
 ·obtain⟨_,_,e,_⟩:=h.at_ z
  rw[c]at e;cases e
structure goodB (x:ff):Prop where
 g:∀p∈x.1,zW p
 pn:x.1.length<=30000
 bn:x.2.length<=30258
theorem okBk.good {b:List UInt8}{fr:Nat}{x:ff}(h:okBk b fr x):goodB x:=⟨xP h.gps,h.pn,h.bn⟩
variable {W:World} {AL AB:HP} {x:ff} {v:Bv} {level:Int}
theorem M7 {w:Nat}{M:List Bool}(hx:BkOk W AL AB (x,v))(hb:x.2.length<=65535)(hM:M.length+100+8 * x.2.length<=8388608):
  Cn p_ 151 [DN level (x,v),.pointer (some ⟨w,0,none⟩)] W [jn w M,AB] (fun _:Unit=> .tuple #[]) (fun _=>[jn w (xH M x),AB]):=by
 have hl:=dU M
 have hp:(pk (dv M++aG x.2.length 16++aG (65535-x.2.length) 16)).length<=(M.length+7) / 8+4:=by
  rw[fd];simp only[List.length_append,au];omega
 have h8:(dv M++aG x.2.length 16++aG (65535-x.2.length) 16).length%8=0:=by
  simp only[List.length_append,au];omega
 have hr:EC (dv M++aG x.2.length 16++aG (65535-x.2.length) 16) x.2=xH M x:=by
  unfold EC EB
  rw[if_neg (show ¬1048576<_ by omega),if_pos rfl]
  unfold xH
  congr 1
  unfold dv at h8 ⊢
  rw[h8]
  simp
 obtain⟨⟨la,lc⟩,⟨ba,bc⟩⟩:=v
 unfold DN
 (try dsimp only)
 (refine S.lV.cn fun F=>?_;unfold S.iK;simp only[ca_,na_])
 refine cv fun b2=>?_
 refine c_ (R6 (l:=M)) fun _=>?_
 refine o_ aw (ck ?_);refine o_ aN (c_ (put (l:=dv M) (n:=(x.2.length:Int)) (k:=16)) fun _=>?_)
 rw[kR (e:=x.2.length) (k:=16) (j:=16) rfl rfl (by omega) (by omega) (by omega)]
 refine o_ aw (ck ?_);refine o_ aN (fI ?_)
 refine c_ (put (l:=dv M++aG x.2.length 16) (n:=65535-(x.2.length:Int)) (k:=16)) fun _=>?_
 rw[kR (e:=65535-x.2.length) (k:=16) (j:=16) (by omega) rfl (by omega) (by omega) (by rw[List.length_append,au];omega)]
 refine o_ aw (ck ?_)
 refine aH (Vv (l:=dv M++aG x.2.length 16++aG (65535-x.2.length) 16) (cap:=bc) hx.rb (DB hx.rb) (by omega)) (.cons (by repeat constructor) (.cons (by repeat constructor) .nil)) fun _=>?_
 refine ay ?_
 rw[hr]
 refine bC () ?_
 exact aC
theorem PN {w:Nat}{M:List Bool}(hx:BkOk W AL AB (x,v))(hg:goodB x)(hM:M.length+(qw x).length<=8388608):
  Cn p_ 152 [DN level (x,v),.pointer (some ⟨w,0,none⟩)] W [jn w M,AL] (fun _:Unit=> .tuple #[]) (fun _=>[jn w (M++qw x),AL]):=by
 obtain⟨⟨la,lc⟩,⟨ba,bc⟩⟩:=v
 have hpn:=hg.pn
 unfold qw at hM ⊢
 obtain⟨A5,hA5⟩:∃A5,A5=lz:=⟨_,rfl⟩
 obtain⟨B5,hB5⟩:∃B5,B5=lC:=⟨_,rfl⟩
 have l1:A5.length<=1000:=by rw[hA5,se];omega
 have l2:B5.length<=1000:=by rw[hB5,sf];omega
 unfold DN
 (try dsimp only)
 (refine S.mO.cn fun F=>?_;unfold S.i5;simp only[ca_,na_])
 rw[<- hA5,<- hB5]at hM ⊢
 refine cv fun b2=>?_
 have hF:=I9 (W:=W)
 rw[<- hA5,<- hB5]at hF
 refine c_ hF fun _=>?_
 rename_i q
 obtain⟨⟨a1,c1⟩,⟨a2,c2⟩⟩:=q
 (try dsimp only)
 refine iC ?_;refine iC ?_;refine bM ?_;(((refine' aZ (bP ?hn) ?hi ?_);(case hi=>exact .pick (by repeat constructor) .nil);(case hn=>rfl)))
 refine aJ .here fun _ _ _ h1=>?_
 refine aJ (.there .here) fun _ _ _ h2=>?_
 have r1:RdB W (Sl 1 3 a1 c1 A5.length (A5.map I)) a1 A5.length (A5.map I):=dh (by rw[List.length_map]) h1
 have r2:RdB W (Sl 1 3 a2 c2 B5.length (B5.map I)) a2 B5.length (B5.map I):=dh (by rw[List.length_map]) h2
 refine aH (yb (cap:=c1) r1 (by omega)) (.cons (by repeat constructor) .nil) fun q1=>?_
 refine ay ?_
 refine cq ?_
 refine aH (yb (cap:=c2) r2 (by omega)) (.cons (by repeat constructor) .nil) fun q2=>?_
 refine ay ?_
 refine cq ?_
 refine c_ (So (w:=w)) fun _=>?_
 rename_i g
 refine cq ?_
 refine cr (M:=BE A5 B5 ((a1,c1),q1) ((a2,c2),q2) w g M []::AL::pt b2 (.cells #[.slice la x.1.length lc,.slice ba x.2.length bc,.int .i64 level] 162)::F) ?_ ?_
 ·unfold BE fm
  refine .all ?_
  refine ay ?_
  rw[List.flatMap_nil,List.append_nil]
  refine .pick (by repeat constructor) (.all ?_)
  refine ay ?_
  refine .pick (by repeat constructor) (.pick (by repeat constructor) (.all ?_))
  refine ay ?_
  exact aC
 refine aH (yd (f:=227) (cap:=[.pointer (some ⟨g,0,none⟩)]) (J:=BE A5 B5 ((a1,c1),q1) ((a2,c2),q2) w g M) (va:=sv A5 ((a1,c1),q1)) (vb:=sv B5 ((a2,c2),q2)) (ps:=x.1) hx.rl (by omega) hg.g
  (fun d e r h=>NW (ud hg.g e (by rw[h];simp)) (by have:=Dz (la:=A5) (lb:=B5) h;omega))) (.cons (by repeat constructor) (.cons (by repeat constructor) .nil)) fun _=>?_
 refine ay ?_
 refine aB (M:=[jn w (M++(o9 x.1).flatMap (zX A5 B5)),fm A5 ((a1,c1),q1),fm B5 ((a2,c2),q2),pt g (.cells #[.pointer (some ⟨w,0,none⟩)] 156)]) (.there .here) ?_
 refine ay ?_
 rw[ue]
 refine bC () ?_
 exact aC
theorem Kt {w:Nat}{M:List Bool}(hx:BkOk W AL AB (x,v))(hg:goodB x)(hM:M.length+(xG x).length<=8388608):
  Cn p_ 153 [DN level (x,v),.pointer (some ⟨w,0,none⟩)] W [jn w M,AL] (fun _:Unit=> .tuple #[]) (fun _=>[jn w (M++xG x),AL]):=by
 obtain⟨⟨la,lc⟩,⟨ba,bc⟩⟩:=v
 have hpn:=hg.pn
 obtain⟨l1,l2⟩:=Gb (ps:=x.1) (by omega)
 have v1:=sC (gX x.1) 15
 have v2:=sC (kP x.1) 15
 change ∀z∈iQ x.1,0<=z/\z<=15 at v1
 change ∀z∈jT x.1,0<=z/\z<=15 at v2
 have hdx:xG x=ER (iQ x.1) (jT x.1)++xF (iQ x.1) (jT x.1) x.1:=rfl
 rw[hdx,List.length_append]at hM
 rw[hdx,<- List.append_assoc]
 unfold DN
 (try dsimp only)
 (refine S.lj.cn fun F=>?_;unfold S.il;simp only[ca_,na_])
 have hO:=UX (W:=W) (pc:=lc) (ba:=ba) (bn:=x.2.length) (bc:=bc) (level:=level) (ps:=x.1) hx.rl (by omega) hg.g
 (try dsimp only at hO)
 clear hdx
 generalize iQ x.1=A5 at *
 generalize jT x.1=B5 at *
 refine cv fun b2=>?_
 refine sP ?_
 refine c_ hO fun _=>?_
 rename_i q
 obtain⟨qa,qb⟩:=q
 (try dsimp only)
 refine o_ (bS (v:=lK (sv A5 qa)) rfl) ?_
 refine o_ (bS (v:=lK (sv B5 qb)) rfl) ?_
 unfold lK
 (try dsimp only)
 refine bm fun g=>?_;refine bm fun g=>?_;refine gS ?_;refine gS ?_;refine sP ?_;refine sP ?_
 refine aH (head (w:=w) (L:=M) (qa:=qa) (qb:=qb) v1 v2 l1 l2 (by omega)) (.cons (by repeat constructor) (.cons (by repeat constructor) (.cons (by repeat constructor) .nil))) fun _=>?_
 refine ay ?_
 refine bM ?_;(((refine' aZ (bP ?hn) ?hi ?_);(case hi=>exact .pick (by repeat constructor) .nil);(case hn=>rfl)));(((refine' aZ (bP ?hn) ?hi ?_);(case hi=>exact .pick (by repeat constructor) .nil);(case hn=>rfl)));(((refine' aZ (bP ?hn) ?hi ?_);(case hi=>exact .pick (by repeat constructor) .nil);(case hn=>rfl)))
 refine c_ (So (w:=w)) fun _=>?_
 rename_i g2
 refine cq ?_;refine cq ?_;refine cq ?_
 refine cr (M:=BE A5 B5 qa qb w g2 (M++ER A5 B5) []::AL::F) ?_ ?_
 ·unfold BE
  refine .all ?_
  refine ay ?_
  rw[List.flatMap_nil,List.append_nil]
  exact aC
 refine aH (yd (f:=227) (cap:=[.pointer (some ⟨g2,0,none⟩)]) (J:=BE A5 B5 qa qb w g2 (M++ER A5 B5)) (va:=sv A5 qa) (vb:=sv B5 qb) (ps:=x.1) hx.rl (by omega) hg.g
  (fun d e r h=>NW (ud hg.g e (by rw[h];simp)) (by have:=Dz (la:=A5) (lb:=B5) h;rw[List.length_append];omega))) (.cons (by repeat constructor) (.cons (by repeat constructor) .nil)) fun _=>?_
 refine ay ?_
 refine aB (M:=[jn w ((M++ER A5 B5)++(o9 x.1).flatMap (zX A5 B5)),fm A5 qa,fm B5 qb,pt g2 (.cells #[.pointer (some ⟨w,0,none⟩)] 156)]) (.there .here) ?_
 refine ay ?_
 rw[ue]
 refine bC () ?_
 exact aC
end IF
namespace IF
open Go Go.Proofs Go.RowKit Sh Sl T HM HF B M
variable {W:World} {AL AB:HP} {x:ff} {v:Bv} {level:Int}
def pf (k:Nat):FuncId:=if k=0 then 151 else if k=1 then 152 else 153
theorem Sq {k w:Nat}{M:List Bool}(hx:BkOk W AL AB (x,v))(hg:goodB x)(hM:M.length<=6500000):
  Cn p_ (pf k) [DN level (x,v),.pointer (some ⟨w,0,none⟩)] W [jn w M,AL,AB] (fun _:Unit=> .tuple #[]) (fun _=>[jn w (yN k M x),AL,AB]):=by
 have hpn:=hg.pn
 have hbn:=hg.bn
 unfold pf yN
 by_cases h0:k=0
 ·rw[if_pos h0,if_pos h0]
  exact Cn.frame (R:=[AL]) (M7 (level:=level) (w:=w) (M:=M) hx (by omega) (by omega)) (fun F=>a_ aC) (fun _ F=>a_ aC)
 ·rw[if_neg h0,if_neg h0]
  by_cases h1:k=1
  ·rw[if_pos h1,if_pos h1]
   have:=Ga (x:=x) hg.g hpn
   exact Cn.frame (R:=[AB]) (PN (level:=level) (w:=w) (M:=M) hx hg (by omega)) (fun F=>a_ aC) (fun _ F=>a_ aC)
  ·rw[if_neg h1,if_neg h1]
   have:=Gc (x:=x) hg.g hpn
   exact Cn.frame (R:=[AB]) (Kt (level:=level) (w:=w) (M:=M) hx hg (by omega)) (fun F=>a_ aC) (fun _ F=>a_ aC)
def ow (k n:Nat)(x:ff):Nat:=if k=0 then tZ n x else if k=1 then 3+(qw x).length else 3+(xG x).length
theorem Ku (k n:Nat)(x:ff):(yN k (aG 0 (n%8)++aG 0 3) x).length=n%8+ow k n x:=by
 unfold yN ow
 split
 ·rw[sD]
  simp only[List.length_append,au]
  unfold tZ
  omega
 ·split
  ·simp only[List.length_append,au];omega
  ·simp only[List.length_append,au];omega
theorem Gy (k n:Nat)(hg:goodB x):ow k n x<=1500100:=by
 have h1:=Ga (x:=x) hg.g hg.pn
 have h2:=Gc (x:=x) hg.g hg.pn
 have h3:=hg.bn
 unfold ow
 split
 ·unfold tZ;omega
 ·split <;> omega
theorem Sr {k n:Nat}(hx:BkOk W AL AB (x,v))(hg:goodB x)(hn:n<=1099511627776):
  Cn p_ 154 [DN level (x,v),fn (pf k),.int .i64 (n:Int)] W [AL,AB] (fun _:Unit=> .int .i64 (ow k n x:Int)) (fun _=>[AL,AB]):=by
 have hlen:=Ku k n x
 have hle:=Gy k n hg
 have hw:=fun w=>Sq (k:=k) (w:=w) (level:=level) (M:=aG 0 (n%8)++aG 0 3) hx hg (by simp only[List.length_append,au];omega)
 obtain⟨⟨la,lc⟩,⟨ba,bc⟩⟩:=v
 unfold DN at hw ⊢
 (try dsimp only at hw)
 (try dsimp only)
 (refine S.nB.cn fun F=>?_;unfold S.jG;simp only[ca_,na_])
 refine cv fun b3=>?_
 refine c_ zp fun _=>?_
 rename_i w
 (((refine o_ (uq ?h1 ?h2) ?_);(case h1=>omega);(case h2=>omega)))
 have hmod:(n:Int)%8=((n%8:Nat):Int):=by omega
 refine c_ (put (l:=[]) (n:=0) (k:=(n:Int)%8)) fun _=>?_
 rw[kR (n:=0) (e:=0) (k:=(n:Int)%8) (j:=n%8) rfl hmod (by omega) (Nat.two_pow_pos _) (by simp only[List.length_nil];omega),List.nil_append]
 refine c_ (put (l:=aG 0 (n%8)) (n:=0) (k:=3)) fun _=>?_
 rw[kR (n:=0) (e:=0) (k:=3) (j:=3) rfl rfl (by omega) (by omega) (by rw[au];omega)]
 refine sP ?_
 refine aH (hw w) (.cons (by repeat constructor) (.cons (by repeat constructor) (.cons (by repeat constructor) .nil))) fun _=>?_
 refine ay ?_
 refine c_ (Go.Proofs.YtndojgomlkpeaaaGreatDoor.B.bits (l:=yN k (aG 0 (n%8)++aG 0 3) x)) fun _=>?_
 rw[hlen]
 (((refine o_ (uq ?h1 ?h2) ?_);(case h1=>omega);(case h2=>omega)));refine fI ?_
 rw[show((n%8+ow k n x:Nat):Int)-(n:Int)%8=(ow k n x:Int) by omega]
 refine bC () ?_
 exact aC
theorem UY {w last:Nat}{L:List Bool}(hx:BkOk W AL AB (x,v))(hg:goodB x)(hl:last<=1)(hL:L.length<=6000000):
  Cn p_ 112 [DN level (x,v),.pointer (some ⟨w,0,none⟩),.int .i64 (last:Int)] W [jn w L,AL,AB] (fun _:Unit=> .tuple #[]) (fun _=>[jn w (el level L last x),AL,AB]):=by
 have hs:=fun k=>Sr (k:=k) (n:=L.length) (level:=level) hx hg (by omega)
 have hsl:=fun k=>Gy (x:=x) k L.length hg
 have hb2:=Di L.length level x
 have hpX:el level L last x=yN (gW L.length level x) (L++aG last 1++aG (gW L.length level x) 2) x:=rfl
 have hw:=Sq (k:=gW L.length level x) (w:=w) (level:=level) (M:=L++aG last 1++aG (gW L.length level x) 2) hx hg (by simp only[List.length_append,au];omega)
 rw[hpX]
 have hbd:gW L.length level x=if ¬0<level then 0 else if ow 2 L.length x<(if ow 1 L.length x<ow 0 L.length x then ow 1 L.length x else ow 0 L.length x)then 2 else if ow 1 L.length x<ow 0 L.length x then 1 else 0:=rfl
 obtain⟨bst_,hbst⟩:∃bst_,bst_=gW L.length level x:=⟨_,rfl⟩
 rw[<- hbst]at hb2 hw hbd ⊢
 obtain⟨⟨la,lc⟩,⟨ba,bc⟩⟩:=v
 unfold DN at hs hw ⊢
 (try dsimp only at hs hw)
 (try dsimp only)
 (refine S.oY.cn fun F=>?_;unfold S.ko;simp only[ca_,na_])
 refine cv fun b3=>?_
 refine o_ cu ?_;refine bm fun g=>?_;refine gS ?_
 rename Nat=>bw
 obtain⟨s0,hs0⟩:∃s0,s0=ow 0 L.length x:=⟨_,rfl⟩
 obtain⟨s1,hs1⟩:∃s1,s1=ow 1 L.length x:=⟨_,rfl⟩
 obtain⟨s2,hs2⟩:∃s2,s2=ow 2 L.length x:=⟨_,rfl⟩
 have hle0:=hsl 0
 have hle1:=hsl 1
 have hle2:=hsl 2
 have hz0:=hs 0
 have hz1:=hs 1
 have hz2:=hs 2
 rw[<- hs0]at hbd hle0 hz0
 rw[<- hs1]at hbd hle1 hz1
 rw[<- hs2]at hbd hle2 hz2
 refine cr (M:=pt bw (.cells #[fn (pf 0),fn (pf 1),fn (pf 2)] 212)::pt b3 (.cells #[.slice la x.1.length lc,.slice ba x.2.length bc,.int .i64 level] 162)::jn w L::AL::AB::F) .refl ?_
 refine eR (fun z=>pu (z= .int .i64 (bst_:Int))::pt bw (.cells #[fn (pf 0),fn (pf 1),fn (pf 2)] 212)::pt b3 (.cells #[.slice la x.1.length lc,.slice ba x.2.length bc,.int .i64 level] 162)::jn w L::AL::AB::F) ?_ ?_
 rotate_left
 ·(refine o_ aw ?_);refine ck ?_
  refine o_ bq ?_
  by_cases hlv:0<level
  rotate_left
  ·rw[dF_ hlv]
   rw[if_pos hlv]at hbd
   refine aa (a_ (.pu (by rw[hbd];rfl) ?_))
   exact aC
  rw[dT_ hlv]
  rw[if_neg (fun h=>h hlv)]at hbd
  refine ab (bM ?_);(((refine' aZ (bP ?hn) ?hi ?_);(case hi=>exact .pick (by repeat constructor) .nil);(case hn=>rfl)))
  refine aZ (dL 0 rfl (by omega)) .nil ?_
  (((refine' aZ (br ?hc) ?hi ?_);(case hi=>exact .pick (by repeat constructor) .nil);(case hc=>repeat constructor)))
  refine c_ (Go.Proofs.YtndojgomlkpeaaaGreatDoor.B.bits (l:=L)) fun _=>?_
  refine cq ?_;refine cq ?_;refine cq ?_
  refine aH hz0 (.cons (by repeat constructor) (.cons (by repeat constructor) .nil)) fun _=>?_
  refine ay ?_
  refine o_ (In (l:=1) rfl (by omega)) ?_
  refine o_ aN (oD (fun m y z u=>pu (∃i:Nat,m+i=2/\u= .int .i64 (i:Int)/\((i=0/\y= .int .i64 0/\z= .int .i64 (s0:Int))\/(i=1/\y= .int .i64 (if s1<s0 then 1 else 0)/\z= .int .i64 ((if s1<s0 then s1 else s0:Nat):Int))\/(i=2/\y= .int .i64 (bst_:Int))))::pt bw (.cells #[fn (pf 0),fn (pf 1),fn (pf 2)] 212)::pt b3 (.cells #[.slice la x.1.length lc,.slice ba x.2.length bc,.int .i64 level] 162)::jn w L::AL::AB::F) 2 ?_ ?_)
  ·refine .pu ⟨0,rfl,rfl,.inl ⟨rfl,rfl,rfl⟩⟩ ?_
   exact aC
  intro m ds y z u
  refine aT .here fun hi=>?_
  obtain⟨i,hmi,rfl,hi⟩:=hi
  refine o_ aI ?_
  rcases hi with ⟨rfl,rfl,rfl⟩|⟨rfl,rfl,rfl⟩|⟨rfl,rfl⟩
  ·rw[dT_ (by decide)]
   refine ab (o_ (bA 0 rfl (by omega)) ?_)
   refine ck ?_;refine bM ?_;(((refine' aZ (bP ?hn) ?hi ?_);(case hi=>exact .pick (by repeat constructor) .nil);(case hn=>rfl)))
   refine c_ (Go.Proofs.YtndojgomlkpeaaaGreatDoor.B.bits (l:=L)) fun _=>?_
   refine cq ?_
   refine aH hz1 (.cons (by repeat constructor) (.cons (by repeat constructor) .nil)) fun _=>?_
   refine ay ?_
   refine o_ aI ?_
   by_cases hc:(s1:Int)<(s0:Int)
   ·rw[dT_ hc]
    refine ab (bW ?_);refine bW ?_
    refine dD (m-1) (by omega) (.pu ⟨1,by omega,rfl,.inr (.inl ⟨rfl,?_,?_⟩)⟩ ?_)
    ·rw[if_pos (by omega)];rfl
    ·rw[if_pos (by omega)]
    exact aC
   ·rw[dF_ hc]
    refine aa (bW ?_)
    refine dD (m-1) (by omega) (.pu ⟨1,by omega,rfl,.inr (.inl ⟨rfl,?_,?_⟩)⟩ ?_)
    ·rw[if_neg (by omega)]
    ·rw[if_neg (by omega)]
    exact aC
  ·rw[dT_ (by decide)]
   refine ab (o_ (bA 1 rfl (by omega)) ?_)
   refine ck ?_;refine bM ?_;(((refine' aZ (bP ?hn) ?hi ?_);(case hi=>exact .pick (by repeat constructor) .nil);(case hn=>rfl)))
   refine c_ (Go.Proofs.YtndojgomlkpeaaaGreatDoor.B.bits (l:=L)) fun _=>?_
   refine cq ?_
   refine aH hz2 (.cons (by repeat constructor) (.cons (by repeat constructor) .nil)) fun _=>?_
   refine ay ?_
   refine o_ aI ?_
   by_cases hc:(s2:Int)<((if s1<s0 then s1 else s0:Nat):Int)
   ·rw[dT_ hc]
    rw[if_pos (by exact_mod_cast hc)]at hbd
    refine ab (bW ?_);refine bW ?_
    refine dD (m-1) (by omega) (.pu ⟨2,by omega,rfl,.inr (.inr ⟨rfl,?_⟩)⟩ ?_)
    ·rw[hbd];rfl
    exact aC
   ·rw[dF_ hc]
    rw[if_neg (fun h=>hc (by exact_mod_cast h))]at hbd
    refine aa (bW ?_)
    refine dD (m-1) (by omega) (.pu ⟨2,by omega,rfl,.inr (.inr ⟨rfl,?_⟩)⟩ ?_)
    ·rw[hbd];split <;> rfl
    exact aC
  ·rw[dF_ (by decide)]
   refine aa (a_ (.pu rfl ?_))
   exact aC
 intro ds z
 refine aT .here fun hz=>?_
 subst hz
 refine c_ (put (l:=L) (n:=(last:Int)) (k:=1)) fun _=>?_
 rw[kR (n:=(last:Int)) (e:=last) (k:=1) (j:=1) rfl rfl (by omega) (by omega) (by omega)]
 refine c_ (put (l:=L++aG last 1) (n:=(bst_:Int)) (k:=2)) fun _=>?_
 rw[kR (n:=(bst_:Int)) (e:=bst_) (k:=2) (j:=2) rfl rfl (by omega) (by omega) (by rw[List.length_append,au];omega)]
 refine bM (t_ (dL bst_ rfl (by omega)) ?_)
 have hld:bb p_ W [pt bw (.cells #[fn (pf 0),fn (pf 1),fn (pf 2)] 212)] (af 210 (.pointer (some ⟨bw,0+bst_ * 1,none⟩))) (fn (pf bst_)):=by
  rcases(show bst_=0\/bst_=1\/bst_=2 by omega)with rfl|rfl|rfl <;> exact iA rfl
 refine jB hld ?_
 (((refine' aQ (bP ?hn) ?hi ?_);(case hi=>exact .pick (by repeat constructor) .nil);(case hn=>rfl)))
 refine aH hw (.cons (by repeat constructor) (.cons (by repeat constructor) (.cons (by repeat constructor) .nil))) fun _=>?_
 refine bC () ?_
 exact aC
end IF
namespace IF
open Go Go.Proofs Go.RowKit Sh Sl T HM HF B M
theorem Kv {level:Int}:∀ {X:List (ff × Bv)} {i j:Nat} (h:i<X.length),j<3->(X.flatMap (Gr level))[i * 3+j]? =(Gr level X[i])[j]?
 |y::X,0,j,h,hj=>by
  rw[List.flatMap_cons,List.getElem?_append_left (by rw[BC];omega)]
  simp
 |y::X,i+1,j,h,hj=>by
  rw[List.flatMap_cons,List.getElem?_append_right (by rw[BC];omega),BC,show(i+1) * 3+j-3=i * 3+j by omega]
  exact Kv (by simpa using h) hj
theorem M8 (level:Int)(X:List (ff × Bv)):(X.flatMap (Gr level)).length=X.length * 3:=by
 induction X with
 |nil=>rfl
 |cons y X ih=>rw[List.flatMap_cons,List.length_append,ih,BC,List.length_cons];omega
theorem HD (level:Int)(L:List Bool):dV level L []=L:=rfl
theorem EZ (level:Int)(L:List Bool)(x:ff)(xs:List ff):dV level L (x::xs)=dV level (el level L 0 x) xs:=by unfold dV;rw[List.foldl_cons]
theorem E0 (level:Int)(L:List Bool)(xs:List ff)(x:ff):dV level L (xs++[x])=el level (dV level L xs) 0 x:=by
 unfold dV;rw[List.foldl_append,List.foldl_cons,List.foldl_nil]
theorem yi (level:Int):∀(xs:List ff) (L:List Bool) (x:ff),fk level L (xs++[x])=el level (dV level L xs) 1 x
 |[],L,x=>by rw[List.nil_append,fk,HD]
 |y::r,L,x=>by
  have ih:=yi level r (el level L 0 y) x
  rw[EZ,<- ih]
  cases r with
  |nil=>simp only[ca_,na_,fk]
  |cons z r=>rw[List.cons_append,List.cons_append,fk]
theorem yj:∀(xs ys:List ff),fy (xs++ys)=fy xs+fy ys
 |[],ys=>by simp[fy]
 |x::xs,ys=>by rw[List.cons_append,fy,fy,yj xs ys];omega
theorem HE {b:List UInt8}{level:Int}(hlv:0<=level)(hb:b.length<=524288)(i:Nat):(dV level [] ((cO b level).take i)).length<=6000000:=by
 obtain⟨hG,hn⟩:=xO b hlv
 have h1:=zP level ((cO b level).take i) []
 have h2:=oh hG
 have h3:=yj ((cO b level).take i) ((cO b level).drop i)
 rw[List.take_append_drop]at h3
 rw[List.length_take]at h1
 simp only[List.length_nil]at h1
 omega
theorem Kw {W:World}{n:Int}:Cn p_ 109 [.int .i64 n] W [] (fun _:Unit=> .bool (decide (n<0\/9<n))) (fun _=>[]):=by
 (refine S.vf.cn fun F=>?_;unfold S.pz;simp only[ca_,na_])
 refine o_ aI ?_
 by_cases h:n<0
 ·rw[dT_ h,dT_ (Or.inl h)]
  refine aA (aA (o_ aq (bC () ?_)))
  exact .refl
 ·rw[dF_ h]
  refine ag (ag (o_ bq (o_ ap ?_)))
  rw[show decide (n<0\/9<n)=decide (9<n)from decide_eq_decide.2 ⟨fun x=>x.resolve_left h,.inr⟩]
  refine bC () ?_
  exact .refl
def HO (level:Int)(xs:List ff)(i:Nat):List Bool:=if i<xs.length then dV level [] (xs.take i)else fk level [] xs
theorem M9 {level:Int}{xs:List ff}{i:Nat}(h:i<xs.length):HO level xs (i+1)=el level (HO level xs i) (if i+1=xs.length then 1 else 0) xs[i]:=by
 unfold HO
 rw[if_pos h]
 by_cases c:i+1=xs.length
 ·rw[if_neg (by omega),if_pos c]
  have e:xs=xs.take i++[xs[i]]:=by rw[<- List.take_succ_eq_append_getElem h,List.take_of_length_le (by omega)]
  conv=>lhs;rw[e]
  exact yi _ _ _ _
 ·rw[if_pos (by omega),if_neg c,List.take_succ_eq_append_getElem h,E0]
theorem M_ {W:World}{a:Option Addr}{c:Nat}{level:Int}{b:List UInt8}{A:HP}(hA:RdB W A a b.length (b.map Sl.B))(hc:b.length<=c):
  Cn p_ 79 [.slice a b.length c,.int .i64 level] W [A] (fun q:Option Addr × Nat=> .tuple #[.slice q.1 (eJ b level).length q.2,.int .i64 (jU b level)]) (fun q=>[Sl 1 5 q.1 q.2 (eJ b level).length ((eJ b level).map Sl.B),A]):=by
 have bad:∀(e:Int) (L:List HP),jU b level=e->e≠0->be W (A::L) (fun w=>∃q:Option Addr × Nat,(.tuple #[.slice none 0 0,.int .i64 e]:Value)= .tuple #[.slice q.1 (eJ b level).length q.2,.int .i64 (jU b level)]/\sat W ([Sl 1 5 q.1 q.2 (eJ b level).length ((eJ b level).map Sl.B),A]++L) w):=by
  intro e L h h0
  have hv:eJ b level=[]:=by unfold eJ;rw[if_neg (by rw[h];exact h0)]
  rw[h,hv]
  refine bf (none,0) rfl ?_
  exact cQ .refl
 (refine S.rj.cn fun F=>?_;unfold S.mq;simp only[ca_,na_])
 refine c_ (Kw (n:=level)) fun _=>?_
 by_cases hw:level<0\/9<level
 ·rw[dT_ hw]
  exact ab (bad 1 F (by unfold jU;rw[if_pos hw]) (by decide))
 rw[dF_ hw]
 refine aa (o_ aN (o_ bq ?_))
 by_cases hs:(524288:Int)<(b.length:Int)
 ·rw[dT_ hs]
  exact ab (bad 6 F (by unfold jU;rw[if_neg hw,if_pos (by omega)]) (by decide))
 rw[dF_ hs]
 have hE:jU b level=0:=by unfold jU;rw[if_neg hw,if_neg (by omega)]
 have hlv:0<=level:=by omega
 have hbl:b.length<=524288:=by omega
 refine aa (c_ zp fun _=>?_)
 rename_i w
 refine aH (MX (c:=c) (level:=level) hA hc (by omega) (by omega)) (.cons (by repeat constructor) .nil) fun q=>?_
 obtain⟨⟨xa,xc⟩,⟨pa,pc⟩,X⟩:=q
 refine ay ?_
 refine aT .here fun hX=>?_
 (try dsimp only at hX)
 (try dsimp only)
 obtain⟨hXf,hXk⟩:=hX
 obtain⟨hG,hn⟩:=xO b hlv
 have hXl:X.length=(cO b level).length:=by rw[<- hXf,List.length_map]
 have hbnd:=HE (b:=b) (level:=level) hlv hbl
 have hXb:X.length<=1000:=by omega
 have hne:=Gf b level
 have hpos:0<X.length:=by rw[hXl];exact List.length_pos_iff.2 hne
 have ER:sA b level=HO level (cO b level) X.length:=by unfold HO sA;rw[if_neg (by omega)]
 have hdB:eJ b level=pk (sA b level):=by unfold eJ;rw[if_pos hE]
 refine fE .here hpos fun gx hgx=>?_
 subst hgx
 refine o_ aN ?_
 obtain⟨AL,hAL⟩:∃AL,AL=Sl 3 209 pa pc (jQ b level).length ((jQ b level).flatMap qq):=⟨_,rfl⟩
 rw[<- hAL]at hXk ⊢
 refine bj (fun m y=>(ex fun i:Nat=>all [pu (m+i=X.length/\y= .int .i64 (i:Int)),jn w (HO level (cO b level) i)])::Sl 3 162 (some ⟨gx,0,none⟩) xc X.length (X.flatMap (Gr level))::AL::A::F) X.length ?_ ?_
 ·refine .ex 0 (.all ?_)
  refine ay ?_
  refine .pu ⟨by omega,rfl⟩ ?_
  rw[show HO level (cO b level) 0=[] by unfold HO;rw[if_pos (by omega)];rfl]
  exact aC
 intro m ds y
 refine aX .here fun i=>aB .here ?_
 refine ay ?_
 refine aT .here fun hi=>?_
 obtain⟨hmi,rfl⟩:=hi
 refine o_ aI ?_
 by_cases hlt:(i:Int)<(X.length:Int)
 ·rw[dT_ hlt]
  have hi:i<X.length:=by omega
  have hib:i<(cO b level).length:=by omega
  have hk:=hXk _ (List.getElem_mem hi)
  have hx1:X[i].1=(cO b level)[i]:=by
   have:=List.getElem_map (f:=Prod.fst) (l:=X) (i:=i) (h:=by rw[List.length_map];exact hi)
   rw[<- this]
   congr 1
  obtain⟨fr,hok⟩:=Dh hG _ (List.getElem_mem hib)
  have hst:=M9 (level:=level) hib
  have hLi:(HO level (cO b level) i).length<=6000000:=by unfold HO;rw[if_pos hib];exact hbnd i
  rw[<- hx1]at hok hst
  refine ab (o_ (dx i (by rfl) hi) ?_)
  have ld:bb p_ W [Sl 3 162 (some ⟨gx,0,none⟩) xc X.length (X.flatMap (Gr level))] (af 162 (.pointer (some ⟨gx,0+i * 3,none⟩))) (DN level X[i]):=lP (vs:=Gr level X[i]) (sV (M8 _ _) (fun _=>⟨gx,rfl⟩)) rfl (fun j hj=>Kv hi hj)
  refine cm ld ?_
  obtain⟨⟨x,v⟩,hxv⟩:∃z,z=X[i]:=⟨_,rfl⟩
  rw[<- hxv]at hk hok hst ⊢
  (try dsimp only at hok hst)
  unfold DN
  refine bm fun g=>?_;refine gS ?_
  rename Nat=>b9
  refine eR (fun z=>pu (z= .int .i64 ((if i+1=X.length then 1 else 0:Nat):Int))::pt b9 (.cells #[.slice v.1.1 x.1.length v.1.2,.slice v.2.1 x.2.length v.2.2,.int .i64 level] 162)::jn w (HO level (cO b level) i)::Sl 3 162 (some ⟨gx,0,none⟩) xc X.length (X.flatMap (Gr level))::AL::A::F) ?_ ?_
  rotate_left
  ·(refine o_ aN ?_);refine fI ?_
   refine o_ bF ?_
   by_cases hz:(i:Int)=(X.length:Int)-1
   ·rw[dT_ hz]
    refine ab (a_ (.pu (by rw[if_pos (by omega)];rfl) ?_))
    exact aC
   ·rw[dF_ hz]
    refine aa (a_ (.pu (by rw[if_neg (by omega)];rfl) ?_))
    exact aC
  intro ds z
  refine aT .here fun hz=>?_
  subst hz
  refine sP ?_
  refine aH (UY (w:=w) (last:=if i+1=X.length then 1 else 0) (L:=HO level (cO b level) i) (level:=level) hk (okBk.good hok) (by split <;> omega) hLi) (.cons (by repeat constructor) (.cons (by repeat constructor) (.cons (by repeat constructor) .nil))) fun _=>?_
  refine ay ?_
  refine bW ?_
  refine aP (m-1) (by omega) (.ex (i+1) (.all ?_))
  refine ay ?_
  rw[hst,hXl]
  refine .pu ⟨by omega,by norm_cast⟩ ?_
  exact aC
 ·rw[dF_ hlt]
  have hie:i=X.length:=by omega
  subst hie
  rw[<- ER]
  refine aa (c_ (Go.Proofs.YtndojgomlkpeaaaGreatDoor.B.bytes (l:=sA b level)) fun _=>?_)
  rename_i q
  rw[hdB,hE]
  refine bC q ?_
  exact aC
end IF
namespace GZ
open Go Go.Proofs Go.RowKit Sh Sl T IF
theorem Ss {P:Program}{W:World}{q:IntKind}{a:Int}:bb P W [] (jZ .xor (.int q a)) (.int q (cZ .xor q (if q.signed then-1 else q.max) a)):=fun w _=>by
 simp[jZ,Op.unary,Op.intBits,cZ]
theorem NZ {P:Program}{W:World}{a:Nat}(h:a<4294967296):bb P W [] (jZ .xor (.int .u32 (a:Int))) (.int .u32 (JX a:Int)):=by
 have:=Ss (P:=P) (W:=W) (q:= .u32) (a:=(a:Int))
 unfold JX
 rw[show(if IntKind.u32.signed=true then(-1:Int)else IntKind.u32.max)=((4294967295:Nat):Int)from rfl,JV (by decide) h]at this
 exact this
def Un (n:Nat)(f:Nat->Nat):Array Value:=((List.range n).map fun j=>Value.int .u32 (f j:Int)).toArray
theorem gR (n:Nat)(f:Nat->Nat):(Un n f).size=n:=by simp[Un]
theorem BF {n j:Nat}{f:Nat->Nat}(h:j<n):(Un n f)[j]? =some (.int .u32 (f j:Int)):=by simp[Un,h]
theorem Kx {n:Nat}{f:Nat->Nat}{m:Array Value}(hm:m.size=n)(h:∀j,j<n->m[j]? =some (.int .u32 (f j:Int))):Un n f=m:=by
 apply Array.ext_getElem?
 intro j
 by_cases c:j<n
 ·rw[BF c,h j c]
 ·rw[Array.getElem?_eq_none (by rw[gR];omega),Array.getElem?_eq_none (by omega)]
theorem PO {n j:Nat}{f:Nat->Nat}{v:Nat}:(Un n f).setIfInBounds j (.int .u32 (v:Int))=Un n fun i=>if i=j then v else f i:=by
 refine(Kx (by simp[gR]) fun i hi=>?_).symm
 rw[Array.getElem?_setIfInBounds]
 by_cases c:i=j
 ·subst c;rw[if_pos rfl,if_pos (by rw[gR];exact hi),if_pos rfl]
 ·rw[if_neg (fun h=>c h.symm),if_neg c,BF hi]
theorem yk {n:Nat}{f g:Nat->Nat}(h:∀j,j<n->f j=g j):Un n f=Un n g:=Kx (gR n g) fun j hj=>by rw[BF hj,h j hj]
theorem Ky {n:Nat}{f:Nat->Nat}:∀u∈(Un n f).toList,u.oneCell'=true:=fun u hu=>by
 simp only[Un,List.mem_map]at hu
 obtain⟨j,_,rfl⟩:=hu
 rfl
theorem AA:Tryz.zeroCells190=Un 256 fun _=>0:=by kernel_rfl
theorem St {W:World}:Cn p_ 140 [] W [] (fun _:Unit=> .agg (Un 256 Bw)) (fun _=>[]):=by
 (refine S.Aw.cn fun F=>?_;unfold S.wB;simp only[ca_,na_])
 refine BZ (fun w=>Tryz.zeroValue190 w) fun g0=>?_
 refine BZ (fun w=>Tryz.zeroValue190 w) fun g1=>?_
 rw[bk,AA]
 refine bj (fun m y=>(ex fun i:Nat=>all [pu (m+i=256/\y= .int .i64 (i:Int)),pt g1 (.cells (Un 256 fun j=>if j<i then Bw j else 0) 190 (0,0))])::pt g0 (.cells (Un 256 fun _=>0) 190 (0,0))::F) 256 ?_ ?_
 ·refine .ex 0 (.all ?_)
  refine ay ?_
  rw[yk (f:=fun j=>if j<0 then Bw j else 0) (g:=fun _=>0) (fun j _=>by simp)]
  refine .pu ⟨rfl,rfl⟩ ?_
  exact aC
 intro m ds y
 refine aX .here fun i=>aB .here ?_
 refine ay ?_
 refine aT .here fun hi=>?_
 obtain⟨hmi,rfl⟩:=hi
 refine o_ aI ?_
 by_cases hlt:(i:Int)<256
 ·rw[dT_ hlt]
  refine ab (o_ (bO (q:= .u32)) ?_)
  rw[vK (n:=i) (by omega)]
  refine cg (fun m2 y z=>pu (∃k:Nat,m2+k=8/\y= .int .u32 (Bt k i:Int)/\z= .int .i64 (k:Int))::pt g1 (.cells (Un 256 fun j=>if j<i then Bw j else 0) 190 (0,0))::pt g0 (.cells (Un 256 fun _=>0) 190 (0,0))::F) 8 ?_ ?_
  ·refine .pu ⟨0,rfl,rfl,rfl⟩ ?_
   exact aC
  intro m2 ds y z
  refine aT .here fun hk=>?_
  obtain⟨k,hmk,rfl,rfl⟩:=hk
  have hs:=Bu k (c:=i) (by omega)
  have hsn:=zU k i
  refine o_ aI ?_
  by_cases hlk:(k:Int)<8
  ·rw[dT_ hlk]
   refine ab (o_ ur ?_)
   rw[ME hs]
   refine o_ bF ?_
   by_cases hodd:((Bt k i%2:Nat):Int)=1
   ·rw[dT_ hodd]
    refine ab (o_ (jy (by decide)) ?_)
    rw[show(1:Int)=((1:Nat):Int)from rfl,zT (by omega)]
    refine o_ HZ ?_
    rw[show(3988292384:Int)=((3988292384:Nat):Int)from rfl,JV (by omega) (by decide)]
    refine bW ?_
    refine bH (m2-1) (by omega) (.pu ⟨k+1,by omega,?_,by rfl⟩ ?_)
    ·rw[hsn,Px,if_pos (by omega)];rfl
    exact aC
   ·rw[dF_ hodd]
    refine aa (o_ (jy (by decide)) ?_)
    rw[show(1:Int)=((1:Nat):Int)from rfl,zT (by omega)]
    refine bW ?_
    refine bH (m2-1) (by omega) (.pu ⟨k+1,by omega,?_,by rfl⟩ ?_)
    ·rw[hsn,Px,if_neg (by omega)]
    exact aC
  have hk8:k=8:=by omega
  subst hk8
  rw[dF_ hlk]
  refine aa (o_ (dL i rfl (by omega)) ?_)
  refine pQ (.here) (by rw[gR];omega) ?_
  rw[PO,Nat.zero_add,Nat.mul_one]
  refine bW ?_
  refine aP (m-1) (by omega) (.ex (i+1) (.all ?_))
  refine ay ?_
  rw[yk (f:=fun j=>if j<i+1 then Bw j else 0) (g:=fun j=>if j=i then Bt 8 i else if j<i then Bw j else 0) (fun j _=>by
   by_cases c:j=i
   ·subst c;rw[if_pos (by omega),if_pos rfl];exact JW _
   ·rw[if_neg c]
    by_cases d:j<i
    ·rw[if_pos (by omega),if_pos d]
    ·rw[if_neg (by omega),if_neg d])]
  refine .pu ⟨by omega,by rfl⟩ ?_
  exact aC
 have hi256:i=256:=by omega
 subst hi256
 rw[dF_ hlt,yk (f:=fun j=>if j<256 then Bw j else 0) (g:=Bw) (fun j hj=>if_pos hj)]
 refine aa (cm (bP (gR _ _)) ?_)
 refine bY (.there .here) (gR _ _) (gR _ _) Ky ?_
 refine jB (cN (gR _ _)) ?_
 refine bC () ?_
 exact aC
theorem Kz (l:List UInt8):∀u∈(l.map Sl.B).toArray.toList,u.oneCell'=true:=by
 rw[List.toList_toArray]
 exact hH
theorem add {W:World}{s:Nat}{a:Option Addr}{c:Nat}{b:List UInt8}{A:HP}(hs:s<4294967296)(hr:RdB W A a b.length (b.map Sl.B))(hb:b.length<=4611686018427387904):
  Cn p_ 104 [.int .u32 (s:Int),.slice a b.length c] W [A] (fun _:Unit=> .int .u32 (PA s b:Int)) (fun _=>[A]):=by
 (refine S.Ej.cn fun F=>?_;unfold S.Cm;simp only[ca_,na_])
 refine c_ St fun _=>?_
 refine BZ (fun w=>Tryz.zeroValue190 w) fun g0=>?_
 rw[bk,AA]
 refine bY .here (gR _ _) (gR _ _) Ky ?_
 refine o_ (NZ hs) ?_
 refine o_ aN (cg (fun m y z=>pu (∃i:Nat,m+i=b.length/\y= .int .u32 (mU (JX s) (b.take i):Int)/\z= .int .i64 (i:Int))::pt g0 (.cells (Un 256 Bw) 190 (0,0))::A::F) b.length ?_ ?_)
 ·refine .pu ⟨0,by omega,rfl,rfl⟩ ?_
  exact aC
 intro m ds y z
 refine aT .here fun hk=>?_
 obtain⟨i,hmi,rfl,rfl⟩:=hk
 refine o_ aI ?_
 by_cases hlt:(i:Int)<(b.length:Int)
 ·rw[dT_ hlt]
  have hi:i<b.length:=by omega
  obtain⟨g,o,rfl,_⟩:=hr.at_ (by omega)
  have hst:mU (JX s) (b.take (i+1))=Bw ((mU (JX s) (b.take i)%256) ^^^ b[i].toNat) ^^^ (mU (JX s) (b.take i) / 256):=by
   rw[List.take_succ_eq_append_getElem hi,Hq]
  have hcl:=vL (b.take i) (Bx hs)
  obtain⟨C,hC⟩:∃C,C=mU (JX s) (b.take i):=⟨_,rfl⟩
  rw[<- hC]at hst hcl ⊢
  have hx:=b[i].toNat_lt
  refine ab (o_ (bA i rfl hi) ?_)
  refine cm (cX hr (v:= .int .u8 (b[i].toNat:Int)) (H9 hi)) ?_
  refine o_ (bO (q:= .u8)) ?_
  rw[oR]
  refine o_ HZ ?_
  rw[US (by omega) hx]
  have hxl:=Bs (a:=C%256) (b:=b[i].toNat) (by omega) hx
  refine o_ (dL _ rfl hxl) ?_
  have hld:(Un 256 Bw)[0+((C%256) ^^^ b[i].toNat) * 1]? =some (.int .u32 (Bw ((C%256) ^^^ b[i].toNat):Int)):=by rw[Nat.zero_add,Nat.mul_one];exact BF hxl
  refine cm (iA hld) ?_
  refine o_ (jy (by decide)) ?_
  rw[show(8:Int)=((8:Nat):Int)from rfl,zT (by omega)]
  refine o_ HZ ?_
  rw[JV (JY hxl) (by omega),show C / 2^8=C / 256 from rfl,<- hst]
  refine bW ?_
  refine bH (m-1) (by omega) (.pu ⟨i+1,by omega,rfl,rfl⟩ ?_)
  exact aC
 have hie:i=b.length:=by omega
 subst hie
 have hcl:=vL b (Bx hs)
 rw[dF_ hlt,List.take_length]
 refine aa (o_ (NZ hcl) ?_)
 refine bC () ?_
 exact aC
theorem Su {W:World}{a:Option Addr}{c:Nat}{b:List UInt8}{A:HP}(hr:RdB W A a b.length (b.map Sl.B))(hb:b.length<=4611686018427387904):
  Cn p_ 72 [.slice a b.length c] W [A] (fun _:Unit=> .int .u32 (MF b:Int)) (fun _=>[A]):=by
 (refine S.Ei.cn fun F=>?_;unfold S.Cj;simp only[ca_,na_])
 refine c_ (add (s:=0) (by decide) hr hb) fun _=>?_
 refine bC () ?_
 exact .refl
theorem DC {W:World}{n:Nat}{a:Option Addr}{c:Nat}{b:List UInt8}(hn:n<4294967296)(hb:b.length<=70368744177664):
  Cn p_ 71 [.slice a b.length c,.int .u32 (n:Int)] W [Sl 1 5 a c b.length (b.map Sl.B)] (fun q:Option Addr × Nat=> .slice q.1 (b++fZ n).length q.2) (fun q=>[Sl 1 5 q.1 q.2 (b++fZ n).length ((b++fZ n).map Sl.B)]):=by
 (refine S.Ci.cn fun F=>?_;unfold S.zg;simp only[ca_,na_])
 refine o_ (bO (q:= .u8)) ?_
 rw[oR]
 refine o_ (jy (by decide)) ?_
 rw[show(8:Int)=((8:Nat):Int)from rfl,zT (by omega)]
 refine o_ (bO (q:= .u8)) ?_
 rw[oR]
 refine o_ (jy (by decide)) ?_
 rw[show(16:Int)=((16:Nat):Int)from rfl,zT (by omega)]
 refine o_ (bO (q:= .u8)) ?_
 rw[oR]
 refine o_ (jy (by decide)) ?_
 rw[show(24:Int)=((24:Nat):Int)from rfl,zT (by omega)]
 refine o_ (bO (q:= .u8)) ?_
 rw[oR]
 have hf:(fZ n).map Sl.B=[.int .u8 ((n%256:Nat):Int),.int .u8 ((n / 2^8%256:Nat):Int),.int .u8 ((n / 2^16%256:Nat):Int),.int .u8 ((n / 2^24%256:Nat):Int)]:=by
  unfold fZ
  simp only[List.map_cons,List.map_nil]
  rw[Go.Proofs.YtndojgomlkpeaaaGreatDoor.M.lY (by omega),Go.Proofs.YtndojgomlkpeaaaGreatDoor.M.lY (by omega),Go.Proofs.YtndojgomlkpeaaaGreatDoor.M.lY (by omega),Go.Proofs.YtndojgomlkpeaaaGreatDoor.M.lY (by omega)]
 refine pS (vs:=(fZ n).map Sl.B) rfl (by rw[hf];rfl) (by intro v hv;obtain⟨c,_,rfl⟩:=List.mem_map.1 hv;rfl) (by omega) fun gd=>?_
 refine co (m:=4) (news:=(fZ n).map Sl.B) (.there .here) (dq (s:=1) (e':=5) (by kernel_rfl) .here (by rfl) (Kz (fZ n))) (by omega) (by omega) fun a2 c2=>?_
 rw[<- List.map_append,show b.length+4=(b++fZ n).length by rw[List.length_append,show(fZ n).length=4 from rfl]]
 refine bC ((a2,c2)) ?_
 exact aC
theorem Sv {W : World} {n : Int} : Cn p_ 80 [.int .i64 n] W [] (fun q : Option Addr × Nat => .slice q.1 (vM (n % 4294967296).toNat).length q.2) (fun q => [Sl 1 5 q.1 q.2 (vM (n % 4294967296).toNat).length ((vM (n % 4294967296).toNat).map Sl.B)]) := by
 obtain ⟨m, hm⟩ : ∃ m, m = (n % 4294967296).toNat := ⟨_, rfl⟩
 have hml : m < 4294967296 := by omega
 rw [<- hm]
 (refine S.Ck.cn fun F => ?_; unfold S.zh; simp only [ca_, na_])
 refine pS (vs := ([31, 139, 8, 0] : List UInt8).map Sl.B) rfl rfl (by intro v hv; obtain ⟨c, _, rfl⟩ := List.mem_map.1 hv; rfl) (by omega) fun g1 => ?_
 refine am (bO (q := .u32)) .nil ?_
 rw [Dm, <- hm]
 refine Ni (s := 1) (e := 5) (cs := ([31, 139, 8, 0] : List UInt8).map Sl.B) (n := 4) .here rfl (by decide) ?_
 (refine' aH (DC (a := some ⟨g1, 0, none⟩) (c := 4) (b := [31, 139, 8, 0]) hml (by decide)) ?hp fun _ => ?_; (case hp => (repeat (first | exact Picks.nil | (apply Picks.cons; (focus repeat constructor))))); (try simp only [ca_, na_, Bool.not_true, Bool.not_false]))
 rename_i q
 obtain ⟨qa, qc⟩ := q
 (try dsimp only)
 refine pS (vs := ([0, 255] : List UInt8).map Sl.B) rfl rfl (by intro v hv; obtain ⟨c, _, rfl⟩ := List.mem_map.1 hv; rfl) (by omega) fun gd => ?_
 have h8 : (31 :: 139 :: 8 :: 0 :: fZ m).length = 8 := rfl
 refine co (m := 2) (news := ([0, 255] : List UInt8).map Sl.B) (.there .here) (dq (s := 1) (e' := 5) (by kernel_rfl) .here (by rfl) (Kz [0, 255])) (by rw [h8]; omega) (by rw [h8]; omega) fun a2 c2 => ?_
 rw [<- List.map_append, show (31 :: 139 :: 8 :: 0 :: fZ m).length + 2 = (vM m).length from rfl, show (31 :: 139 :: 8 :: 0 :: fZ m) ++ [0, 255] = vM m from rfl]
 (first | refine bf ((a2, c2)) rfl ?_ | refine ed ((a2, c2)) ?_)
 (repeat (first | exact .refl | exact .nil | (apply Imp.pick; (focus ((repeat constructor); done))) | refine .drop ?_))
theorem sO (m:Nat):(vM m).length=10:=rfl
theorem UZ {W:World}{a:Option Addr}{c:Nat}{b:List UInt8}{A:HP}{level mtime:Int}(hr:RdB W A a b.length (b.map Sl.B))(hc:b.length<=c)(hb:b.length<=4611686018427387904):
  Cn p_ 50 [.slice a b.length c,.int .i64 level,.int .i64 mtime] W [A] (fun q:Option Addr × Nat=> .tuple #[.slice q.1 (iS b level mtime).length q.2,.int .i64 (vo b level mtime)]) (fun q=>[Sl 1 5 q.1 q.2 (iS b level mtime).length ((iS b level mtime).map Sl.B),A]):=by
 have bad:∀(e:Int) (L:List HP),vo b level mtime=e->e≠0->be W (A::L) (fun w=>∃q:Option Addr × Nat,(.tuple #[.slice none 0 0,.int .i64 e]:Value)= .tuple #[.slice q.1 (iS b level mtime).length q.2,.int .i64 (vo b level mtime)]/\sat W ([Sl 1 5 q.1 q.2 (iS b level mtime).length ((iS b level mtime).map Sl.B),A]++L) w):=by
  intro e L h h0
  have hv:iS b level mtime=[]:=by unfold iS;rw[if_neg (by rw[h];exact h0)]
  rw[h,hv]
  refine bf (none,0) rfl ?_
  exact cQ .refl
 (refine S.Cg.cn fun F=>?_;unfold S.zf;simp only[ca_,na_])
 refine o_ aI ?_
 by_cases h0:mtime<0
 ·rw[dT_ h0]
  exact aA (aA (o_ aq (ab (bad 1 F (by unfold vo;rw[if_pos (.inl h0)]) (by decide)))))
 rw[dF_ h0]
 refine ag (ag (o_ bq ?_))
 by_cases h1:4294967295<mtime
 ·rw[dT_ h1]
  exact o_ ap (ab (bad 1 F (by unfold vo;rw[if_pos (.inr h1)]) (by decide)))
 rw[dF_ h1]
 have hE:vo b level mtime=jU b level:=by unfold vo;rw[if_neg (by omega)]
 refine o_ ap (aa (aH (M_ (c:=c) (level:=level) hr hc) (.cons (by repeat constructor) .nil) fun q=>?_))
 obtain⟨qa,qc⟩:=q
 refine ay ?_
 (try dsimp only)
 refine o_ (bS (v:= .slice qa (eJ b level).length qc) rfl) ?_
 refine o_ (bS (v:= .int .i64 (jU b level)) rfl) ?_
 refine o_ eS ?_
 by_cases hd:jU b level=0
 rotate_left
 ·rw[dT_ hd]
  refine ab (cr (M:=A::F) aC ?_)
  exact bad _ F hE hd
 rw[dF_ (fun h=>h hd)]
 have hpb:iS b level mtime=vM mtime.toNat++eJ b level++Do b:=by unfold iS;rw[if_pos (by rw[hE];exact hd)]
 have hbl:=(xU hd).2.2
 have hdl:=Hp hd
 refine aa (c_ (Sv (n:=mtime)) fun _=>?_)
 rename_i q2
 obtain⟨ha,hc2⟩:=q2
 (try dsimp only)
 rw[show mtime%4294967296=mtime from Int.emod_eq_of_lt (by omega) (by omega)]
 have hhl:=sO mtime.toNat
 obtain⟨D,hD⟩:∃D,D=eJ b level:=⟨_,rfl⟩
 rw[<- hD]at hdl hpb ⊢
 obtain⟨H0,hH0⟩:∃H0,H0=vM mtime.toNat:=⟨_,rfl⟩
 rw[<- hH0]at hhl hpb ⊢
 have hDl:D.length<=1048576:=by omega
 clear hdl
 refine aJ (by(repeat constructor):Pick _ (Sl 1 5 qa qc D.length (D.map Sl.B)) _) fun _ g2 g3 g4=>?_
 have hrD:RdB W (Sl 1 5 qa qc D.length (D.map Sl.B)) qa D.length (D.map Sl.B):=dh (by rw[List.length_map]) g4
 refine co (m:=D.length) (news:=D.map Sl.B) .here (fM (A:=Sl 1 5 qa qc D.length (D.map Sl.B)) (e':=5) (by kernel_rfl) (by repeat constructor) hrD (DB hrD) hH) (by omega) (by omega) fun a3 c3=>?_
 rw[<- List.map_append,<- List.length_append]
 refine aH (Su (c:=c) hr hb) (.cons (by repeat constructor) .nil) fun _=>?_
 refine ay ?_
 refine c_ (DC (a:=a3) (c:=c3) (b:=H0++D) (J0 b) (by rw[List.length_append];omega)) fun _=>?_
 rename_i q4
 obtain⟨a4,c4⟩:=q4
 (try dsimp only)
 refine o_ aN (o_ (bO (q:= .u32)) ?_)
 rw[Dm,show((b.length:Int)%4294967296).toNat=b.length%4294967296 by omega]
 refine c_ (DC (a:=a4) (c:=c4) (b:=H0++D++fZ (MF b)) (n:=b.length%4294967296) (by omega) (by rw[List.length_append,List.length_append];have:(fZ (MF b)).length=4:=rfl;omega)) fun _=>?_
 rename_i q5
 obtain⟨a5,c5⟩:=q5
 (try dsimp only)
 have hfin:H0++D++fZ (MF b)++fZ (b.length%4294967296)=iS b level mtime:=by rw[hpb];unfold Do;simp only[List.append_assoc]
 rw[hfin,hE,hd]
 refine bC ((a5,c5)) ?_
 exact aC
end GZ
namespace FD
open Go Go.Proofs Go.RowKit Sh Sl T IF GZ
theorem Na {l:List Fd}{i:Nat}(h:i<l.length):(l.take (i+1)).map vN++l.drop (i+1)=((l.take i).map vN++l.drop i).set i (vN l[i]):=by
 have e:(l.take i).map vN++l.drop i=(l.take i).map vN++l[i]::l.drop (i+1):=by rw[List.drop_eq_getElem_cons h]
 have hl:((l.take i).map vN).length=i:=by rw[List.length_map,List.length_take];omega
 rw[e,List.set_append_right _ _ (by omega),hl,Nat.sub_self,List.take_succ_eq_append_getElem h,List.map_append]
 simp only[List.map_cons,List.map_nil,List.append_assoc,ca_,na_,List.set_cons_zero]
theorem KA {l:List Fd}{i:Nat}{n v v':List UInt8}(h:l[i]? =some (n,v)):(l.set i (n,v')).flatMap dH=(l.flatMap dH).set (i * 2+1) (bo v'):=by
 induction l generalizing i with
 |nil=>cases h
 |cons x r ih=>
  cases i with
  |zero=>
   simp only[List.getElem?_cons_zero,Option.some.injEq]at h
   subst h
   rfl
  |succ i=>
   simp only[List.getElem?_cons_succ]at h
   have:=ih h
   rw[List.set_cons_succ,List.flatMap_cons,List.flatMap_cons,this]
   obtain⟨a,b⟩:=x
   rw[show(i+1) * 2+1=i * 2+1+1+1 by omega]
   rfl
theorem DE {l:List Fd}{i:Nat}{x:Fd}(h:l[i]? =some x):l.set i x=l:=by
 induction l generalizing i with
 |nil=>rfl
 |cons y r ih=>
  cases i with
  |zero=>simp only[List.getElem?_cons_zero,Option.some.injEq]at h;subst h;rfl
  |succ i=>simp only[List.getElem?_cons_succ]at h;rw[List.set_cons_succ,ih h]
theorem PP {l:List Fd}{i:Nat}(h:i<=l.length):((l.take i).map vN++l.drop i).length=l.length:=by
 rw[List.length_append,List.length_map,List.length_take,List.length_drop];omega
theorem Sw {l:List Fd}{i:Nat}(h:i<l.length):((l.take i).map vN++l.drop i)[i]? =some l[i]:=by
 rw[List.getElem?_append_right (by rw[List.length_map,List.length_take];omega),List.length_map,List.length_take,show i-min i l.length=0 by omega,List.getElem?_drop,Nat.add_zero,List.getElem?_eq_getElem h]
theorem Nb (v:List UInt8):(lQ v).1.2.length<=v.length:=by
 unfold lQ
 split
 ·have h1:(pR v).length<=v.length:=by unfold pR;split <;> simp
  show(za (pR v)).length<=v.length
  unfold za sub
  simp only[List.length_take,List.length_drop]
  omega
 ·simp
theorem Sx {W : World} [hG : Gp W] {o : Nat} {st level : Int} {X : List Fd} {D : List UInt8} {a ad : Option Addr} {c cd : Nat} {AX AD : HP} (hA : nO W AX a X) (hX : zF X ≤ 2097152) (hB : RdB W AD ad D.length (D.map Sl.B)) (hc : D.length ≤ cd) (hD : D.length ≤ 4611686018427387904) :
  Cn p_ 33 [.pointer (some ⟨o, 0, none⟩), .int .i64 level] W [pt o (.cells #[.int .i64 st, .slice a X.length c, .slice ad D.length cd] 25), AX, AD]
   (fun _ : (Option Addr × Nat) × (Option Addr × Nat) => .bool (decide (vo D level 0 = 0)))
   (fun q => if vo D level 0 = 0 then [pt o (.cells #[.int .i64 st, .slice q.1.1 (mW X (iS D level 0)).length q.1.2, .slice q.2.1 (iS D level 0).length q.2.2] 25), Sl 2 52 q.1.1 q.1.2 (mW X (iS D level 0)).length ((mW X (iS D level 0)).flatMap dH), Sl 1 5 q.2.1 q.2.2 (iS D level 0).length ((iS D level 0).map Sl.B)]
    else [pt o (.cells #[.int .i64 st, .slice a X.length c, .slice ad D.length cd] 25), AX, AD]) := by
 (refine S.yB.cn fun F => ?_; unfold S.uC; simp only [ca_, na_])
 refine am aW .nil ?_; refine am aw .nil ?_; (((refine' am (br ?hc) ?hi ?_); (case hi => exact .pick (by repeat constructor) .nil); (case hc => repeat constructor)))
 (refine' aH (UZ (c := cd) (level := level) (mtime := 0) hB hc hD) ?hp fun _ => ?_; (case hp => (repeat (first | exact Picks.nil | (apply Picks.cons; (focus repeat constructor))))); (try simp only [ca_, na_, Bool.not_true, Bool.not_false]))
 rename_i q
 obtain ⟨ga, gc⟩ := q
 (try dsimp only)
 refine am (bS (v := .slice ga (iS D level 0).length gc) rfl) .nil ?_
 refine am (bS (v := .int .i64 (vo D level 0)) rfl) .nil ?_
 refine am eS .nil ?_
 by_cases hE : vo D level 0 = 0
 rotate_left
 ·rw [dT_ hE, dF_ hE]
  simp only [if_neg hE]
  refine ab ?_
  (first | refine bf (((none, 0), (none, 0))) rfl ?_ | refine ed (((none, 0), (none, 0))) ?_)
  (repeat (first | exact .refl | exact .nil | (apply Imp.pick; (focus ((repeat constructor); done))) | refine .drop ?_))
 have hgl : (iS D level 0).length ≤ 1048576 := by
  have h2 : iS D level 0 = vM 0 ++ eJ D level ++ Do D := by unfold iS; rw [if_pos hE]; rfl
  have h1 : jU D level = 0 := by unfold vo at hE; rwa [if_neg (by omega)] at hE
  obtain ⟨h0, _, h3⟩ := xU h1
  have h4 := xV (b := D) h0
  have h5 := sE h1
  rw [h2, List.length_append, List.length_append, sO]
  have : (Do D).length = 8 := rfl
  omega
 simp only [if_pos hE]
 rw [dT_ hE, dF_ (fun h => h hE)]
 obtain ⟨G, hG2⟩ : ∃ G, G = iS D level 0 := ⟨_, rfl⟩
 rw [← hG2] at hgl ⊢
 refine aa ?_; refine am aW .nil ?_; refine am aw .nil ?_; (((refine' am (br ?hc) ?hi ?_); (case hi => exact .pick (by repeat constructor) .nil); (case hc => repeat constructor)))
 refine pS (vs := [bo By, bo K1]) rfl rfl (by intro v hv; simp at hv; rcases hv with rfl | rfl <;> rfl) (by decide) fun gn => ?_
 have hN : RdB W (pt gn (.cells #[bo By, bo K1] 9)) (some ⟨gn, 0, none⟩) [By, K1].length ([By, K1].map bo) := B0 (cs := [bo By, bo K1]) rfl
 refine aH (LF (N := [By, K1]) (nc := 2) hA (II (by omega)) hN (by decide) (by decide)) (.cons (by repeat constructor) (.cons (by repeat constructor) .nil)) fun r => ?_
 obtain ⟨wa, wc⟩ := r
 (try simp only [ca_, na_, -eq_self])
 (try dsimp only)
 have hwl := Cx X [By, K1]
 have hzl := rX X
 have hzw : ∀ f ∈ fV X [By, K1], f.1.length ≤ 2097152 ∧ f.2.length ≤ 2097152 := fun f hf => by
  have := IH (List.mem_filter.1 hf).1
  omega
 obtain ⟨Y, hY⟩ : ∃ Y, Y = fV X [By, K1] := ⟨_, rfl⟩
 have hpak : mW X G = Y.map vN ++ [(sG, jp), (By, BO G.length)] := by rw [hY]; rfl
 rw [← hY] at hwl hzw ⊢
 rw [hpak]
 refine am aN .nil ?_
 refine aJ (by (repeat constructor) : Pick _ (Sl 2 52 wa wc Y.length (Y.flatMap dH)) _) fun _ _ _ hs => ?_
 refine bj (fun m y => (ex fun i : Nat => all [pu (m + i = Y.length ∧ y = .int .i64 (i : Int)), Sl 2 52 wa wc Y.length (((Y.take i).map vN ++ Y.drop i).flatMap dH)]) :: pt o (.cells #[.int .i64 st, .slice a X.length c, .slice ad D.length cd] 25) :: Sl 1 5 ga gc G.length (G.map Sl.B) :: F) Y.length ?_ ?_
 ·refine .ex 0 (.all ?_)
  (try simp only [ca_, na_, -eq_self])
  refine .pu ⟨rfl, rfl⟩ ?_
  rw [List.take_zero, List.map_nil, List.nil_append, List.drop_zero]
  (repeat (first | exact .refl | exact .nil | (apply Imp.pick; (focus ((repeat constructor); done))) | refine .drop ?_))
 intro m ds y
 refine aX .here fun i => aB .here ?_
 (try simp only [ca_, na_, -eq_self])
 refine aT .here fun hi => ?_
 obtain ⟨hmi, rfl⟩ := hi
 refine aF aI .nil (fun h => ?_) (fun h => ?_)
 ·have hin : i < Y.length := by omega
  obtain ⟨wg, rfl⟩ := hs (by omega)
  have hat := Sw hin
  have hln := PP (Nat.le_of_lt hin)
  have hnx := Na hin
  have hvl := hzw _ (List.getElem_mem hin)
  obtain ⟨f, hf⟩ : ∃ f, f = Y[i] := ⟨_, rfl⟩
  rw [← hf] at hat hnx hvl
  obtain ⟨Z, hZ⟩ : ∃ Z, Z = (Y.take i).map vN ++ Y.drop i := ⟨_, rfl⟩
  rw [← hZ] at hat hnx hln ⊢
  obtain ⟨n, v⟩ := f
  obtain ⟨hnl, hvl⟩ := hvl
  (try dsimp only at hvl hnl)
  refine ab ?_
  refine am (dx i rfl hin) .nil ?_
  rw [← hln]
  have hiz : i < Z.length := by omega
  have hzi : Z[i] = (n, v) := by rw [List.getElem?_eq_getElem hiz] at hat; exact Option.some.inj hat
  have hld := wQ (W := W) (A := Sl 2 52 (some ⟨wg, 0, none⟩) wc Z.length (Z.flatMap dH)) (l := Z) (i := i) (g := wg) (o := 0) OM hiz
  rw [hzi] at hld
  refine am hld (.pick (by repeat constructor) .nil) ?_
  unfold AI
  refine bm fun g => ?_; (((refine' bY ?hp ?hn ?hv ?h1 ?_); (case hp => (repeat constructor)); (case hn => rfl); (case hv => rfl); (case h1 => (intro u hu; simp at hu; rcases hu with rfl | rfl <;> rfl)))); refine am aw .nil ?_; (((refine' am (br ?hc) ?hi ?_); (case hi => exact .pick (by repeat constructor) .nil); (case hc => repeat constructor)))
  refine aH (IK (l := v) (by omega)) .nil fun _ => ?_
  (try simp only [ca_, na_, -eq_self])
  refine am (bS (v := Ev (lQ v).1) rfl) .nil ?_
  refine am (bS (v := .int .i64 (if (lQ v).2 then 0 else 42)) rfl) .nil ?_
  have htl := Nb v
  obtain ⟨⟨⟨tw, tt⟩, tk⟩, ht⟩ : ∃ t, t = lQ v := ⟨_, rfl⟩
  have hwk : vN (n, v) = if tk && d8 n Dp then (n, GH (true, tt)) else (n, v) := by unfold vN; rw [← ht]
  rw [← ht] at htl ⊢
  (try dsimp only at htl)
  (try dsimp only)
  unfold Ev
  refine bm fun g => ?_; (((refine' bY ?hp ?hn ?hv ?h1 ?_); (case hp => (repeat constructor)); (case hn => rfl); (case hv => rfl); (case h1 => (intro u hu; simp at hu; rcases hu with rfl | rfl <;> rfl))))
  refine am bF .nil ?_
  cases tk with
  | false =>
   rw [dF_ (by simp)]
   have hst : (Y.take (i + 1)).map vN ++ Y.drop (i + 1) = Z := by rw [hnx, hwk, Bool.false_and]; exact DE hat
   refine ah ?_; refine ah ?_; refine ah ?_; refine am ap .nil ?_; refine aa ?_; (refine am (ct (by omega) (by omega)) .nil ?_)
   (try refine am (ct (by omega) (by omega)) .nil ?_)
   refine aP (m - 1) (by omega) (.ex (i + 1) (.all ?_))
   (try simp only [ca_, na_, -eq_self])
   rw [hst]
   refine .pu ⟨by omega, by norm_cast⟩ ?_
   (repeat (first | exact .refl | exact .nil | (apply Imp.pick; (focus ((repeat constructor); done))) | refine .drop ?_))
  | true =>
   rw [dT_ (by simp)]
   refine ag ?_; refine am aw .nil ?_; refine ag ?_; (((refine' am (br ?hc) ?hi ?_); (case hi => exact .pick (by repeat constructor) .nil); (case hc => repeat constructor))); refine ag ?_
   refine aH (equal (a := n) (b := Dp) (by omega) (by decide)) .nil fun _ => ?_
   (try simp only [ca_, na_, -eq_self])
   cases he : d8 n Dp with
   | false =>
    have hst : (Y.take (i + 1)).map vN ++ Y.drop (i + 1) = Z := by rw [hnx, hwk, he, Bool.and_false]; exact DE hat
    refine am aq .nil ?_; refine aa ?_; (refine am (ct (by omega) (by omega)) .nil ?_)
    (try refine am (ct (by omega) (by omega)) .nil ?_)
    refine aP (m - 1) (by omega) (.ex (i + 1) (.all ?_))
    (try simp only [ca_, na_, -eq_self])
    rw [hst]
    refine .pu ⟨by omega, by norm_cast⟩ ?_
    (repeat (first | exact .refl | exact .nil | (apply Imp.pick; (focus ((repeat constructor); done))) | refine .drop ?_))
   | true =>
    have hst : (Y.take (i + 1)).map vN ++ Y.drop (i + 1) = Z.set i (n, GH (true, tt)) := by rw [hnx, hwk, he]; rfl
    have hfl := KA (v' := GH (true, tt)) hat
    have hfll : i * 2 + 1 < (Z.flatMap dH).length := by rw [dM (f := dH) (s := 2) (fun _ => rfl)]; omega
    refine am aq .nil ?_; refine ab ?_; refine am aw .nil ?_; (((refine' fS ?hp ?ho ?_); (case hp => (repeat constructor)); (case ho => repeat constructor))); (((refine' am (bP ?hn) ?hi ?_); (case hi => exact .pick (by repeat constructor) .nil); (case hn => rfl)))
    refine aH (LG (x := (true, tt)) (by (try dsimp only); omega)) .nil fun _ => ?_
    (try simp only [ca_, na_, -eq_self])
    refine am (dx i rfl (by omega)) .nil ?_
    refine am Ah .nil ?_
    rw [Nat.zero_add]
    refine jz (by repeat constructor) hfll ?_
    refine am (ct (by omega) (by omega)) .nil ?_
    refine aP (m - 1) (by omega) (.ex (i + 1) (.all ?_))
    (try simp only [ca_, na_, -eq_self])
    rw [hst, hfl]
    refine .pu ⟨by omega, by norm_cast⟩ ?_
    (repeat (first | exact .refl | exact .nil | (apply Imp.pick; (focus ((repeat constructor); done))) | refine .drop ?_))
 ·have : i = Y.length := by omega
  subst this
  rw [List.take_length, List.drop_length, List.append_nil]
  refine aa ?_
  refine am cu .nil ?_; refine am aN .nil ?_
  (try refine am aN .nil ?_)
  (refine' aH (OU (i := (G.length : Int)) (by omega) (by omega)) ?hp fun _ => ?_; (case hp => (repeat (first | exact Picks.nil | (apply Picks.cons; (focus repeat constructor))))); (try simp only [ca_, na_, Bool.not_true, Bool.not_false]))
  rw [show Y.length = (Y.map vN).length by rw [List.length_map]]
  obtain ⟨V, hV⟩ : ∃ V, V = Y.map vN := ⟨_, rfl⟩
  have hVl : V.length = Y.length := by rw [hV, List.length_map]
  rw [← hV]
  refine am cu .nil ?_
  refine fp (n := 2) (vs := [AI (sG, jp), AI (By, BO G.length)]) rfl (by decide) rfl (by intro v hv; simp at hv; rcases hv with rfl | rfl <;> rfl) (by decide) fun gb => ?_
  refine co (m := 2) (news := dH (sG, jp) ++ dH (By, BO G.length)) (by (repeat constructor) : Pick _ (Sl 2 52 wa wc V.length (V.flatMap dH)) _) (dq (s := 2) (e' := 52) (by kernel_rfl) .here (by rfl) (by intro u hu; simp [AI, dH, Value.cells] at hu; rcases hu with rfl | rfl | rfl | rfl <;> rfl)) (by omega) (by omega) fun a' c' => ?_
  rw [show V.length + 2 = (V ++ [(sG, jp), (By, BO G.length)]).length by simp, show V.flatMap dH ++ (dH (sG, jp) ++ dH (By, BO G.length)) = (V ++ [(sG, jp), (By, BO G.length)]).flatMap dH by simp]
  refine am aW .nil ?_; refine am aw .nil ?_; (((refine' fS ?hp ?ho ?_); (case hp => (repeat constructor)); (case ho => repeat constructor))); refine am aW .nil ?_; refine am aw .nil ?_; (((refine' fS ?hp ?ho ?_); (case hp => (repeat constructor)); (case ho => repeat constructor)))
  (first | refine bf (((a', c'), (ga, gc))) rfl ?_ | refine ed (((a', c'), (ga, gc))) ?_)
  (repeat (first | exact .refl | exact .nil | (apply Imp.pick; (focus ((repeat constructor); done))) | refine .drop ?_))
theorem PQ {W:World}{bl bx:Nat}{level st:Int}{X:List Fd}{D:List UInt8}{ax ad:Option Addr}{cx cd:Nat}{A:HP}(hA:nO W A ax X)(hX:zF X<=1100000)(hD:D.length<=4611686018427387904):
  Cn p_ 28 [.pointer (some ⟨bl,0,none⟩),.pointer (some ⟨bx,0,none⟩)] W [pt bl (.cells #[.int .i64 level] 3),pt bx (.cells #[.int .i64 st,.slice ax X.length cx,.slice ad D.length cd] 25),A]
   (fun _:Unit=> .bool ((decide (1<=level)&&decide (level<=9))&&oo st X D)) (fun _=>[pt bl (.cells #[.int .i64 level] 3),pt bx (.cells #[.int .i64 st,.slice ax X.length cx,.slice ad D.length cd] 25),A]):=by
 (refine S.s_.cn fun F=>?_;unfold S.nj;simp only[ca_,na_])
 refine ck ?_
 refine o_ dg ?_
 by_cases h1:1<=level
 rotate_left
 ·rw[dF_ h1]
  simp only[Bool.false_and]
  refine ah (ah (o_ ap (ah (ah (o_ ap (bC () ?_))))))
  exact aC
 rw[dT_ h1]
 refine ag (ck ?_);refine ag (o_ dX ?_)
 by_cases h2:level<=9
 rotate_left
 ·rw[dF_ h2]
  simp only[Bool.and_false,Bool.false_and]
  refine o_ aq (ah (ah (o_ ap (bC () ?_))))
  exact aC
 rw[dT_ h2]
 simp only[Bool.true_and]
 refine o_ aq (ag (sP ?_));refine ag (c_ (fit hA hX hD) fun _=>?_)
 refine o_ aq (bC () ?_)
 exact aC
theorem PR {W:World}{o:Nat}{st:Int}{X:List Fd}{a:Option Addr}{c:Nat}{bd:Value}[OC bd](hX:zF X<=1100000):
  Cn p_ 29 [.pointer (some ⟨o,0,none⟩)] W [pt o (.cells #[.int .i64 st,.slice a X.length c,bd] 25),Sl 2 52 a c X.length (X.flatMap dH)] (fun _:Option Addr × Nat=> .bool true)
   (fun q=>[pt o (.cells #[.int .i64 st,.slice q.1 (cW X).length q.2,bd] 25),Sl 2 52 q.1 q.2 (cW X).length ((cW X).flatMap dH)]):=by
 (refine S.td.cn fun F=>?_;unfold S.nk;simp only[ca_,na_])
 refine c_ (UU (bd:=bd) hX) fun _=>?_
 rename_i q
 refine bC q ?_
 exact aC
theorem PS {W:World}[hG:Gl W]{l:List Fd}{g c:Nat}{a:Option Addr}{A:HP}(hA:nO W A a l)(hl:zF l<=1100000):
  Cn p_ 31 [.pointer (some ⟨g,0,none⟩)] W [pt g (.cells #[.slice a l.length c] 22),A] (fun _:Unit=> .bool (mK l)) (fun _=>[pt g (.cells #[.slice a l.length c] 22),A]):=by
 (refine S.te.cn fun F=>?_;unfold S.nl;simp only[ca_,na_])
 refine ck ?_
 refine c_ (choose hA hl) fun _=>?_
 refine o_ (dE (m:=jp)) ?_
 rw[show decide (uX l=jp)=mK l by unfold uX;cases mK l <;> decide]
 refine bC () ?_
 exact aC
theorem PT {W : World} [hG : Gp W] {o g : Nat} {st level : Int} {X : List Fd} {D : List UInt8} {a ad : Option Addr} {c cd : Nat} {AX AD : HP} (hA : nO W AX a X) (hX : zF X ≤ 2097152) (hB : RdB W AD ad D.length (D.map Sl.B)) (hc : D.length ≤ cd) (hD : D.length ≤ 4611686018427387904) :
  Cn p_ 32 [.pointer (some ⟨o, 0, none⟩), .pointer (some ⟨g, 0, none⟩)] W [pt g (.cells #[.int .i64 level] 3), pt o (.cells #[.int .i64 st, .slice a X.length c, .slice ad D.length cd] 25), AX, AD]
   (fun _ : (Option Addr × Nat) × (Option Addr × Nat) => .bool (decide (vo D level 0 = 0)))
   (fun q => if vo D level 0 = 0 then [pt g (.cells #[.int .i64 level] 3), pt o (.cells #[.int .i64 st, .slice q.1.1 (mW X (iS D level 0)).length q.1.2, .slice q.2.1 (iS D level 0).length q.2.2] 25), Sl 2 52 q.1.1 q.1.2 (mW X (iS D level 0)).length ((mW X (iS D level 0)).flatMap dH), Sl 1 5 q.2.1 q.2.2 (iS D level 0).length ((iS D level 0).map Sl.B)]
    else [pt g (.cells #[.int .i64 level] 3), pt o (.cells #[.int .i64 st, .slice a X.length c, .slice ad D.length cd] 25), AX, AD]) := by
 (refine S.tf.cn fun F => ?_; unfold S.nn; simp only [ca_, na_])
 refine ck ?_
 refine aH (Sx (level := level) (st := st) (o := o) (c := c) hA hX hB hc hD) (.cons (by repeat constructor) (.cons (by repeat constructor) (.cons (by repeat constructor) .nil))) fun q => ?_
 by_cases hE : vo D level 0 = 0
 ·simp only [if_pos hE]
  refine ay ?_
  refine bC q ?_
  exact aC
 ·simp only [if_neg hE]
  refine ay ?_
  refine bC q ?_
  exact aC
def N0 (X:List Fd)(D:List UInt8)(level:Int)(i:Nat):List Fd:=if i<=1 then X else if i<=3 then cW X else mW (cW X) (iS D level 0)
def DF (D:List UInt8)(level:Int)(i:Nat):List UInt8:=if i<=3 then D else iS D level 0
theorem N3 (a b:List Fd):zF (a++b)=zF a+zF b:=by
 induction a with
 |nil=>rw[List.nil_append];show zF b=0+zF b;omega
 |cons f r ih=>rw[List.cons_append,vC,vC,ih];omega
theorem PU (X:List Fd):zF (cW X)<=zF X+64:=by
 unfold cW
 split
 ·omega
 ·rw[N3]
  have:zF [(gQ,jW)]<=64:=by decide
  omega
theorem apply {W : World} [hG : Gl W] [hP : Gp W] {l X : List Fd} {D : List UInt8} {st level : Int} {al ax ad : Option Addr} {cl cx cd : Nat} {AL AX AD : HP} (hl : nO W AL al l) (hl1 : zF l <= 1100000)
  (hA : nO W AX ax X) (ha : ax = none -> X.length = 0) (hX : zF X <= 1100000) (hB : RdB W AD ad D.length (D.map Sl.B)) (hb : ad = none -> D.length = 0) (hD : D.length <= 1099511627776) :
  Cn p_ 14 [.slice al l.length cl, .agg #[.int .i64 st, .slice ax X.length cx, .slice ad D.length cd], .int .i64 level] W [AL, AX, AD]
   (fun q : (Option Addr × Nat) × (Option Addr × Nat) => .agg #[.int .i64 st, .slice q.1.1 (fP l level st X D).X.length q.1.2, .slice q.2.1 (fP l level st X D).D.length q.2.2])
   (fun q => [AL, AX, AD, Sl 2 52 q.1.1 q.1.2 (fP l level st X D).X.length ((fP l level st X D).X.flatMap dH), Sl 1 5 q.2.1 q.2.2 (fP l level st X D).D.length ((fP l level st X D).D.map Sl.B)]) := by
 have hzl := rX X
 have hvz := PU X
 (refine S.wl.cn fun F => ?_; unfold S.qU; simp only [ca_, na_])
 refine fK fun bl => ?_
 refine cv fun bx => ?_
 refine fK fun bv => ?_
 refine bm fun b6 => ?_
 refine eR (fun z => (ex fun q : (Option Addr × Nat) × (Option Addr × Nat) => ex fun o : Nat => all [pu (z = .pointer (some ⟨o, 0, none⟩)), pt o (.cells #[.int .i64 st, .slice q.1.1 X.length q.1.2, .slice q.2.1 D.length q.2.2] 25), Sl 2 52 q.1.1 q.1.2 X.length (X.flatMap dH), Sl 1 5 q.2.1 q.2.2 D.length (D.map Sl.B)])
   :: pt bl (.cells #[.slice al l.length cl] 22) :: pt bx (.cells #[.int .i64 st, .slice ax X.length cx, .slice ad D.length cd] 25) :: pt bv (.cells #[.int .i64 level] 3) :: pt b6 (.cells #[.int .i64 0, .slice none 0 0, .slice none 0 0] 25) :: AL :: AX :: AD :: F) ?_ ?_
 rotate_left
 ·(refine bM ?_); refine aZ aw .nil ?_; (((refine' aZ (br ?hc) ?hi ?_); (case hi => exact .pick (by repeat constructor) .nil); (case hc => repeat constructor))); refine aZ aw .nil ?_; (((refine' aZ (br ?hc) ?hi ?_); (case hi => exact .pick (by repeat constructor) .nil); (case hc => repeat constructor))); refine aZ aw .nil ?_; (((refine' aZ (br ?hc) ?hi ?_); (case hi => exact .pick (by repeat constructor) .nil); (case hc => repeat constructor)))
  refine iX ?_ ?_
  ·refine d_ (s := 2) (e := 52) ?_
   refine co (m := X.length) (news := X.flatMap dH) (by (repeat constructor) : Pick _ (Sl 2 52 none 0 0 []) _) (qL (s := 2) (e' := 52) (by kernel_rfl) (by decide) (by (repeat constructor) : Pick _ AX _) hA ha rZ) (by omega) (by omega) fun a1 c1 => ?_
   rw [Nat.zero_add, List.nil_append]
   (((refine cB ?hi ?_); (case hi => (repeat (first | exact .refl | exact .nil | (apply Imp.pick; (focus ((repeat constructor); done))) | refine .drop ?_))))); (((refine cB ?hi ?_); (case hi => (repeat (first | exact .refl | exact .nil | (apply Imp.pick; (focus ((repeat constructor); done))) | refine .drop ?_))))); (((refine cB ?hi ?_); (case hi => (repeat (first | exact .refl | exact .nil | (apply Imp.pick; (focus ((repeat constructor); done))) | refine .drop ?_))))); (((refine cB ?hi ?_); (case hi => (repeat (first | exact .refl | exact .nil | (apply Imp.pick; (focus ((repeat constructor); done))) | refine .drop ?_)))))
   refine iX ?_ ?_
   ·refine d_ (s := 1) (e := 5) ?_
    refine co (m := D.length) (news := D.map Sl.B) (by (repeat constructor) : Pick _ (Sl 1 5 none 0 0 []) _) (fM (e' := 5) (by kernel_rfl) (by (repeat constructor) : Pick _ AD _) hB hb hH) (by omega) (by omega) fun a2 c2 => ?_
    rw [Nat.zero_add, List.nil_append]
    (((refine cB ?hi ?_); (case hi => (repeat (first | exact .refl | exact .nil | (apply Imp.pick; (focus ((repeat constructor); done))) | refine .drop ?_))))); (((refine cB ?hi ?_); (case hi => (repeat (first | exact .refl | exact .nil | (apply Imp.pick; (focus ((repeat constructor); done))) | refine .drop ?_))))); refine aZ cu .nil ?_; refine bm fun g => ?_; (((refine cB ?hi ?_); (case hi => (repeat (first | exact .refl | exact .nil | (apply Imp.pick; (focus ((repeat constructor); done))) | refine .drop ?_))))); (((refine cB ?hi ?_); (case hi => (repeat (first | exact .refl | exact .nil | (apply Imp.pick; (focus ((repeat constructor); done))) | refine .drop ?_))))); (((refine cB ?hi ?_); (case hi => (repeat (first | exact .refl | exact .nil | (apply Imp.pick; (focus ((repeat constructor); done))) | refine .drop ?_))))); (((refine cB ?hi ?_); (case hi => (repeat (first | exact .refl | exact .nil | (apply Imp.pick; (focus ((repeat constructor); done))) | refine .drop ?_))))); (((refine cB ?hi ?_); (case hi => (repeat (first | exact .refl | exact .nil | (apply Imp.pick; (focus ((repeat constructor); done))) | refine .drop ?_))))); (((refine cB ?hi ?_); (case hi => (repeat (first | exact .refl | exact .nil | (apply Imp.pick; (focus ((repeat constructor); done))) | refine .drop ?_))))); (((refine cB ?hi ?_); (case hi => (repeat (first | exact .refl | exact .nil | (apply Imp.pick; (focus ((repeat constructor); done))) | refine .drop ?_))))); (((refine' bY ?hp ?hn ?hv ?h1 ?_); (case hp => (repeat constructor)); (case hn => rfl); (case hv => rfl); (case h1 => simp [Value.oneCell'])))
    rename Nat => b7
    refine a_ (.ex ((a1, c1), (a2, c2)) (.ex b7 (.all ?_)))
    (try simp only [ca_, na_, -eq_self])
    refine .pu rfl ?_
    (repeat (first | exact .refl | exact .nil | (apply Imp.pick; (focus ((repeat constructor); done))) | refine .drop ?_))
   ·refine bm fun b7 => ?_
    (((refine cB ?hi ?_); (case hi => (repeat (first | exact .refl | exact .nil | (apply Imp.pick; (focus ((repeat constructor); done))) | refine .drop ?_))))); (((refine cB ?hi ?_); (case hi => (repeat (first | exact .refl | exact .nil | (apply Imp.pick; (focus ((repeat constructor); done))) | refine .drop ?_))))); (((refine cB ?hi ?_); (case hi => (repeat (first | exact .refl | exact .nil | (apply Imp.pick; (focus ((repeat constructor); done))) | refine .drop ?_))))); (((refine cB ?hi ?_); (case hi => (repeat (first | exact .refl | exact .nil | (apply Imp.pick; (focus ((repeat constructor); done))) | refine .drop ?_))))); (((refine cB ?hi ?_); (case hi => (repeat (first | exact .refl | exact .nil | (apply Imp.pick; (focus ((repeat constructor); done))) | refine .drop ?_))))); (((refine cB ?hi ?_); (case hi => (repeat (first | exact .refl | exact .nil | (apply Imp.pick; (focus ((repeat constructor); done))) | refine .drop ?_)))))
    refine d_ (s := 1) (e := 5) ?_
    refine co (m := D.length) (news := D.map Sl.B) (by (repeat constructor) : Pick _ (Sl 1 5 none 0 0 []) _) (fM (e' := 5) (by kernel_rfl) (by (repeat constructor) : Pick _ AD _) hB hb hH) (by omega) (by omega) fun a2 c2 => ?_
    rw [Nat.zero_add, List.nil_append]
    (((refine cB ?hi ?_); (case hi => (repeat (first | exact .refl | exact .nil | (apply Imp.pick; (focus ((repeat constructor); done))) | refine .drop ?_))))); (((refine cB ?hi ?_); (case hi => (repeat (first | exact .refl | exact .nil | (apply Imp.pick; (focus ((repeat constructor); done))) | refine .drop ?_))))); refine aQ cu .nil ?_; (((refine' bY ?hp ?hn ?hv ?h1 ?_); (case hp => (repeat constructor)); (case hn => rfl); (case hv => rfl); (case h1 => simp [Value.oneCell'])))
    refine a_ (.ex ((a1, c1), (a2, c2)) (.ex b7 (.all ?_)))
    (try simp only [ca_, na_, -eq_self])
    refine .pu rfl ?_
    (repeat (first | exact .refl | exact .nil | (apply Imp.pick; (focus ((repeat constructor); done))) | refine .drop ?_))
  ·refine bm fun b7 => ?_
   (((refine cB ?hi ?_); (case hi => (repeat (first | exact .refl | exact .nil | (apply Imp.pick; (focus ((repeat constructor); done))) | refine .drop ?_))))); (((refine cB ?hi ?_); (case hi => (repeat (first | exact .refl | exact .nil | (apply Imp.pick; (focus ((repeat constructor); done))) | refine .drop ?_))))); (((refine cB ?hi ?_); (case hi => (repeat (first | exact .refl | exact .nil | (apply Imp.pick; (focus ((repeat constructor); done))) | refine .drop ?_))))); (((refine cB ?hi ?_); (case hi => (repeat (first | exact .refl | exact .nil | (apply Imp.pick; (focus ((repeat constructor); done))) | refine .drop ?_))))); (((refine cB ?hi ?_); (case hi => (repeat (first | exact .refl | exact .nil | (apply Imp.pick; (focus ((repeat constructor); done))) | refine .drop ?_))))); (((refine cB ?hi ?_); (case hi => (repeat (first | exact .refl | exact .nil | (apply Imp.pick; (focus ((repeat constructor); done))) | refine .drop ?_)))))
   refine d_ (s := 2) (e := 52) ?_
   refine co (m := X.length) (news := X.flatMap dH) (by (repeat constructor) : Pick _ (Sl 2 52 none 0 0 []) _) (qL (s := 2) (e' := 52) (by kernel_rfl) (by decide) (by (repeat constructor) : Pick _ AX _) hA ha rZ) (by omega) (by omega) fun a1 c1 => ?_
   rw [Nat.zero_add, List.nil_append]
   (((refine cB ?hi ?_); (case hi => (repeat (first | exact .refl | exact .nil | (apply Imp.pick; (focus ((repeat constructor); done))) | refine .drop ?_))))); (((refine cB ?hi ?_); (case hi => (repeat (first | exact .refl | exact .nil | (apply Imp.pick; (focus ((repeat constructor); done))) | refine .drop ?_))))); (((refine cB ?hi ?_); (case hi => (repeat (first | exact .refl | exact .nil | (apply Imp.pick; (focus ((repeat constructor); done))) | refine .drop ?_))))); (((refine cB ?hi ?_); (case hi => (repeat (first | exact .refl | exact .nil | (apply Imp.pick; (focus ((repeat constructor); done))) | refine .drop ?_)))))
   refine d_ (s := 1) (e := 5) ?_
   refine co (m := D.length) (news := D.map Sl.B) (by (repeat constructor) : Pick _ (Sl 1 5 none 0 0 []) _) (fM (e' := 5) (by kernel_rfl) (by (repeat constructor) : Pick _ AD _) hB hb hH) (by omega) (by omega) fun a2 c2 => ?_
   rw [Nat.zero_add, List.nil_append]
   (((refine cB ?hi ?_); (case hi => (repeat (first | exact .refl | exact .nil | (apply Imp.pick; (focus ((repeat constructor); done))) | refine .drop ?_))))); (((refine cB ?hi ?_); (case hi => (repeat (first | exact .refl | exact .nil | (apply Imp.pick; (focus ((repeat constructor); done))) | refine .drop ?_))))); refine aQ cu .nil ?_; (((refine' bY ?hp ?hn ?hv ?h1 ?_); (case hp => (repeat constructor)); (case hn => rfl); (case hv => rfl); (case h1 => simp [Value.oneCell'])))
   refine a_ (.ex ((a1, c1), (a2, c2)) (.ex b7 (.all ?_)))
   (try simp only [ca_, na_, -eq_self])
   refine .pu rfl ?_
   (repeat (first | exact .refl | exact .nil | (apply Imp.pick; (focus ((repeat constructor); done))) | refine .drop ?_))
 intro ds z
 refine aX .here fun q => aX .here fun o => aB .here ?_
 obtain ⟨⟨a1, c1⟩, ⟨a2, c2⟩⟩ := q
 (try simp only [ca_, na_, -eq_self])
 refine aT .here fun hz => ?_
 subst hz
 refine am iB .nil ?_
 refine am iB .nil ?_
 refine am iB .nil ?_
 refine am iB .nil ?_
 refine am cu .nil ?_; refine bm fun g => ?_; (((refine' bY ?hp ?hn ?hv ?h1 ?_); (case hp => (repeat constructor)); (case hn => rfl); (case hv => rfl); (case h1 => simp [Value.oneCell']))); (((refine' am (bP ?hn) ?hi ?_); (case hi => exact .pick (by repeat constructor) .nil); (case hn => rfl)))
 rename Nat => b8
 obtain ⟨ok, hok⟩ : ∃ ok, ok = ((decide (1 <= level) && decide (level <= 9)) && oo st X D) := ⟨_, rfl⟩
 have hap : fP l level st X D = if ok then if mK l then if vo D level 0 = 0 then ⟨mW (cW X) (iS D level 0), iS D level 0⟩ else ⟨cW X, D⟩ else ⟨cW X, D⟩ else ⟨X, D⟩ := by rw [hok]; rfl
 refine bj (fun k y => (ex fun q : (Option Addr × Nat) × (Option Addr × Nat) => ex fun i : Nat => all [pu (k + i = 4 /\ y = .int .i64 (i : Int) /\ (1 <= i -> ok = true) /\ (3 <= i -> mK l = true) /\ (4 <= i -> vo D level 0 = 0)), pt o (.cells #[.int .i64 st, .slice q.1.1 (N0 X D level i).length q.1.2, .slice q.2.1 (DF D level i).length q.2.2] 25), Sl 2 52 q.1.1 q.1.2 (N0 X D level i).length ((N0 X D level i).flatMap dH), Sl 1 5 q.2.1 q.2.2 (DF D level i).length ((DF D level i).map Sl.B)])
  :: pt bl (.cells #[.slice al l.length cl] 22) :: pt bx (.cells #[.int .i64 st, .slice ax X.length cx, .slice ad D.length cd] 25) :: pt bv (.cells #[.int .i64 level] 3) :: pt b6 (.cells #[.int .i64 0, .slice none 0 0, .slice none 0 0] 25) :: AL :: AX :: AD :: F) 4 ?_ ?_
 ·refine .ex ((a1, c1), (a2, c2)) (.ex 0 (.all ?_))
  (try simp only [ca_, na_, -eq_self])
  refine .pu ⟨rfl, rfl, by omega, by omega, by omega⟩ ?_
  show Imp W _ ([pt o (.cells #[.int .i64 st, .slice a1 X.length c1, .slice a2 D.length c2] 25), Sl 2 52 a1 c1 X.length (X.flatMap dH), Sl 1 5 a2 c2 D.length (D.map Sl.B)] ++ _)
  (try simp only [ca_, na_, -eq_self])
  (repeat (first | exact .refl | exact .nil | (apply Imp.pick; (focus ((repeat constructor); done))) | refine .drop ?_))
 intro k ds2 y
 refine aX .here fun q => aX .here fun i => aB .here ?_
 obtain ⟨⟨a3, c3⟩, ⟨a4, c4⟩⟩ := q
 (try simp only [ca_, na_, -eq_self])
 refine aT .here fun hi => ?_
 obtain ⟨hki, rfl, h1, h3, h4⟩ := hi
 (try dsimp only)
 refine am aI .nil ?_
 rcases (show i = 0 \/ i = 1 \/ i = 2 \/ i = 3 \/ i = 4 by omega) with rfl | rfl | rfl | rfl | rfl
 ·rw [dT_ (by decide), show N0 X D level 0 = X from rfl, show DF D level 0 = D from rfl]
  refine ab ?_
  refine am (pj 0 rfl (by decide) rfl) .nil ?_
  refine eg (cap := [.pointer (some ⟨bv, 0, none⟩), .pointer (some ⟨bx, 0, none⟩)]) (PQ (level := level) (st := st) (D := D) (cx := cx) (cd := cd) (ad := ad) hA hX (by omega)) (by (repeat (first | exact Picks.nil | (apply Picks.cons; (focus repeat constructor))))) fun _ => ?_
  rw [<- hok]
  (try simp only [ca_, na_, -eq_self])
  cases hk : ok with
  | false =>
   rw [hk] at hap
   simp only [Bool.false_eq_true, if_false] at hap
   rw [hap]
   refine am ee .nil ?_; refine ab ?_; (((refine' am (bP ?hn) ?hi ?_); (case hi => exact .pick (by repeat constructor) .nil); (case hn => rfl))); (((refine' bY ?hp ?hn ?hv ?h1 ?_); (case hp => (repeat constructor)); (case hn => rfl); (case hv => rfl); (case h1 => simp [Value.oneCell']))); (((refine' aQ (cN ?hn) ?hi ?_); (case hi => (repeat (first | exact .refl | exact .nil | (apply Imp.pick; (focus ((repeat constructor); done))) | refine .drop ?_))); (case hn => rfl)))
   refine bf ((a3, c3), (a4, c4)) rfl ?_
   (repeat (first | exact .refl | exact .nil | (apply Imp.pick; (focus ((repeat constructor); done))) | refine .drop ?_))
  | true =>
   refine am eT .nil ?_; refine aa ?_; (refine am (ct (by omega) (by omega)) .nil ?_)
   (try refine am (ct (by omega) (by omega)) .nil ?_)
   refine aP (k - 1) (by omega) (.ex ((a3, c3), (a4, c4)) (.ex 1 (.all ?_)))
   (try simp only [ca_, na_, -eq_self])
   refine .pu ⟨by omega, rfl, fun _ => rfl, by omega, by omega⟩ ?_
   show Imp W _ ([pt o (.cells #[.int .i64 st, .slice a3 X.length c3, .slice a4 D.length c4] 25), Sl 2 52 a3 c3 X.length (X.flatMap dH), Sl 1 5 a4 c4 D.length (D.map Sl.B)] ++ _)
   (try simp only [ca_, na_, -eq_self])
   (repeat (first | exact .refl | exact .nil | (apply Imp.pick; (focus ((repeat constructor); done))) | refine .drop ?_))
 ·rw [dT_ (by decide), show N0 X D level 1 = X from rfl, show DF D level 1 = D from rfl]
  refine ab ?_
  refine am (pj 1 rfl (by decide) rfl) .nil ?_
  refine eg (cap := [.pointer (some ⟨o, 0, none⟩)]) (PR (st := st) (bd := .slice a4 D.length c4) hX) (by (repeat (first | exact Picks.nil | (apply Picks.cons; (focus repeat constructor))))) fun r => ?_
  obtain ⟨a5, c5⟩ := r
  (try simp only [ca_, na_, -eq_self])
  (try dsimp only)
  refine am eT .nil ?_; refine aa ?_; (refine am (ct (by omega) (by omega)) .nil ?_)
  (try refine am (ct (by omega) (by omega)) .nil ?_)
  refine aP (k - 1) (by omega) (.ex ((a5, c5), (a4, c4)) (.ex 2 (.all ?_)))
  (try simp only [ca_, na_, -eq_self])
  refine .pu ⟨by omega, rfl, fun _ => h1 (by omega), by omega, by omega⟩ ?_
  show Imp W _ ([pt o (.cells #[.int .i64 st, .slice a5 (cW X).length c5, .slice a4 D.length c4] 25), Sl 2 52 a5 c5 (cW X).length ((cW X).flatMap dH), Sl 1 5 a4 c4 D.length (D.map Sl.B)] ++ _)
  (try simp only [ca_, na_, -eq_self])
  (repeat (first | exact .refl | exact .nil | (apply Imp.pick; (focus ((repeat constructor); done))) | refine .drop ?_))
 ·rw [dT_ (by decide), show N0 X D level 2 = cW X from rfl, show DF D level 2 = D from rfl]
  refine ab ?_
  refine am (pj 2 rfl (by decide) rfl) .nil ?_
  refine eg (cap := [.pointer (some ⟨bl, 0, none⟩)]) (PS (c := cl) hl hl1) (by (repeat (first | exact Picks.nil | (apply Picks.cons; (focus repeat constructor))))) fun _ => ?_
  (try simp only [ca_, na_, -eq_self])
  rw [h1 (by omega)] at hap
  simp only [if_true] at hap
  cases hk : mK l with
  | false =>
   rw [hk] at hap
   simp only [Bool.false_eq_true, if_false] at hap
   rw [hap]
   refine am ee .nil ?_; refine ab ?_; (((refine' am (bP ?hn) ?hi ?_); (case hi => exact .pick (by repeat constructor) .nil); (case hn => rfl))); (((refine' bY ?hp ?hn ?hv ?h1 ?_); (case hp => (repeat constructor)); (case hn => rfl); (case hv => rfl); (case h1 => simp [Value.oneCell']))); (((refine' aQ (cN ?hn) ?hi ?_); (case hi => (repeat (first | exact .refl | exact .nil | (apply Imp.pick; (focus ((repeat constructor); done))) | refine .drop ?_))); (case hn => rfl)))
   refine bf ((a3, c3), (a4, c4)) rfl ?_
   (repeat (first | exact .refl | exact .nil | (apply Imp.pick; (focus ((repeat constructor); done))) | refine .drop ?_))
  | true =>
   refine am eT .nil ?_; refine aa ?_; (refine am (ct (by omega) (by omega)) .nil ?_)
   (try refine am (ct (by omega) (by omega)) .nil ?_)
   refine aP (k - 1) (by omega) (.ex ((a3, c3), (a4, c4)) (.ex 3 (.all ?_)))
   (try simp only [ca_, na_, -eq_self])
   refine .pu ⟨by omega, rfl, fun _ => h1 (by omega), fun _ => rfl, by omega⟩ ?_
   show Imp W _ ([pt o (.cells #[.int .i64 st, .slice a3 (cW X).length c3, .slice a4 D.length c4] 25), Sl 2 52 a3 c3 (cW X).length ((cW X).flatMap dH), Sl 1 5 a4 c4 D.length (D.map Sl.B)] ++ _)
   (try simp only [ca_, na_, -eq_self])
   (repeat (first | exact .refl | exact .nil | (apply Imp.pick; (focus ((repeat constructor); done))) | refine .drop ?_))
 ·rw [dT_ (by decide), show N0 X D level 3 = cW X from rfl, show DF D level 3 = D from rfl]
  refine ab ?_
  refine am (pj 3 rfl (by decide) rfl) .nil ?_
  rw [h1 (by omega), h3 (by omega)] at hap
  simp only [if_true] at hap
  refine aJ (by (repeat constructor) : Pick _ (Sl 2 52 a3 c3 (cW X).length ((cW X).flatMap dH)) _) fun _ _ _ hs => ?_
  refine aJ (by (repeat constructor) : Pick _ (Sl 1 5 a4 c4 D.length (D.map Sl.B)) _) fun _ k2 _ k4 => ?_
  refine eg (cap := [.pointer (some ⟨o, 0, none⟩), .pointer (some ⟨bv, 0, none⟩)]) (PT (level := level) (st := st) (c := c3) (cd := c4) (je hs) (by omega) (dh (e := 5) (a := a4) (cap := c4) (by rw [List.length_map]) k4) k2 (by omega)) (by (repeat (first | exact Picks.nil | (apply Picks.cons; (focus repeat constructor))))) fun r => ?_
  obtain ⟨⟨a5, c5⟩, ⟨a6, c6⟩⟩ := r
  by_cases hE : vo D level 0 = 0
  ·simp only [if_pos hE]
   rw [dT_ hE]
   (try simp only [ca_, na_, -eq_self])
   refine am eT .nil ?_; refine aa ?_; (refine am (ct (by omega) (by omega)) .nil ?_)
   (try refine am (ct (by omega) (by omega)) .nil ?_)
   refine aP (k - 1) (by omega) (.ex ((a5, c5), (a6, c6)) (.ex 4 (.all ?_)))
   (try simp only [ca_, na_, -eq_self])
   refine .pu ⟨by omega, rfl, fun _ => h1 (by omega), fun _ => h3 (by omega), fun _ => hE⟩ ?_
   show Imp W _ ([pt o (.cells #[.int .i64 st, .slice a5 (mW (cW X) (iS D level 0)).length c5, .slice a6 (iS D level 0).length c6] 25), Sl 2 52 a5 c5 (mW (cW X) (iS D level 0)).length ((mW (cW X) (iS D level 0)).flatMap dH), Sl 1 5 a6 c6 (iS D level 0).length ((iS D level 0).map Sl.B)] ++ _)
   (try simp only [ca_, na_, -eq_self])
   (repeat (first | exact .refl | exact .nil | (apply Imp.pick; (focus ((repeat constructor); done))) | refine .drop ?_))
  ·simp only [if_neg hE]
   rw [if_neg hE] at hap
   rw [dF_ hE, hap]
   (try simp only [ca_, na_, -eq_self])
   refine am ee .nil ?_; refine ab ?_; (((refine' am (bP ?hn) ?hi ?_); (case hi => exact .pick (by repeat constructor) .nil); (case hn => rfl))); (((refine' bY ?hp ?hn ?hv ?h1 ?_); (case hp => (repeat constructor)); (case hn => rfl); (case hv => rfl); (case h1 => simp [Value.oneCell']))); (((refine' aQ (cN ?hn) ?hi ?_); (case hi => (repeat (first | exact .refl | exact .nil | (apply Imp.pick; (focus ((repeat constructor); done))) | refine .drop ?_))); (case hn => rfl)))
   refine bf ((a3, c3), (a4, c4)) rfl ?_
   (repeat (first | exact .refl | exact .nil | (apply Imp.pick; (focus ((repeat constructor); done))) | refine .drop ?_))
 ·rw [dF_ (by decide), show N0 X D level 4 = mW (cW X) (iS D level 0) from rfl, show DF D level 4 = iS D level 0 from rfl]
  rw [h1 (by omega), h3 (by omega)] at hap
  simp only [if_true] at hap
  rw [if_pos (h4 (by omega))] at hap
  rw [hap]
  refine aa ?_; (((refine' am (bP ?hn) ?hi ?_); (case hi => exact .pick (by repeat constructor) .nil); (case hn => rfl))); (((refine' bY ?hp ?hn ?hv ?h1 ?_); (case hp => (repeat constructor)); (case hn => rfl); (case hv => rfl); (case h1 => simp [Value.oneCell']))); (((refine' aQ (cN ?hn) ?hi ?_); (case hi => (repeat (first | exact .refl | exact .nil | (apply Imp.pick; (focus ((repeat constructor); done))) | refine .drop ?_))); (case hn => rfl)))
  refine bf ((a3, c3), (a4, c4)) rfl ?_
  (repeat (first | exact .refl | exact .nil | (apply Imp.pick; (focus ((repeat constructor); done))) | refine .drop ?_))
end FD
namespace GZ
open Go Go.Proofs Go.RowKit Sh Sl T IF B M
def HQ (W:World)(A:HP)(p:Nat)(l:List UInt8):HP:=ex fun q:Option Addr × Nat=>all [pt p (.cells #[.slice q.1 l.length q.2] 107),pu (RdB W A q.1 l.length (l.map Sl.B)/\l.length<=q.2)]
theorem BG {W:World}{b:Bool}:CnP p_ 69 [.bool b] W [] (fun _:If (b=true)=> .tuple #[]) (fun _=>[]) (fun _:If (b=false)=>pn 32) (fun _=>[]):=by
 (refine S.yF.cnP fun F=>?_;unfold S.uG;simp only[ca_,na_,-eq_self])
 cases b with
 |true=>
  refine o_ eT (aa (bC (AV (rfl)) ?_))
  exact .refl
 |false=>
  refine o_ ee (ab (o_ uu (qK ?_)))
  exact cI (AV (rfl)) rfl .refl
theorem DG {W:World}{A:HP}{p n:Nat}{l:List UInt8}:CnP p_ 68 [.pointer (some ⟨p,0,none⟩),.int .i64 (n:Int)] W [HQ W A p l]
  (fun x:{q:Option Addr × Nat // n<=l.length/\RdB W A q.1 n ((l.take n).map Sl.B)/\n<=q.2}=> .slice x.1.1 n x.1.2) (fun _=>[HQ W A p (l.drop n)]) (fun _:If (l.length<n)=>pn 20) (fun _=>[]):=by
 (refine S.pV.cnP fun F=>?_;unfold S.k7;simp only[ca_,na_,-eq_self])
 refine aX .here fun q=>aB .here ?_
 obtain⟨qa,qc⟩:=q
 refine ay ?_
 refine aT (.there .here) fun hq=>?_
 obtain⟨hr,hc⟩:=hq
 (try dsimp only at hr hc)
 (try dsimp only)
 refine jx (pu (n<=l.length)::pt p (.cells #[.slice qa l.length qc] 107)::F) ?_ ?_
 rotate_left
 ·(refine o_ aW ?_);refine o_ aw ?_;refine ck ?_;refine o_ aN ?_
  refine o_ bq ?_
  by_cases h:(l.length:Int)<(n:Int)
  ·rw[dT_ h]
   refine ab (o_ uu (qK ?_))
   refine cI (AV (by omega)) rfl ?_
   exact aC
  ·rw[dF_ h]
   refine aa (a_ (.pu (by omega) ?_))
   exact aC
 intro ds
 refine aT .here fun hn=>?_
 have h1:=hr.cut (cap:=qc) (l:=0) (h:=n) (by omega) (by omega) hc
 have h2:=hr.cut (cap:=qc) (l:=n) (h:=l.length) (by omega) (by omega) hc
 rw[List.drop_zero,Nat.sub_zero,<- List.map_take]at h1
 rw[<- List.map_drop,<- List.map_take,List.take_of_length_le (by rw[List.length_drop];omega)]at h2
 refine o_ aW (o_ aw (ck ?_))
 refine o_ (B3 n rfl (by omega)) ?_
 refine o_ aW (o_ aw (ck ?_))
 refine o_ (y_ n rfl hn) ?_
 refine o_ aW (o_ aw (fX ?_))
 refine bC (⟨((if qc=0 then qa else qa.map (·.add (0 * 1))),qc),hn,h1,by omega⟩) ?_
 refine .ex ((if qc=n then qa else qa.map (·.add (n * 1))),qc-n) (.all ?_)
 refine ay ?_
 rw[List.length_drop]
 refine .pick (by repeat constructor) (.pu ⟨h2,by omega⟩ ?_)
 exact aC
theorem Sy:∀n:Nat,n<256->cZ .or .i64 0 (n:Int)=(n:Int):=by decide+kernel
theorem U0 {W:World}{A:HP}{p:Nat}{x:UInt8}{l:List UInt8}:CnP p_ 100 [.pointer (some ⟨p,0,none⟩),.int .i64 1] W [HQ W A p (x::l),A]
  (fun _:Unit=> .int .i64 (x.toNat:Int)) (fun _=>[HQ W A p l,A]) (fun _:If False=>pn 20) (fun _=>[]):=by
 have hT:=DG (W:=W) (A:=A) (p:=p) (n:=1) (l:=x::l)
 (refine S.nu.cnP fun F=>?_;unfold S.jE;simp only[ca_,na_,-eq_self])
 (refine' bg (hT) ?hp (fun _=>?_) (fun _=>?_);(case hp=>(repeat(first|exact Picks.nil|(apply Picks.cons;(focus repeat constructor)))));(all_goals (try simp only[ca_,na_,Bool.not_true,Bool.not_false,-eq_self])))
 ·rename_i q
  obtain⟨⟨qa,qc⟩,h1,h2,h3⟩:=q
  (try dsimp only)
  (try dsimp only at h2 h3)
  obtain⟨g,o,rfl,_⟩:=h2.at_ (by decide)
  have hx:=x.toNat_lt
  refine o_ aN (cg (fun m y z=>pu (∃i:Nat,m+i=1/\z= .int .i64 (i:Int)/\y= .int .i64 (if i=0 then 0 else(x.toNat:Int)))::HQ W A p l::A::F) 1 ?_ ?_)
  ·refine .pu ⟨0,rfl,rfl,rfl⟩ ?_
   exact aC
  intro m ds y z
  refine aT .here fun hi=>?_
  obtain⟨i,hmi,rfl,rfl⟩:=hi
  refine o_ aI ?_
  rcases(show i=0\/i=1 by omega)with rfl|rfl
  ·rw[dT_ (by decide),if_pos rfl]
   refine ab (o_ (bA 0 rfl (by decide)) ?_)
   refine cm (cX h2 (j:=0) (v:= .int .u8 (x.toNat:Int)) rfl) ?_
   refine o_ (bO (q:= .i64)) ?_
   rw[yZ (by omega) (by omega)]
   refine o_ (gZ (by decide) (by decide)) ?_
   refine o_ (bO (q:= .u64)) ?_
   rw[show IntKind.u64.wrap (8 * ((0:Nat):Int))=0 by decide]
   refine o_ (me (by decide)) ?_
   rw[show min (0:Int).toNat IntKind.i64.bits=0 from rfl,Int.pow_zero,Int.mul_one,yZ (by omega) (by omega)]
   refine o_ BY ?_
   rw[Sy x.toNat hx]
   refine o_ (ct (by decide) (by decide)) ?_
   refine bH (m-1) (by omega) (.pu ⟨1,by omega,rfl,by rw[if_neg (by decide)]⟩ ?_)
   exact aC
  ·rw[dF_ (by decide),if_neg (by decide)]
   refine aa (bC () ?_)
   exact aC
 ·rename_i y
  exact absurd y.2 (by simp)
theorem U3:∀n:Nat,n<32->cZ .and .i64 0 (n:Int)=0:=by decide
theorem PV {P:Program}{W:World}{t e:TypeId}{n s:Nat}{cs:Array Value}{q:IntKind}{i:Int}(j:Nat)[ht:ArrT P t n e s][ha:AggT P e s](hi:i=(j:Int))(hj:j<n):bb P W [] (iq t (.agg cs) (.int q i)) (.agg (cs.extract (j * s) (j * s+s))):=fun w _=>by
 subst hi
 simp[iq,Instr.index,asIntOf,ht.ut,ht.size,hj,part,ha.agg,ha.size]
theorem Sz {W:World}{A:HP}{p m:Nat}{l:List UInt8}:CnP p_ 66 [.pointer (some ⟨p,0,none⟩)] W [HQ W A p (vM m++l),A]
  (fun _:Unit=> .tuple #[]) (fun _=>[HQ W A p l,A]) (fun _:If False=>pn 32) (fun _=>[]):=by
 (refine S.pU.cnP fun F=>?_;unfold S.k6;simp only[ca_,na_,-eq_self])
 refine aX .here fun q=>aB .here ?_
 obtain⟨qa,qc⟩:=q
 refine ay ?_
 refine aT (.there .here) fun hq=>?_
 refine fK fun g=>?_;refine ck ?_;refine o_ aW (o_ aw (ck ?_));refine o_ cu ?_
 rename Nat=>gb
 refine bj (fun k y=>(ex fun i:Nat=>all [pu (k+i=3/\y= .int .i64 (i:Int)),HQ W A p ((vM m++l).drop i)])::pt gb (.cells #[.pointer (some ⟨p,0,none⟩)] 105)::A::F) 3 ?_ ?_
 ·refine .ex 0 (.all ?_)
  refine ay ?_
  refine .pu ⟨rfl,rfl⟩ (.ex (qa,qc) (.all ?_))
  refine ay ?_
  rw[List.drop_zero]
  refine .pick (by repeat constructor) (.pu hq ?_)
  exact aC
 intro k ds y
 refine aX .here fun i=>aB .here ?_
 refine ay ?_
 refine aT .here fun hi=>?_
 obtain⟨hki,rfl⟩:=hi
 refine o_ aI ?_
 by_cases hlt:(i:Int)<3
 ·rw[dT_ hlt]
  obtain⟨x,hx,hv⟩:∃x:UInt8,(vM m++l).drop i=x::(vM m++l).drop (i+1)/\(#[.int .u8 31,.int .u8 139,.int .u8 8]:Array Value)[i]? =some (.int .u8 (x.toNat:Int)):=by
   rcases(show i=0\/i=1\/i=2 by omega)with rfl|rfl|rfl
   ·exact⟨31,rfl,rfl⟩
   ·exact⟨139,rfl,rfl⟩
   ·exact⟨8,rfl,rfl⟩
  have hT:=DG (W:=W) (A:=A) (p:=p) (n:=1) (l:=x::(vM m++l).drop (i+1))
  rw[hx]
  refine ab (o_ (pj i rfl (by omega) hv) ?_)
  refine ck ?_
  (refine' bg (hT) ?hp (fun _=>?_) (fun _=>?_);(case hp=>(repeat(first|exact Picks.nil|(apply Picks.cons;(focus repeat constructor)))));(all_goals (try simp only[ca_,na_,Bool.not_true,Bool.not_false,-eq_self])))
  ·rename_i q
   obtain⟨⟨ta,tc⟩,h1,h2,h3⟩:=q
   (try dsimp only)
   (try dsimp only at h2 h3)
   obtain⟨g2,o2,rfl,_⟩:=h2.at_ (by decide)
   refine o_ (bA 0 rfl (by decide)) ?_
   refine cm (cX h2 (j:=0) (v:= .int .u8 (x.toNat:Int)) rfl) ?_
   refine o_ bF ?_
   rw[dT_ rfl]
   (refine' bg (BG) ?hp (fun _=>?_) (fun _=>?_);(case hp=>(repeat(first|exact Picks.nil|(apply Picks.cons;(focus repeat constructor)))));(all_goals (try simp only[ca_,na_,Bool.not_true,Bool.not_false,-eq_self])))
   ·refine bW ?_
    refine aP (k-1) (by omega) (.ex (i+1) (.all ?_))
    refine ay ?_
    refine .pu ⟨by omega,by rfl⟩ ?_
    exact aC
   ·rename_i y
    exact absurd y.2 (by decide)
  ·rename_i y
   exact absurd y.2 (by simp)
 ·rw[dF_ hlt]
  obtain rfl:i=3:=by omega
  have h8:(vM m++l).drop 3=0::(fZ m++[0,255]++l):=rfl
  have h10:(fZ m++[0,255]++l).drop 6=l:=rfl
  rw[h8]
  refine aa (ck ?_)
  (refine' bg (U0) ?hp (fun _=>?_) (fun _=>?_);(case hp=>(repeat(first|exact Picks.nil|(apply Picks.cons;(focus repeat constructor)))));(all_goals (try simp only[ca_,na_,Bool.not_true,Bool.not_false,-eq_self])))
  ·rw[show((UInt8.toNat 0:Nat):Int)=0 from rfl]
   refine o_ aI ?_
   rw[dT_ (by decide)]
   have hT:=DG (W:=W) (A:=A) (p:=p) (n:=6) (l:=fZ m++[0,255]++l)
   rw[h10]at hT
   (refine' bg (BG) ?hp (fun _=>?_) (fun _=>?_);(case hp=>(repeat(first|exact Picks.nil|(apply Picks.cons;(focus repeat constructor)))));(all_goals (try simp only[ca_,na_,Bool.not_true,Bool.not_false,-eq_self])))
   ·refine ck ?_
    (refine' bg (hT) ?hp (fun _=>?_) (fun _=>?_);(case hp=>(repeat(first|exact Picks.nil|(apply Picks.cons;(focus repeat constructor)))));(all_goals (try simp only[ca_,na_,Bool.not_true,Bool.not_false,-eq_self])))
    ·skip
     refine o_ iB (o_ cu ?_);refine ck ?_
     refine o_ iB (o_ cu ?_);refine ck ?_
     refine o_ iB (o_ cu ?_);refine o_ cu ?_;refine bm fun g=>?_;refine gS ?_;refine sP ?_
     refine bj (fun k y=>pu (∃i:Nat,k+i=3/\y= .int .i64 (i:Int))::HQ W A p l::pt gb (.cells #[.pointer (some ⟨p,0,none⟩)] 105)::A::F) 3 ?_ ?_
     ·refine .pu ⟨0,rfl,rfl⟩ ?_
      exact aC
     intro k2 ds2 y2
     refine aT .here fun hi2=>?_
     obtain⟨i2,hki2,rfl⟩:=hi2
     refine o_ aI ?_
     by_cases hl2:(i2:Int)<3
     ·rw[dT_ hl2]
      refine ab (o_ (PV i2 rfl (by omega)) ?_)
      refine bm fun g8=>?_
      have hx:∃v u:Value,∃n:Nat,(#[.int .i64 4,.func (.func 101) #[] #[.pointer (some ⟨gb,0,none⟩)],.int .i64 8,.func (.func 102) #[.pointer (some ⟨p,0,none⟩)] #[],.int .i64 16,.func (.func 102) #[.pointer (some ⟨p,0,none⟩)] #[]]:Array Value).extract (i2 * 2) (i2 * 2+2)= #[.int .i64 (n:Int),u]/\u.oneCell'=true/\n<32:=by
       rcases(show i2=0\/i2=1\/i2=2 by omega)with rfl|rfl|rfl
       ·exact⟨.int .i64 4,_,4,rfl,rfl,by decide⟩
       ·exact⟨.int .i64 8,_,8,rfl,rfl,by decide⟩
       ·exact⟨.int .i64 16,_,16,rfl,rfl,by decide⟩
      obtain⟨_,u,n,hx,hu,hn⟩:=hx
      have hand:=U3 n hn
      rw[hx]
      refine bY (by repeat constructor) (by rfl) (by rfl) (by intro v hv;simp at hv;rcases hv with rfl|rfl;rfl;exact hu) ?_
      refine o_ aw (ck ?_)
      refine o_ ur ?_
      rw[hand]
      refine o_ eS ?_
      rw[dF_ (by decide)]
      refine aa (bW ?_)
      refine aP (k2-1) (by omega) (.pu ⟨i2+1,by omega,by rfl⟩ ?_)
      exact aC
     ·rw[dF_ hl2]
      refine aa (o_ ur ?_)
      rw[show cZ .and .i64 0 2=0 by decide]
      refine o_ eS ?_
      rw[dF_ (by decide)]
      refine aa (bC () ?_)
      exact aC
    ·rename_i y
     exact absurd y.2 (by simp[fZ])
   ·rename_i y
    exact absurd y.2 (by decide)
  ·rename_i y
   exact y.2.elim
end GZ
end Go.Proofs.YtndojgomlkpeaaaGreatDoor
