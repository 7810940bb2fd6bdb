/- Text put behind a builder's; texts joined. Texts of together at most 4194304 bytes. (32 texts made one; each says below what it is.) -/
import Derived.Test.YtndojgomlkpeaaaGreatDoorK3
import Derived.Laws.StructEq
set_option linter.unusedVariables false
set_option linter.unusedSimpArgs false
set_option linter.unusedSectionVars false
namespace Go.Proofs.YtndojgomlkpeaaaGreatDoor
namespace FD
open Go Go.Proofs Go.RowKit Sh Sl T
section
variable {P:Program} {W:World} {L L':List HP} {Kp:PK} {k:Value->WP}
theorem ON {s:Nat}{e:TypeId}{g:Nat}{cs:List Value}{n:Nat}{S:WP}(p:Pick L (pt g (.cells cs.toArray e (0,0))) L')(hn:cs.length=n * s)(hm:n<=maxLen)(h:be W (Sl s e (some ⟨g,0,none⟩) n 0 []::L') S):be W L S:=
 HW p (fun h hh=>⟨by simp,Nat.zero_le _,hm,.inr ⟨g,cs,rfl,by simpa using hn,hh⟩⟩) h
theorem LB {dT sT ty e:TypeId}{b:Nat}{d a:Option Addr}{dLen dCap aV vV:Nat}[ht:SlT P dT e 1 b](hn:Nat.min aV dLen=0):bb P W [] (HV #[dT,sT] ty [.slice d dLen dCap,.slice a aV vV]) (.int .i64 0):=fun w _=>by
 obtain⟨i,z,hi,hz,hsz,hb,hzs⟩:=ht.info
 have hr:=run_copy_none (P:=P) w dT sT ty e d a dLen dCap aV vV ht.ut (by rw[hi];simp[hsz]) hn
 simp[HV,hr,goInt]
theorem LC {tx:TypeId}{l:List UInt8}(hk:P.underlying tx=some .string):∀w,sat W L w->Src P 1 tx (bo l) l.length (l.map B) w:=fun w _=>Src.ofString w hk ⟨l.toArray⟩
end
theorem RS {W:World}{L:List HP}{Kp:PK}{k:Value->WP}{n:Nat}(hn:n<=281474976710656)(h:∀g (cs:List Value),n<=cs.length->cs.length<=maxLen->be W (pt g (.cells cs.toArray 5 (0,0))::L) (k (.slice (some ⟨g,0,none⟩) n cs.length))):
  be W L (opN p_ (aj (fn 159) [.int .i64 (n:Int)]) Kp k):=fun w hw=>by
 obtain⟨cs,hrun,hle,hmx⟩:=Lib.run_makeNoZero (P:=p_) w #[3] 23 5 Tryz.underlying23 n hn
 have hr:(callFunc 159 #[.int .i64 (n:Int)]).run p_ w= .ok (.value (.slice (some ⟨w.heap.size,0,none⟩) n cs.size)) (w.drew.drew.alloc (.cells cs 5)):=by
  rw[run_callFunc_extern Tryz.func159 (by kernel_rfl) (by kernel_rfl) (by kernel_rfl) (e:=Extern.BytealgMakeNoZero.makeNoZero #[3] #[23]) (by kernel_rfl),hrun]
  rfl
 refine⟨?_⟩
 rw[show(aj (fn 159) [.int .i64 (n:Int)]).run p_ w= .ok (.value (.slice (some ⟨w.heap.size,0,none⟩) n cs.size)) (w.drew.drew.alloc (.cells cs 5)) by simp[aj,Deferred.ofValue,invoke,fn,hr]]
 have:=h w.heap.size cs.toList (by simpa using hle) (by simpa using hmx (by unfold maxLen;omega))
 simp only[Array.toArray_toList,Array.length_toList]at this
 exact this _ ((hw.drew.drew).alloc (.cells cs 5))
theorem RT {W:World}{b n:Nat}{p:Value}(hn:n<=4194304):Cn p_ 115 [.pointer (some ⟨b,0,none⟩),.int .i64 (n:Int)] W [pt b (.cells #[p,.slice none 0 0] 121 (0,0))] (fun _:Nat × Nat=> .tuple #[])
  (fun r=>[pt b (.cells #[p,.slice (some ⟨r.1,0,none⟩) 0 r.2] 121 (0,0)),Sl 1 5 (some ⟨r.1,0,none⟩) r.2 0 []]):=by
 (refine S.lT.cn fun F=>?_;unfold S.iI;simp only[ca_,na_])
 refine bM (t_ aW (t_ aw (aQ (br (.there .here)) (.pick .here .nil) ?_)))
 refine t_ Ib ?_
 refine t_ (gZ (by decide) (by decide)) ?_
 refine t_ (ct (by omega) (by omega)) ?_
 refine aZ aW .nil ?_
 refine aZ aw .nil ?_
 refine aZ (br (.there .here)) (.pick .here .nil) ?_
 refine aZ aN .nil ?_
 rw[show(2 * ((0:Nat):Int)+(n:Int))=((n:Nat):Int) by omega]
 refine RS (by omega) fun g cs h1 h2=>?_
 refine cB aC ?_
 refine cB aC ?_
 refine cB aC ?_
 refine cB aC ?_
 refine t_ (Al 0 rfl (Nat.zero_le _)) ?_
 refine o_ aW (o_ aw (cm (br (.there .here)) ?_))
 refine o_ (LB rfl) ?_
 refine o_ aW (o_ aw (fS (.there .here) (.there .here) ?_))
 refine ON (s:=1) (n:=cs.length) (.there .here) (by omega) h2 ?_
 refine bC ((g,cs.length)) ?_
 refine .pick (by repeat constructor) ?_
 exact aC
theorem RU {W:World}{b n:Nat}(hn:0<n)(hm:n<=4194304):Cn p_ 81 [.pointer (some ⟨b,0,none⟩),.int .i64 (n:Int)] W [pt b (.cells #[.pointer none,.slice none 0 0] 121 (0,0))] (fun _:Nat × Nat=> .tuple #[])
  (fun r=>[bd b (some ⟨r.1,0,none⟩,r.2) []]):=by
 (refine S.lR.cn fun F=>?_;unfold S.iF;simp only[ca_,na_])
 refine aH OA (.cons .here .nil) fun _=>?_
 refine ay ?_
 refine vu ?_
 refine o_ aI ?_
 rw[dF_ (by omega)]
 refine aa (gp fun ds=>?_)
 refine bM (t_ aW (t_ aw (aQ (br (.there .here)) (.pick .here .nil) ?_)))
 refine t_ Ib ?_
 refine t_ aW (t_ aw (aQ (br (.there .here)) (.pick .here .nil) ?_))
 refine t_ aN (t_ (ep (by decide) (by decide)) ?_)
 refine t_ aI ?_
 rw[dT_ (by omega)]
 refine ab (aH (RT hm) (.cons .here .nil) fun r=>?_)
 refine ay ?_
 refine ed r ?_
 unfold bd
 refine .all ?_
 refine ay ?_
 exact .refl
theorem wR {W:World}{b:Nat}{r:Option Addr × Nat}{l m:List UInt8}(hl:l.length+m.length<=16777216):Cn p_ 82 [.pointer (some ⟨b,0,none⟩),bo m] W [bd b r l] (fun _:Option Addr × Nat=> .tuple #[.int .i64 (m.length:Int),.nilIface]) (fun r'=>[bd b r' (l++m)]):=by
 (refine S.iG.cn fun F=>?_;unfold S.eK;simp only[ca_,na_])
 unfold bd
 refine aB .here ?_
 refine ay ?_
 refine aH OB (.cons .here .nil) fun _=>?_
 refine ay ?_
 refine o_ aW (o_ aw (am (br (.there .here)) (.pick .here .nil) ?_))
 refine co (m:=m.length) (news:=m.map B) (by repeat constructor) (LC (by kernel_rfl)) (by omega) (by omega) fun a' c'=>?_
 refine o_ aW (o_ aw (fS (.there .here) (.there .here) ?_))
 refine o_ cp (bC ((a',c')) ?_)
 refine .all ?_
 refine ay ?_
 rw[List.length_append,List.map_append]
 refine .pick (by repeat constructor) ?_
 exact aC
end FD
namespace FD
open Go Go.Proofs Go.RowKit Sh Sl T
def rW (sep:List UInt8):List (List UInt8)->List UInt8
 |[]=>[]
 |v::r=>v++r.flatMap (fun w=>sep++w)
def kL:List (List UInt8)->Nat
 |[]=>0
 |v::r=>v.length+kL r
theorem Fs (a b:List (List UInt8)):kL (a++b)=kL a+kL b:=by
 induction a with
 |nil=>simp[kL]
 |cons v r ih=>simp[kL,ih];omega
theorem wS (sep:List UInt8)(r:List (List UInt8)):(r.flatMap (fun w=>sep++w)).length=kL r+sep.length * r.length:=by
 induction r with
 |nil=>simp[kL]
 |cons v r ih=>
  rw[List.flatMap_cons,List.length_append,ih,kL,List.length_append,List.length_cons,Nat.mul_add,Nat.mul_one]
  omega
theorem IG {V:List (List UInt8)}{i:Nat}(h:i<V.length):kL (V.take (i+1))=kL (V.take i)+V[i].length:=by
 rw[List.take_succ_eq_append_getElem h,Fs]
 simp[kL]
theorem uM (V:List (List UInt8))(i:Nat):kL (V.take i)<=kL V:=by
 have:=Fs (V.take i) (V.drop i)
 rw[List.take_append_drop]at this;omega
theorem LD {k:Nat}(h1:1<=k)(h2:k<=4194304):16<9223372036854775807 / k:=by
 have:=Nat.div_le_div_left (a:=9223372036854775807) h2 (by omega)
 have e:9223372036854775807 / 4194304=2199023255551:=rfl
 omega
theorem join {W:World}{sep:List UInt8}{V:List (List UInt8)}{a:Option Addr}{c:Nat}(hs:0<sep.length)(hs2:sep.length<=16)(hV:(rW sep V).length<=4194304)(hn:V.length<=4194304):
  Cn p_ 53 [.slice a V.length c,bo sep] W [Sl 1 9 a c V.length (V.map bo)] (fun _:Unit=>bo (rW sep V)) (fun _=>[]):=by
 (refine S.wz.cn fun F=>?_;unfold S.re;simp only[ca_,na_])
 match V,hV,hn with
 |[],_,_=>
  refine o_ aN (o_ bF ?_)
  rw[dT_ (by rfl)]
  refine ab (bC () ?_)
  exact aC
 |[v],_,_=>
  refine o_ aN (o_ bF ?_)
  rw[dF_ (by simp)]
  refine aa (o_ bF ?_)
  rw[dT_ (by rfl)]
  refine ab (fE (a:=a) .here (by simp) fun g hg=>?_)
  subst hg
  have ld:bb p_ W [Sl 1 9 (some ⟨g,0,none⟩) c [v].length ([v].map bo)] (af 9 (.pointer (some ⟨g,0+0,none⟩))) (bo v):=dP rfl
  refine o_ (bA 0 rfl (by simp)) ?_
  refine cm ld ?_
  refine bf () (by simp[rW]) ?_
  exact aC
 |v::u::r,hV,hn=>
  have hjl:(rW sep (v::u::r)).length=kL (v::u::r)+sep.length * ((v::u::r).length-1):=by
   unfold rW
   rw[List.length_append,wS]
   simp only[kL,List.length_cons,Nat.add_sub_cancel]
   omega
  obtain⟨V,hVe⟩:∃V,V=v::u::r:=⟨_,rfl⟩
  have h2:2<=V.length:=by rw[hVe];simp
  have hv0:V[0]? =some v:=by rw[hVe];rfl
  have hj0:rW sep V=v++(V.drop 1).flatMap (fun w=>sep++w):=by rw[hVe];rfl
  rw[<- hVe]at hV hn hjl ⊢
  clear hVe
  have hq:=LD (k:=V.length-1) (by omega) (by omega)
  refine o_ aN (o_ bF ?_)
  rw[dF_ (by omega)]
  refine aa (o_ bF ?_)
  rw[dF_ (by omega)]
  refine aa (fE (a:=a) .here (by omega) fun g hg=>?_)
  subst hg
  refine aJ .here fun f1 f2 f3 f4=>?_
  have ld:∀i (h:i<V.length),bb p_ W [Sl 1 9 (some ⟨g,0,none⟩) c V.length (V.map bo)] (af 9 (.pointer (some ⟨g,i,none⟩))) (bo V[i]):=fun i h=>dP (by rw[List.getElem?_map,List.getElem?_eq_getElem h];rfl)
  have hml:sep.length * (V.length-1)<=4194304:=by omega
  refine eR (fun z=>pu (z= .int .i64 ((sep.length * (V.length-1):Nat):Int))::Sl 1 9 (some ⟨g,0,none⟩) c V.length (V.map bo)::F) ?_ ?_
  rotate_left
  ·refine o_ cp (o_ bq ?_)
   rw[dT_ (by omega)]
   refine ab (vu ?_)
   refine o_ cp (o_ aN (fI ?_))
   rw[show((V.length:Nat):Int)-1=((V.length-1:Nat):Int) by omega]
   refine o_ (uo (by omega) (by omega) (by omega)) ?_
   refine o_ dg ?_
   rw[dF_ (by
    have e:(9223372036854775807:Int) / ((V.length-1:Nat):Int)=((9223372036854775807 / (V.length-1):Nat):Int):=rfl
    rw[e]
    omega)]
   refine aa (gp fun ds=>?_)
   refine o_ cp (o_ aN (fI ?_))
   rw[show((V.length:Nat):Int)-1=((V.length-1:Nat):Int) by omega]
   have hm:((sep.length:Nat):Int) * ((V.length-1:Nat):Int)=((sep.length * (V.length-1):Nat):Int):=by push_cast;rfl
   refine o_ (gZ (by rw[hm];omega) (by rw[hm];omega)) ?_
   rw[hm]
   refine bW ?_
   refine a_ (.pu (by congr 1;push_cast;omega) ?_)
   exact .refl
  ·intro ds z
   refine aT .here fun hz=>?_
   subst hz
   refine o_ aN ?_
   have hsum:kL V+sep.length * (V.length-1)<=4194304:=by omega
   generalize hM:sep.length * (V.length-1)=M at hml hsum hjl ⊢
   have hMp:0<M:=by
    rw[<- hM]
    exact Nat.mul_pos hs (by omega)
   refine cg (fun m x y=>(ex fun i:Nat=>pu (m+i=V.length/\x= .int .i64 ((M+kL (V.take i):Nat):Int)/\y= .int .i64 (i:Int)))::Sl 1 9 (some ⟨g,0,none⟩) c V.length (V.map bo)::F) V.length ?_ ?_
   ·exact .ex 0 (.pu ⟨rfl,rfl,rfl⟩ .refl)
   intro m ds2 x y
   refine aX .here fun i=>aT .here fun hi=>?_
   obtain⟨hmi,rfl,rfl⟩:=hi
   have hst:=uM V i
   refine aF aI .nil (fun h=>?_) (fun h=>?_)
   ·have hil:i<V.length:=by omega
    have hsu:=IG hil
    have hst2:=uM V (i+1)
    refine ab (o_ (bA i rfl hil) ?_)
    rw[Nat.zero_add]
    refine am (ld i hil) (.pick .here .nil) ?_
    refine vu ?_
    refine o_ cp (fI ?_)
    refine o_ bq ?_
    rw[dF_ (by omega)]
    refine aa (gp fun ds3=>?_)
    refine o_ cp (bW ?_)
    refine bW ?_
    exact bH (m-1) (by omega) (.ex (i+1) (.pu ⟨by omega,by rw[hsu];congr 1;omega,rfl⟩ .refl))
   ·have hie:i=V.length:=by omega
    subst hie
    rw[List.take_length]
    refine aa (bm fun b=>?_)
    refine aH (RU (n:=M+kL V) (by omega) (by omega)) (.cons .here .nil) fun r=>?_
    refine ay ?_
    obtain⟨v',hv'⟩:∃v',v'=v:=⟨_,rfl⟩
    have hV0:V[0]'(by omega)=v:=by
     rw[List.getElem?_eq_getElem (by omega)]at hv0
     exact Option.some.inj hv0
    have hvl:v.length<=4194304:=by
     rw[hj0,List.length_append]at hV
     omega
    refine o_ (bA 0 rfl (by omega)) ?_
    have ld0:=ld 0 (by omega)
    rw[hV0]at ld0
    refine cm ld0 ?_
    refine aH (wR (l:=[]) (m:=v) (by simp;omega)) (.cons .here .nil) fun r=>?_
    refine ay ?_
    refine o_ (y_ 1 rfl (by omega)) ?_
    rw[if_neg (by omega),show(some (⟨g,0,none⟩:Addr)).map (·.add (1 * 1))=some ⟨g,1,none⟩ by simp[db]]
    refine o_ aN (bj (fun m y=>(ex fun st:Nat × Option Addr × Nat=>all [pu (m+st.1=V.length-1/\y= .int .i64 (st.1:Int)),bd b st.2 (v++((V.drop 1).take st.1).flatMap (fun w=>sep++w))])::Sl 1 9 (some ⟨g,0,none⟩) c V.length (V.map bo)::F) (V.length-1) ?_ ?_)
    ·refine .ex (0,r) (.all ?_)
     refine ay ?_
     refine .pu ⟨rfl,rfl⟩ ?_
     simp only[List.take_zero,List.flatMap_nil,List.append_nil]
     exact .refl
    intro m ds4 y
    refine aX .here fun st=>aB .here ?_
    obtain⟨i,r⟩:=st
    refine ay ?_
    refine aT .here fun hi=>?_
    (try dsimp only at hi)
    obtain⟨hmi,rfl⟩:=hi
    have hfl:=wS sep ((V.drop 1).take i)
    have hle:(v++((V.drop 1).take i).flatMap (fun w=>sep++w)).length<=4194304:=by
     have e:(V.drop 1).flatMap (fun w=>sep++w)=((V.drop 1).take i).flatMap (fun w=>sep++w)++((V.drop 1).drop i).flatMap (fun w=>sep++w):=by
      rw[<- List.flatMap_append,List.take_append_drop]
     rw[hj0,e,List.length_append,List.length_append]at hV
     rw[List.length_append]
     omega
    refine aF aI .nil (fun h=>?_) (fun h=>?_)
    ·have hil:i<V.length-1:=by omega
     have hwl:V[1+i]'(by omega)∈V:=List.getElem_mem _
     have htk:(V.drop 1).take (i+1)=(V.drop 1).take i++[V[1+i]'(by omega)]:=by
      rw[List.take_succ_eq_append_getElem (by rw[List.length_drop];omega),List.getElem_drop]
     have hle2:(v++((V.drop 1).take (i+1)).flatMap (fun w=>sep++w)).length<=4194304:=by
      have e:(V.drop 1).flatMap (fun w=>sep++w)=((V.drop 1).take (i+1)).flatMap (fun w=>sep++w)++((V.drop 1).drop (i+1)).flatMap (fun w=>sep++w):=by
       rw[<- List.flatMap_append,List.take_append_drop]
      rw[hj0,e,List.length_append,List.length_append]at hV
      rw[List.length_append]
      omega
     have hstep:v++((V.drop 1).take (i+1)).flatMap (fun w=>sep++w)=((v++((V.drop 1).take i).flatMap (fun w=>sep++w))++sep)++V[1+i]'(by omega):=by
      rw[htk,List.flatMap_append]
      simp
     rw[hstep,List.length_append,List.length_append]at hle2
     refine ab (o_ (bA i rfl hil) ?_)
     refine cm (ld (1+i) (by omega)) ?_
     refine aH (wR (by omega)) (.cons .here .nil) fun r1=>?_
     refine ay ?_
     refine aH (wR (by rw[List.length_append];omega)) (.cons .here .nil) fun r2=>?_
     refine ay ?_
     refine bW ?_
     refine aP (m-1) (by omega) (.ex (i+1,r2) (.all ?_))
     refine ay ?_
     refine .pu ⟨by(try dsimp only);omega,rfl⟩ ?_
     (try dsimp only)
     rw[hstep]
     exact .refl
    ·have hie:i=V.length-1:=by omega
     have ht:(V.drop 1).take i=V.drop 1:=List.take_of_length_le (by rw[List.length_drop];omega)
     rw[ht,<- hj0]
     refine aa ?_
     refine aH (Iy (by
      intro e
      rw[e]at hjl
      simp at hjl
      omega)) (.cons .here .nil) fun _=>?_
     refine ay ?_
     refine bC () ?_
     exact aC
def mF (names:List (List UInt8))(f:Fd):Bool:=!names.any (fun n=>d8 f.1 n)
def fV (l:List Fd)(names:List (List UInt8)):List Fd:=l.filter (mF names)
theorem GT {l:List Fd}{N:List (List UInt8)}{i:Nat}(h:i<l.length):fV (l.take (i+1)) N=fV (l.take i) N++(if mF N l[i]then [l[i]]else []):=by
 unfold fV
 rw[List.take_succ_eq_append_getElem h,List.filter_append]
 congr 1
 cases he:mF N l[i] <;> simp[he]
theorem Cx (l:List Fd)(N:List (List UInt8)):(fV l N).length<=l.length:=List.length_filter_le _ _
end FD
namespace FD
open Go Go.Proofs Go.RowKit
theorem nP (a b:List Fd)(n:List UInt8):bN (a++b) n=bN a n++bN b n:=by unfold bN;rw[List.filter_append,List.map_append]
theorem iu (f:Fd)(l:List Fd)(n:List UInt8):bN (f::l) n=if d8 f.1 n then f.2::bN l n else bN l n:=by
 unfold bN
 rw[List.filter_cons]
 split <;> simp
theorem GU {l:List Fd}{n:List UInt8}(h:∀f∈l,d8 f.1 n=false):bN l n=[]:=by
 unfold bN
 rw[List.filter_eq_nil_iff.2 (fun f hf=>by rw[h f hf];decide)];rfl
theorem LE {a m n:List UInt8}(h:dt m=dt n):d8 a n=d8 a m:=by
 have hl:m.length=n.length:=by have:=congrArg List.length h;simpa [dt]using this
 unfold d8
 rw[h,hl]
theorem GV {l:List Fd}{N:List (List UInt8)}{m n:List UInt8}(hm:m∈N)(h:dt m=dt n):bN (fV l N) n=[]:=GU fun f hf=>by
 have h2:=(List.mem_filter.1 hf).2
 rw[LE h]
 unfold mF at h2
 cases he:d8 f.1 m with
 |false=>rfl
 |true=>
  have:N.any (fun n=>d8 f.1 n)=true:=List.any_eq_true.2 ⟨m,hm,he⟩
  rw[this]at h2;cases h2
def zF:List Fd->Nat
 |[]=>0
 |f::r=>f.1.length+f.2.length+3+zF r
theorem vC (f:Fd)(r:List Fd):zF (f::r)=f.1.length+f.2.length+3+zF r:=rfl
theorem IH {l:List Fd}{f:Fd}(h:f∈l):f.1.length+f.2.length+3<=zF l:=by
 induction l with
 |nil=>cases h
 |cons g r ih=>
  unfold zF
  rcases List.mem_cons.1 h with rfl|h
  ·omega
  ·have:=ih h;omega
theorem rX (l:List Fd):3 * l.length<=zF l:=by
 induction l with
 |nil=>simp[zF]
 |cons g r ih=>unfold zF;rw[List.length_cons];omega
theorem II {l:List Fd}(h:zF l<=2097152):TX l:=⟨by have:=rX l;omega,fun f hf=>by have:=IH hf;omega⟩
def zL:List (List UInt8)->Nat
 |[]=>0
 |v::r=>v.length+1+zL r
theorem AM (v:List UInt8)(r:List (List UInt8)):zL (v::r)=v.length+1+zL r:=rfl
theorem Ew {l:List (List UInt8)}{v:List UInt8}(h:v∈l):v.length+1<=zL l:=by
 induction l with
 |nil=>cases h
 |cons g r ih=>
  unfold zL
  rcases List.mem_cons.1 h with rfl|h
  ·omega
  ·have:=ih h;omega
theorem vE (l:List Fd)(n:List UInt8):zL (bN l n)<=zF l:=by
 induction l with
 |nil=>simp[bN,zL,zF]
 |cons g r ih=>
  rw[iu,vC]
  split
  ·rw[AM];omega
  ·omega
end FD
namespace FD
open Go Go.Proofs Go.RowKit Sh Sl T
theorem GW {N:List (List UInt8)}{f:Fd}{j:Nat}(h:j<N.length):mF (N.take (j+1)) f=(mF (N.take j) f&&!d8 f.1 N[j]):=by
 unfold mF
 rw[List.take_succ_eq_append_getElem h,List.any_append]
 simp
theorem AN {W:World}{A:HP}{g o n j:Nat}{N:List (List UInt8)}(hN:RdB W A (some ⟨g,o,none⟩) n (N.map bo))(h:j<N.length):bb p_ W [A] (af 9 (.pointer (some ⟨g,o+j,none⟩))) (bo N[j]):=
 cX hN (by rw[List.getElem?_map,List.getElem?_eq_getElem h];rfl)
theorem LF {W:World}{l:List Fd}{N:List (List UInt8)}{a na:Option Addr}{c nc:Nat}{A NA:HP}(hA:nO W A a l)(hl:TX l)(hN:RdB W NA na N.length (N.map bo))(hn:∀n∈N,n.length<=4194304)(hNl:N.length<=1099511627776):
  Cn p_ 51 [.slice a l.length c,.slice na N.length nc] W [A,NA] (fun r:Option Addr × Nat=> .slice r.1 (fV l N).length r.2)
  (fun r=>[A,NA,Sl 2 52 r.1 r.2 (fV l N).length ((fV l N).flatMap dH)]):=by
 (refine S.wy.cn fun F=>?_;unfold S.q_;simp only[ca_,na_])
 refine o_ aN (cg (fun m x y=>[ex fun st:(Option Addr × Nat) × Nat=>all [pu (m+st.2=l.length/\x= .slice st.1.1 (fV (l.take st.2) N).length st.1.2/\y= .int .i64 (st.2:Int)),Sl 2 52 st.1.1 st.1.2 (fV (l.take st.2) N).length ((fV (l.take st.2) N).flatMap dH),A,NA]]++F) l.length ?_ ?_)
 ·refine Imp.ex ((none,0),0) (.all ?_)
  refine ay ?_
  refine .pu ⟨rfl,rfl,rfl⟩ ?_
  exact cQ .refl
 intro m ds x y
 refine ay ?_
 refine aX Pick.here fun st=>aB Pick.here ?_
 obtain⟨⟨sa,sc⟩,i⟩:=st
 refine ay ?_
 refine aT Pick.here fun hi=>?_
 (try dsimp only at hi)
 obtain⟨hmi,rfl,rfl⟩:=hi
 refine aF aI .nil (fun h=>?_) (fun h=>?_)
 ·have hil:i<l.length:=by omega
  have hb:=hl.2 _ (List.getElem_mem hil)
  have hv:=GT (N:=N) hil
  have hvl:=Cx (l.take i) N
  have hl1:=hl.1
  rw[List.length_take]at hvl
  refine ab ?_
  obtain⟨g,o,rfl⟩:=AJ hA (Nat.zero_lt_of_lt hil)
  refine o_ (dx i rfl hil) ?_
  refine cm (wQ hA hil) ?_
  generalize l[i]=f at hb hv ⊢
  unfold AI
  refine bm fun b7=>?_
  refine bY .here (by rfl) (by rfl) (by intro u hu;simp at hu;rcases hu with rfl|rfl <;> rfl) ?_
  refine o_ aN (bj (fun k y=>pu (∃j:Nat,k+j=N.length/\y= .int .i64 (j:Int)/\mF (N.take j) f=true)::pt b7 (.cells #[bo f.1,bo f.2] 52)::Sl 2 52 sa sc (fV (l.take i) N).length ((fV (l.take i) N).flatMap dH)::A::NA::F) N.length ?_ ?_)
  ·refine .pu ⟨0,rfl,rfl,by simp[mF]⟩ ?_
   exact aC
  intro k ds2 y
  refine aT .here fun hj=>?_
  obtain⟨j,hkj,rfl,hno⟩:=hj
  refine aF aI .nil (fun h2=>?_) (fun h2=>?_)
  ·have hjl:j<N.length:=by omega
   have hnl:=hn _ (List.getElem_mem hjl)
   have hnt:=GW (f:=f) hjl
   refine ab ?_
   obtain⟨ng,no,rfl,_⟩:=hN.at_ (by omega)
   refine o_ (bA j rfl hjl) ?_
   refine cm (AN hN hjl) ?_
   refine o_ aw (ck ?_)
   refine aH (equal (a:=f.1) (b:=N[j]) (by omega) (by omega)) .nil fun _=>?_
   refine ay ?_
   cases he:d8 f.1 N[j]with
   |true=>
    refine ab (bW ?_)
    have hbad:mF N f=false:=by
     unfold mF
     rw[List.any_eq_true.2 ⟨_,List.getElem_mem hjl,he⟩];rfl
    rw[hbad,if_neg (by decide),List.append_nil]at hv
    refine bH (m-1) (by omega) (.ex ((sa,sc),i+1) (.all ?_))
    refine ay ?_
    (try dsimp only)
    rw[hv]
    refine .pu ⟨by omega,rfl,by norm_cast⟩ ?_
    exact aC
   |false=>
    refine aa (bW ?_)
    refine aP (k-1) (by omega) (.pu ⟨j+1,by omega,by norm_cast,by rw[hnt,hno,he];rfl⟩ ?_)
    exact aC
  ·have hjl:j=N.length:=by omega
   subst hjl
   rw[List.take_length]at hno
   rw[hno,if_pos rfl]at hv
   refine aa (sP ?_)
   refine fp (n:=1) (vs:=[AI f]) rfl (by omega) rfl (by intro v hv;rw[List.mem_singleton.1 hv];rfl) (by omega) fun gb=>?_
   refine co (m:=1) (news:=dH f) (by(repeat constructor):Pick _ (Sl 2 52 sa sc (fV (l.take i) N).length ((fV (l.take i) N).flatMap dH)) _) (dq (s:=2) (e':=52) (by kernel_rfl) .here (by rfl) (by intro u hu;simp[AI,Value.cells]at hu;rcases hu with rfl|rfl <;> rfl)) (by omega) (by omega) fun a' c'=>?_
   refine bW ?_
   refine bH (m-1) (by omega) (.ex ((a',c'),i+1) (.all ?_))
   refine ay ?_
   (try dsimp only)
   rw[hv,List.length_append,List.flatMap_append,List.length_singleton,List.flatMap_cons,List.flatMap_nil,List.append_nil]
   refine .pu ⟨by omega,rfl,by norm_cast⟩ ?_
   exact aC
 ·have:i=l.length:=by omega
  subst this
  rw[List.take_length]
  refine aa (bC ((sa,sc)) ?_)
  exact aC
theorem OO (c:UInt8):Ef c=(decide ((c.toNat:Int)<=32)||decide (c=34)||decide (c=127)):=by
 have e:decide ((c.toNat:Int)<=32)=decide (c<=32):=by
  rw[decide_eq_decide,UInt8.le_iff_toNat_le]
  simp only[show(32:UInt8).toNat=32 from rfl]
  omega
 rw[e]
 unfold Ef
 by_cases h1:c<=32 <;> by_cases h2:c=34 <;> by_cases h3:c=127 <;> simp[h1,h2,h3]
theorem IJ (l:List UInt8):(pR l).length<=l.length:=by
 unfold pR
 split
 ·simp
 ·exact Nat.le_refl _
theorem Vt {W:World}{l:List UInt8}(hl:l.length<=4611686018427387904):Cn p_ 45 [bo l] W [] (fun _:Unit=> .tuple #[Ev (lQ l).1,.bool (lQ l).2]) (fun _=>[]):=by
 have hvl:=IJ l
 have bad:po (pR l)=false->lQ l=((false,[]),false):=fun h=>by unfold lQ;rw[h];rfl
 (refine S.Av.cn fun F=>?_;unfold S.wx;simp only[ca_,na_])
 refine bm fun b2=>?_
 refine c_ (Oy hl) fun _=>?_
 refine o_ (bJ (vs:=[_,_]) .here) ?_
 refine o_ (bJ (vs:=[_,_]) (.there .here)) ?_
 obtain⟨v,hv⟩:∃v,v=pR l:=⟨_,rfl⟩
 rw[<- hv]at hvl bad ⊢
 refine o_ cp (o_ aI ?_)
 by_cases h2:v.length<2
 ·have hno:po v=false:=by
   unfold po
   rw[dF_ (fun c=>by omega)];rfl
  rw[bad hno,dT_ (by omega)]
  refine aA (aA (aA (o_ aq (aA (aA (aA (aA (aA (aA (o_ aq (ab (o_ cu ?_))))))))))));refine gS ?_;(((refine' aQ (cN ?hn) ?hi ?_);(case hi=>exact aC);(case hn=>rfl)))
  refine bC () ?_
  exact aC
 ·rw[dF_ (by omega)]
  refine IC (fun _=>iY (l:=v) 0 rfl (by omega)) (fun _=>Lt 34 rfl) ?_
  rw[Bool.false_or]
  by_cases h3:v[0]'(by omega)=34
  ·rw[dF_ (fun c=>c h3)]
   refine ag (ag (ag (o_ cp (ag (fI ?_)))));refine ag (o_ (iY (v.length-1) (by omega) (by omega)) ?_)
   refine ag (o_ (Lt 34 rfl) ?_)
   refine o_ ap ?_
   by_cases h4:v[v.length-1]'(by omega)=34
   ·rw[dF_ (fun c=>c h4)]
    have hok:po v= !(za v).any Ef:=by
     unfold po
     rw[dT_ ⟨by omega,by rw[List.getElem?_eq_getElem (by omega),h3],by rw[List.getElem?_eq_getElem (by omega),h4]⟩,Bool.true_and]
    refine aa (o_ cp (fI ?_))
    refine o_ (Eq 1 (v.length-1) rfl (by omega) (by omega) (by omega)) ?_
    rw[show sub v 1 (v.length-1)=za v from rfl]
    have hml:(za v).length<=v.length:=by simp[za,sub];omega
    refine tJ Tryz.underlying23 Tryz.underlying5 fun g c rest=>?_
    refine o_ aN (bj (fun m y=>[ex fun i:Nat=>all [pu (m+i=(za v).length/\y= .int .i64 (i:Int)/\(za v).any Ef=((za v).drop i).any Ef),pt g (.cells ((za v).map B++rest).toArray 5 ((za v).length+rest.length,(za v).length+rest.length+1)),pt b2 (.cells #[.bool false,.string ⟨#[]⟩] 48 (0,0))]]++F) (za v).length ?_ ?_)
    ·refine Imp.ex 0 (.all ?_)
     refine ay ?_
     exact .pu ⟨by omega,rfl,rfl⟩ .refl
    intro m ds y
    refine ay ?_
    refine aX Pick.here fun i=>aB Pick.here ?_
    refine ay ?_
    refine aT Pick.here fun hi=>?_
    obtain⟨hmi,rfl,hany⟩:=hi
    refine aF aI .nil (fun h=>?_) (fun h=>?_)
    ·have hil:i<(za v).length:=by omega
     rw[dr hil,List.any_cons]at hany
     refine ab (o_ (bA i rfl hil) ?_)
     rw[Nat.zero_add]
     refine am (iA (v:=B (za v)[i]) (by simp[List.getElem?_append,hil])) (.pick .here .nil) ?_
     refine o_ (dX (q:= .u8) (a:=((za v)[i].toNat:Int)) (b:=32)) ?_
     refine IB (fun _=>wP 34 rfl) ?_
     refine IB (fun _=>wP 127 rfl) ?_
     rw[<- OO]
     cases hb:Ef (za v)[i]with
     |true=>
      rw[hb,Bool.true_or]at hany
      rw[hany]at hok
      rw[bad hok]
      refine ab (o_ cu ?_);refine gS ?_;(((refine' aQ (cN ?hn) ?hi ?_);(case hi=>exact aC);(case hn=>rfl)))
      refine bC () ?_
      exact aC
     |false=>
      rw[hb,Bool.false_or]at hany
      refine aa (bW ?_)
      refine aP (m-1) (by omega) (.ex (i+1) (.all ?_))
      refine ay ?_
      exact .pu ⟨by omega,rfl,hany⟩ .refl
    ·rw[List.drop_of_length_le (by omega),List.any_nil]at hany
     rw[hany]at hok
     have e:lQ l=((mf l,za v),true):=by
      unfold lQ
      rw[<- hv,hok];rfl
     rw[e]
     refine aa (o_ cu ?_);refine gS ?_;(((refine' aQ (cN ?hn) ?hi ?_);(case hi=>exact aC);(case hn=>rfl)))
     refine bC () ?_
     exact aC
   ·have hno:po v=false:=by
     unfold po
     rw[dF_ (fun c=>h4 (by have:=c.2.2;rw[List.getElem?_eq_getElem (by omega)]at this;exact Option.some.inj this))];rfl
    rw[bad hno,dT_ h4]
    refine ab (o_ cu ?_);refine gS ?_;(((refine' aQ (cN ?hn) ?hi ?_);(case hi=>exact aC);(case hn=>rfl)))
    refine bC () ?_
    exact aC
  ·have hno:po v=false:=by
    unfold po
    rw[dF_ (fun c=>h3 (by have:=c.2.1;rw[List.getElem?_eq_getElem (by omega)]at this;exact Option.some.inj this))];rfl
   rw[bad hno,dT_ h3]
   refine aA (aA (aA (aA (aA (aA (o_ aq (ab (o_ cu ?_))))))));refine gS ?_;(((refine' aQ (cN ?hn) ?hi ?_);(case hi=>exact aC);(case hn=>rfl)))
   refine bC () ?_
   exact aC
theorem IK {W:World}{l:List UInt8}(hl:l.length<=4611686018427387904):Cn p_ 21 [bo l] W [] (fun _:Unit=> .tuple #[Ev (lQ l).1,.int .i64 (if(lQ l).2 then 0 else 42)]) (fun _=>[]):=by
 have hbad:(lQ l).2=false->(lQ l).1=(false,[]):=by
  unfold lQ
  split
  ·intro h;cases h
  ·intro _;rfl
 (refine S.qW.cn fun F=>?_;unfold S.mh;simp only[ca_,na_])
 refine bm fun b2=>?_
 refine c_ (Vt hl) fun _=>?_
 refine o_ (bJ (vs:=[_,_]) .here) ?_
 refine o_ (bJ (vs:=[_,_]) (.there .here)) ?_
 refine bm fun b4=>?_
 unfold Ev
 cases h:(lQ l).2 with
 |true=>
  refine gS ?_;refine o_ eT (aa (sP ?_));refine gS ?_;(((refine' aQ (cN ?hn) ?hi ?_);(case hi=>exact aC);(case hn=>rfl)))
  refine bC () ?_
  exact aC
 |false=>
  rw[hbad h]
  refine gS ?_;refine o_ ee (ab (o_ cu ?_));refine gS ?_;(((refine' aQ (cN ?hn) ?hi ?_);(case hi=>exact aC);(case hn=>rfl)))
  refine bC () ?_
  exact aC
theorem LG {W:World}{x:Bool × List UInt8}(hl:x.2.length<=4611686018427387904):Cn p_ 52 [Ev x] W [] (fun _:Unit=>bo (GH x)) (fun _=>[]):=by
 (refine S.th.cn fun F=>?_;unfold S.nr;simp only[ca_,na_])
 unfold Ev
 refine cv fun b1=>?_
 refine eR (fun z=>pu (z=bo (if x.1 then [87,47]else []))::pt b1 (.cells #[.bool x.1,bo x.2] 48 (0,0))::F) ?_ ?_
 ·intro ds z
  refine aT .here fun hz=>?_
  subst hz
  have hw:((if x.1 then [87,47]else []):List UInt8).length<=2:=by cases x.1 <;> simp
  refine o_ (B4 (b:=[34]) (by simp;omega)) ?_
  refine o_ aw (ck ?_)
  refine o_ (B4 (by simp;omega)) ?_
  refine o_ (B4 (b:=[34]) (by simp;omega)) ?_
  refine bf () (by unfold GH;simp) ?_
  exact aC
 ·(refine o_ aw ?_);refine ck ?_
  cases hx:x.1 with
  |true=>
   refine ab (a_ (.pu rfl ?_))
   exact .refl
  |false=>
   refine aa (a_ (.pu rfl ?_))
   exact .refl
theorem OP (c:UInt8):B8 c=((decide ((c.toNat:Int)<32)&&decide (c≠9))||decide (c=127)):=by
 have e:decide ((c.toNat:Int)<32)=decide (c<32):=by
  rw[decide_eq_decide,UInt8.lt_iff_toNat_lt]
  simp only[show(32:UInt8).toNat=32 from rfl]
  omega
 rw[e]
 unfold B8
 by_cases h1:c<32 <;> by_cases h2:c=9 <;> by_cases h3:c=127 <;> simp[h1,h2,h3]
theorem LH {a:Option Addr}{n:Nat}(h:0<n->∃g,a=some ⟨g,0,none⟩):a=none->n=0:=fun e=>by
 rcases Nat.eq_zero_or_pos n with c|c
 ·exact c
 ·obtain⟨g,hg⟩:=h c
  rw[e]at hg;cases hg
theorem Ft {l:List UInt8}(h:0<l.length):yt l=if l[0]=34 then qN [] (l.drop 1)else([],false):=by
 cases l with
 |nil=>simp at h
 |cons c r=>rfl
theorem LI {W:World}{l:List UInt8}(hl:l.length<=4194304):Cn p_ 97 [bo l] W [] (fun _:Unit=> .tuple #[bo (yt l).1,.bool (yt l).2]) (fun _=>[]):=by
 (refine S.tj.cn fun F=>?_;unfold S.nt;simp only[ca_,na_])
 refine o_ cp (o_ aI ?_)
 have e0:(Value.string ⟨#[]⟩)=bo []:=rfl
 rw[e0]
 by_cases h2:l.length<2
 ·have hno:yt l=([],false):=by
   match l,h2 with
   |[],_=>rfl
   |[c],_=>
    show(if c=34 then qN [] []else([],false))=([],false)
    split <;> rfl
   |_::_::_,h=>exact absurd h (by simp)
  rw[hno,dT_ (by omega)]
  refine aA (aA (aA (o_ aq (ab (bC () ?_)))))
  exact aC
 ·rw[dF_ (by omega)]
  refine IC (fun _=>iY (l:=l) 0 rfl (by omega)) (fun _=>Lt 34 rfl) ?_
  rw[Bool.false_or]
  by_cases h3:l[0]'(by omega)=34
  ·rw[dF_ (fun c=>c h3)]
   have hu:yt l=qN [] (l.drop 1):=by rw[Ft (by omega),if_pos h3]
   rw[hu]
   refine aa (cg (fun m x y=>[ex fun st:(List UInt8 × Option Addr × Nat) × Nat=>all [pu (m+st.2=l.length+1/\st.2<=l.length/\x= .slice st.1.2.1 st.1.1.length st.1.2.2/\y= .int .i64 (st.2:Int)/\st.1.1.length<=st.2/\qN [] (l.drop 1)=qN st.1.1 (l.drop st.2)),Sl 1 5 st.1.2.1 st.1.2.2 st.1.1.length (st.1.1.map B)]]++F) l.length ?_ ?_)
   ·refine Imp.ex (([],none,0),1) (.all ?_)
    refine ay ?_
    refine .pu ⟨rfl,by(try dsimp only);omega,rfl,rfl,by simp,rfl⟩ ?_
    exact cQ .refl
   intro m ds x y
   refine ay ?_
   refine aX Pick.here fun st=>aB Pick.here ?_
   obtain⟨⟨acc,sa,sc⟩,i⟩:=st
   refine ay ?_
   refine aT Pick.here fun hi=>?_
   (try dsimp only at hi)
   obtain⟨hmi,hil,rfl,rfl,hac,hun⟩:=hi
   refine o_ cp (aF aI .nil (fun h=>?_) (fun h=>?_))
   rotate_left
   ·have hie:i=l.length:=by omega
    rw[show l.drop i=[]from List.drop_of_length_le (by omega)]at hun
    have hun:qN [] (l.drop 1)=([],false):=by rw[hun];rfl
    rw[hun]
    refine aa (bC () ?_)
    exact aC
   have hlt:i<l.length:=by omega
   rw[dr hlt,GI]at hun
   refine ab (o_ (iY i rfl hlt) ?_)
   refine lO (fun z5 z6=>(ex fun st:Nat × UInt8=>pu (z5= .int .i64 (st.1:Int)/\z6=B st.2/\i<=st.1/\st.1<l.length/\qN [] (l.drop 1)=if B8 st.2 then([],false)else qN (acc++[st.2]) (l.drop (st.1+1))))::Sl 1 5 sa sc acc.length (acc.map B)::F) ?_ ?_
   ·intro ds2 z5 z6
    refine aX .here fun st=>aT .here fun hz=>?_
    obtain⟨j,d⟩:=st
    (try dsimp only at hz)
    obtain⟨rfl,rfl,hij,hjl,hun2⟩:=hz
    refine o_ (aI (q:= .u8) (a:=(d.toNat:Int)) (b:=32)) ?_
    refine wM (fun _=>Lt 9 rfl) ?_
    refine IB (fun _=>wP 127 rfl) ?_
    rw[<- OP]
    cases hb:B8 d with
    |true=>
     rw[hb,if_pos rfl]at hun2
     rw[hun2]
     refine ab (bC () ?_)
     exact aC
    |false=>
     rw[hb,if_neg (by decide)]at hun2
     refine aa (kF fun gb=>?_)
     refine co (m:=1) (news:=[B d]) (by repeat constructor) (dq (e':=5) (by kernel_rfl) .here (by rfl) (by intro u hu;rw[List.mem_singleton.1 hu];rfl)) (by omega) (by omega) fun a' c'=>?_
     refine bW ?_
     refine bH (m-(j+1-i)) (by omega) (.ex ((acc++[d],a',c'),j+1) (.all ?_))
     refine ay ?_
     refine .pu ⟨by(try dsimp only);omega,by(try dsimp only);omega,by simp,rfl,by simp;omega,hun2⟩ ?_
     rw[List.length_append,List.map_append]
     simp only[List.length_singleton,List.map_cons,List.map_nil]
     exact aC
   ·refine o_ (wP 34 rfl) ?_
    by_cases h34:l[i]=34
    ·rw[dT_ h34]
     rw[if_pos h34]at hun
     rw[hun]
     refine ab (aJ .here fun f1 f2 f3 f4=>?_)
     refine am (ph (l:=acc) (dh (by simp) f4) (LH f4)) (.pick .here .nil) ?_
     refine bW ?_
     refine o_ cp (o_ bF ?_)
     have e:decide ((i:Int)+1=(l.length:Int))=(l.drop (i+1)).isEmpty:=by
      rw[Bool.eq_iff_iff]
      simp only[decide_eq_true_iff,List.isEmpty_iff,List.drop_eq_nil_iff]
      omega
     rw[e]
     refine bC () ?_
     exact aC
    ·rw[dF_ h34]
     rw[if_neg h34]at hun
     refine aa (o_ (wP 92 rfl) ?_)
     by_cases h92:l[i]=92
     ·rw[dT_ h92]
      rw[if_pos h92]at hun
      refine ab (bW ?_)
      refine o_ cp (aF bF .nil (fun h5=>?_) (fun h5=>?_))
      ·rw[show l.drop (i+1)=[]from List.drop_of_length_le (by omega)]at hun
       simp only at hun
       rw[hun]
       refine ab (bC () ?_)
       exact aC
      ·have hi1:i+1<l.length:=by omega
       rw[dr hi1]at hun
       simp only at hun
       refine aa (o_ (iY (i+1) rfl hi1) ?_)
       refine a_ (.ex (i+1,l[i+1]) (.pu ⟨rfl,rfl,by(try dsimp only);omega,hi1,hun⟩ .refl))
     ·rw[dF_ h92]
      rw[if_neg h92]at hun
      refine aa (a_ (.ex (i,l[i]) (.pu ⟨rfl,rfl,Nat.le_refl _,hlt,hun⟩ .refl)))
  ·rw[dT_ h3]
   have hno:yt l=([],false):=by rw[Ft (by omega),if_neg h3]
   rw[hno]
   refine ab (bC () ?_)
   exact aC
theorem LJ {W:World}[hG:Gl W]{l:List UInt8}(hl:l.length<=2097152):Cn p_ 35 [bo l] W [] (fun r:Option Addr × Nat=> .tuple #[.slice r.1 (sQ (gy l)).1.length r.2,.int .i64 (sQ (gy l)).2])
  (fun r=>[Sl 2 67 r.1 r.2 (sQ (gy l)).1.length ((sQ (gy l)).1.flatMap ei)]):=by
 (refine S.tg.cn fun F=>?_;unfold S.nq;simp only[ca_,na_])
 refine o_ cu ?_
 refine aH (Cw hl fun w hw=>OL (by omega)) .nil fun r=>?_
 refine ay ?_
 refine o_ (bJ (vs:=[_,_]) .here) ?_
 refine o_ (bJ (vs:=[_,_]) (.there .here)) ?_
 refine bC r ?_
 exact .refl
theorem GX {W:World}{l:List UInt8}(hl:l.length<=4194304):Cn p_ 62 [bo l] W [] (fun _:Unit=> .tuple #[Eu (Ap l).1,.bool (Ap l).2]) (fun _=>[]):=by
 have hA:=qO (c:=61) l
 have hB:=rU (c:=61) l
 (refine S.pT.cn fun F=>?_;unfold S.kY;simp only[ca_,na_])
 refine bm fun b2=>?_
 refine c_ (Lr (c:=61) (l:=l) (by omega)) fun _=>?_
 refine o_ (bJ (vs:=[_,_,_]) .here) ?_
 refine o_ (bJ (vs:=[_,_,_]) (.there .here)) ?_
 refine o_ (bJ (vs:=[_,_,_]) (.there (.there .here))) ?_
 refine o_ aw (fX ?_);refine o_ aw (fX ?_);refine o_ aw (fX ?_);refine o_ aw (ck ?_)
 refine c_ (Ir (l:=cC 61 l) (by omega)) fun _=>?_
 refine o_ aw (ck ?_)
 refine c_ (rP (l:=cC 61 l) (by omega)) fun _=>?_
 refine o_ aw (fX ?_);refine o_ aw (ck ?_)
 cases hs:sX 61 l with
 |false=>
  have e:Ap l=(⟨dt (cC 61 l),cL 61 l,false⟩,qM (cC 61 l)):=by unfold Ap;rw[hs];rfl
  rw[e]
  refine ah (ah (ah (ah (o_ ap (aa (sP ?_))))));refine gS ?_;(((refine' aQ (cN ?hn) ?hi ?_);(case hi=>exact aC);(case hn=>rfl)))
  refine bC () ?_
  exact aC
 |true=>
  refine ag (o_ aw (ag (ck ?_)));refine ag (c_ (Ir (l:=cL 61 l) (by omega)) fun _=>?_)
  refine ag (o_ g_ (o_ aq ?_))
  cases ht:qM (cL 61 l)with
  |true=>
   have e:Ap l=(⟨dt (cC 61 l),cL 61 l,true⟩,qM (cC 61 l)):=by unfold Ap;rw[hs,ht];rfl
   rw[e,show(!true)=false from rfl]
   refine aa (sP ?_);refine gS ?_;(((refine' aQ (cN ?hn) ?hi ?_);(case hi=>exact aC);(case hn=>rfl)))
   refine bC () ?_
   exact aC
  |false=>
   have e:Ap l=(⟨dt (cC 61 l),(yt (cL 61 l)).1,true⟩,qM (cC 61 l)&&(yt (cL 61 l)).2):=by unfold Ap;rw[hs,ht];rfl
   rw[e,show(!false)=true from rfl]
   refine ab (o_ aw (ck ?_))
   refine c_ (LI (l:=cL 61 l) (by omega)) fun _=>?_
   refine iC ?_;refine iC ?_;refine o_ aw (fX ?_)
   refine AF ?_
   refine sP ?_;refine gS ?_;(((refine' aQ (cN ?hn) ?hi ?_);(case hi=>exact aC);(case hn=>rfl)))
   refine bC () ?_
   exact aC
theorem Ex {W:World}{l:List UInt8}(hl:l.length<=2097152):Cn p_ 43 [bo l] W [] (fun r:Option Addr × Nat=> .tuple #[.slice r.1 (sQ (wb l)).1.length r.2,.int .i64 (sQ (wb l)).2])
  (fun r=>[Sl 3 78 r.1 r.2 (sQ (wb l)).1.length ((sQ (wb l)).1.flatMap rT)]):=by
 (refine S.oU.cn fun F=>?_;unfold S.kh;simp only[ca_,na_])
 refine o_ cu ?_
 refine aH (IA hl fun w hw=>GX (by omega)) .nil fun r=>?_
 refine ay ?_
 refine o_ (bJ (vs:=[_,_]) .here) ?_
 refine o_ (bJ (vs:=[_,_]) (.there .here)) ?_
 refine bC r ?_
 exact .refl
theorem GY {W:World}{xs:List (List UInt8 × Int)}{i n g c:Nat}(h:i<xs.length)(hn:n=xs.length):bb p_ W [Sl 2 67 (some ⟨g,0,none⟩) c n (xs.flatMap ei)] (af 67 (.pointer (some ⟨g,0+i * 2,none⟩))) (lX xs[i]):=by
 subst hn
 exact lP (vs:=ei xs[i]) (sV (dM (f:=ei) (s:=2) (fun _=>rfl) xs) (fun _=>⟨g,rfl⟩)) rfl (fun j hj=>gA (f:=ei) (s:=2) (fun _=>rfl) xs i j h hj)
theorem OQ {W:World}{xs:List Dir}{i n g c:Nat}(h:i<xs.length)(hn:n=xs.length):bb p_ W [Sl 3 78 (some ⟨g,0,none⟩) c n (xs.flatMap rT)] (af 78 (.pointer (some ⟨g,0+i * 3,none⟩))) (Eu xs[i]):=by
 subst hn
 exact lP (vs:=rT xs[i]) (sV (dM (f:=rT) (s:=3) (fun _=>rfl) xs) (fun _=>⟨g,rfl⟩)) rfl (fun j hj=>gA (f:=rT) (s:=3) (fun _=>rfl) xs i j h hj)
def wT (c:UInt8):Nat->List UInt8->List (List UInt8)
 |0,_=>[]
 |f+1,l=>if l=[]then []else if cf (cC c l)=[]then wT c f (cL c l)else cf (cC c l)::wT c f (cL c l)
def vk (c:UInt8)(l:List UInt8):List (List UInt8):=wT c (l.length+1) l
theorem jl (c:UInt8):∀l:List UInt8,(cC c l).length<=l.length/\(l≠[]->(cL c l).length<l.length)
 |[]=>⟨Nat.le_refl _,fun h=>absurd rfl h⟩
 |x::l=>by
  obtain⟨h1,h2⟩:=jl c l
  constructor
  ·unfold cC;split <;> simp;omega
  ·intro _
   unfold cL
   split
   ·simp
   ·by_cases hl:l=[]
    ·subst hl;simp[cL]
    ·have:=h2 hl;simp;omega
theorem IL (c:UInt8){l:List UInt8}(h:l≠[]):∀f,l.length<f->wT c f l=if cf (cC c l)=[]then wT c (f-1) (cL c l)else cf (cC c l)::wT c (f-1) (cL c l)
 |0,hf=>by omega
 |f+1,hf=>by rw[wT,if_neg h,Nat.add_sub_cancel]
theorem Cy (c:UInt8):∀(n:Nat) (l:List UInt8),l.length<=n->∀f g,l.length<f->l.length<g->wT c f l=wT c g l
 |n,l,hn,0,g,hf,hg=>by omega
 |n,l,hn,f+1,0,hf,hg=>by omega
 |n,l,hn,f+1,g+1,hf,hg=>by
  rw[wT,wT]
  by_cases h:l=[]
  ·rw[if_pos h,if_pos h]
  ·rw[if_neg h,if_neg h]
   have hl:=(jl c l).2 h
   cases n with
   |zero=>have:l=[]:=List.eq_nil_of_length_eq_zero (by omega);exact absurd this h
   |succ n=>rw[Cy c n (cL c l) (by omega) f g (by omega) (by omega)]
theorem AO (c:UInt8):vk c []=[]:=rfl
theorem Cz (c:UInt8){l:List UInt8}(h:l≠[]):vk c l=(if cf (cC c l)=[]then []else [cf (cC c l)])++vk c (cL c l):=by
 have hl:=(jl c l).2 h
 unfold vk
 rw[IL c h _ (by omega),Nat.add_sub_cancel,Cy c _ (cL c l) (Nat.le_refl _) l.length ((cL c l).length+1) hl (by omega)]
 split <;> rfl
theorem vF (c:UInt8):∀(n:Nat) (l:List UInt8),l.length<=n->(vk c l).length<=l.length/\∀w∈vk c l,w.length<=l.length
 |0,l,h=>by
  have:l=[]:=List.eq_nil_of_length_eq_zero (by omega)
  subst this
  exact⟨Nat.le_refl _,fun w hw=>by simp[AO]at hw⟩
 |n+1,l,h=>by
  by_cases hl:l=[]
  ·subst hl;exact⟨Nat.le_refl _,fun w hw=>by simp[AO]at hw⟩
  ·have h1:=(jl c l).2 hl
   obtain⟨i1,i2⟩:=vF c n (cL c l) (by omega)
   rw[Cz c hl]
   constructor
   ·rw[List.length_append]
    split <;> simp <;> omega
   ·intro w hw
    rcases List.mem_append.1 hw with hw|hw
    ·split at hw
     ·cases hw
     ·rw[List.mem_singleton.1 hw]
      exact Nat.le_trans (m9 _) (jl c l).1
    ·exact Nat.le_trans (i2 w hw) (by omega)
theorem split {W:World}{l:List UInt8}{c:UInt8}(hl:l.length<=4194304):Cn p_ 19 [bo l,Sl.B c] W [] (fun r:Option Addr × Nat=> .slice r.1 (vk c l).length r.2) (fun r=>[Sl 1 9 r.1 r.2 (vk c l).length ((vk c l).map bo)]):=by
 have hnum:=(vF c _ l (Nat.le_refl _)).1
 (refine S.yw.cn fun F=>?_;unfold S.ux;simp only[ca_,na_])
 refine cg (fun m x y=>(ex fun st:(Option Addr × Nat) × (List UInt8 × List (List UInt8))=>all [pu (m=st.2.1.length/\x=bo st.2.1/\y= .slice st.1.1 st.2.2.length st.1.2/\vk c l=st.2.2++vk c st.2.1/\st.2.1.length<=l.length),Sl 1 9 st.1.1 st.1.2 st.2.2.length (st.2.2.map bo)])::F) l.length ?_ ?_
 ·refine .ex ((none,0),(l,[])) (.all ?_)
  refine ay ?_
  refine .pu ⟨rfl,rfl,rfl,rfl,Nat.le_refl _⟩ ?_
  exact cQ .refl
 intro m ds x y
 refine aX .here fun st=>aB .here ?_
 obtain⟨⟨sa,sc⟩,⟨r,out⟩⟩:=st
 refine ay ?_
 refine aT .here fun hi=>?_
 (try dsimp only at hi)
 obtain⟨rfl,rfl,rfl,hsp,hrl⟩:=hi
 (try dsimp only)
 have hol:=congrArg List.length hsp
 rw[List.length_append]at hol
 refine o_ cp (o_ bq ?_)
 by_cases hr:r=[]
 ·subst hr
  rw[dF_ (by decide)]
  refine aa ?_
  rw[AO,List.append_nil]at hsp
  rw[hsp]
  refine bC ((sa,sc)) ?_
  exact aC
 have hr0:0<r.length:=List.length_pos_iff.2 hr
 rw[dT_ (by omega)]
 refine ab (lO (fun x y=>pu (x=bo (cL c r)/\y=bo (cC c r))::Sl 1 9 sa sc out.length (out.map bo)::F) ?_ ?_)
 rotate_left
 ·refine c_ (indexByte (l:=r) (c:=c)) fun _=>?_
  obtain⟨k1,k2⟩:=Ep (c:=c) (l:=r)
  refine aF dg .nil (fun h=>?_) (fun h=>?_)
  ·have hm:=tK.1 h
   obtain⟨_,q1,q2⟩:=k1 hm
   have hix:BN r c=((r.findIdx (· ==c):Nat):Int):=by unfold BN;rw[if_pos hm]
   have hfl:r.findIdx (· ==c)<r.length:=List.findIdx_lt_length_of_exists ⟨c,hm,by simp⟩
   rw[hix]
   refine ab (bM (t_ (v9 (r.findIdx (· ==c)) rfl (by omega)) ?_))
   refine t_ (ct (by omega) (by omega)) ?_
   refine t_ (v_ (r.findIdx (· ==c)+1) (by norm_cast) (by omega)) ?_
   rw[q1,q2]
   refine a_ (.pu ⟨rfl,rfl⟩ ?_)
   exact aC
  ·have hm:c∉r:=fun d=>h (tK.2 d)
   obtain⟨_,q1,q2⟩:=k2 hm
   refine aa ?_
   rw[q1,q2]
   refine a_ (.pu ⟨rfl,rfl⟩ ?_)
   exact aC
 intro ds2 x y
 refine aT .here fun hi=>?_
 obtain⟨rfl,rfl⟩:=hi
 obtain⟨l1,l2⟩:=jl c r
 have l2:=l2 hr
 have hst:=Cz c hr
 refine c_ (Cu (l:=cC c r) (by omega)) fun _=>?_
 refine o_ (kb (m:=[])) ?_
 by_cases ht:cf (cC c r)=[]
 ·rw[dF_ (fun h=>h ht)]
  rw[if_pos ht,List.nil_append]at hst
  refine aa (bH (cL c r).length l2 (.ex ((sa,sc),(cL c r,out)) (.all ?_)))
  refine ay ?_
  refine .pu ⟨rfl,rfl,rfl,by rw[hsp,hst],by(try dsimp only);omega⟩ ?_
  exact aC
 ·rw[dT_ ht]
  rw[if_neg ht]at hst
  refine ab (pS (n:=1) (vs:=[bo (cf (cC c r))]) rfl rfl (by intro v hv;rw[List.mem_singleton.1 hv];rfl) (by omega) fun gb=>?_)
  refine co (m:=1) (news:=[bo (cf (cC c r))]) (by(repeat constructor):Pick _ (Sl 1 9 sa sc out.length (out.map bo)) _) (dq (s:=1) (e':=9) (by kernel_rfl) .here (by rfl) (by intro u hu;rw[List.mem_singleton.1 hu];rfl)) (by omega) (by omega) fun a' c'=>?_
  refine bH (cL c r).length l2 (.ex ((a',c'),(cL c r,out++[cf (cC c r)])) (.all ?_))
  refine ay ?_
  rw[List.length_append,List.map_append]
  refine .pu ⟨rfl,rfl,rfl,by rw[hsp,hst,List.append_assoc],by(try dsimp only);omega⟩ ?_
  exact aC
end FD
namespace Sl
open Go Go.RowKit Sh
theorem RW {n:Nat}(h:n<18446744073709551616):IntKind.u64.wrap (n:Int)=n:=by
 simp only[IntKind.wrap,IntKind.bits,IntKind.signed]
 simp;omega
theorem i_ {n:Nat}(h:n<4294967296):IntKind.u32.wrap (n:Int)=n:=by
 simp only[IntKind.wrap,IntKind.bits,IntKind.signed]
 simp;omega
theorem RX {n:Nat}(h:n<256):IntKind.u8.wrap (n:Int)=n:=by
 simp only[IntKind.wrap,IntKind.bits,IntKind.signed]
 simp;omega
theorem qj {P:Program}{W:World}{t:TypeId}{q:IntKind}{a b:Nat}(hb:0<b)(hw:q.wrap ((a / b:Nat):Int)=((a / b:Nat):Int)):bb P W [] (ae .quo t (.int q (a:Int)) (.int q (b:Int))) (.int q ((a / b:Nat):Int)):=fun w _=>by
 have h0:¬(b:Int)=0:=by omega
 have hw':q.wrap ((a:Int) / (b:Int))=(a:Int) / (b:Int):=by rw[show(a:Int) / (b:Int)=((a / b:Nat):Int) by norm_cast,hw]
 simp[ae,sv,eqGuard,binOp,Op.intDiv,h0,show ¬b=0 by omega,hw']
theorem qk {P:Program}{W:World}{t:TypeId}{q:IntKind}{a b:Nat}(hb:0<b):bb P W [] (ae .rem t (.int q (a:Int)) (.int q (b:Int))) (.int q ((a%b:Nat):Int)):=by
 have:=uq (P:=P) (W:=W) (t:=t) (q:=q) (a:=(a:Int)) (b:=(b:Int)) (by omega) (by omega)
 rw[show(a:Int)%(b:Int)=((a%b:Nat):Int) by norm_cast]at this
 exact this
theorem ql {P:Program}{W:World}{t:TypeId}{q:IntKind}{a b:Nat}(hw:q.wrap ((a * b:Nat):Int)=((a * b:Nat):Int)):bb P W [] (ae .mul t (.int q (a:Int)) (.int q (b:Int))) (.int q ((a * b:Nat):Int)):=by
 have:=HY (P:=P) (W:=W) (t:=t) (q:=q) (a:=(a:Int)) (b:=(b:Int))
 rw[show(a:Int) * (b:Int)=((a * b:Nat):Int) by norm_cast,hw]at this
 exact this
theorem IM {P:Program}{W:World}{t:TypeId}{q:IntKind}{a b:Nat}(hw:q.wrap ((a+b:Nat):Int)=((a+b:Nat):Int)):bb P W [] (ae .add t (.int q (a:Int)) (.int q (b:Int))) (.int q ((a+b:Nat):Int)):=by
 have:=Eb (P:=P) (W:=W) (t:=t) (q:=q) (a:=(a:Int)) (b:=(b:Int))
 rw[show(a:Int)+(b:Int)=((a+b:Nat):Int) by norm_cast,hw]at this
 exact this
theorem Ey {P:Program}{W:World}{t:TypeId}{r:IntKind}{a k:Nat}(hk:k<=64):bb P W [] (ae .shr t (.int .u64 (a:Int)) (.int r (k:Int))) (.int .u64 ((a / 2^k:Nat):Int)):=by
 have:=jy (P:=P) (W:=W) (t:=t) (q:= .u64) (r:=r) (a:=(a:Int)) (b:=(k:Int)) (by omega)
 rw[show min ((k:Int)).toNat IntKind.u64.bits=k by simp only[IntKind.bits,Int.toNat_natCast];omega,Int.fdiv_eq_ediv_of_nonneg _ (Int.le_of_lt (Int.pow_pos (by decide))),show(a:Int) / 2^k=((a / 2^k:Nat):Int) by norm_cast]at this
 exact this
theorem RY {P:Program}{W:World}{q:IntKind}{a:Int}:bb P W [] (jZ .neg (.int q a)) (.int q (q.wrap (-a))):=fun w _=>by
 simp[jZ,Op.unary,Op.intArith]
theorem IN {P:Program}{W:World}{t e:TypeId}{s len:Nat}{g l:Nat}{q r:IntKind}{i j:Int}(h:Nat)[ht:ArrT P t len e s](hi:i=(l:Int))(hj:j=(h:Int))(hlh:l<=h)(hl:h<=len)(h0:l<len):bb P W [] (eo t (.pointer (some ⟨g,0,none⟩)) (some (.int q i)) (some (.int r j)) none) (.slice (some ⟨g,l * s,none⟩) (h-l) (len-l)):=fun w _=>by
 have hne:¬len=l:=by omega
 simp[eo,Instr.sliceAt,Instr.sliceBounds,ht.ut,ht.size,fb h hj hl,fb l hi hlh,Instr.sureAddr,hne,Addr.add]
 exact fun h=>h.symm
theorem LK {P:Program}{W:World}{t e:TypeId}{s len:Nat}{g:Nat}{q:IntKind}{j:Int}(h:Nat)[ht:ArrT P t len e s](hj:j=(h:Int))(hl:h<=len)(h0:0<len):bb P W [] (eo t (.pointer (some ⟨g,0,none⟩)) none (some (.int q j)) none) (.slice (some ⟨g,0,none⟩) h len):=fun w _=>by
 have hne:len≠0:=by omega
 simp[eo,Instr.sliceAt,Instr.sliceBounds,ht.ut,ht.size,fb h hj hl,Instr.sureAddr,hne,Addr.add]
theorem Nz {P:Program}{W:World}{t:TypeId}{l:List UInt8}{q r:IntKind}{i j:Int}(a b:Nat)[ht:StrT P t](hi:i=(a:Int))(hj:j=(b:Int))(hab:a<=b)(hb:b<=l.length):bb P W [] (eo t (bo l) (some (.int q i)) (some (.int r j)) none) (bo ((l.take b).drop a)):=fun w _=>by
 have e:(⟨l.toArray⟩:ByteArray).extract a b=⟨((l.take b).drop a).toArray⟩:=by
  apply ByteArray.ext
  apply Array.ext'
  rw[ByteArray.data_extract]
  simp[List.extract_eq_take_drop,List.drop_take]
 have h1:=sW (P:=P) (q:=q) (w:=w) (i:=i) (y:=b) (c:= .sliceB) a hi hab
 have h2:=sW (P:=P) (q:=r) (w:=w) (i:=j) (y:=l.length) (c:= .sliceAlen) b hj hb
 have e0:(⟨l.toArray⟩:ByteArray).size=l.length:=rfl
 simp[eo,Instr.sliceAt,Instr.slice,Instr.sliceBounds,run_underlying ht.ut,bo,e0,h1,h2,e]
theorem IP {W:World}{g o n:Nat}{cs:Array Value}{ds:List Value}{T:TypeId}{fz:Nat × Nat}(hl:ds.length=n)(h:∀(j:Nat) (v:Value),ds[j]? =some v->cs[o+j]? =some v):RdB W (pt g (.cells cs T fz)) (some ⟨g,o,none⟩) n ds:=⟨hl,fun _=>⟨g,o,rfl,fun w L hw j v hv=>by rw[hw.cell];exact h j v hv⟩⟩
end Sl
namespace FD
open Go Go.Proofs Go.RowKit Sh Sl T
class Gp (W:World):Prop where
 lt:1<W.heap.size
 at_:∀j,j<20->W.cell? ⟨1,j,none⟩=some (.int .u64 ((10^j:Nat):Int))
def nQ (u n:Nat):Prop:=u<2^n/\(n=0\/2^(n-1)<=u)
theorem nR {u k n:Nat}(h:nQ (u / 2^k) n)(hk:2^k<=u):nQ u (n+k):=by
 obtain⟨h1,h2⟩:=h
 have h0:0<u / 2^k:=Nat.div_pos hk (Nat.pow_pos (by decide))
 refine⟨?_,.inr ?_⟩
 ·rw[Nat.pow_add];exact(Nat.div_lt_iff_lt_mul (Nat.pow_pos (by decide))).1 h1
 ·rcases h2 with h2|h2
  ·subst h2;simp at h1;omega
  ·have hn:n≠0:=fun c=>by subst c;simp at h1;omega
   rw[show n+k-1=(n-1)+k by omega,Nat.pow_add]
   exact(Nat.le_div_iff_mul_le (Nat.pow_pos (by decide))).1 h2
theorem UE:∀x,x<256->∃n,S.wh[x]? =some (UInt8.ofNat n)/\n<=8/\nQ x n:=by
 have:∀x,x<256->((S.wh[x]?.map UInt8.toNat).getD 9<=8/\x<2^((S.wh[x]?.map UInt8.toNat).getD 9)/\((S.wh[x]?.map UInt8.toNat).getD 9=0\/2^((S.wh[x]?.map UInt8.toNat).getD 9-1)<=x)):=by decide+kernel
 intro x hx
 obtain⟨h1,h2,h3⟩:=this x hx
 have hl:x<S.wh.length:=by rw[show S.wh.length=256 by decide+kernel];exact hx
 refine⟨S.wh[x].toNat,?_,?_,?_,?_⟩
 ·rw[List.getElem?_eq_getElem hl,UInt8.ofNat_toNat]
 all_goals rw[List.getElem?_eq_getElem hl]at h1 h2 h3
 ·exact h1
 ·exact h2
 ·exact h3
theorem RZ {W:World}{u:Nat}(hu:u<18446744073709551616):Cn p_ 162 [.int .u64 (u:Int)] W [] (fun n:{n:Nat // n<=64/\nQ u n}=> .int .i64 (n.1:Int)) (fun _=>[]):=by
 (refine S.rn.cn fun F=>?_;unfold S.mt;simp only[ca_,na_])
 refine lO (fun x y=>pu (∃v s:Nat,x= .int .u64 (v:Int)/\y= .int .i64 (s:Int)/\v<4294967296/\s<=32/\∀n,nQ v n->nQ u (n+s))::F) ?_ ?_
 rotate_left
 ·refine aF dg .nil (fun h=>?_) (fun h=>?_)
  ·refine ab (o_ (Ey (k:=32) (by decide)) ?_)
   refine a_ (.pu ⟨_,32,rfl,rfl,by omega,by omega,fun n hn=>nR hn (by omega)⟩ .refl)
  ·refine aa (a_ (.pu ⟨u,0,rfl,rfl,by omega,by omega,fun n hn=>hn⟩ .refl))
 intro ds x y
 refine aT .here fun hi=>?_
 obtain⟨v,s,rfl,rfl,hv,hs,hL⟩:=hi
 refine lO (fun x y=>pu (∃v s:Nat,x= .int .u64 (v:Int)/\y= .int .i64 (s:Int)/\v<65536/\s<=48/\∀n,nQ v n->nQ u (n+s))::F) ?_ ?_
 rotate_left
 ·refine aF dg .nil (fun h=>?_) (fun h=>?_)
  ·refine ab (o_ (Ey (k:=16) (by decide)) ?_)
   refine bW ?_
   refine a_ (.pu ⟨_,s+16,rfl,by norm_cast,by omega,by omega,fun n hn=>by rw[show n+(s+16)=(n+16)+s by omega];exact hL _ (nR hn (by omega))⟩ .refl)
  ·refine aa (a_ (.pu ⟨v,s,rfl,rfl,by omega,by omega,hL⟩ .refl))
 intro ds2 x y
 refine aT .here fun hi=>?_
 obtain⟨v2,s2,rfl,rfl,hv2,hs2,hL2⟩:=hi
 refine lO (fun x y=>pu (∃v s:Nat,x= .int .u64 (v:Int)/\y= .int .i64 (s:Int)/\v<256/\s<=56/\∀n,nQ v n->nQ u (n+s))::F) ?_ ?_
 rotate_left
 ·refine aF dg .nil (fun h=>?_) (fun h=>?_)
  ·refine ab (o_ (Ey (k:=8) (by decide)) ?_)
   refine bW ?_
   refine a_ (.pu ⟨_,s2+8,rfl,by norm_cast,by omega,by omega,fun n hn=>by rw[show n+(s2+8)=(n+8)+s2 by omega];exact hL2 _ (nR hn (by omega))⟩ .refl)
  ·refine aa (a_ (.pu ⟨v2,s2,rfl,rfl,by omega,by omega,hL2⟩ .refl))
 intro ds3 x y
 refine aT .here fun hi=>?_
 obtain⟨v3,s3,rfl,rfl,hv3,hs3,hL3⟩:=hi
 refine o_ (bO (q:= .u8)) ?_
 rw[RX hv3]
 obtain⟨n,h1,h2,h3⟩:=UE v3 hv3
 have hl:v3<S.wh.length:=by rw[show S.wh.length=256 by decide+kernel];exact hv3
 rw[List.getElem?_eq_getElem hl]at h1
 have h1:=Option.some.inj h1
 refine o_ (iY v3 rfl hl) ?_
 rw[h1,show Sl.B (UInt8.ofNat n)= .int .u8 (n:Int) by unfold Sl.B;rw[UInt8.toNat_ofNat'];rw[Nat.mod_eq_of_lt (by omega)]]
 refine o_ (bO (q:= .i64)) ?_
 rw[yZ (by omega) (by omega)]
 refine bW ?_
 refine bf ⟨n+s3,by omega,hL3 n h3⟩ (by(try dsimp only);congr 1;omega) ?_
 exact .refl
def OR (u n:Nat):Prop:=1<=n/\n<=20/\10^(n-1)<=u/\u<10^n
theorem IQ:∀b,b<=64->b * 78913 / 262144<=19/\2^b<=10^(b * 78913 / 262144+1)/\(b * 78913 / 262144≠0->10^(b * 78913 / 262144-1)<=2^(b-1)):=by decide+kernel
theorem R0 {u b:Nat}(hu:u≠0)(hb:b<=64)(h:nQ u b):OR u (b * 78913 / 262144+(if 10^(b * 78913 / 262144)<=u then 1 else 0)):=by
 obtain⟨h1,h2⟩:=h
 obtain⟨t1,t2,t3⟩:=IQ b hb
 generalize b * 78913 / 262144=k at t1 t2 t3 ⊢
 by_cases c:10^k<=u
 ·rw[if_pos c]
  exact⟨by omega,by omega,by rw[Nat.add_sub_cancel];exact c,by omega⟩
 ·rw[if_neg c]
  have hk:k≠0:=fun e=>c (by subst e;simp;omega)
  have hb0:b≠0:=fun e=>by subst e;simp at h1;omega
  exact⟨by omega,by omega,by have:=t3 hk;rw[Nat.add_zero];omega,by rw[Nat.add_zero];omega⟩
theorem G0 {W:World}[hG:Gp W]{u:Nat}(hu:u<18446744073709551616)(h0:u≠0):Cn p_ 120 [.int .u64 (u:Int)] W [] (fun n:{n:Nat // OR u n}=> .int .i64 (n.1:Int)) (fun _=>[]):=by
 have hlog:∀b:Nat,b<=64->Cn p_ 161 [.int .i64 (b:Int)] W [] (fun _:Unit=> .int .i64 ((b * 78913 / 262144:Nat):Int)) (fun _=>[]):=fun b hb=>by
  (refine S.nC.cn fun F=>?_;unfold S.jH;simp only[ca_,na_])
  refine o_ (gZ (by omega) (by omega)) ?_
  refine o_ (jy (by decide)) ?_
  rw[show min (18:Int).toNat IntKind.i64.bits=18 from rfl,Int.fdiv_eq_ediv_of_nonneg _ (by decide),show((b:Int) * 78913) / 2^18=((b * 78913 / 262144:Nat):Int) by omega]
  refine bC () ?_
  exact .refl
 have hbool:∀b:Bool,Cn p_ 163 [.bool b] W [] (fun _:Unit=> .int .i64 (if b then 1 else 0)) (fun _=>[]):=fun b=>by
  (refine S.nD.cn fun F=>?_;unfold S.jI;simp only[ca_,na_])
  cases b with
  |true=>
   refine ab (bC () ?_)
   exact .refl
  |false=>
   refine aa (bC () ?_)
   exact .refl
 (refine S.nz.cn fun F=>?_;unfold S.jF;simp only[ca_,na_])
 refine c_ (RZ hu) fun _=>?_
 rename_i b
 obtain⟨b,hb,hL⟩:=b
 (try dsimp only)
 refine c_ (hlog b hb) fun _=>?_
 have hnd:=R0 h0 hb hL
 have hk:=(IQ b hb).1
 generalize b * 78913 / 262144=k at hk hnd ⊢
 refine o_ (dL k rfl (by omega)) ?_
 rw[Nat.zero_add,Nat.mul_one]
 refine o_ (Fm hG.lt (hG.at_ k (by omega))) ?_
 refine o_ dg (c_ (hbool _) fun _=>?_)
 refine o_ (ct (by split <;> omega) (by split <;> omega)) ?_
 refine bf ⟨_,hnd⟩ ?_ .refl
 (try dsimp only)
 congr 1
 by_cases c:10^k<=u
 ·rw[if_pos c,if_pos (dT_ (by norm_cast))];norm_cast
 ·rw[if_neg c,if_neg (fun d=>c (by have:=of_decide_eq_true d;norm_cast at this))];norm_cast
end FD
namespace FD
open Go Go.Proofs Go.RowKit Sh Sl T
def Dn (f:Nat->Nat):Array Value:=((List.range 24).map fun j=>Value.int .u8 (f j:Int)).toArray
theorem ky (f:Nat->Nat):(Dn f).size=24:=by simp[Dn]
theorem wU {j:Nat}{f:Nat->Nat}(h:j<24):(Dn f)[j]? =some (.int .u8 (f j:Int)):=by simp[Dn,h]
def AP (f:Nat->Nat)(j v:Nat):Nat->Nat:=fun i=>if i=j then v else f i
theorem AQ {j:Nat}{f:Nat->Nat}{v:Nat}:(Dn f).setIfInBounds j (.int .u8 (v:Int))=Dn (AP f j v):=by
 apply Array.ext_getElem?
 intro i
 rw[Array.getElem?_setIfInBounds]
 by_cases h:i<24
 ·rw[wU h,wU h]
  unfold AP
  by_cases c:j=i
  ·subst c;rw[if_pos rfl,if_pos (by rw[ky];exact h),if_pos rfl]
  ·rw[if_neg c,if_neg (fun e=>c e.symm)]
 ·rw[Array.getElem?_eq_none (xs:=Dn f) (by rw[ky];omega),Array.getElem?_eq_none (xs:=Dn (AP f j v)) (by rw[ky];omega)]
  by_cases c:j=i
  ·subst c;rw[if_pos rfl,if_neg (by rw[ky];exact h)]
  ·rw[if_neg c]
def iM (u n k:Nat)(f:Nat->Nat):Nat->Nat:=fun j=>if k<j/\j<=n then 48+u / 10^(n-j)%10 else f j
theorem IR (u n:Nat)(f:Nat->Nat):iM u n n f=f:=by
 funext j
 unfold iM
 rw[if_neg (by omega)]
theorem Fu (u a b:Nat):u / 10^(a+b)=u / 10^a / 10^b:=by rw[Nat.pow_add,Nat.div_div_eq_div_mul]
theorem wV {u n k:Nat}{f:Nat->Nat}(h1:1<=k)(h2:k<=n):AP (iM u n k f) k (48+u / 10^(n-k)%10)=iM u n (k-1) f:=by
 funext j
 unfold AP iM
 by_cases c:j=k
 ·subst c;rw[if_pos rfl,if_pos (by omega)]
 ·rw[if_neg c]
  by_cases d:k<j/\j<=n
  ·rw[if_pos d,if_pos (by omega)]
  ·rw[if_neg d,if_neg (by omega)]
theorem G1 {u n k y:Nat}{f:Nat->Nat}(h1:2<=k)(h2:k<=n)(hy:y=u / 10^(n-k)%100):AP (AP (iM u n k f) k (48+y%10)) (k-1) (48+y / 10)=iM u n (k-2) f:=by
 have e1:48+y%10=48+u / 10^(n-k)%10:=by omega
 have e2:48+y / 10=48+u / 10^(n-(k-1))%10:=by
  rw[show n-(k-1)=(n-k)+1 by omega,Fu,Nat.pow_one];omega
 rw[e1,e2,wV (by omega) h2,wV (by omega) (by omega)]
 rfl
theorem IS:∀y,y<100->S.ir[y * 2]? =some (UInt8.ofNat (48+y / 10))/\S.ir[y * 2+1]? =some (UInt8.ofNat (48+y%10)):=by decide+kernel
theorem wW:S.ir.length=200:=by decide+kernel
theorem Fv {n:Nat}(h:n<256):Sl.B (UInt8.ofNat n)= .int .u8 (n:Int):=by unfold Sl.B;rw[UInt8.toNat_ofNat'];rw[Nat.mod_eq_of_lt h]
theorem R1 {W:World}{y:Nat}(hy:y<100):bb p_ W [] (iq 9 (bo S.ir) (.int .u32 ((y * 2:Nat):Int))) (.int .u8 ((48+y / 10:Nat):Int)):=by
 have hl:y * 2<S.ir.length:=by rw[wW];omega
 have h:=(IS y hy).1
 rw[List.getElem?_eq_getElem hl]at h
 have:=iY (P:=p_) (W:=W) (t:=9) (l:=S.ir) (q:= .u32) (i:=((y * 2:Nat):Int)) (y * 2) rfl hl
 rw[Option.some.inj h,Fv (by omega)]at this
 exact this
theorem R2 {W:World}{y:Nat}(hy:y<100):bb p_ W [] (iq 9 (bo S.ir) (.int .u32 ((y * 2+1:Nat):Int))) (.int .u8 ((48+y%10:Nat):Int)):=by
 have hl:y * 2+1<S.ir.length:=by rw[wW];omega
 have h:=(IS y hy).2
 rw[List.getElem?_eq_getElem hl]at h
 have:=iY (P:=p_) (W:=W) (t:=9) (l:=S.ir) (q:= .u32) (i:=((y * 2+1:Nat):Int)) (y * 2+1) rfl hl
 rw[Option.some.inj h,Fv (by omega)]at this
 exact this
theorem qm {W:World} {L:List HP} {Kp:PK} {REST:WP} {g n c k u y:Nat} {K c1 c2:Int} {f:Nat->Nat} {T:TypeId} (hK1:K-c1=((k-1:Nat):Int)) (hK2:K-c2=((k-2:Nat):Int)) (h1:2<=k) (h2:k<=n) (h3:n<=20) (hy:y=u / 10^(n-k)%100)
    (h:be W (pt g (.cells (Dn (iM u n (k-2) f)) T (0,0))::L) REST):
    be W (pt g (.cells (Dn (iM u n k f)) T (0,0))::L) (e8 (stS p_ (ae .sub 3 (.int .i64 K) (.int .i64 c1)) fun x44=>
     stD p_ (ae .sub 3 (.int .i64 K) (.int .i64 c2)) fun D5 x47=>
     stS p_ (ae .add 112 (.int .u32 ((y * 2:Nat):Int)) (.int .u32 1)) fun x49=>
     stS p_ (iq 9 (bo S.ir) x49) fun x50=>
     stD p_ (iq 9 (bo S.ir) (.int .u32 ((y * 2:Nat):Int))) fun D10 x52=>
     stS p_ (bR 23 (.slice (some ⟨g,1,none⟩) n c) x44) fun x53=>
     opN p_ (ak 5 x53 x50) Kp fun _=>
     (fun w=>D10 w/\(fun w=>D5 w/\(stS p_ (bR 23 (.slice (some ⟨g,1,none⟩) n c) x47) fun x54=>
        opN p_ (ak 5 x54 x52) Kp fun _=>REST) w) w))):=by
  have hy100:y<100:=by omega
  refine bM (t_ (ep (by omega) (by omega)) ?_)
  refine aZ (ep (by omega) (by omega)) .nil ?_
  refine t_ (IM (a:=y * 2) (b:=1) (i_ (by omega))) ?_
  refine t_ (R2 hy100) ?_
  refine aZ (R1 hy100) .nil ?_
  refine t_ (bA (k-1) hK1 (by omega)) ?_
  refine pQ .here (by rw[ky];omega) ?_
  refine cB Imp.nil (cB .nil ?_)
  refine t_ (bA (k-2) hK2 (by omega)) ?_
  refine pQ .here (by rw[Array.size_setIfInBounds,ky];omega) ?_
  rw[AQ,AQ,show 1+(k-1)=k by omega,show 1+(k-2)=k-1 by omega,G1 h1 h2 hy]
  exact h
theorem Fw {W:World}{n:Nat}(h:n<4294967296):bb p_ W [] (bz 170 112 (.int .u64 (n:Int))) (.int .u32 (n:Int)):=by
 have:=bO (P:=p_) (W:=W) (s:=170) (t:=112) (p:= .u64) (q:= .u32) (r:= .u64) (n:=(n:Int))
 rw[i_ h]at this
 exact this
theorem IT {W:World}{g n c u:Nat}{f:Nat->Nat}{T:TypeId}(h1:1<=n)(h3:n<=20)(hu:u<10^n)(hu64:u<18446744073709551616):
  Cn p_ 121 [.slice (some ⟨g,1,none⟩) n c,.int .u64 (u:Int)] W [pt g (.cells (Dn f) T (0,0))] (fun _:Unit=> .tuple #[]) (fun _=>[pt g (.cells (Dn (iM u n 0 f)) T (0,0))]):=by
 (refine S.k_.cn fun F=>?_;unfold S.ii;simp only[ca_,na_])
 refine o_ aN (cg (fun m x y=>(ex fun k:Nat=>all [pu (m=k/\y= .int .i64 (k:Int)/\x= .int .u64 ((u / 10^(n-k):Nat):Int)/\k<=n),pt g (.cells (Dn (iM u n k f)) T (0,0))])::F) n ?_ ?_)
 ·refine .ex n (.all ?_)
  refine ay ?_
  refine .pu ⟨rfl,rfl,by rw[Nat.sub_self];simp,Nat.le_refl _⟩ ?_
  rw[IR]
  exact aC
 intro m ds x y
 refine aX .here fun k=>aB .here ?_
 refine ay ?_
 refine aT .here fun hi=>?_
 obtain⟨rfl,rfl,rfl,hk⟩:=hi
 obtain⟨v,hv⟩:∃v,v=u / 10^(n-m):=⟨_,rfl⟩
 have hvu:v<18446744073709551616:=Nat.lt_of_le_of_lt (by rw[hv];exact Nat.div_le_self _ _) hu64
 have hvk:v<10^m:=by
  rw[hv,Nat.div_lt_iff_lt_mul (Nat.pow_pos (by decide)),<- Nat.pow_add,show m+(n-m)=n by omega];exact hu
 rw[<- hv]
 refine aF dg .nil (fun h=>?_) (fun h=>?_)
 ·have h8:8<=m:=by omega
  have hs:∀i,i<=m->u / 10^(n-(m-i))=v / 10^i:=fun i hi=>by rw[show n-(m-i)=(n-m)+i by omega,Fu,<- hv]
  refine ab (o_ (qk (b:=100000000) (by decide)) ?_)
  refine o_ (Fw (by omega)) ?_
  refine o_ (qj (b:=100000000) (by decide) (RW (by omega))) ?_
  refine o_ (qj (b:=10000) (by decide) (i_ (by omega))) ?_
  refine o_ (qk (b:=10000) (by decide)) ?_
  refine o_ (qj (b:=100) (by decide) (i_ (by omega))) ?_
  refine o_ (ql (b:=2) (i_ (by omega))) ?_
  refine o_ (qk (b:=100) (by decide)) ?_
  refine o_ (ql (b:=2) (i_ (by omega))) ?_
  refine o_ (qj (b:=100) (by decide) (i_ (by omega))) ?_
  refine o_ (ql (b:=2) (i_ (by omega))) ?_
  refine o_ (qk (b:=100) (by decide)) ?_
  refine o_ (ql (b:=2) (i_ (by omega))) ?_
  refine qm (u:=u) (n:=n) (k:=m) (by omega) (by omega) (by omega) hk h3 (by rw[<- hv];omega) ?_
  refine qm (u:=u) (n:=n) (k:=m-2) (by omega) (by omega) (by omega) (by omega) h3 (by rw[hs 2 (by omega)];omega) ?_
  refine qm (u:=u) (n:=n) (k:=m-2-2) (by omega) (by omega) (by omega) (by omega) h3 (by rw[show m-2-2=m-4 by omega,hs 4 (by omega)];omega) ?_
  refine qm (u:=u) (n:=n) (k:=m-2-2-2) (by omega) (by omega) (by omega) (by omega) h3 (by rw[show m-2-2-2=m-6 by omega,hs 6 (by omega)];omega) ?_
  refine fI ?_
  refine bH (m-8) (by omega) (.ex (m-8) (.all ?_))
  refine ay ?_
  refine .pu ⟨rfl,by congr 1;omega,by rw[hs 8 h8],by omega⟩ ?_
  rw[show m-2-2-2-2=m-8 by omega]
  exact aC
 ·have h8:m<8:=by omega
  have hv8:v<100000000:=Nat.lt_of_lt_of_le hvk (Nat.pow_le_pow_right (by decide) (show m<=8 by omega))
  refine aa (o_ (Fw (by omega)) ?_)
  refine lO (fun x y=>(ex fun k:Nat=>all [pu (x= .int .i64 (k:Int)/\y= .int .u32 ((u / 10^(n-k):Nat):Int)/\k<=n/\k<4/\u / 10^(n-k)<10^k),pt g (.cells (Dn (iM u n k f)) T (0,0))])::F) ?_ ?_
  rotate_left
  ·refine aF dg .nil (fun h=>?_) (fun h=>?_)
   ·have h4:4<=m:=by omega
    have hs:∀i,i<=m->u / 10^(n-(m-i))=v / 10^i:=fun i hi=>by rw[show n-(m-i)=(n-m)+i by omega,Fu,<- hv]
    refine ab (o_ (qk (b:=10000) (by decide)) ?_)
    refine o_ (qj (b:=10000) (by decide) (i_ (by omega))) ?_
    refine o_ (qj (b:=100) (by decide) (i_ (by omega))) ?_
    refine o_ (ql (b:=2) (i_ (by omega))) ?_
    refine o_ (qk (b:=100) (by decide)) ?_
    refine o_ (ql (b:=2) (i_ (by omega))) ?_
    refine qm (u:=u) (n:=n) (k:=m) (by omega) (by omega) (by omega) hk h3 (by rw[<- hv];omega) ?_
    refine qm (u:=u) (n:=n) (k:=m-2) (by omega) (by omega) (by omega) (by omega) h3 (by rw[hs 2 (by omega)];omega) ?_
    refine fI ?_
    refine a_ (.ex (m-4) (.all ?_))
    refine ay ?_
    rw[hs 4 h4]
    refine .pu ⟨by congr 1;omega,rfl,by omega,by omega,?_⟩ ?_
    ·rw[Nat.div_lt_iff_lt_mul (Nat.pow_pos (by decide)),<- Nat.pow_add,show m-4+4=m by omega];exact hvk
    rw[show m-2-2=m-4 by omega]
    exact aC
   ·refine aa (a_ (.ex m (.all ?_)))
    refine ay ?_
    rw[<- hv]
    refine .pu ⟨rfl,rfl,hk,by omega,hvk⟩ ?_
    exact aC
  clear hvk hv8 hvu hv h8 hk
  clear v
  intro ds2 x y
  refine aX .here fun k=>aB .here ?_
  refine ay ?_
  refine aT .here fun hi=>?_
  obtain⟨rfl,rfl,hk,hk4,hvk⟩:=hi
  obtain⟨v,hv⟩:∃v,v=u / 10^(n-k):=⟨_,rfl⟩
  rw[<- hv]at hvk ⊢
  have hv4:v<10000:=Nat.lt_of_lt_of_le hvk (Nat.pow_le_pow_right (by decide) (show k<=4 by omega))
  refine lO (fun x y=>(ex fun k:Nat=>all [pu (x= .int .i64 (k:Int)/\y= .int .u32 ((u / 10^(n-k):Nat):Int)/\k<=n/\k<2/\u / 10^(n-k)<10^k),pt g (.cells (Dn (iM u n k f)) T (0,0))])::F) ?_ ?_
  rotate_left
  ·refine aF dg .nil (fun h=>?_) (fun h=>?_)
   ·have h2:2<=k:=by omega
    have hs:∀i,i<=k->u / 10^(n-(k-i))=v / 10^i:=fun i hi=>by rw[show n-(k-i)=(n-k)+i by omega,Fu,<- hv]
    refine ab (o_ (qk (b:=100) (by decide)) ?_)
    refine o_ (ql (b:=2) (i_ (by omega))) ?_
    refine o_ (qj (b:=100) (by decide) (i_ (by omega))) ?_
    refine qm (u:=u) (n:=n) (k:=k) (by omega) (by omega) (by omega) hk h3 (by rw[<- hv]) ?_
    refine fI ?_
    refine a_ (.ex (k-2) (.all ?_))
    refine ay ?_
    rw[hs 2 h2]
    refine .pu ⟨by congr 1;omega,rfl,by omega,by omega,?_⟩ ?_
    ·rw[Nat.div_lt_iff_lt_mul (Nat.pow_pos (by decide)),<- Nat.pow_add,show k-2+2=k by omega];exact hvk
    exact aC
   ·refine aa (a_ (.ex k (.all ?_)))
    refine ay ?_
    rw[<- hv]
    refine .pu ⟨rfl,rfl,hk,by omega,hvk⟩ ?_
    exact aC
  clear hvk hv4 hv hk hk4
  clear v k
  intro ds3 x y
  refine aX .here fun k=>aB .here ?_
  refine ay ?_
  refine aT .here fun hi=>?_
  obtain⟨rfl,rfl,hk,hk2,hvk⟩:=hi
  refine aF bq .nil (fun h=>?_) (fun h=>?_)
  ·obtain rfl:k=1:=by omega
   have hv1:u / 10^(n-1)<10:=by simpa using hvk
   refine ab (o_ (IM (a:=48) (i_ (by omega))) ?_)
   refine o_ (bO (q:= .u8)) ?_
   rw[RX (by omega)]
   refine o_ (bA 0 rfl (by omega)) ?_
   refine pQ .here (by rw[ky];omega) ?_
   rw[AQ,Nat.add_zero,show 48+u / 10^(n-1)=48+u / 10^(n-1)%10 by rw[Nat.mod_eq_of_lt hv1],wV (by omega) h1]
   refine bC () ?_
   exact aC
  ·obtain rfl:k=0:=by omega
   refine aa (bC () ?_)
   exact aC
def AR (u n:Nat):List UInt8:=(List.range n).map fun j=>UInt8.ofNat (48+u / 10^(n-1-j)%10)
def TY (u:Nat):Nat:=((List.range 21).find? fun n=>decide (u<10^n)).getD 20
theorem OS {u n:Nat}(h:OR u n):TY u=n:=by
 obtain⟨h1,h2,h3,h4⟩:=h
 have:(List.range 21).find? (fun n=>decide (u<10^n))=some n:=by
  rw[List.find?_range_eq_some]
  refine⟨by simpa using h4,by simp;omega,fun j hj=>?_⟩
  have:10^j<=10^(n-1):=Nat.pow_le_pow_right (by decide) (by omega)
  simp;omega
 unfold TY
 rw[this];rfl
def BO (i:Int):List UInt8:=
 if 0<=i/\i<100 then(if i<10 then [UInt8.ofNat (48+i.toNat)]else [UInt8.ofNat (48+i.toNat / 10),UInt8.ofNat (48+i.toNat%10)])
 else if i<0 then 45::AR i.natAbs (TY i.natAbs)else AR i.natAbs (TY i.natAbs)
theorem rY (u n:Nat):(AR u n).length=n:=by simp[AR]
theorem OT {W:World}{g u n:Nat}{f:Nat->Nat}{T:TypeId}(h3:n<=20):RdB W (pt g (.cells (Dn (iM u n 0 f)) T (0,0))) (some ⟨g,1,none⟩) n ((AR u n).map Sl.B):=by
 refine IP (by rw[List.length_map,rY]) fun j v hv=>?_
 have hj:j<n:=by
  rcases Nat.lt_or_ge j n with c|c
  ·exact c
  ·rw[List.getElem?_eq_none (by rw[List.length_map,rY];exact c)]at hv;cases hv
 rw[List.getElem?_map]at hv
 unfold AR at hv
 rw[List.getElem?_map,List.getElem?_range hj]at hv
 simp only[Option.map_some]at hv
 rw[Fv (by omega)]at hv
 rw[wU (by omega),<- hv]
 unfold iM
 rw[if_pos (by omega),show n-(1+j)=n-1-j by omega]
theorem IU {G H:Prop}(k:G->H)(m:G):H:=k m
theorem R3 {W:World}{n:Nat}(h:n<100):Cn p_ 119 [.int .i64 (n:Int)] W [] (fun _:Unit=>bo (BO n)) (fun _=>[]):=by
 have hd:BO (n:Int)=if n<10 then [UInt8.ofNat (48+n)]else [UInt8.ofNat (48+n / 10),UInt8.ofNat (48+n%10)]:=by
  unfold BO
  rw[if_pos (by omega),Int.toNat_natCast]
  by_cases c:n<10
  ·rw[if_pos (by omega),if_pos c]
  ·rw[if_neg (by omega),if_neg c]
 (refine S.tq.cn fun F=>?_;unfold S.ny;simp only[ca_,na_])
 refine aF aI .nil (fun h=>?_) (fun h=>?_)
 ·have h10:n<10:=by omega
  rw[hd,if_pos h10]
  refine ab (bW ?_)
  refine o_ (Nz (l:=[48,49,50,51,52,53,54,55,56,57,97,98,99,100,101,102,103,104,105,106,107,108,109,110,111,112,113,114,115,116,117,118,119,120,121,122]) n (n+1) rfl (by omega) (by omega) (by simp;omega)) ?_
  have:∀n,n<10->((([48,49,50,51,52,53,54,55,56,57,97,98,99,100,101,102,103,104,105,106,107,108,109,110,111,112,113,114,115,116,117,118,119,120,121,122]:List UInt8).take (n+1)).drop n)=[UInt8.ofNat (48+n)]:=by decide+kernel
  rw[this n h10]
  refine bC () ?_
  exact .refl
 ·have h10:¬n<10:=by omega
  rw[hd,if_neg h10]
  refine aa (o_ (gZ (by omega) (by omega)) ?_)
  refine o_ (gZ (by omega) (by omega)) ?_
  refine bW ?_
  refine o_ (Nz (n * 2) (n * 2+2) (by omega) (by omega) (by omega) (by rw[wW];omega)) ?_
  have:∀n,n<100->((S.ir.take (n * 2+2)).drop (n * 2))=[UInt8.ofNat (48+n / 10),UInt8.ofNat (48+n%10)]:=by decide+kernel
  rw[this n (by omega)]
  refine bC () ?_
  exact .refl
theorem G2 {W:World}[hG:Gp W]{i:Int}(h1: -9223372036854775808<=i)(h2:i<=9223372036854775807):Cn p_ 87 [.int .i64 i,.int .i64 10] W [] (fun _:Unit=>bo (BO i)) (fun _=>[]):=by
 (refine S.ns.cn fun F=>?_;unfold S.jD;simp only[ca_,na_])
 refine o_ bF ?_
 rw[dT_ rfl]
 refine ab ?_
 by_cases hs:0<=i/\i<100
 ·obtain⟨n,rfl⟩:=Int.eq_ofNat_of_zero_le hs.1
  refine o_ dX ?_
  rw[dT_ hs.1]
  refine ag (ag (o_ aI ?_))
  rw[dT_ hs.2]
  refine o_ aq (ab (c_ (R3 (n:=n) (by omega)) fun _=>?_))
  refine bC () ?_
  exact .refl
 have hu:i.natAbs<18446744073709551616:=by omega
 have hu0:i.natAbs≠0:=by omega
 have d1:i<0->decide (0<=i)=false:=fun h=>dF_ (by omega)
 have d2:¬i<0->decide (0<=i)=true:=fun h=>dT_ (by omega)
 have d3:¬i<0->decide (i<100)=false:=fun h=>dF_ (by omega)
 refine' IU ?_ ?_
 rotate_left
 ·intro main
  by_cases h0:i<0
  ·refine o_ dX ?_
   rw[d1 h0]
   exact ah (ah (o_ ap main))
  ·refine o_ dX ?_
   rw[d2 h0]
   refine ag (ag (o_ aI ?_))
   rw[d3 h0]
   exact o_ aq main
 refine aa (bm fun g=>?_)
 refine cr (M:=pt g (.cells (Dn fun _=>0) 169 (0,0))::F) .refl ?_
 refine o_ (bO (q:= .u64)) ?_
 refine eR (fun x=>pu (x= .int .u64 (i.natAbs:Int))::pt g (.cells (Dn fun _=>0) 169 (0,0))::F) ?_ ?_
 rotate_left
 ·refine aF aI .nil (fun h=>?_) (fun h=>?_)
  ·refine ab (o_ RY ?_)
   refine a_ (.pu ?_ .refl)
   congr 1
   simp only[IntKind.wrap,IntKind.bits,IntKind.signed]
   simp;omega
  ·refine aa (a_ (.pu ?_ .refl))
   congr 1
   simp only[IntKind.wrap,IntKind.bits,IntKind.signed]
   simp;omega
 intro ds x
 refine aT .here fun hx=>?_
 subst hx
 refine c_ (G0 hu hu0) fun _=>?_
 rename_i n
 obtain⟨n,hn⟩:=n
 have hnd:=OS hn
 obtain⟨n1,n2,n3,n4⟩:=hn
 (try dsimp only)
 refine bW ?_
 refine o_ (IN (l:=1) (1+n) rfl (by norm_cast) (by omega) (by omega) (by omega)) ?_
 rw[Nat.one_mul,Nat.add_sub_cancel_left]
 refine c_ (IT (f:=fun _=>0) n1 n2 n4 hu) fun _=>?_
 have hrd:=OT (W:=W) (g:=g) (u:=i.natAbs) (n:=n) (f:=fun _=>0) (T:=169) n2
 have hdg:BO i=if i<0 then 45::AR i.natAbs n else AR i.natAbs n:=by
  unfold BO
  rw[if_neg hs,hnd]
 by_cases h0:i<0
 ·rw[if_pos h0]at hdg
  refine o_ aI ?_
  rw[dT_ h0]
  refine ab (o_ (dL 0 rfl (by decide)) ?_)
  refine pQ .here (by rw[ky];decide) ?_
  rw[show(Value.int .u8 45)= .int .u8 ((45:Nat):Int)from rfl,AQ]
  refine bW ?_
  refine o_ (LK (1+n) (by norm_cast) (by omega) (by decide)) ?_
  have hr2:RdB W (pt g (.cells (Dn (AP (iM i.natAbs n 0 fun _=>0) (0+0 * 1) 45)) 169 (0,0))) (some ⟨g,0,none⟩) (1+n) ((BO i).map Sl.B):=by
   rw[hdg]
   refine IP (by rw[List.length_map,List.length_cons,rY];omega) fun j v hv=>?_
   cases j with
   |zero=>
    rw[<- hv,wU (by omega)]
    rfl
   |succ j=>
    obtain⟨_,_,he,hc⟩:=hrd.at_ (by omega)
    have hj:j<n:=by
     rcases Nat.lt_or_ge j n with c|c
     ·exact c
     ·rw[List.getElem?_eq_none (by rw[List.length_map,List.length_cons,rY];omega)]at hv;cases hv
    rw[List.map_cons,List.getElem?_cons_succ,List.getElem?_map]at hv
    unfold AR at hv
    rw[List.getElem?_map,List.getElem?_range hj]at hv
    simp only[Option.map_some]at hv
    rw[Fv (by omega)]at hv
    rw[wU (by omega),<- hv]
    unfold AP iM
    rw[if_neg (by omega),if_pos (by omega),show n-(0+(j+1))=n-1-j by omega]
  refine cm (ph hr2 (fun c=>by cases c)) ?_
  refine bC () ?_
  exact aC
 ·rw[if_neg h0]at hdg
  refine o_ aI ?_
  rw[dF_ h0]
  refine aa (bW ?_)
  refine o_ (IN (l:=1) (1+n) rfl (by norm_cast) (by omega) (by omega) (by omega)) ?_
  rw[Nat.one_mul,Nat.add_sub_cancel_left]
  rw[<- hdg]at hrd
  refine cm (ph hrd (fun c=>by cases c)) ?_
  refine bC () ?_
  exact aC
theorem OU {W:World}[hG:Gp W]{i:Int}(h1: -9223372036854775808<=i)(h2:i<=9223372036854775807):Cn p_ 17 [.int .i64 i] W [] (fun _:Unit=>bo (BO i)) (fun _=>[]):=by
 have a1:Cn p_ 56 [.int .i64 i] W [] (fun _:Unit=>bo (BO i)) (fun _=>[]):=by
  (refine S.u_.cn fun F=>?_;unfold S.pw;simp only[ca_,na_])
  refine c_ (G2 h1 h2) fun _=>?_
  refine bC () ?_
  exact aC
 have a2:Cn p_ 37 [.int .i64 i] W [] (fun _:Unit=>bo (BO i)) (fun _=>[]):=by
  (refine S.wu.cn fun F=>?_;unfold S.q9;simp only[ca_,na_])
  refine c_ a1 fun _=>?_
  refine bC () ?_
  exact aC
 (refine S.wm.cn fun F=>?_;unfold S.qV;simp only[ca_,na_])
 refine c_ a2 fun _=>?_
 refine bC () ?_
 exact aC
theorem rZ {L:List Fd}:∀u∈L.flatMap dH,u.oneCell'=true:=fun u hu=>by
 obtain⟨f,_,hf⟩:=List.mem_flatMap.1 hu
 simp[dH]at hf
 rcases hf with rfl|rfl <;> rfl
theorem je {W:World}{a:Option Addr}{c:Nat}{l:List Fd}(h:0<l.length->∃g,a=some ⟨g,0,none⟩):nO W (Sl 2 52 a c l.length (l.flatMap dH)) a l:=sV (dM (f:=dH) (s:=2) (fun _=>rfl) l) h
theorem iX {W:World}{L:List HP}{A B:WP}(h1:be W L A)(h2:be W L B):be W L (qC A B):=fun w hw=>⟨h1 w hw,h2 w hw⟩
theorem G3 (sep:List UInt8):∀V:List (List UInt8),(rW sep V).length<=zL V+sep.length * V.length
 |[]=>Nat.zero_le _
 |v::r=>by
  have h:=wS sep r
  have h2:kL r<=zL r:=by
   clear h
   induction r with
   |nil=>exact Nat.le_refl _
   |cons w r ih=>rw[AM];unfold kL;omega
  unfold rW
  rw[List.length_append,h,AM,List.length_cons,Nat.mul_add,Nat.mul_one]
  omega
end FD
namespace M
open Go Sl
def val:List Bool->Nat
 |[]=>0
 |b::l=>b.toNat+2 * val l
theorem wX:∀l:List Bool,val l<2^l.length
 |[]=>by simp[val]
 |b::l=>by have:=wX l;cases b <;> simp[val,Nat.pow_succ] <;> omega
theorem jM (m:List Bool):∀l:List Bool,val (l++m)=val l+2^l.length * val m
 |[]=>by simp[val]
 |b::l=>by
  simp only[List.cons_append,val,jM m l,List.length_cons,Nat.pow_succ]
  rw[Nat.mul_add,Nat.mul_comm (2^l.length) 2,Nat.mul_assoc];omega
def du (L:List Bool)(i:Nat):Nat:=val ((L.drop (8 * i)).take 8)
theorem tM (L:List Bool)(i:Nat):du L i<256:=by
 have h:=wX ((L.drop (8 * i)).take 8)
 have hl:((L.drop (8 * i)).take 8).length<=8:=List.length_take_le _ _
 exact Nat.lt_of_lt_of_le h (Nat.pow_le_pow_right (by omega) hl)
def HN (L:List Bool)(m:Nat):List UInt8:=(List.range m).map fun i=>UInt8.ofNat (du L i)
def pk (L:List Bool):List UInt8:=HN L ((L.length+7) / 8)
def BP (L:List Bool):List UInt8:=HN L (L.length / 8+1)
theorem fd (L:List Bool):(pk L).length=(L.length+7) / 8:=by simp[pk,HN]
theorem wY (L:List Bool):(BP L).length=L.length / 8+1:=by simp[BP,HN]
theorem UF {L:List Bool}(h:L.length%8=0):BP L=pk L++[0]:=by
 unfold BP pk HN
 rw[show(L.length+7) / 8=L.length / 8 by omega,List.range_succ,List.map_append]
 congr 1
 have:L.drop (8 * (L.length / 8))=[]:=List.drop_eq_nil_of_le (by omega)
 simp[du,this,val]
theorem UG {L:List Bool}(h:¬L.length%8=0):BP L=pk L:=by
 unfold BP pk
 rw[show(L.length+7) / 8=L.length / 8+1 by omega]
theorem nS {L:List Bool}{b:Bool}{i:Nat}(h:i<L.length / 8):du (L++[b]) i=du L i:=by
 unfold du
 rw[List.drop_append_of_le_length (by omega),List.take_append_of_le_length (by simp;omega)]
theorem jN {L:List Bool}{b:Bool}:du (L++[b]) (L.length / 8)=du L (L.length / 8)+2^(L.length%8) * b.toNat:=by
 unfold du
 rw[List.drop_append_of_le_length (by omega),List.take_of_length_le (by simp;omega),List.take_of_length_le (by simp;omega),jM]
 have:(L.drop (8 * (L.length / 8))).length=L.length%8:=by simp;omega
 rw[this];simp[val]
theorem CA (L:List Bool):du L (L.length / 8)<2^(L.length%8):=by
 unfold du
 refine Nat.lt_of_lt_of_le (wX _) (Nat.pow_le_pow_right (by omega) ?_)
 rw[List.length_take,List.length_drop];omega
theorem G4 (L:List Bool):pk (L++[false])=BP L:=by
 unfold pk BP HN
 simp only[List.length_append,List.length_singleton]
 rw[show(L.length+1+7) / 8=L.length / 8+1 by omega]
 refine List.map_congr_left fun i hi=>?_
 rw[List.mem_range]at hi
 by_cases h:i<L.length / 8
 ·rw[nS h]
 ·rw[show i=L.length / 8 by omega,jN];simp
theorem G5 (L:List Bool):pk (L++[true])=(BP L).set (L.length / 8) (UInt8.ofNat (du L (L.length / 8)+2^(L.length%8))):=by
 apply List.ext_getElem?
 intro i
 unfold pk BP HN
 simp only[List.length_append,List.length_singleton]
 rw[show(L.length+1+7) / 8=L.length / 8+1 by omega,List.getElem?_set]
 simp only[List.length_map,List.length_range,List.getElem?_map]
 by_cases h:L.length / 8=i
 ·subst h
  simp[jN]
 ·rw[if_neg h]
  by_cases h2:i<L.length / 8
  ·rw[List.getElem?_range (by omega)];simp[nS h2]
  ·rw[List.getElem?_eq_none (by simp;omega)];rfl
theorem IV (L:List Bool):(BP L)[L.length / 8]? =some (UInt8.ofNat (du L (L.length / 8))):=by
 simp[BP,HN]
def aG (n k:Nat):List Bool:=(List.range k).map n.testBit
theorem uN (n k:Nat):aG n (k+1)=aG n k++[n.testBit k]:=by simp[aG,List.range_succ]
theorem au (n k:Nat):(aG n k).length=k:=by simp[aG]

theorem IW {n:Nat}(h:n<256):IntKind.u8.wrap (n:Int)=n:=by
 simp only[IntKind.wrap,IntKind.bits,IntKind.signed]
 simp;omega
theorem oJ {n:Nat}(h:n<18446744073709551616):IntKind.u64.wrap (n:Int)=n:=by
 simp only[IntKind.wrap,IntKind.bits,IntKind.signed]
 simp;omega
theorem Ot {a:Nat}(h:a<9223372036854775808):cZ .and .i64 (a:Int) 1=((a%2:Nat):Int):=by
 unfold cZ
 have h1:(BitVec.ofInt IntKind.i64.bits (a:Int)).toNat=a:=by
  rw[BitVec.ofInt_natCast,BitVec.toNat_ofNat];exact Nat.mod_eq_of_lt (by simp only[IntKind.bits];omega)
 have h2:(BitVec.ofInt IntKind.i64.bits 1).toNat=1:=by decide
 simp only[BitVec.toNat_and,h1,h2,Nat.and_one_is_mod]
 exact yZ (by omega) (by omega)
theorem Vu {a r:Nat}(hr:r<8)(h:a<2^r):cZ .or .u8 (a:Int) ((2^r:Nat):Int)=((a+2^r:Nat):Int):=by
 have hp:2^r<=128:=by
  have:2^r<=2^7:=Nat.pow_le_pow_right (by omega) (by omega)
  simpa using this
 unfold cZ
 have h1:(BitVec.ofInt IntKind.u8.bits (a:Int)).toNat=a:=by
  rw[BitVec.ofInt_natCast,BitVec.toNat_ofNat];exact Nat.mod_eq_of_lt (by simp only[IntKind.bits];omega)
 have h2:(BitVec.ofInt IntKind.u8.bits ((2^r:Nat):Int)).toNat=2^r:=by
  rw[BitVec.ofInt_natCast,BitVec.toNat_ofNat];exact Nat.mod_eq_of_lt (by simp only[IntKind.bits];omega)
 have h3:a ||| 2^r=a+2^r:=by
  have:=Nat.two_pow_add_eq_or_of_lt h 1
  rw[Nat.mul_one]at this
  rw[Nat.or_comm,<- this];omega
 simp only[BitVec.toNat_or,h1,h2,h3]
 exact IW (by omega)
theorem LL {n k:Nat}(hk:k<64):((n:Int).fdiv (2^(min ((k:Int)).toNat IntKind.i64.bits)))=((n / 2^k:Nat):Int):=by
 have:min ((k:Int)).toNat IntKind.i64.bits=k:=by simp only[IntKind.bits,Int.toNat_natCast];omega
 rw[this,Int.fdiv_eq_ediv_of_nonneg _ (Int.le_of_lt (Int.pow_pos (by decide)))]
 norm_cast
theorem nT (n k:Nat):n / 2^k%2=(n.testBit k).toNat:=by
 rw[Nat.testBit_eq_decide_div_mod_eq]
 rcases Nat.mod_two_eq_zero_or_one (n / 2^k)with h|h <;> simp[h]
theorem lY {x:Nat}(h:x<256):B (UInt8.ofNat x)= .int .u8 (x:Int):=by
 unfold B;rw[UInt8.toNat_ofNat'];rw[Nat.mod_eq_of_lt h]
theorem LM {r:Nat}(h:r<8):(#[.int .u8 1,.int .u8 2,.int .u8 4,.int .u8 8,.int .u8 16,.int .u8 32,.int .u8 64,.int .u8 128]:Array Value)[r]? =some (.int .u8 ((2^r:Nat):Int)):=by
 have:r=0\/r=1\/r=2\/r=3\/r=4\/r=5\/r=6\/r=7:=by omega
 rcases this with rfl|rfl|rfl|rfl|rfl|rfl|rfl|rfl <;> rfl

def uO (c:UInt8):List Bool:=aG c.toNat 8
def ub (l:List UInt8):List Bool:=l.flatMap uO
theorem gI (c:UInt8):(uO c).length=8:=au _ _
theorem bV:∀l:List UInt8,(ub l).length=8 * l.length
 |[]=>rfl
 |c::l=>by
  have:=bV l
  unfold ub at *
  rw[List.flatMap_cons,List.length_append,this,gI,List.length_cons];omega
theorem qn (n:Nat):∀k,val (aG n k)=n%2^k
 |0=>by simp[aG,val,Nat.mod_one]
 |k+1=>by
  rw[uN,jM,au,qn n k,Nat.mod_pow_succ,nT]
  simp[val]
theorem G6 (c:UInt8):val (uO c)=c.toNat:=by
 unfold uO;rw[qn];exact Nat.mod_eq_of_lt c.toNat_lt
theorem r7 {l:List UInt8}{i:Nat}(h:i<l.length)(m:List Bool):du (ub l++m) i=l[i].toNat:=by
 unfold du
 have e:ub l=ub (l.take i)++(uO l[i]++ub (l.drop (i+1))):=by
  unfold ub
  rw[<- List.flatMap_cons,<- List.flatMap_append,<- List.drop_eq_getElem_cons h,List.take_append_drop]
 have hl:(ub (l.take i)).length=8 * i:=by rw[bV,List.length_take];omega
 rw[e,List.append_assoc,List.append_assoc,<- hl,List.drop_left]
 have h8:=gI l[i]
 rw[show(8:Nat)=(uO l[i]).length from h8.symm,List.take_left,G6]
theorem NB (l:List UInt8):pk (ub l)=l:=by
 unfold pk HN
 rw[bV,show(8 * l.length+7) / 8=l.length by omega]
 apply List.ext_getElem
 ·simp
 ·intro i h1 h2
  have:=r7 h2 []
  rw[List.append_nil]at this
  simp[this]
def dv (L:List Bool):List Bool:=L++List.replicate ((8-L.length%8)%8) false
theorem dU (L:List Bool):(dv L).length=8 * ((L.length+7) / 8):=by
 unfold dv;simp;omega
theorem zo:∀n,val (List.replicate n false)=0
 |0=>rfl
 |n+1=>by simp[List.replicate_succ,val,zo n]
theorem Ez (L:List Bool)(n i:Nat):du (L++List.replicate n false) i=du L i:=by
 unfold du
 rw[List.drop_append,List.take_append,jM,List.drop_replicate,List.take_replicate,zo]
 simp
theorem IX (L:List Bool):pk (dv L)=pk L:=by
 unfold pk
 rw[dU,show(8 * ((L.length+7) / 8)+7) / 8=(L.length+7) / 8 by omega]
 unfold HN dv
 refine List.map_congr_left fun i _=>?_
 rw[Ez]
theorem G7 {L:List Bool}(h:L.length%8=0)(l:List UInt8):pk (L++ub l)=pk L++l:=by
 unfold pk HN
 rw[List.length_append,bV]
 rw[show(L.length+8 * l.length+7) / 8=L.length / 8+l.length by omega,show(L.length+7) / 8=L.length / 8 by omega]
 rw[List.range_add,List.map_append]
 congr 1
 ·refine List.map_congr_left fun i hi=>?_
  rw[List.mem_range]at hi
  unfold du
  rw[List.drop_append_of_le_length (by omega),List.take_append_of_le_length (by simp;omega)]
 ·rw[List.map_map]
  apply List.ext_getElem
  ·simp
  ·intro i h1 h2
   simp only[List.getElem_map,List.getElem_range,Function.comp_apply]
   have:du (L++ub l) (L.length / 8+i)=du (ub l) i:=by
    unfold du
    rw[List.drop_append,List.drop_eq_nil_of_le (by omega),List.nil_append]
    congr 3;omega
   have h3:=r7 h2 []
   rw[List.append_nil]at h3
   rw[this,h3];simp
theorem UH {n k:Nat}(hk:k<8):((n:Int).fdiv (2^(min ((k:Int)).toNat IntKind.u8.bits)))=((n / 2^k:Nat):Int):=by
 have:min ((k:Int)).toNat IntKind.u8.bits=k:=by simp only[IntKind.bits,Int.toNat_natCast];omega
 rw[this,Int.fdiv_eq_ediv_of_nonneg _ (Int.le_of_lt (Int.pow_pos (by decide)))]
 norm_cast
theorem OV {a:Nat}(h:a<256):cZ .and .u8 (a:Int) 1=((a%2:Nat):Int):=by
 unfold cZ
 have h1:(BitVec.ofInt IntKind.u8.bits (a:Int)).toNat=a:=by
  rw[BitVec.ofInt_natCast,BitVec.toNat_ofNat];exact Nat.mod_eq_of_lt (by simp only[IntKind.bits];omega)
 have h2:(BitVec.ofInt IntKind.u8.bits 1).toNat=1:=by decide
 simp only[BitVec.toNat_and,h1,h2,Nat.and_one_is_mod]
 exact IW (by omega)
theorem EA:∀ {l:List UInt8} {i:Nat} (h:i / 8<l.length),(ub l)[i]? =some (l[i / 8].toNat.testBit (i%8))
 |c::l,i,h=>by
  have e:ub (c::l)=uO c++ub l:=by unfold ub;rw[List.flatMap_cons]
  rw[e]
  by_cases hi:i<8
  ·rw[List.getElem?_append_left (by rw[gI];exact hi)]
   have h0:i / 8=0:=by omega
   have h1:i%8=i:=by omega
   simp only[h0,h1,List.getElem_cons_zero,uO,aG]
   simp[hi]
  ·rw[List.getElem?_append_right (by rw[gI];omega),gI]
   have h0:i / 8=(i-8) / 8+1:=by omega
   have h1:i%8=(i-8)%8:=by omega
   rw[EA (l:=l) (i:=i-8) (by rw[h0]at h;simpa using h)]
   simp only[h0,h1,List.getElem_cons_succ]
def KY (L:List Bool)(at_ k:Nat):Nat:=val ((L.drop at_).take k)
theorem wZ (L:List Bool)(at_ k:Nat):KY L at_ k<2^k:=by
 refine Nat.lt_of_lt_of_le (wX _) (Nat.pow_le_pow_right (by omega) (List.length_take_le _ _))
theorem CB {L:List Bool}{at_ k:Nat}{b:Bool}(h:L[at_+k]? =some b):KY L at_ (k+1)=KY L at_ k+2^k * b.toNat:=by
 have hl:at_+k<L.length:=by
  rcases Nat.lt_or_ge (at_+k) L.length with c|c
  ·exact c
  ·rw[List.getElem?_eq_none c]at h;cases h
 unfold KY
 have hd:(L.drop at_)[k]? =some b:=by rw[List.getElem?_drop];exact h
 have hk:k<(L.drop at_).length:=by rw[List.length_drop];omega
 rw[List.take_succ_eq_append_getElem hk,jM,List.length_take,Nat.min_eq_left (by omega)]
 have:(L.drop at_)[k]=b:=by rw[List.getElem?_eq_getElem hk]at hd;exact Option.some.inj hd
 rw[this];simp[val]
theorem CC (L:List Bool)(at_:Nat):KY L at_ 0=0:=by simp[KY,val]
theorem OW {a k:Nat}{b:Bool}(hk:k<33)(h:a<2^k):cZ .or .i64 (a:Int) (((b.toNat * 2^k:Nat)):Int)=((a+2^k * b.toNat:Nat):Int):=by
 have hp:2^k<=4294967296:=by
  have:2^k<=2^32:=Nat.pow_le_pow_right (by omega) (by omega)
  simpa using this
 have hb:b.toNat * 2^k<=4294967296:=by cases b <;> simp <;> omega
 unfold cZ
 have h1:(BitVec.ofInt IntKind.i64.bits (a:Int)).toNat=a:=by
  rw[BitVec.ofInt_natCast,BitVec.toNat_ofNat];exact Nat.mod_eq_of_lt (by simp only[IntKind.bits];omega)
 have h2:(BitVec.ofInt IntKind.i64.bits ((b.toNat * 2^k:Nat):Int)).toNat=b.toNat * 2^k:=by
  rw[BitVec.ofInt_natCast,BitVec.toNat_ofNat];exact Nat.mod_eq_of_lt (by simp only[IntKind.bits];omega)
 have h3:a ||| b.toNat * 2^k=a+2^k * b.toNat:=by
  have:=Nat.two_pow_add_eq_or_of_lt h b.toNat
  rw[Nat.or_comm,Nat.mul_comm b.toNat,<- this];omega
 simp only[BitVec.toNat_or,h1,h2,h3]
 have:2^k * b.toNat<=4294967296:=by rw[Nat.mul_comm];exact hb
 exact yZ (by omega) (by omega)

def G8 (n:Int)(i:Nat):Bool:=decide (n / 2^i%2=1)
def bl (n:Int)(i:Nat):List Bool:=(List.range i).map (G8 n)
theorem LN (n:Int)(i:Nat):bl n (i+1)=bl n i++[G8 n i]:=by simp[bl,List.range_succ]
theorem oK (n:Int)(i:Nat):(bl n i).length=i:=by simp[bl]
def rv (n:Int)(i:Nat):Nat:=val (bl n i).reverse
theorem LO (n:Int)(i:Nat):rv n (i+1)=2 * rv n i+(G8 n i).toNat:=by
 unfold rv;rw[LN,List.reverse_append];simp[val];omega
theorem NC (n:Int)(i:Nat):rv n i<2^i:=by
 have:=wX (bl n i).reverse
 rwa [List.length_reverse,oK]at this
theorem G9 (n:Int)(i:Nat):((G8 n i).toNat:Int)=n / 2^i%2:=by
 unfold G8
 rcases Int.emod_two_eq (n / 2^i)with h|h <;> simp[h]
theorem R4 (a:Int):cZ .and .i64 a 1=a%2:=by
 unfold cZ
 have h2:(BitVec.ofInt IntKind.i64.bits 1).toNat=1:=by decide
 simp only[BitVec.toNat_and,h2,Nat.and_one_is_mod,BitVec.toNat_ofInt]
 rw[yZ (by omega) (by omega)]
 simp only[IntKind.bits]
 omega
theorem UI {n:Int}{k:Nat}(hk:k<64):n.fdiv (2^(min ((k:Int)).toNat IntKind.i64.bits))=n / 2^k:=by
 have:min ((k:Int)).toNat IntKind.i64.bits=k:=by simp only[IntKind.bits,Int.toNat_natCast];omega
 rw[this,Int.fdiv_eq_ediv_of_nonneg _ (Int.le_of_lt (Int.pow_pos (by decide)))]
theorem IY {a:Nat}{b:Bool}(h:a<4294967296):cZ .or .i64 (((a * 2:Nat)):Int) (b.toNat:Int)=((2 * a+b.toNat:Nat):Int):=by
 have hb:b.toNat<=1:=Bool.toNat_le b
 unfold cZ
 have h1:(BitVec.ofInt IntKind.i64.bits ((a * 2:Nat):Int)).toNat=a * 2:=by
  rw[BitVec.ofInt_natCast,BitVec.toNat_ofNat];exact Nat.mod_eq_of_lt (by simp only[IntKind.bits];omega)
 have h2:(BitVec.ofInt IntKind.i64.bits (b.toNat:Int)).toNat=b.toNat:=by
  rw[BitVec.ofInt_natCast,BitVec.toNat_ofNat];exact Nat.mod_eq_of_lt (by simp only[IntKind.bits];omega)
 have h3:a * 2 ||| b.toNat=2 * a+b.toNat:=by
  have:=Nat.two_pow_add_eq_or_of_lt (i:=1) (b:=b.toNat) (by omega) a
  rw[Nat.pow_one]at this
  rw[Nat.mul_comm a 2,<- this]
 simp only[BitVec.toNat_or,h1,h2,h3]
 exact yZ (by omega) (by omega)
end M
namespace B
open Go Go.Proofs Sh Sl T M
theorem jm {W:World}{p:Nat}{a b:Value}{m:Bool}:Cn p_ 157 [.pointer (some ⟨p,0,none⟩)] W [pt p (.cells #[a,b,.bool m] 205)] (fun _:Unit=> .bool (!m)) (fun _=>[pt p (.cells #[a,b,.bool m] 205)]):=by
 (refine S.pZ.cn fun F=>?_;unfold S.lo;simp only[ca_,na_])
 refine o_ vZ ?_;refine ag (ag (o_ aW (ag (o_ aw (ag (ck ?_))))));refine ag (o_ g_ (o_ ap ?_))
 (refine bf Unit.unit (by rfl) ?_;(repeat(first|exact .refl|exact .nil|(apply Imp.pick;(focus ((repeat constructor);done)))|refine .drop ?_)))
def jn (p:Nat)(l:List Bool):HP:=ex fun q:Option Addr × Nat=>all [pt p (.cells #[.slice q.1 (pk l).length q.2,.int .i64 (l.length:Int),.bool true] 205),Sl 1 5 q.1 q.2 (pk l).length ((pk l).map B),pu (l.length<=8388608)]
def r8 (n k:Int):Prop:=k<0\/32<k\/n<0\/2^k.toNat<=n
instance (n k:Int):Decidable (r8 n k):=by unfold r8;infer_instance
def w4 (l:List Bool)(n k:Int):Int:=if r8 n k then 1 else if 8388608-(l.length:Int)<k then 6 else 0
def w5 (l:List Bool)(n k:Int):List Bool:=if w4 l n k=0 then l++aG n.toNat k.toNat else l
theorem R5 {W:World}:Cn p_ 204 [] W [] (fun _:Unit=> .agg #[.int .u8 1,.int .u8 2,.int .u8 4,.int .u8 8,.int .u8 16,.int .u8 32,.int .u8 64,.int .u8 128]) (fun _=>[]):=by
 (refine S.Ax.cn fun F=>?_;unfold S.wF;simp only[ca_,na_])
 refine bm fun g=>?_;refine o_ cu ?_;refine gS ?_;(((refine' aQ (cN ?hn) ?hi ?_);(case hi=>exact aC);(case hn=>rfl)))
 (refine bf Unit.unit (by rfl) ?_;(repeat(first|exact .refl|exact .nil|(apply Imp.pick;(focus ((repeat constructor);done)))|refine .drop ?_)))
def UJ (p:Nat)(l:List Bool):HP:=ex fun q:Option Addr × Nat=>all [pt p (.cells #[.slice q.1 (BP l).length q.2,.int .i64 (l.length:Int),.bool true] 205),Sl 1 5 q.1 q.2 (BP l).length ((BP l).map B)]
theorem put {W : World} {p : Nat} {l : List Bool} {n k : Int} : Cn p_ 156 [.pointer (some ⟨p, 0, none⟩), .int .i64 n, .int .i64 k] W [jn p l] (fun _ : Unit => .int .i64 (w4 l n k)) (fun _ => [jn p (w5 l n k)]) := by
 (refine S.rk.cn fun F => ?_; unfold S.ms; simp only [ca_, na_])
 refine aX Pick.here fun q => ?_
 obtain ⟨qa, qc⟩ := q
 refine aB Pick.here ?_
 (try simp only [ca_, na_])
 refine aT (.there (.there .here)) fun hL => ?_
 refine eR (fun z => pt p (.cells #[.slice qa (pk l).length qc, .int .i64 (l.length : Int), .bool true] 205) :: Sl 1 5 qa qc (pk l).length ((pk l).map B) :: pu (z = .bool (decide (r8 n k))) :: F) ?_ ?_
 ·intro ds z
  refine aT (.there (.there .here)) fun hz => ?_
  subst hz
  by_cases hb : r8 n k
  ·rw [dT_ hb]
   refine ab ?_
   refine bf () (by simp [w4, hb]) ?_
   rw [show w5 l n k = l by simp [w5, w4, hb]]
   refine Imp.ex (qa, qc) (.all ?_)
   (try simp only [ca_, na_])
   refine .pick .here (.pick .here (.pu hL .refl))
  ·rw [dF_ hb]
   refine aa ?_; refine am aW .nil ?_; refine am aw .nil ?_; (((refine' am (br ?hc) ?hi ?_); (case hi => exact .pick (by repeat constructor) .nil); (case hc => repeat constructor))); (refine am (ep (by omega) (by omega)) .nil ?_)
   refine aF bq .nil (fun h => ?_) (fun h => ?_)
   ·(refine ab ?_)
    refine bf () (by simp [w4, hb, h]) ?_
    rw [show w5 l n k = l by simp [w5, w4, hb, h]]
    refine Imp.ex (qa, qc) (.all ?_)
    (try simp only [ca_, na_])
    refine .pick .here (.pick .here (.pu hL .refl))
   ·(refine aa ?_)
    (refine' aH (R5) ?hp fun _ => ?_; (case hp => (repeat (first | exact Picks.nil | (apply Picks.cons; (focus repeat constructor))))); (try simp only [ca_, na_, Bool.not_true, Bool.not_false]))
    refine bm fun g => ?_; (((refine' bY ?hp ?hn ?hv ?h1 ?_); (case hp => (repeat constructor)); (case hn => rfl); (case hv => rfl); (case h1 => simp [Value.oneCell'])))
    rename_i g
    have hR : w4 l n k = 0 := by simp [w4, hb, h]
    have hb' : 0 <= k /\ k <= 32 /\ 0 <= n /\ n < 2 ^ k.toNat := by unfold r8 at hb; omega
    have hPL : w5 l n k = l ++ aG n.toNat k.toNat := by simp [w5, hR]
    rw [hR, hPL]
    obtain ⟨h1, h2, h3, h4⟩ := hb'
    obtain ⟨K, rfl⟩ := Int.eq_ofNat_of_zero_le h1
    obtain ⟨N, rfl⟩ := Int.eq_ofNat_of_zero_le h3
    rw [Int.toNat_natCast] at h4
    rw [Int.toNat_natCast, Int.toNat_natCast]
    have hN : N < 4294967296 := by
     have : (2 : Int) ^ K = ((2 ^ K : Nat) : Int) := by norm_cast
     have h32 : 2 ^ K <= 2 ^ 32 := Nat.pow_le_pow_right (by omega) (by omega)
     omega
    clear hR hPL hb h4
    refine bj (fun m y => [ex fun i : Nat => all [pu (m + i = K /\ y = .int .i64 (i : Int)), pt g (.cells #[.int .u8 1, .int .u8 2, .int .u8 4, .int .u8 8, .int .u8 16, .int .u8 32, .int .u8 64, .int .u8 128] 266), jn p (l ++ aG N i)]] ++ F) K ?_ ?_
    ·refine Imp.ex 0 (.all ?_)
     (try simp only [ca_, na_])
     refine .pu ⟨by omega, rfl⟩ (.pick .here (.ex (qa, qc) (.all ?_)))
     (try simp only [ca_, na_])
     rw [show l ++ aG N 0 = l by simp [aG]]
     exact .pick .here (.pick .here (.pu hL .refl))
    ·intro m ds y
     (try simp only [ca_, na_])
     refine aX Pick.here fun i => aB Pick.here ?_
     (try simp only [ca_, na_])
     refine aT Pick.here fun hi => ?_
     obtain ⟨hm, rfl⟩ := hi
     obtain ⟨L, hLe⟩ : ∃ L, L = l ++ aG N i := ⟨_, rfl⟩
     have hLl : L.length = l.length + i := by rw [hLe, List.length_append, au]
     rw [<- hLe]
     refine aF aI .nil (fun h => ?_) (fun h => ?_)
     ·have hik : i < K := by omega
      refine ab ?_
      refine jx ([pt g (.cells #[.int .u8 1, .int .u8 2, .int .u8 4, .int .u8 8, .int .u8 16, .int .u8 32, .int .u8 64, .int .u8 128] 266), UJ p L] ++ F) ?_ ?_
      ·intro ds2
       (try simp only [ca_, na_])
       refine aX (.there .here) fun q2 => ?_
       obtain ⟨xa, xc⟩ := q2
       refine aB Pick.here ?_
       (try simp only [ca_, na_])
       refine jx ([pt g (.cells #[.int .u8 1, .int .u8 2, .int .u8 4, .int .u8 8, .int .u8 16, .int .u8 32, .int .u8 64, .int .u8 128] 266), pt p (.cells #[.slice xa (BP L).length xc, .int .i64 (L.length : Int), .bool true] 205), Sl 1 5 xa xc (BP L).length ((pk (L ++ [N.testBit i])).map B)] ++ F) ?_ ?_
       ·intro ds3
        (try simp only [ca_, na_])
        refine am aW .nil ?_; refine am aw .nil ?_; (((refine' am (br ?hc) ?hi ?_); (case hi => exact .pick (by repeat constructor) .nil); (case hc => repeat constructor))); (refine am (ct (by omega) (by omega)) .nil ?_); refine am aW .nil ?_; refine am aw .nil ?_; (((refine' fS ?hp ?ho ?_); (case hp => (repeat constructor)); (case ho => repeat constructor))); (refine am (ct (by omega) (by omega)) .nil ?_)
        refine aP (m - 1) (by omega) (.ex (i + 1) (.all ?_))
        (try simp only [ca_, na_])
        refine .pu ⟨by omega, by norm_cast⟩ (.pick (.there .here) (.ex (xa, xc) (.all ?_)))
        (try simp only [ca_, na_])
        have e1 : l ++ aG N (i + 1) = L ++ [N.testBit i] := by rw [hLe, uN, List.append_assoc]
        have e2 : (pk (L ++ [N.testBit i])).length = (BP L).length := by rw [fd, wY]; simp; omega
        rw [e1, e2]
        have e3 : ((L ++ [N.testBit i]).length : Int) = (L.length : Int) + 1 := by simp
        rw [e3]
        exact .pick .here (.pick (.here) (.pu (by simp; omega) .refl))
       ·refine am bO .nil ?_
        rw [oJ (by omega)]
        refine am (jy (by omega)) .nil ?_
        rw [LL (by omega)]
        refine am ur .nil ?_
        have hdiv : N / 2 ^ i <= N := Nat.div_le_self _ _
        rw [Ot (by omega), nT]
        refine aF bF .nil (fun h => ?_) (fun h => ?_)
        ·have hbit : N.testBit i = true := by
          cases hh : N.testBit i with
          | true => rfl
          | false => rw [hh] at h; simp at h
         have hpx := wY L
         refine fE (.there .here) (by omega) fun g1 hg1 => ?_
         subst hg1
         refine ab ?_; refine bM ?_; refine aQ aW .nil ?_; refine aQ aw .nil ?_; (((refine' aQ (br ?hc) ?hi ?_); (case hi => exact .pick (by repeat constructor) .nil); (case hc => repeat constructor))); refine aQ aW .nil ?_; refine aQ aw .nil ?_; (((refine' aQ (br ?hc) ?hi ?_); (case hi => exact .pick (by repeat constructor) .nil); (case hc => repeat constructor))); (((refine aQ (uo ?h1 ?h2 ?h3) .nil ?_); (case h1 => omega); (case h2 => omega); (case h3 => omega)))
         refine aQ (bA (L.length / 8) (by norm_cast) (by omega)) .nil ?_
         refine aQ (dP (v := B (UInt8.ofNat (du L (L.length / 8)))) (by rw [Nat.zero_add, List.getElem?_map, IV]; rfl)) (.pick (.there .here) .nil) ?_
         refine aQ aW .nil ?_; refine aQ aw .nil ?_; (((refine' aQ (br ?hc) ?hi ?_); (case hi => exact .pick (by repeat constructor) .nil); (case hc => repeat constructor))); (((refine aQ (uq ?h1 ?h2) .nil ?_); (case h1 => omega); (case h2 => omega)))
         refine aQ (dL (L.length % 8) (by norm_cast) (by omega)) .nil ?_
         refine aQ (iA (by rw [Nat.zero_add, Nat.mul_one]; exact LM (by omega))) (.pick (.there (.there .here)) .nil) ?_
         rw [lY (tM _ _)]
         refine aQ BY .nil ?_
         rw [Vu (by omega) (CA L)]
         refine aQ (bA (L.length / 8) (by norm_cast) (by omega)) .nil ?_
         refine jz (.there .here) (by simp; omega) ?_
         refine a_ ?_
         have e4 : du L (L.length / 8) + 2 ^ (L.length % 8) < 256 := by
          have := tM (L ++ [true]) (L.length / 8)
          rw [jN] at this; simpa using this
         rw [hbit, G5, Nat.zero_add, List.map_set, lY e4]
         (try simp only [ca_, na_])
         (repeat (first | exact .refl | exact .nil | (apply Imp.pick; (focus ((repeat constructor); done))) | refine .drop ?_))
        ·have hbit : N.testBit i = false := by
          cases hh : N.testBit i with
          | false => rfl
          | true => rw [hh] at h; simp at h
         refine aa ?_
         refine a_ ?_
         rw [hbit, G4]
         (try simp only [ca_, na_])
         (repeat (first | exact .refl | exact .nil | (apply Imp.pick; (focus ((repeat constructor); done))) | refine .drop ?_))
      ·refine aX (.there .here) fun q2 => ?_
       obtain ⟨xa, xc⟩ := q2
       refine aB Pick.here ?_
       (try simp only [ca_, na_])
       refine aT (.there (.there .here)) fun hL2 => ?_
       refine am aW .nil ?_; refine am aw .nil ?_; (((refine' am (br ?hc) ?hi ?_); (case hi => exact .pick (by repeat constructor) .nil); (case hc => repeat constructor))); (((refine am (uq ?h1 ?h2) .nil ?_); (case h1 => omega); (case h2 => omega)))
       have hpk := fd L
       refine aF bF .nil (fun h => ?_) (fun h => ?_)
       ·(refine ab ?_); refine am aW .nil ?_; refine am aw .nil ?_; (((refine' am (br ?hc) ?hi ?_); (case hi => exact .pick (by repeat constructor) .nil); (case hc => repeat constructor))); refine kF fun g => ?_
        refine co (m := 1) (news := [B 0]) (.there (.there .here)) (dq (e' := 5) (by kernel_rfl) .here (by rfl) (hH (l := [0]))) (by omega) (by omega) fun a' c' => ?_
        refine am aW .nil ?_; refine am aw .nil ?_; (((refine' fS ?hp ?ho ?_); (case hp => (repeat constructor)); (case ho => repeat constructor)))
        refine a_ ?_
        (try simp only [ca_, na_])
        refine .pick (.there (.there (.there .here))) (.ex (a', c') (.all ?_))
        (try simp only [ca_, na_])
        have h8 : L.length % 8 = 0 := by omega
        rw [UF h8]
        simp only [List.length_append, List.length_singleton, List.map_append, List.map_cons, List.map_nil]
        (repeat (first | exact .refl | exact .nil | (apply Imp.pick; (focus ((repeat constructor); done))) | refine .drop ?_))
       ·(refine aa ?_)
        refine a_ ?_
        (try simp only [ca_, na_])
        refine .pick (.there (.there .here)) (.ex (xa, xc) (.all ?_))
        (try simp only [ca_, na_])
        rw [UG (by omega)]
        (repeat (first | exact .refl | exact .nil | (apply Imp.pick; (focus ((repeat constructor); done))) | refine .drop ?_))
     ·have : i = K := by omega
      subst this
      refine aa ?_
      refine ed () ?_
      rw [<- hLe]
      exact .pick (.there .here) (.drop .refl)
 ·(refine' aH (jm) ?hp fun _ => ?_; (case hp => (repeat (first | exact Picks.nil | (apply Picks.cons; (focus repeat constructor))))); (try simp only [ca_, na_, Bool.not_true, Bool.not_false]))
  refine aa ?_
  have fin : ∀ z : Value, z = .bool (decide (r8 n k)) -> be W (pt p (.cells #[.slice qa (pk l).length qc, .int .i64 (l.length : Int), .bool true] 205) :: Sl 1 5 qa qc (pk l).length ((pk l).map B) :: F) (fun w => sat W (pt p (.cells #[.slice qa (pk l).length qc, .int .i64 (l.length : Int), .bool true] 205) :: Sl 1 5 qa qc (pk l).length ((pk l).map B) :: pu (z = .bool (decide (r8 n k))) :: F) w) := fun z hz => a_ (.pick .here (.pick .here (.pu hz .refl)))
  refine aF aI .nil (fun h => ?_) (fun h => ?_)
  ·(refine ab ?_)
   exact fin _ (by rw [dT_ (show r8 n k from .inl h)])
  ·(refine aa ?_)
   refine aF bq .nil (fun h => ?_) (fun h => ?_)
   ·(refine ab ?_)
    exact fin _ (by rw [dT_ (show r8 n k from .inr (.inl ‹_›))])
   ·(refine aa ?_)
    refine aF aI .nil (fun h => ?_) (fun h => ?_)
    ·(refine ab ?_)
     exact fin _ (by rw [dT_ (show r8 n k from .inr (.inr (.inl ‹_›)))])
    ·(refine aa ?_)
     refine am vX .nil ?_
     rw [if_neg (by omega)]
     refine am Fc .nil ?_
     rw [show (if (0 : Int) < k then k else 0) = k by split <;> omega]
     obtain ⟨K, rfl⟩ := Int.eq_ofNat_of_zero_le (show 0 <= k by omega)
     refine am bO .nil ?_
     rw [oJ (by omega)]
     refine am (me (by omega)) .nil ?_
     have hm : min ((K : Int)).toNat IntKind.i64.bits = K := by simp only [IntKind.bits, Int.toNat_natCast]; omega
     have h32 : 2 ^ K <= 2 ^ 32 := Nat.pow_le_pow_right (by omega) (by omega)
     have hc : (2 : Int) ^ K = ((2 ^ K : Nat) : Int) := by norm_cast
     obtain ⟨E, hE⟩ : ∃ E, E = 2 ^ K := ⟨_, rfl⟩
     rw [<- hE] at hc h32
     rw [hm, Int.one_mul, hc, yZ (by omega) (by omega)]
     refine am dg .nil ?_
     refine fin _ ?_
     have : ((E : Int) <= n) ↔ r8 n K := by
      unfold r8
      rw [Int.toNat_natCast, hc]
      constructor
      ·exact fun h => .inr (.inr (.inr h))
      ·rintro (h | h | h | h)
       ·omega
       ·omega
       ·omega
       ·exact h
     rw [decide_eq_decide.2 this]
theorem zp {W:World}:Cn p_ 110 [] W [] (fun p:Nat=> .pointer (some ⟨p,0,none⟩)) (fun p=>[jn p []]):=by
 (refine S.tm.cn fun F=>?_;unfold S.nv;simp only[ca_,na_])
 refine o_ cu ?_;refine cv fun g=>?_
 refine bf g rfl ?_
 refine .ex (none,0) (.all ?_)
 refine ay ?_
 refine .pick .here ?_
 rw[show(pk []).length=0 from rfl,show List.map B (pk [])=[]from rfl]
 exact cQ (.pu (by simp) .refl)
theorem bits {W:World}{p:Nat}{l:List Bool}:Cn p_ 155 [.pointer (some ⟨p,0,none⟩)] W [jn p l] (fun _:Unit=> .int .i64 (l.length:Int)) (fun _=>[jn p l]):=by
 (refine S.pY.cn fun F=>?_;unfold S.ll;simp only[ca_,na_])
 refine aX Pick.here fun q=>?_
 obtain⟨qa,qc⟩:=q
 refine aB Pick.here ?_
 refine ay ?_
 refine aT (.there (.there .here)) fun hL=>?_
 refine c_ jm fun _=>?_
 refine aa (o_ aW (o_ aw (ck ?_)))
 refine bf () rfl ?_
 refine .ex (qa,qc) (.all ?_)
 refine ay ?_
 exact .pick .here (.pick .here (.pu hL .refl))
theorem OX {W:World}{p n qc:Nat}{qa:Option Addr}{m:Int}(hn:n<=4611686018427387904 / 8):Cn p_ 197 [.pointer (some ⟨p,0,none⟩)] W [pt p (.cells #[.slice qa n qc,.int .i64 m,.bool true] 205)] (fun _:Unit=> .tuple #[]) (fun _=>[pt p (.cells #[.slice qa n qc,.int .i64 (8 * (n:Int)),.bool true] 205)]):=by
 (refine S.i8.cn fun F=>?_;unfold S.gF;simp only[ca_,na_])
 refine c_ jm fun _=>?_
 refine o_ ee (ab (o_ aW (o_ aw (ck ?_))));refine o_ aN ?_;(refine o_ (gZ (by omega) (by omega)) ?_);refine o_ aW (o_ aw (fX ?_))
 refine ed () ?_
 exact .pick .here .refl
theorem R6 {W:World}{p:Nat}{l:List Bool}:Cn p_ 197 [.pointer (some ⟨p,0,none⟩)] W [jn p l] (fun _:Unit=> .tuple #[]) (fun _=>[jn p (dv l)]):=by
 (refine S.i8.cn fun F=>?_;unfold S.gF;simp only[ca_,na_])
 refine aX Pick.here fun q=>?_
 obtain⟨qa,qc⟩:=q
 refine aB Pick.here ?_
 refine ay ?_
 refine aT (.there (.there .here)) fun hL=>?_
 have hpk:=fd l
 refine c_ jm fun _=>?_
 refine o_ ee (ab (o_ aW (o_ aw (ck ?_))));refine o_ aN ?_;(refine o_ (gZ (by omega) (by omega)) ?_);refine o_ aW (o_ aw (fX ?_))
 refine ed () ?_
 refine .ex (qa,qc) (.all ?_)
 refine ay ?_
 rw[IX,show((dv l).length:Int)=8 * ((pk l).length:Int) by rw[dU,hpk];norm_cast]
 exact .pick .here (.pick .here (.pu (by rw[dU];omega) .refl))
theorem bytes {W:World}{p:Nat}{l:List Bool}:Cn p_ 113 [.pointer (some ⟨p,0,none⟩)] W [jn p l] (fun q:Option Addr × Nat=> .slice q.1 (pk l).length q.2) (fun q=>[Sl 1 5 q.1 q.2 (pk l).length ((pk l).map B),jn p l]):=by
 (refine S.oZ.cn fun F=>?_;unfold S.kp;simp only[ca_,na_])
 refine aX Pick.here fun q=>?_
 obtain⟨qa,qc⟩:=q
 refine aB Pick.here ?_
 refine ay ?_
 refine aT (.there (.there .here)) fun hL=>?_
 have hpk:=fd l
 refine c_ jm fun _=>?_
 refine aa (o_ aW (o_ aw (ck ?_)))
 refine d_ (s:=1) (e:=5) ?_
 refine co (m:=(pk l).length) (news:=(pk l).map B) .here (H7 (e':=5) (by kernel_rfl) (.there (.there .here)) hH) (by omega) (by omega) fun a' c'=>?_
 rw[Nat.zero_add,List.nil_append]
 refine bf (a',c') rfl ?_
 refine .pick .here (.ex (qa,qc) (.all ?_))
 refine ay ?_
 exact .pick .here (.pick .here (.pu hL .refl))
def EB (l:List Bool)(b:List UInt8):Int:=if 1048576<(pk l).length+b.length then 6 else 0
def EC (l:List Bool)(b:List UInt8):List Bool:=if EB l b=0 then dv l++ub b else l
theorem Vv {W : World} {p : Nat} {l : List Bool} {a : Option Addr} {cap : Nat} {b : List UInt8} {A : HP} (hr : RdB W A a b.length (b.map B)) (ha : a = none -> b.length = 0) (hb : b.length <= 4611686018427387904) :
  Cn p_ 198 [.pointer (some ⟨p, 0, none⟩), .slice a b.length cap] W [jn p l, A] (fun _ : Unit => .int .i64 (EB l b)) (fun _ => [jn p (EC l b), A]) := by
 (refine S.rx.cn fun F => ?_; unfold S.mz; simp only [ca_, na_])
 refine aX Pick.here fun q => ?_
 obtain ⟨qa, qc⟩ := q
 refine aB Pick.here ?_
 (try simp only [ca_, na_])
 refine aT (.there (.there .here)) fun hL => ?_
 have hpk := fd l
 (refine' aH (jm) ?hp fun _ => ?_; (case hp => (repeat (first | exact Picks.nil | (apply Picks.cons; (focus repeat constructor))))); (try simp only [ca_, na_, Bool.not_true, Bool.not_false]))
 refine aa ?_; refine am aN .nil ?_; refine am aW .nil ?_; refine am aw .nil ?_; (((refine' am (br ?hc) ?hi ?_); (case hi => exact .pick (by repeat constructor) .nil); (case hc => repeat constructor))); refine am aN .nil ?_; (refine am (ep (by omega) (by omega)) .nil ?_)
 refine aF bq .nil (fun h => ?_) (fun h => ?_)
 ·(refine ab ?_)
  have hR : EB l b = 6 := by unfold EB; rw [if_pos (by omega)]
  rw [hR]
  refine bf () rfl ?_
  rw [show EC l b = l by simp [EC, hR]]
  refine .ex (qa, qc) (.all ?_)
  (try simp only [ca_, na_])
  exact .pick .here (.pick .here (.pu hL .refl))
 ·have hR : EB l b = 0 := by unfold EB; rw [if_neg (by omega)]
  rw [hR, show EC l b = dv l ++ ub b by simp [EC, hR]]
  refine aa ?_; refine am aW .nil ?_; refine am aw .nil ?_; (((refine' am (br ?hc) ?hi ?_); (case hi => exact .pick (by repeat constructor) .nil); (case hc => repeat constructor)))
  refine co (m := b.length) (news := b.map B) (.there .here) (fM (A := A) (e' := 5) (by kernel_rfl) (.there (.there .here)) hr ha hH) (by omega) (by omega) fun a' c' => ?_
  refine am aW .nil ?_; refine am aw .nil ?_; (((refine' fS ?hp ?ho ?_); (case hp => (repeat constructor)); (case ho => repeat constructor)))
  (refine' aH (OX (n := (pk l).length + b.length) (by omega)) ?hp fun _ => ?_; (case hp => (repeat (first | exact Picks.nil | (apply Picks.cons; (focus repeat constructor))))); (try simp only [ca_, na_, Bool.not_true, Bool.not_false]))
  refine ed () ?_
  refine .ex (a', c') (.all ?_)
  (try simp only [ca_, na_])
  have hp8 : (dv l).length % 8 = 0 := by rw [dU]; omega
  have hlen : (dv l ++ ub b).length = 8 * ((pk l).length + b.length) := by rw [List.length_append, dU, bV]; omega
  rw [G7 hp8, IX, hlen, List.length_append, List.map_append, show ((8 * ((pk l).length + b.length) : Nat) : Int) = 8 * (((pk l).length + b.length : Nat) : Int) by norm_cast]
  exact .pick .here (.pick .here (.pu (by omega) (.pick .here .refl)))
def vl (p:Nat)(b:List UInt8)(at_:Nat):HP:=ex fun q:Option Addr × Nat=>all [pt p (.cells #[.slice q.1 b.length q.2,.int .i64 (at_:Int),.bool true] 229),Sl 1 5 q.1 q.2 b.length (b.map B),pu (at_<=8 * b.length/\b.length<=140737488355328)]
theorem lZ {W:World}{p:Nat}{a b:Value}{m:Bool}:Cn p_ 183 [.pointer (some ⟨p,0,none⟩)] W [pt p (.cells #[a,b,.bool m] 229)] (fun _:Unit=> .bool (!m)) (fun _=>[pt p (.cells #[a,b,.bool m] 229)]):=by
 (refine S.qd.cn fun F=>?_;unfold S.lr;simp only[ca_,na_])
 refine o_ vZ ?_;refine ag (ag (o_ aW (ag (o_ aw (ag (ck ?_))))));refine ag (o_ g_ (o_ ap ?_))
 (refine bf Unit.unit (by rfl) ?_;(repeat(first|exact .refl|exact .nil|(apply Imp.pick;(focus ((repeat constructor);done)))|refine .drop ?_)))
theorem Fx {W:World}{p n c at_:Nat}{a:Option Addr}{m:Value}(hn:n<=140737488355328)(ha:at_<=8 * n):Cn p_ 184 [.pointer (some ⟨p,0,none⟩)] W [pt p (.cells #[.slice a n c,.int .i64 (at_:Int),m] 229)] (fun _:Unit=> .int .i64 (8 * (n:Int)-at_)) (fun _=>[pt p (.cells #[.slice a n c,.int .i64 (at_:Int),m] 229)]):=by
 (refine S.qe.cn fun F=>?_;unfold S.lu;simp only[ca_,na_])
 refine bM (t_ aW (t_ aw (kS ?_)));refine t_ aN ?_;(refine t_ (gZ (by omega) (by omega)) ?_);refine t_ aW (t_ aw (kS ?_));(refine t_ (ep (by omega) (by omega)) ?_)
 (refine bf Unit.unit (by rfl) ?_;(repeat(first|exact .refl|exact .nil|(apply Imp.pick;(focus ((repeat constructor);done)))|refine .drop ?_)))
theorem OY {W:World}{p at_:Nat}{b:List UInt8}{v:Bool}(hv:(ub b)[at_]? =some v):Cn p_ 215 [.pointer (some ⟨p,0,none⟩)] W [vl p b at_] (fun _:Unit=> .int .i64 (v.toNat:Int)) (fun _=>[vl p b (at_+1)]):=by
 (refine S.rG.cn fun F=>?_;unfold S.mC;simp only[ca_,na_])
 refine aX Pick.here fun q=>?_
 obtain⟨qa,qc⟩:=q
 refine aB Pick.here ?_
 refine ay ?_
 refine aT (.there (.there .here)) fun hL=>?_
 have hlt:at_<8 * b.length:=by
  rw[<- bV]
  rcases Nat.lt_or_ge at_ (ub b).length with h|h
  ·exact h
  ·rw[List.getElem?_eq_none h]at hv;cases hv
 have h8:at_ / 8<b.length:=by omega
 rw[EA h8]at hv
 have hv':=Option.some.inj hv
 refine fE (.there .here) (by omega) fun g hg=>?_
 subst hg
 refine bM (t_ aW (t_ aw (kS ?_)));refine t_ aW (t_ aw (kS ?_));(((refine t_ (uo ?h1 ?h2 ?h3) ?_);(case h1=>omega);(case h2=>omega);(case h3=>omega)))
 refine t_ (bA (at_ / 8) (by norm_cast) (by omega)) ?_
 refine aQ (dP (v:=B b[at_ / 8]) (by rw[Nat.zero_add];exact H9 h8)) (.pick (.there .here) .nil) ?_
 refine t_ aW (t_ aw (kS ?_));(((refine t_ (uq ?h1 ?h2) ?_);(case h1=>omega);(case h2=>omega)))
 have hb:=b[at_ / 8].toNat_lt
 refine t_ bO ?_
 rw[show((at_:Int)%8)=((at_%8:Nat):Int) by norm_cast,oJ (by omega)]
 refine t_ (jy (by omega)) ?_
 rw[UH (by omega)]
 refine t_ ur ?_
 have hdiv:b[at_ / 8].toNat / 2^(at_%8)<=b[at_ / 8].toNat:=Nat.div_le_self _ _
 rw[OV (by omega),nT,hv']
 refine t_ bO ?_
 rw[yZ (by omega) (by cases v <;> simp)]
 refine o_ aW (o_ aw (ck ?_));refine bW ?_;refine o_ aW (o_ aw (fX ?_))
 refine bf () rfl ?_
 refine .ex (some ⟨g,0,none⟩,qc) (.all ?_)
 refine ay ?_
 rw[show((at_+1:Nat):Int)=(at_:Int)+1 by norm_cast]
 exact .pick .here (.pick .here (.pu ⟨by omega,hL.2⟩ .refl))
theorem G_ {W:World}{a:Option Addr}{cap:Nat}{b:List UInt8}{A:HP}(hr:RdB W A a b.length (b.map B))(ha:a=none->b.length=0)(hb:b.length<=140737488355328):
  Cn p_ 133 [.slice a b.length cap] W [A] (fun p:Nat=> .pointer (some ⟨p,0,none⟩)) (fun p=>[vl p b 0,A]):=by
 (refine S.tz.cn fun F=>?_;unfold S.nA;simp only[ca_,na_])
 refine d_ (s:=1) (e:=5) ?_
 refine co (m:=b.length) (news:=b.map B) .here (fM (A:=A) (e':=5) (by kernel_rfl) (.there .here) hr ha hH) (by omega) (by omega) fun a' c'=>?_
 rw[Nat.zero_add,List.nil_append]
 refine o_ cu ?_;refine o_ cu ?_;refine cv fun g=>?_
 refine bf g rfl ?_
 refine .ex (a',c') (.all ?_)
 refine ay ?_
 exact .pick .here (.pick .here (.pu ⟨by omega,hb⟩ (.pick .here .refl)))
theorem left {W:World}{p at_:Nat}{b:List UInt8}:Cn p_ 139 [.pointer (some ⟨p,0,none⟩)] W [vl p b at_] (fun _:Unit=> .int .i64 (8 * (b.length:Int)-at_)) (fun _=>[vl p b at_]):=by
 (refine S.pW.cn fun F=>?_;unfold S.lh;simp only[ca_,na_])
 refine aX Pick.here fun q=>?_
 obtain⟨qa,qc⟩:=q
 refine aB Pick.here ?_
 refine ay ?_
 refine aT (.there (.there .here)) fun hL=>?_
 refine c_ lZ fun _=>?_
 refine aa (o_ aW (o_ aw (c_ (Fx hL.2 hL.1) fun _=>?_)))
 refine bC () ?_
 refine .ex (qa,qc) (.all ?_)
 refine ay ?_
 exact .pick .here (.pick .here (.pu hL .refl))
def cD (b:List UInt8)(at_:Nat)(k:Int):Int:=if k<0\/32<k then 1 else if 8 * (b.length:Int)-at_<k then 20 else 0
def bK (b:List UInt8)(at_:Nat)(k:Int):Nat:=if cD b at_ k=0 then KY (ub b) at_ k.toNat else 0
def aY (b:List UInt8)(at_:Nat)(k:Int):Nat:=if cD b at_ k=0 then at_+k.toNat else at_
theorem take {W:World}{p at_:Nat}{b:List UInt8}{k:Int}:Cn p_ 182 [.pointer (some ⟨p,0,none⟩),.int .i64 k] W [vl p b at_] (fun _:Unit=> .tuple #[.int .i64 (bK b at_ k:Int),.int .i64 (cD b at_ k)]) (fun _=>[vl p b (aY b at_ k)]):=by
 (refine S.p9.cn fun F=>?_;unfold S.lq;simp only[ca_,na_])
 refine eR (fun z=>vl p b at_::pu (z= .bool (decide (k<0\/32<k)))::F) ?_ ?_
 ·intro ds z
  refine aT (.there .here) fun hz=>?_
  subst hz
  by_cases hb:k<0\/32<k
  ·rw[dT_ hb]
   have hR:cD b at_ k=1:=by simp[cD,hb]
   rw[hR,show bK b at_ k=0 by simp[bK,hR],show aY b at_ k=at_ by simp[aY,hR]]
   refine ab (bC () ?_)
   exact aC
  ·rw[dF_ hb]
   refine aX Pick.here fun q=>?_
   obtain⟨qa,qc⟩:=q
   refine aB Pick.here ?_
   refine ay ?_
   refine aT (.there (.there .here)) fun hL=>?_
   refine aa (o_ aW (o_ aw (c_ (Fx hL.2 hL.1) fun _=>?_)))
   refine aF bq .nil (fun h=>?_) (fun h=>?_)
   ·(refine ab ?_)
    have hR:cD b at_ k=20:=by simp[cD,hb,h]
    rw[hR,show bK b at_ k=0 by simp[bK,hR],show aY b at_ k=at_ by simp[aY,hR]]
    refine bC () ?_
    refine .ex (qa,qc) (.all ?_)
    refine ay ?_
    exact .pick .here (.pick .here (.pu hL .refl))
   ·(refine aa ?_)
    have hR:cD b at_ k=0:=by simp[cD,hb,h]
    rw[hR,show bK b at_ k=KY (ub b) at_ k.toNat by simp[bK,hR],show aY b at_ k=at_+k.toNat by simp[aY,hR]]
    obtain⟨K,rfl⟩:=Int.eq_ofNat_of_zero_le (show 0<=k by omega)
    rw[Int.toNat_natCast]
    refine cg (fun m x y=>[ex fun i:Nat=>all [pu (m+i=K/\y= .int .i64 (i:Int)/\x= .int .i64 (KY (ub b) at_ i:Int)),vl p b (at_+i)]]++F) K ?_ ?_
    ·refine Imp.ex 0 (.all ?_)
     refine ay ?_
     refine .pu ⟨by omega,rfl,by rw[CC];rfl⟩ (.ex (qa,qc) (.all ?_))
     refine ay ?_
     exact .pick .here (.pick .here (.pu hL .refl))
    ·intro m ds x y
     refine ay ?_
     refine aX Pick.here fun i=>aB Pick.here ?_
     refine ay ?_
     refine aT Pick.here fun hi=>?_
     obtain⟨hm,rfl,rfl⟩:=hi
     refine aF aI .nil (fun h=>?_) (fun h=>?_)
     ·have hik:i<K:=by omega
      obtain⟨v,hv⟩:∃v,(ub b)[at_+i]? =some v:=⟨_,List.getElem?_eq_getElem (by rw[bV];omega)⟩
      refine ab (o_ aW (o_ aw (c_ (OY hv) fun _=>?_)))
      refine o_ bO ?_
      rw[oJ (by omega)]
      refine o_ (me (by omega)) ?_
      have hmin:min ((i:Int)).toNat IntKind.i64.bits=i:=by simp only[IntKind.bits,Int.toNat_natCast];omega
      have hp:2^i<=2^32:=Nat.pow_le_pow_right (by omega) (by omega)
      have hc:(v.toNat:Int) * 2^i=((v.toNat * 2^i:Nat):Int):=by norm_cast
      have hle:v.toNat * 2^i<=2^i:=by cases v <;> simp
      obtain⟨E,hE⟩:∃E,E=v.toNat * 2^i:=⟨_,rfl⟩
      rw[hmin,hc,<- hE,yZ (by omega) (by omega)]
      refine o_ BY ?_
      rw[hE,OW (by omega) (wZ _ _ _),<- CB hv]
      refine bW ?_
      refine bH (m-1) (by omega) (.ex (i+1) (.all ?_))
      refine ay ?_
      refine .pu (by refine⟨by omega,?_⟩;first|trivial|exact⟨by norm_cast,trivial⟩|norm_cast) ?_
      rw[<- Nat.add_assoc]
      exact aC
     ·have:i=K:=by omega
      subst this
      refine aa (bC () ?_)
      exact aC
 ·refine aX Pick.here fun q=>?_
  obtain⟨qa,qc⟩:=q
  refine aB Pick.here ?_
  refine ay ?_
  refine aT (.there (.there .here)) fun hL=>?_
  refine c_ lZ fun _=>?_
  refine aa ?_
  have fin:∀z:Value,z= .bool (decide (k<0\/32<k))->be W (pt p (.cells #[.slice qa b.length qc,.int .i64 (at_:Int),.bool true] 229)::Sl 1 5 qa qc b.length (b.map B)::F) (fun w=>sat W (vl p b at_::pu (z= .bool (decide (k<0\/32<k)))::F) w):=fun z hz=>a_ (.ex (qa,qc) (.all (.pick .here (.pick .here (.pu hL (.pu hz .refl))))))
  refine aF aI .nil (fun h=>?_) (fun h=>?_)
  ·(refine ab ?_)
   exact fin _ (by rw[dT_ (.inl h)])
  ·(refine aa ?_)
   refine o_ bq (fin _ ?_)
   congr 1
   exact decide_eq_decide.2 ⟨fun h=> .inr h,fun h'=>h'.resolve_left h⟩
theorem OZ {W:World}{p at_:Nat}{b:List UInt8}:Cn p_ 171 [.pointer (some ⟨p,0,none⟩)] W [vl p b at_] (fun _:Unit=> .tuple #[]) (fun _=>[vl p b ((at_+7) / 8 * 8)]):=by
 (refine S.o0.cn fun F=>?_;unfold S.kq;simp only[ca_,na_])
 refine aX Pick.here fun q=>?_
 obtain⟨qa,qc⟩:=q
 refine aB Pick.here ?_
 refine ay ?_
 refine aT (.there (.there .here)) fun hL=>?_
 refine c_ lZ fun _=>?_
 refine o_ ee (ab (o_ aW (o_ aw (o_ aw (ck ?_)))));refine bW ?_;(((refine o_ (uo ?h1 ?h2 ?h3) ?_);(case h1=>omega);(case h2=>omega);(case h3=>omega)));(refine o_ (gZ (by omega) (by omega)) ?_);refine o_ aW (o_ aw (o_ aw (fX ?_)))
 refine bC () ?_
 refine .ex (qa,qc) (.all ?_)
 refine ay ?_
 rw[show(((at_+7) / 8 * 8:Nat):Int)=((at_:Int)+7) / 8 * 8 by norm_cast]
 exact .pick .here (.pick .here (.pu ⟨by omega,hL.2⟩ .refl))
def lim (k:Int):Nat:=(if 32<k then 32 else k).toNat
theorem O0 (k:Int):lim k<=32:=by unfold lim;split <;> omega
theorem O1 (k:Int):(if(0:Int)<(if(32:Int)<k then 32 else k)then(if(32:Int)<k then 32 else k)else 0)=(lim k:Int):=by
 unfold lim;repeat' split <;> omega
theorem reverse {W:World}{n k:Int}:Cn p_ 238 [.int .i64 n,.int .i64 k] W [] (fun _:Unit=> .int .i64 (rv n (lim k):Int)) (fun _=>[]):=by
 (refine S.wL.cn fun F=>?_;unfold S.rL;simp only[ca_,na_])
 have hK:=O0 k
 refine o_ vX (o_ Fc ?_)
 rw[O1]
 obtain⟨K,hKe⟩:∃K,K=lim k:=⟨_,rfl⟩
 rw[<- hKe]at hK
 rw[<- hKe]
 refine cg (fun m x y=>[ex fun i:Nat=>pu (m+i=K/\y= .int .i64 (i:Int)/\x= .int .i64 (rv n i:Int))]++F) K ?_ ?_
 ·exact Imp.ex 0 (.pu ⟨by omega,rfl,rfl⟩ .refl)
 ·intro m ds x y
  refine ay ?_
  refine aX Pick.here fun i=>aT Pick.here fun hi=>?_
  obtain⟨hm,rfl,rfl⟩:=hi
  refine aF aI .nil (fun h=>?_) (fun h=>?_)
  ·have hik:i<K:=by omega
   have hr:=NC n i
   have hp:2^i<=2^31:=Nat.pow_le_pow_right (by omega) (by omega)
   refine ab (o_ (me (by omega)) ?_)
   rw[show(rv n i:Int) * 2^(min ((1:Int)).toNat IntKind.i64.bits)=((rv n i * 2:Nat):Int) by norm_cast,yZ (by omega) (by omega)]
   refine o_ bO ?_
   rw[oJ (by omega)]
   refine o_ (jy (by omega)) ?_
   rw[UI (by omega)]
   refine o_ ur ?_
   rw[R4,<- G9]
   refine o_ BY ?_
   rw[IY (by omega),<- LO]
   refine bW ?_
   exact bH (m-1) (by omega) (.ex (i+1) (.pu (by refine⟨by omega,?_⟩;first|trivial|norm_cast) .refl))
  ·have:i=K:=by omega
   subst this
   refine aa (bC () ?_)
   exact .refl
theorem RdB.none {W:World}{A:HP}{a:Option Addr}{n:Nat}{cs:List Value}(h:RdB W A a n cs)(c:a=none):n=0:=by
 rcases Nat.eq_zero_or_pos n with z|z
 ·exact z
 ·obtain⟨_,_,e,_⟩:=h.at_ z
  rw[c]at e;cases e
def Fy (b:List UInt8)(at_:Nat)(n:Int):Int:=if n<0 then 1 else if(b.length:Int)-((at_+7) / 8:Nat)<n then 20 else 0
def vG (b:List UInt8)(at_:Nat)(n:Int):List UInt8:=if Fy b at_ n=0 then(b.drop ((at_+7) / 8)).take n.toNat else []
def vm (b:List UInt8)(at_:Nat)(n:Int):Nat:=if Fy b at_ n=0 then 8 * ((at_+7) / 8+n.toNat)else at_
theorem UK {W:World}{p at_:Nat}{b:List UInt8}{n:Int}:Cn p_ 174 [.pointer (some ⟨p,0,none⟩),.int .i64 n] W [vl p b at_] (fun q:Option Addr × Nat=> .tuple #[.slice q.1 (vG b at_ n).length q.2,.int .i64 (Fy b at_ n)]) (fun q=>[Sl 1 5 q.1 q.2 (vG b at_ n).length ((vG b at_ n).map B),vl p b (vm b at_ n)]):=by
 (refine S.ro.cn fun F=>?_;unfold S.mu;simp only[ca_,na_])
 refine aX Pick.here fun q=>?_
 obtain⟨qa,qc⟩:=q
 refine aB Pick.here ?_
 refine ay ?_
 refine aT (.there (.there .here)) fun hL=>?_
 refine c_ lZ fun _=>?_
 refine ag (ag (aF aI .nil (fun h=>?_) (fun h=>?_)))
 ·have hR:Fy b at_ n=1:=by simp[Fy,h]
  have hB:vG b at_ n=[]:=by simp[vG,hR]
  have hA:vm b at_ n=at_:=by simp[vm,hR]
  rw[hR,hB,hA]
  refine o_ ap (ab (bC ((none,0)) ?_))
  refine cQ (.ex (qa,qc) (.all ?_))
  refine ay ?_
  exact .pick .here (.pick .here (.pu hL .refl))
 ·(refine o_ ap ?_);refine aa ?_;refine o_ aW ?_;refine o_ aw ?_;refine o_ aw ?_;refine ck ?_;refine bW ?_;(((refine o_ (uo ?h1 ?h2 ?h3) ?_);(case h1=>omega);(case h2=>omega);(case h3=>omega)));refine o_ aW ?_;refine o_ aw ?_;refine o_ aw ?_;refine ck ?_;refine o_ aN ?_;refine fI ?_
  have h0:=h
  refine aF bq .nil (fun h=>?_) (fun h=>?_)
  ·have hR:Fy b at_ n=20:=by rw[Fy,if_neg h0,if_pos (by push_cast;omega)]
   have hB:vG b at_ n=[]:=by simp[vG,hR]
   have hA:vm b at_ n=at_:=by simp[vm,hR]
   rw[hR,hB,hA]
   refine ab (bC ((none,0)) ?_)
   refine cQ (.ex (qa,qc) (.all ?_))
   refine ay ?_
   exact .pick .here (.pick .here (.pu hL .refl))
  ·have hR:Fy b at_ n=0:=by rw[Fy,if_neg h0,if_neg (by push_cast;omega)]
   obtain⟨N,rfl⟩:=Int.eq_ofNat_of_zero_le (show 0<=n by omega)
   have hB:vG b at_ N=(b.drop ((at_+7) / 8)).take N:=by simp[vG,hR]
   have hA:vm b at_ N=8 * ((at_+7) / 8+N):=by simp[vm,hR]
   have hN:(at_+7) / 8+N<=b.length:=by omega
   have hBl:(vG b at_ N).length=N:=by rw[hB,List.length_take,List.length_drop];omega
   rw[hR,hA]
   refine aJ (.there .here) fun f1 f2 f3 f4=>?_
   refine aa (bW ?_);(refine o_ (gZ (by omega) (by omega)) ?_);refine o_ aW (o_ aw (o_ aw (fX ?_)));refine o_ aW (o_ aw (o_ aw (ck ?_)));refine bW ?_
   refine o_ (H8 ((at_+7) / 8) ((at_+7) / 8+N) (by norm_cast) (by norm_cast) (by omega) (by omega)) ?_
   have hcut:=(dh (W:=W) (e:=5) (cap:=qc) (cs:=b.map B) (by simp) f4).cut (cap:=qc) (l:=(at_+7) / 8) (h:=(at_+7) / 8+N) (by omega) (by omega) (by omega)
   refine d_ (s:=1) (e:=5) ?_
   refine co (m:=(at_+7) / 8+N-(at_+7) / 8) .here (fM (e':=5) (by kernel_rfl) (.there (.there .here)) hcut (RdB.none hcut) (fun u hu=>hH u (List.mem_of_mem_drop (List.mem_of_mem_take hu)))) (by omega) (by omega) fun a' c'=>?_
   rw[List.nil_append,Nat.zero_add,Nat.add_sub_cancel_left,<- List.map_drop,<- List.map_take,<- hB]
   refine bf (a',c') (by rw[hBl]) ?_
   rw[hBl]
   refine .pick (by repeat constructor) (.ex (qa,qc) (.all ?_))
   refine ay ?_
   rw[show((8 * ((at_+7) / 8+N):Nat):Int)=8 * (((at_:Int)+7) / 8+N) by norm_cast]
   exact .pick (by repeat constructor) (.pick (by repeat constructor) (.pu (by omega) .refl))
theorem O2 (b:List UInt8)(t:Nat)(n:Int):(vG b t n).length<=b.length:=by
 unfold vG;split <;> simp <;> omega
end B
namespace HM
def dp:List Int->Nat->Nat
 |[],_=>0
 |x::l,j=>(if x=(j:Int)then 1 else 0)+dp l j
theorem eY (j:Nat):∀l m:List Int,dp (l++m) j=dp l j+dp m j
 |[],m=>by simp[dp]
 |x::l,m=>by simp[dp,eY j l m];omega
theorem AS (j:Nat):∀l:List Int,dp l j<=l.length
 |[]=>by simp[dp]
 |x::l=>by have:=AS j l;simp[dp];split <;> omega
theorem fF {l:List Int}{i:Nat}(h:i<l.length)(j:Nat):dp (l.take (i+1)) j=dp (l.take i) j+if l[i]=(j:Int)then 1 else 0:=by
 rw[List.take_succ_eq_append_getElem h,eY];simp[dp]
theorem uP {l:List Int}{j:Nat}:∀ {a b:Nat},a<=b->dp (l.take a) j<=dp (l.take b) j:=fun {a b} h=>by
 have e:l.take b=l.take a++(l.take b).drop a:=by
  have:=(List.take_append_drop a (l.take b)).symm
  rwa [List.take_take,Nat.min_eq_left h]at this
 rw[e,eY];omega
theorem r9 (l:List Int)(i j:Nat):dp (l.take i) j<=dp l j:=by
 have e:=(List.take_append_drop i l).symm
 have:dp l j=dp (l.take i) j+dp (l.drop i) j:=by rw[<- eY,<- e]
 omega
def room (l:List Int):Nat->Int
 |0=>1
 |k+1=>2 * room l k-dp l (k+1)
def nx (l:List Int):Nat->Nat
 |0=>0
 |1=>0
 |k+2=>2 * (nx l (k+1)+dp l (k+1))
def O3 (l:List Int):Prop:=∀x∈l,0<=x/\x<=15
structure okL (l:List Int):Prop where
 len:l.length<=320
 ins:O3 l
 room:0<=room l 15
instance (l:List Int):Decidable (O3 l):=by unfold O3;infer_instance
instance (l:List Int):Decidable (okL l):=decidable_of_iff (l.length<=320/\O3 l/\0<=HM.room l 15) ⟨fun⟨a,b,c⟩=>⟨a,b,c⟩,fun⟨a,b,c⟩=>⟨a,b,c⟩⟩
theorem Fz (l:List Int):∀k,((nx l (k+1)+dp l (k+1):Nat):Int)=2^(k+1)-room l (k+1)
 |0=>by simp[nx,room];omega
 |k+1=>by
  have ih:=Fz l k
  have e:(2:Int)^(k+1+1)=2 * 2^(k+1):=by rw[Int.pow_succ];omega
  rw[e]
  simp only[nx,room]at *
  push_cast at *
  omega
theorem CD {l:List Int}{k:Nat}(h:room l k<0):∀m,room l (k+m)<0
 |0=>h
 |m+1=>by have:=CD h m;rw[<- Nat.add_assoc];simp only[room];omega
theorem uQ {l:List Int}{n k:Nat}(h:0<=room l n)(hk:k<=n):0<=room l k:=by
 rcases Int.lt_or_le (room l k) 0 with c|c
 ·have:=CD c (n-k)
  rw[show k+(n-k)=n by omega]at this;omega
 ·exact c
theorem FA (l : List Int) : ∀ k, room l k ≤ 2 ^ k
  | 0 => by simp [room]
  | k + 1 => by have := FA l k; have e : (2 : Int) ^ (k + 1) = 2 * 2 ^ k := by rw [Int.pow_succ]; omega
                simp only [room]; omega
theorem okL.fit {l:List Int}(h:okL l){k:Nat}(hk:k+1<=15):nx l (k+1)+dp l (k+1)<=2^(k+1):=by
 have h1:=Fz l k
 have h2:=uQ h.room hk
 have h3:((nx l (k+1)+dp l (k+1):Nat):Int)<=((2^(k+1):Nat):Int):=by push_cast at *;omega
 exact Int.ofNat_le.1 h3
theorem FB (l:List Int){n:Nat}(h:1<=n):nx l (n+1)=2 * (nx l n+dp l n):=by
 obtain⟨k,rfl⟩:∃k,n=k+1:=⟨n-1,by omega⟩
 rfl
def gJ (l:List Int)(n i:Nat):Nat:=nx l n+dp (l.take i) n
theorem w6 {l:List Int}{n i:Nat}(h:i<l.length):gJ l n (i+1)=gJ l n i+if l[i]=(n:Int)then 1 else 0:=by
 unfold gJ;rw[fF h];omega
theorem okL.cur_lt {l:List Int}(h:okL l){n i:Nat}(h1:1<=n)(h2:n<=15):gJ l n i<=2^n:=by
 obtain⟨k,rfl⟩:∃k,n=k+1:=⟨n-1,by omega⟩
 have:=h.fit h2
 have:=r9 l i (k+1)
 unfold gJ;omega
theorem okL.cur_lt' {l:List Int}(h:okL l){n i:Nat}(hi:i<l.length)(hn:l[i]=(n:Int))(h1:1<=n)(h2:n<=15):gJ l n i<2^n:=by
 have:=h.cur_lt (i:=i+1) h1 h2
 rw[w6 hi,if_pos hn]at this;omega
def bQ (l:List Int)(i:Nat):Nat:=match l[i]? with
 |some x=>if 0<x then gJ l x.toNat i else 0
 |none=>0
def dY (l:List Int):List Int:=(List.range l.length).map fun i=>(bQ l i:Int)
theorem gK (l:List Int):(dY l).length=l.length:=by simp[dY]
theorem jO {l:List Int}{i n:Nat}(h:i<l.length)(hn:l[i]=(n:Int))(h1:1<=n):bQ l i=gJ l n i:=by
 unfold bQ
 rw[List.getElem?_eq_getElem h]
 simp only
 rw[if_pos (by omega),hn,Int.toNat_natCast]
theorem CE {l:List Int}{i:Nat}(h:i<l.length)(hn:l[i]<=0):bQ l i=0:=by
 unfold bQ
 rw[List.getElem?_eq_getElem h]
 simp only
 rw[if_neg (by omega)]
def wk:List Int->Nat->Nat
 |[],_=>0
 |x::l,k=>(if 0<x/\x<=k then 2^(k-x.toNat)else 0)+wk l k
theorem FC (k:Nat):∀l:List Int,wk l (k+1)=2 * wk l k+dp l (k+1)
 |[]=>by simp[wk,dp]
 |x::l=>by
  have ih:=FC k l
  simp only[wk,dp,ih]
  by_cases h:0<x/\x<=k
  ·rw[if_pos h,if_pos ⟨h.1,by omega⟩,if_neg (by omega),show k+1-x.toNat=(k-x.toNat)+1 by omega,Nat.pow_succ];omega
  ·rw[if_neg h]
   by_cases h2:x=((k+1:Nat):Int)
   ·rw[if_pos (by omega),if_pos h2,show k+1-x.toNat=0 by omega];omega
   ·rw[if_neg (by omega),if_neg h2];omega
theorem FE:∀l:List Int,wk l 0=0
 |[]=>rfl
 |x::l=>by simp only[wk,FE l];rw[if_neg (by omega)]
theorem AT (l:List Int):∀k,room l k=2^k-wk l k
 |0=>by simp[room,FE]
 |k+1=>by
  have ih:=AT l k
  have e:(2:Int)^(k+1)=2 * 2^k:=by rw[Int.pow_succ];omega
  rw[FC,room,ih,e];push_cast;omega
theorem LP {l:List Int}:okL l↔l.length<=320/\O3 l/\wk l 15<=32768:=by
 have:=AT l 15
 have e:(2:Int)^15=32768:=by decide
 rw[e]at this
 exact⟨fun h=>⟨h.len,h.ins,by have:=h.room;omega⟩,fun⟨a,b,c⟩=>⟨a,b,by omega⟩⟩
theorem Ha {l:List Int}:room l 15=0↔wk l 15=32768:=by
 have:=AT l 15
 have e:(2:Int)^15=32768:=by decide
 rw[e]at this
 omega

theorem ND {l:List Int}{a:Nat}(ha:1<=a):∀d,(nx l a+dp l a) * 2^(d+1)<=nx l (a+(d+1))
 |0=>by rw[FB l ha];omega
 |d+1=>by
  have ih:=ND (l:=l) ha d
  rw[show a+(d+1+1)=(a+(d+1))+1 by omega,FB l (by omega),Nat.pow_succ]
  have:(nx l a+dp l a) * (2^(d+1) * 2)=2 * ((nx l a+dp l a) * 2^(d+1)):=by rw[<- Nat.mul_assoc,Nat.mul_comm]
  rw[this];omega
theorem apart {l:List Int}{i k a b:Nat}(hi:i<l.length)(hk:k<l.length)(hne:i≠k)(ha:l[i]=(a:Int))(hb:l[k]=(b:Int))(h1:1<=a)(hab:a<=b):bQ l k / 2^(b-a)≠bQ l i:=by
 rw[jO hi ha h1,jO hk hb (by omega)]
 have c1:gJ l a i<nx l a+dp l a:=by
  have:=r9 l (i+1) a
  rw[fF hi,if_pos ha]at this
  unfold gJ;omega
 rcases Nat.lt_or_ge a b with h|h
 ·obtain⟨d,rfl⟩:∃d,b=a+(d+1):=⟨b-a-1,by omega⟩
  have:=ND (l:=l) h1 d
  rw[show a+(d+1)-a=d+1 by omega]
  have c2:nx l a+dp l a<=gJ l (a+(d+1)) k / 2^(d+1):=(Nat.le_div_iff_mul_le (Nat.two_pow_pos _)).2 (Nat.le_trans this (by unfold gJ;omega))
  omega
 ·obtain rfl:a=b:=by omega
  rw[Nat.sub_self,Nat.pow_zero,Nat.div_one]
  unfold gJ
  rcases Nat.lt_or_gt_of_ne hne with c|c
  ·have:=uP (l:=l) (j:=a) (show i+1<=k by omega)
   rw[fF hi,if_pos ha]at this;omega
  ·have:=uP (l:=l) (j:=a) (show k+1<=i by omega)
   rw[fF hk,if_pos hb]at this;omega
end HM
namespace HF
open Go Go.Proofs Sh Sl T HM
def l7 (f:Nat->Int):Array Value:=An 16 f
theorem R7:(#[.int .i64 0,.int .i64 0,.int .i64 0,.int .i64 0,.int .i64 0,.int .i64 0,.int .i64 0,.int .i64 0,.int .i64 0,.int .i64 0,.int .i64 0,.int .i64 0,.int .i64 0,.int .i64 0,.int .i64 0,.int .i64 0]:Array Value)=l7 fun _=>0:=by rfl
theorem IZ {f:Nat->Int}:∀u∈(l7 f).toList,u.oneCell'=true:=by
 intro u hu
 simp only[l7,An]at hu
 obtain⟨j,_,rfl⟩:=List.mem_map.1 hu
 rfl
theorem fN {W:World}{a:Option Addr}{cap:Nat}{l:List Int}{A:HP}(hr:RdB W A a l.length (l.map I))(hl:l.length<=4611686018427387904):
  Cn p_ 214 [.slice a l.length cap] W [A] (fun f:Nat->Int=> .tuple #[.agg (l7 f),.bool (decide (okL l))]) (fun f=>[pu ((okL l->∀j,j<16->f j=dp l j)/\∀j,0<=f j/\f j<=320),A]):=by
 (refine S.yJ.cn fun F=>?_;unfold S.uK;simp only[ca_,na_])
 refine bm fun g=>?_;refine o_ aN ?_
 rw[R7]
 have fin:∀(f:Nat->Int) (b:Bool),b=decide (okL l)->(okL l->∀j,j<16->f j=dp l j)->(∀j,0<=f j/\f j<=320)->be W (pt g (.cells (l7 f) 280 (0,0))::A::F) (opN p_ (ak 280 (.pointer (some ⟨g,0,none⟩)) (.agg (l7 f))) jY fun _=>
   (stS p_ (cG 280 (.pointer (some ⟨g,0,none⟩))) fun r0=>fun w=>∃x:Nat->Int,(.tuple #[r0,(.bool b)]:Value)= .tuple #[.agg (l7 x),.bool (decide (okL l))]/\sat W ([pu ((okL l->∀j,j<16->x j=dp l j)/\∀j,0<=x j/\x j<=320),A]++F) w)):=by
  intro f b hb h1 h2
  refine bY .here (cM 16 f) (cM 16 f) IZ ?_
  refine aQ (cN (cM 16 f)) (.pick .here .nil) ?_
  subst hb
  refine bf f rfl ?_
  exact .pu ⟨h1,h2⟩ (.drop .refl)
 refine aF bq .nil (fun h=>?_) (fun h=>?_)
 ·(refine ab ?_);refine sP ?_
  refine fin _ _ (by rw[dF_ (fun c=>by have:=c.len;omega)]) (fun c=>by have:=c.len;omega) (fun j=>by omega)
 refine aa (o_ aN ?_)
 have hlen:l.length<=320:=by omega
 refine bj (fun m y=>[ex fun i:Nat=>all [pu (m+i=l.length/\y= .int .i64 (i:Int)/\∀k (hk:k<l.length),k<i->0<=l[k]/\l[k]<=15),pt g (.cells (l7 fun j=>(dp (l.take i) j:Int)) 280 (0,0)),A]]++F) l.length ?_ ?_
 ·refine Imp.ex 0 (.all ?_)
  refine ay ?_
  exact .pu ⟨by omega,rfl,fun k hk h=>by omega⟩ .refl
 intro m ds y
 refine ay ?_
 refine aX Pick.here fun i=>aB Pick.here ?_
 refine ay ?_
 refine aT Pick.here fun hi=>?_
 obtain⟨hmi,rfl,hin⟩:=hi
 have hb320:∀j,(0:Int)<=(dp (l.take i) j:Int)/\(dp (l.take i) j:Int)<=320:=fun j=>by
  have:=AS j (l.take i)
  rw[List.length_take]at this;omega
 refine aF aI .nil (fun h=>?_) (fun h=>?_)
 ·have hil:i<l.length:=by omega
  obtain⟨ga,oa,rfl,_⟩:=hr.at_ (by omega)
  refine ab (o_ (bA i (by rfl) hil) ?_)
  refine am (cX hr (gB hil)) (.pick (.there .here) .nil) ?_
  refine aF aI .nil (fun h=>?_) (fun h=>?_)
  ·(refine aA ?_);refine aA ?_;refine o_ aq ?_;refine ab ?_;refine sP ?_
   exact fin _ _ (by rw[dF_ (fun c=>by have:=c.ins l[i] (List.getElem_mem hil);omega)]) (fun c=>by have:=c.ins l[i] (List.getElem_mem hil);omega) hb320
  have h0:=h
  refine ag (ag (aF bq .nil (fun h=>?_) (fun h=>?_)))
  ·(refine o_ ap ?_);refine ab ?_;refine sP ?_
   exact fin _ _ (by rw[dF_ (fun c=>by have:=c.ins l[i] (List.getElem_mem hil);omega)]) (fun c=>by have:=c.ins l[i] (List.getElem_mem hil);omega) hb320
  have h1:=h
  obtain⟨x,hx⟩:=Int.eq_ofNat_of_zero_le (show 0<=l[i] by omega)
  have hx15:x<16:=by omega
  refine o_ ap (aa (o_ (dL x hx hx15) ?_))
  rw[Nat.zero_add,Nat.mul_one]
  refine am (iA (jC hx15)) (.pick .here .nil) ?_
  refine o_ (ct (by have:=hb320 x;omega) (by have:=hb320 x;omega)) ?_
  refine o_ (dL x hx hx15) ?_
  rw[Nat.zero_add,Nat.mul_one]
  refine pQ .here (by rw[l7,cM];exact hx15) ?_
  refine bW ?_
  refine aP (m-1) (by omega) (.ex (i+1) (.all ?_))
  refine ay ?_
  refine .pu ⟨by omega,by norm_cast,fun k hk hki=>?_⟩ ?_
  ·by_cases c:k=i
   ·subst c;omega
   ·exact hin k hk (by omega)
  ·have e:(l7 fun j=>(dp (l.take i) j:Int)).setIfInBounds x (.int .i64 ((dp (l.take i) x:Int)+1))=l7 fun j=>(dp (l.take (i+1)) j:Int):=by
    refine we.trans (eW fun j hj=>?_)
    rw[fF hil]
    by_cases c:j=x
    ·subst c;rw[if_pos rfl,if_pos hx];push_cast;rfl
    ·rw[if_neg c,if_neg (by omega)];simp
   rw[e]
   exact aC
 ·have hie:i=l.length:=by omega
  subst hie
  rw[List.take_length]
  rw[List.take_length]at hb320
  have hins:O3 l:=fun x hx=>by
   obtain⟨k,hk,rfl⟩:=List.mem_iff_getElem.1 hx
   exact hin k hk (by omega)
  refine aa (o_ (In (l:=1) (by rfl) (by omega)) ?_)
  refine o_ aN ?_
  have hrd:RdB W (pt g (.cells (l7 fun j=>(dp l j:Int)) 280 (0,0))) (some ⟨g,1 * 1,none⟩) 15 ((List.range 15).map fun j=>I (dp l (1+j))):=Io (n:=16) (f:=fun j=>(dp l j:Int)) (B0 (by simp)) (by omega)
  refine cg (fun m x y=>[all [pu (∃i:Nat,m+i=15/\i<=15/\y= .int .i64 (i:Int)/\x= .int .i64 (room l i)/\∀k,k<=i->0<=room l k),pt g (.cells (l7 fun j=>(dp l j:Int)) 280 (0,0)),A]]++F) 15 ?_ ?_
  ·refine Imp.all ?_
   refine ay ?_
   exact .pu ⟨0,by omega,by omega,rfl,rfl,fun k hk=>by rw[show k=0 by omega];simp[room]⟩ .refl
  intro m ds x y
  refine ay ?_
  refine aB Pick.here ?_
  refine ay ?_
  refine aT Pick.here fun hi=>?_
  obtain⟨i,hmi,hi15,rfl,rfl,hrm⟩:=hi
  have hr0:=hrm i (Nat.le_refl _)
  have hr1:=FA l i
  have h2i:(2:Int)^i<=32768:=by
   have h1:(2:Nat)^i<=32768:=Nat.le_trans (Nat.pow_le_pow_right (by omega) hi15) (by decide)
   have h2:((2^i:Nat):Int)=2^i:=Int.natCast_pow 2 i
   omega
  refine aF aI .nil (fun h=>?_) (fun h=>?_)
  ·have hi14:i<15:=by omega
   refine ab (o_ (bA i (by rfl) (by omega)) ?_)
   refine am (cX hrd (v:=I (dp l (1+i))) (by rw[List.getElem?_map,List.getElem?_range hi14];rfl)) (.pick .here .nil) ?_
   have hc:=hb320 (1+i)
   (refine o_ (gZ (by omega) (by omega)) ?_);refine fI ?_
   have hroom:2 * room l i-(dp l (1+i):Int)=room l (i+1):=by rw[room,Nat.add_comm 1 i]
   rw[hroom]
   refine aF aI .nil (fun h=>?_) (fun h=>?_)
   ·(refine ab ?_);refine sP ?_
    exact fin _ _ (by rw[dF_ (fun c=>by have:=uQ c.room (show i+1<=15 by omega);omega)]) (fun _ j _=>rfl) hb320
   ·refine aa (bW ?_)
    refine bH (m-1) (by omega) (.all ?_)
    refine ay ?_
    refine .pu ⟨i+1,by omega,by omega,by norm_cast,rfl,fun k hk=>?_⟩ .refl
    by_cases c:k=i+1
    ·subst c;omega
    ·exact hrm k (by omega)
  ·have hie:i=15:=by omega
   subst hie
   refine aa (sP ?_)
   exact fin _ _ (by rw[dT_ ⟨hlen,hins,hr0⟩]) (fun _ j _=>rfl) hb320
def Ln (n:Nat)(f:Nat->Int):List Value:=(List.range n).map fun j=>I (f j)
theorem kM (n:Nat)(f:Nat->Int):(Ln n f).length=n:=by simp[Ln]
theorem nU {n j:Nat}{f:Nat->Int}(h:j<n):(Ln n f)[j]? =some (I (f j)):=by simp[Ln,h]
theorem w7 {n:Nat}{f:Nat->Int}{m:List Value}(hm:m.length=n)(h:∀j,j<n->m[j]? =some (I (f j))):Ln n f=m:=by
 apply List.ext_getElem?
 intro j
 by_cases c:j<n
 ·rw[nU c,h j c]
 ·rw[List.getElem?_eq_none (by rw[kM];omega),List.getElem?_eq_none (by omega)]
theorem jP {n:Nat}{f g:Nat->Int}(h:∀j,j<n->f j=g j):Ln n f=Ln n g:=w7 (kM n g) fun j hj=>by rw[nU hj,h j hj]
theorem w8 {n j:Nat}{f:Nat->Int}{v:Int}:(Ln n f).set j (I v)=Ln n fun i=>if i=j then v else f i:=by
 refine(w7 (by simp[kM]) fun i hi=>?_).symm
 rw[List.getElem?_set,kM]
 by_cases c:j=i
 ·subst c;simp[hi]
 ·rw[if_neg c,nU hi,if_neg (fun e=>c e.symm)]
theorem ej (n:Nat):List.replicate n (.int .i64 0)=Ln n fun _=>0:=(w7 (by simp) fun j hj=>by rw[List.getElem?_replicate,if_pos hj];rfl).symm
def LQ (l:List Int):Int:=if okL l then 0 else 30
def kN (l:List Int):List Int:=if okL l then dY l else []
theorem I0 (l:List Int):Ln l.length (fun k=>if k<l.length then(bQ l k:Int)else 0)=(dY l).map I:=w7 (by rw[List.length_map,gK]) fun j hj=>by
 rw[if_pos hj,List.getElem?_map,dY,List.getElem?_map,List.getElem?_range hj];rfl
theorem r_ {i:Nat}(h:i<=15):(2:Nat)^i<=32768:=Nat.le_trans (Nat.pow_le_pow_right (by omega) h) (by decide)
theorem CF {l:List Int}(h:okL l){k:Nat}(hk:k<=15):nx l k<=32768:=by
 match k,hk with
 |0,_=>simp[nx]
 |k+1,hk=>have:=h.fit hk;have:=r_ hk;omega
theorem ED {W:World}{a:Option Addr}{cap:Nat}{l:List Int}{A:HP}(hr:RdB W A a l.length (l.map I))(hl:l.length<=4611686018427387904):
  Cn p_ 226 [.slice a l.length cap] W [A] (fun q:Option Addr × Nat=> .tuple #[.slice q.1 (kN l).length q.2,.int .i64 (LQ l)]) (fun q=>[Sl 1 3 q.1 q.2 (kN l).length ((kN l).map I),A]):=by
 (refine S.Ay.cn fun F=>?_;unfold S.wH;simp only[ca_,na_])
 refine c_ (fN hr hl) fun _=>?_
 rename_i f
 refine aT Pick.here fun hf=>?_
 obtain⟨hf1,hf2⟩:=hf
 refine o_ (bS (v:= .agg (l7 f)) rfl) ?_
 refine o_ (bS (v:= .bool (decide (okL l))) rfl) ?_
 refine bm fun g=>?_
 refine bY .here (by rfl) (cM 16 f) IZ ?_
 by_cases hok:¬okL l
 ·rw[dF_ hok]
  have hR:LQ l=30:=by simp[LQ,hok]
  have hB:kN l=[]:=by simp[kN,hok]
  rw[hR,hB]
  refine o_ ee (ab (bC ((none,0)) ?_))
  refine cQ ?_
  exact aC
 have hok:=Decidable.not_not.1 hok
 rw[dT_ hok]
 have hR:LQ l=0:=by simp[LQ,hok]
 have hB:kN l=dY l:=by simp[kN,hok]
 have hlen:=hok.len
 have hcl:=gK l
 rw[hR,hB]
 have hf:=hf1 hok
 refine o_ g_ (aa (o_ (dL 0 (by rfl) (by omega)) ?_))
 refine pQ .here (by rw[l7,cM];omega) ?_
 rw[show(l7 f).setIfInBounds (0+0 * 1) (.int .i64 0)=l7 (fun j=>if j=0 then 0 else(dp l j:Int))from we.trans (eW fun j hj=>by
  by_cases c:j=0
  ·rw[if_pos c,if_pos c]
  ·rw[if_neg c,if_neg c,hf j hj])]
 refine bm fun g2=>?_
 rw[R7]
 refine bj (fun m y=>[ex fun i:Nat=>all [pu (m+i=16/\1<=i/\y= .int .i64 (i:Int)),pt g2 (.cells (l7 fun j=>if j<i then(nx l j:Int)else 0) 280 (0,0)),pt g (.cells (l7 fun j=>if j=0 then 0 else(dp l j:Int)) 280 (0,0)),A]]++F) 15 ?_ ?_
 ·refine Imp.ex 1 (.all ?_)
  refine ay ?_
  refine .pu ⟨by omega,by omega,rfl⟩ ?_
  rw[show l7 (fun j=>if j<1 then(nx l j:Int)else 0)=l7 (fun _=>0)from eW fun j hj=>by
   by_cases c:j<1
   ·rw[if_pos c,show j=0 by omega];simp[nx]
   ·rw[if_neg c]]
  exact aC
 ·intro m ds y
  refine ay ?_
  refine aX Pick.here fun i=>aB Pick.here ?_
  refine ay ?_
  refine aT Pick.here fun hi=>?_
  obtain⟨hmi,hi1,rfl⟩:=hi
  refine aF dX .nil (fun h=>?_) (fun h=>?_)
  ·have hi15:i<=15:=by omega
   obtain⟨k,rfl⟩:∃k,i=k+1:=⟨i-1,by omega⟩
   have hk1:=CF hok (show k<=15 by omega)
   have hk2:=CF hok hi15
   have hk3:=AS k l
   refine ab (bM ?_);(refine t_ (ep (by omega) (by omega)) ?_)
   refine t_ (dL k (by omega) (by omega)) ?_
   refine aQ (iA (v:=I (nx l k)) (by rw[Nat.zero_add,Nat.mul_one,l7,jC (by omega),if_pos (by omega)])) (.pick .here .nil) ?_
   (refine t_ (ep (by omega) (by omega)) ?_)
   refine t_ (dL k (by omega) (by omega)) ?_
   refine aQ (iA (v:=I (if k=0 then 0 else(dp l k:Int))) (by rw[Nat.zero_add,Nat.mul_one,l7,jC (by omega)])) (.pick (.there .here) .nil) ?_
   have hs:((nx l k:Int)+(if k=0 then 0 else(dp l k:Int))) * 2=(nx l (k+1):Int):=by
    match k with
    |0=>simp[nx]
    |k+1=>rw[if_neg (by omega),nx];push_cast;omega
   obtain⟨c,hc⟩:∃c,c=(if k=0 then 0 else(dp l k:Int)):=⟨_,rfl⟩
   rw[<- hc]at hs ⊢
   refine t_ (ct (by omega) (by omega)) ?_
   refine t_ (me (by omega)) ?_
   rw[show((nx l k:Int)+c) * 2^(min ((1:Int)).toNat IntKind.i64.bits)=(nx l (k+1):Int) by rw[<- hs];rfl,yZ (by omega) (by omega)]
   refine t_ (dL (k+1) (by norm_cast) (by omega)) ?_
   refine pQ .here (by rw[l7,cM];omega) ?_
   rw[show(l7 fun j=>if j<k+1 then(nx l j:Int)else 0).setIfInBounds (0+(k+1) * 1) (.int .i64 (nx l (k+1):Int))=l7 (fun j=>if j<k+1+1 then(nx l j:Int)else 0)from by
    rw[Nat.zero_add,Nat.mul_one]
    refine we.trans (eW fun j hj=>?_)
    by_cases e:j=k+1
    ·subst e;rw[if_pos rfl,if_pos (by omega)]
    ·rw[if_neg e]
     by_cases e2:j<k+1
     ·rw[if_pos e2,if_pos (by omega)]
     ·rw[if_neg e2,if_neg (by omega)]]
   refine bW ?_
   refine aP (m-1) (by omega) (.ex (k+1+1) (.all ?_))
   refine ay ?_
   exact .pu ⟨by omega,by omega,by norm_cast⟩ .refl
  ·have:i=16:=by omega
   subst this
   refine aa (o_ aN (gz l.length l.length (by rfl) (by rfl) (by omega) (by omega) (by unfold maxLen;omega) fun g3=>?_))
   rw[ej]
   refine o_ aN (bj (fun m y=>[ex fun i:Nat=>all [pu (m+i=l.length/\y= .int .i64 (i:Int)),Sl 1 3 (some ⟨g3,0,none⟩) l.length l.length (Ln l.length fun k=>if k<i then(bQ l k:Int)else 0),pt g2 (.cells (l7 fun j=>if j=0 then 0 else(gJ l j i:Int)) 280 (0,0)),A]]++F) l.length ?_ ?_)
   ·refine Imp.ex 0 (.all ?_)
    refine ay ?_
    refine .pu ⟨by omega,rfl⟩ ?_
    rw[show l7 (fun j=>if j=0 then 0 else(gJ l j 0:Int))=l7 (fun j=>if j<16 then(nx l j:Int)else 0)from eW fun j hj=>by
     rw[if_pos hj]
     by_cases c:j=0
     ·rw[if_pos c,c];simp[nx]
     ·rw[if_neg c];simp[gJ,dp]]
    exact aC
   ·intro m ds y
    refine ay ?_
    refine aX Pick.here fun i=>aB Pick.here ?_
    refine ay ?_
    refine aT Pick.here fun hi=>?_
    obtain⟨hmi,rfl⟩:=hi
    refine aF aI .nil (fun h=>?_) (fun h=>?_)
    ·have hil:i<l.length:=by omega
     obtain⟨ga,oa,rfl,_⟩:=hr.at_ (by omega)
     refine ab (o_ (bA i (by rfl) hil) ?_)
     refine am (cX hr (gB hil)) (.pick (.there (.there .here)) .nil) ?_
     have hin:=hok.ins l[i] (List.getElem_mem hil)
     refine aF bq .nil (fun h=>?_) (fun h=>?_)
     ·obtain⟨x,hx⟩:=Int.eq_ofNat_of_zero_le (show 0<=l[i] by omega)
      have hx15:x<16:=by omega
      have hcu:=hok.cur_lt' hil hx (by omega) (by omega)
      have h15:=r_ (show x<=15 by omega)
      refine ab (o_ (dL x hx hx15) ?_)
      refine am (iA (v:=I (gJ l x i)) (by rw[Nat.zero_add,Nat.mul_one,l7,jC hx15,if_neg (by omega)])) (.pick (.there .here) .nil) ?_
      refine o_ (bA i (by rfl) hil) ?_
      refine jz .here (by rw[kM];omega) ?_
      rw[show(Ln l.length fun k=>if k<i then(bQ l k:Int)else 0).set (0+i) (I (gJ l x i))=Ln l.length (fun k=>if k<i+1 then(bQ l k:Int)else 0)from by
       rw[Nat.zero_add]
       refine w8.trans (jP fun j hj=>?_)
       by_cases e:j=i
       ·subst e;rw[if_pos rfl,if_pos (by omega),jO hil hx (by omega)]
       ·rw[if_neg e]
        by_cases e2:j<i
        ·rw[if_pos e2,if_pos (by omega)]
        ·rw[if_neg e2,if_neg (by omega)]]
      refine o_ (dL x hx hx15) ?_
      refine am (iA (v:=I (gJ l x i)) (by rw[Nat.zero_add,Nat.mul_one,l7,jC hx15,if_neg (by omega)])) (.pick (.there .here) .nil) ?_
      refine bW ?_
      refine o_ (dL x hx hx15) ?_
      refine pQ (.there .here) (by rw[l7,cM];omega) ?_
      rw[show(l7 fun j=>if j=0 then 0 else(gJ l j i:Int)).setIfInBounds (0+x * 1) (.int .i64 ((gJ l x i:Int)+1))=l7 (fun j=>if j=0 then 0 else(gJ l j (i+1):Int))from by
       rw[Nat.zero_add,Nat.mul_one]
       refine we.trans (eW fun j hj=>?_)
       rw[w6 hil]
       by_cases e:j=x
       ·subst e;rw[if_pos rfl,if_neg (by omega),if_pos hx];push_cast;rfl
       ·rw[if_neg e,if_neg (show ¬l[i]=(j:Int) by omega)];simp]
      refine bW ?_
      refine aP (m-1) (by omega) (.ex (i+1) (.all ?_))
      refine ay ?_
      refine .pu ⟨by omega,by norm_cast⟩ ?_
      exact aC
     ·(refine aa ?_);refine bW ?_
      refine aP (m-1) (by omega) (.ex (i+1) (.all ?_))
      refine ay ?_
      refine .pu ⟨by omega,by norm_cast⟩ ?_
      rw[show(Ln l.length fun k=>if k<i+1 then(bQ l k:Int)else 0)=Ln l.length (fun k=>if k<i then(bQ l k:Int)else 0)from jP fun j hj=>by
       by_cases e:j=i
       ·subst e;rw[if_pos (by omega),if_neg (by omega),CE hil (by omega)];rfl
       ·by_cases e2:j<i
        ·rw[if_pos e2,if_pos (by omega)]
        ·rw[if_neg e2,if_neg (by omega)]]
      rw[show l7 (fun j=>if j=0 then 0 else(gJ l j (i+1):Int))=l7 (fun j=>if j=0 then 0 else(gJ l j i:Int))from eW fun j hj=>by
       by_cases e:j=0
       ·rw[if_pos e,if_pos e]
       ·rw[if_neg e,if_neg e,w6 hil,if_neg (by omega)];simp]
      exact aC
    ·have:i=l.length:=by omega
     subst this
     refine aa ?_
     rw[I0]
     refine bf (some ⟨g3,0,none⟩,l.length) (by rw[hcl]) ?_
     rw[hcl]
     exact aC
def rm (f:Nat->Int):Nat->Int
 |0=>1
 |k+1=>2 * rm f k-f (k+1)
theorem FF {l:List Int}{f:Nat->Int}(h:∀j,j<16->f j=dp l j):∀k,k<=15->rm f k=room l k
 |0,_=>rfl
 |k+1,hk=>by rw[rm,room,FF h k (by omega),h (k+1) (by omega)]
theorem CG {f:Nat->Int}(h:∀j,0<=f j/\f j<=320):∀k,rm f k<=(2^k:Nat)/\ -(320 * ((2^k:Nat):Int))<=rm f k-320
 |0=>by simp[rm]
 |k+1=>by
  have ih:=CG h k
  have hf:=h (k+1)
  have e:(2:Nat)^(k+1)=2 * 2^k:=by rw[Nat.pow_succ];omega
  rw[e,rm]
  push_cast
  push_cast at ih
  omega
def kz (l:List Int):Bool:=decide (okL l)&&decide (wk l 15=32768)
theorem O4 {W:World}{a:Option Addr}{cap:Nat}{l:List Int}{A:HP}(hr:RdB W A a l.length (l.map I))(hl:l.length<=4611686018427387904):
  Cn p_ 179 [.slice a l.length cap] W [A] (fun _:Unit=> .bool (kz l)) (fun _=>[A]):=by
 (refine S.Cq.cn fun F=>?_;unfold S.zk;simp only[ca_,na_])
 refine c_ (fN hr hl) fun _=>?_
 rename_i f
 refine aT Pick.here fun hf=>?_
 obtain⟨hf1,hf2⟩:=hf
 refine o_ (bS (v:= .agg (l7 f)) rfl) ?_
 refine o_ (bS (v:= .bool (decide (okL l))) rfl) ?_
 refine bm fun g=>?_
 refine bY .here (by rfl) (cM 16 f) IZ ?_
 refine o_ (In (l:=1) (by rfl) (by omega)) ?_
 refine o_ aN ?_
 have hrd:RdB W (pt g (.cells (l7 f) 280 (0,0))) (some ⟨g,1 * 1,none⟩) 15 ((List.range 15).map fun j=>I (f (1+j))):=Io (n:=16) (f:=f) (B0 (by simp)) (by omega)
 refine cg (fun m x y=>[all [pu (∃i:Nat,m+i=15/\i<=15/\y= .int .i64 (i:Int)/\x= .int .i64 (rm f i)),pt g (.cells (l7 f) 280 (0,0)),A]]++F) 15 ?_ ?_
 ·refine Imp.all ?_
  refine ay ?_
  exact .pu ⟨0,by omega,by omega,rfl,rfl⟩ .refl
 intro m ds x y
 refine ay ?_
 refine aB Pick.here ?_
 refine ay ?_
 refine aT Pick.here fun hi=>?_
 obtain⟨i,hmi,hi15,rfl,rfl⟩:=hi
 have hb:=CG hf2 i
 have h15:=r_ hi15
 refine aF aI .nil (fun h=>?_) (fun h=>?_)
 ·have hi14:i<15:=by omega
  refine ab (o_ (bA i (by rfl) (by omega)) ?_)
  refine am (cX hrd (v:=I (f (1+i))) (by rw[List.getElem?_map,List.getElem?_range hi14];rfl)) (.pick .here .nil) ?_
  have hc:=hf2 (1+i)
  (refine o_ (gZ (by omega) (by omega)) ?_);refine fI ?_;refine bW ?_
  refine bH (m-1) (by omega) (.all ?_)
  refine ay ?_
  exact .pu ⟨i+1,by omega,by omega,by norm_cast,by rw[rm,Nat.add_comm 1 i]⟩ .refl
 ·have hie:i=15:=by omega
  subst hie
  refine aa ?_
  by_cases hok:okL l
  ·have hrr:=FF (hf1 hok) 15 (by omega)
   rw[dT_ hok]
   refine ag (ag (o_ bF ?_))
   rw[show decide (rm f 15=0)=kz l by unfold kz;rw[dT_ hok,Bool.true_and];exact decide_eq_decide.2 (by rw[hrr];exact Ha)]
   refine o_ aq (bC () ?_)
   exact aC
  ·rw[dF_ hok]
   refine ah (ah (o_ ap ?_))
   rw[show kz l=false by unfold kz;rw[dF_ hok,Bool.false_and]]
   refine bC () ?_
   exact aC
theorem iN {n:Int}(h0:0<=n)(h:n<18446744073709551616):IntKind.u64.wrap n=n:=by
 obtain⟨N,rfl⟩:=Int.eq_ofNat_of_zero_le h0
 simp only[IntKind.wrap,IntKind.bits,IntKind.signed]
 simp;omega
theorem FG {a:Int}{k:Nat}(hk:k<=32)(h0:0<=a)(h:a<=65536):IntKind.i64.wrap (a * 2^(min ((k:Int)).toNat IntKind.i64.bits))=a * ((2^k:Nat):Int):=by
 have h2:(2:Nat)^k<=2^32:=Nat.pow_le_pow_right (by omega) hk
 have e:(2:Nat)^32=4294967296:=by decide
 rw[show min ((k:Int)).toNat IntKind.i64.bits=k by simp only[IntKind.bits,Int.toNat_natCast];omega,show(2:Int)^k=((2^k:Nat):Int)from(Int.natCast_pow 2 k).symm]
 obtain⟨E,hE⟩:∃E:Nat,E=2^k:=⟨_,rfl⟩
 rw[<- hE]at h2 ⊢
 have h3:a * (E:Int)<=65536 * 4294967296:=Int.mul_le_mul h (by omega) (by omega) (by omega)
 have h4:0<=a * (E:Int):=Int.mul_nonneg h0 (by omega)
 exact yZ (by omega) (by omega)
end HF
namespace Sl
open Go Go.RowKit Sh
variable {P:Program} {W:World} {L L':List HP} {Kp:PK} {k:Value->WP}
variable {κ:Type} [DecidableEq κ] {enc:κ->Value} {t kt:TypeId}
theorem oL (q:κ)(v:Value):∀m:List (κ × Value),(m.map (·.1)).Nodup->((iE q v m).map (·.1)).Nodup/\∀x,x∈(iE q v m).map (·.1)->x=q\/x∈m.map (·.1)
 |[],_=>by simp[iE]
 |p::m,h=>by
  rw[List.map_cons,List.nodup_cons]at h
  have ih:=oL q v m h.2
  unfold iE
  by_cases c:q=p.1
  ·rw[if_pos c]
   refine⟨by rw[List.map_cons,List.nodup_cons];exact h,fun x hx=> .inr hx⟩
  ·rw[if_neg c]
   refine⟨?_,fun x hx=>?_⟩
   ·rw[List.map_cons,List.nodup_cons]
    refine⟨fun hx=>?_,ih.1⟩
    rcases ih.2 _ hx with e|e
    ·exact c e.symm
    ·exact h.1 e
   ·rw[List.map_cons,List.mem_cons]at hx
    rcases hx with e|e
    ·exact .inr (by rw[List.map_cons,e];exact List.mem_cons_self ..)
    ·rcases ih.2 _ e with e|e
     ·exact .inl e
     ·exact .inr (by rw[List.map_cons];exact List.mem_cons_of_mem _ e)
def fj (g:Nat)(enc:κ->Value)(f:κ->Option Value):HP:=ex fun m=>all [pu ((m.map (·.1)).Nodup/\∀q,kG q m=f q),iD g enc m]
def Hb (f:κ->Option Value)(q:κ)(v:Option Value):κ->Option Value:=fun x=>if x=q then v else f x
theorem LR {g:Nat}{f:κ->Option Value}{S:WP}(p:Pick L (fj g enc f) L')(h:∀m,(m.map (·.1)).Nodup->(∀q,kG q m=f q)->be W (iD g enc m::L') S):be W L S:=by
 refine aX p fun m=>aB .here ?_
 refine aT .here fun hm=>h m hm.1 hm.2
theorem w9 {g:Nat}{f:κ->Option Value}{M:List HP}{m:List (κ × Value)}(p:Pick L (iD g enc m) L')(h1:(m.map (·.1)).Nodup)(h2:∀q,kG q m=f q)(h:Imp W L' M):Imp W L (fj g enc f::M):=
 .ex m (.all (.pu ⟨h1,h2⟩ (.pick p h)))
theorem tN {e:TypeId}{z:Value}{g:Nat}{f:κ->Option Value}{q:κ}[ht:MapT P t kt e][hz:ZeroT P e z](K:KeyLaw P kt enc)(p:Pick L (fj g enc f) L')(h:be W (fj g enc f::L') (k (.tuple #[(f q).getD z,.bool (f q).isSome]))):be W L (opN P (mY t (.map (some g)) (enc q) true) Kp k):=
 LR p fun m h1 h2=>am (B9 K) (.pick .here .nil) (cr (w9 .here h1 h2 .refl) (by rw[h2];exact h))
theorem O5 {e:TypeId}{g:Nat}{f:κ->Option Value}{q:κ}{v:Value}[ht:MapT P t kt e](K:KeyLaw P kt enc)(p:Pick L (fj g enc f) L')(h:be W (fj g enc (Hb f q (some v))::L') (k undef)):be W L (opN P (j9 t (.map (some g)) (enc q) v) Kp k):=
 LR p fun m h1 h2=>B_ K .here (cr (w9 .here (oL q v m h1).1 (fun x=>by rw[oG,h2];rfl) .refl) h)
theorem NE {e:TypeId}(enc:κ->Value)[ht:MapT P t kt e](h:∀g,be W (fj g enc (fun _=>none)::L) (k (.map (some g)))):be W L (opN P (pP t none) Kp k):=
 Fl enc fun g=>cr (w9 .here (by simp) (fun q=>by simp[kG,u4]) .refl) (h g)
theorem LS {P:Program}{W:World}{t kt e:TypeId}{ox oy:Operand}{g:Nat}[ht:MapT P t kt e]:bb P W [] (b_ .eql t ox oy (.map (some g)) (.map none)) (.bool false):=fun w _=>by
 have h:(Op.equal t (.map (some g)) (.map none)).run P w= .ok false w:=by
  unfold Op.equal Op.maxDepth Op.equalIn
  simp only[Sem.run_bind,run_underlying ht.ut,Result.andThen_ok]
  rfl
 simp[b_,sv,eqGuard,binOp,h,Result.andThen]
end Sl
namespace HF
open Go Go.Proofs Go.RowKit Sh Sl T HM B M
def AU (p:Int × Int):Value:= .agg #[.int .i64 p.1,.int .i64 p.2]
theorem R8:KeyLaw p_ 315 AU where
 check:=fun b k w=>by
  unfold AU Instr.checkKey
  simp only[Sem.run_bind,Tryz.runUnderlying315,Result.andThen_ok]
  have hk:∀(v:Int) (w:World),(Instr.checkKey b 9999 3 (.int .i64 v)).run p_ w= .ok () w:=fun v w=>MapKept.run_checkKey (n:=9998) (d:= .int .i64) (by kernel_rfl) (by simp[MapKept.IsKey]) b
  simp[part,Tryz.isAgg3,hk,Result.andThen]
 eq:=fun k k' w=>by
  have hs:p_.stoodInHeld 315=false:=by kernel_rfl
  unfold AU Op.equal Op.maxDepth Op.equalIn
  have hp:(program).run p_ w= .ok p_ w:=rfl
  simp only[Sem.run_bind,Tryz.runUnderlying315,Result.andThen_ok,hp,hs]
  have he:∀(a b:Int) (w:World),(Op.equalIn 9999 3 (.int .i64 a) (.int .i64 b)).run p_ w= .ok (a==b) w:=fun a b w=>run_equalIn_int w 9998 3 .i64 .i64 a b (by kernel_rfl)
  obtain⟨k1,k2⟩:=k
  obtain⟨l1,l2⟩:=k'
  simp[part,Tryz.isAgg3,he,Result.andThen]
  by_cases h1:k1=l1
  ·subst h1
   by_cases h2:k2=l2
   ·subst h2
    simp[Tryz.isAgg3,he,Result.andThen]
   ·simp[Tryz.isAgg3,he,Result.andThen,h2]
  ·simp[h1,Result.andThen]
 now:=⟨.struct (p_.fieldsOf 315),by kernel_rfl,fun k k'=> .inl rfl⟩
 same:=fun k=>by
  unfold AU Instr.sameBits
  simp[Instr.sameBits]
def fL (l:List Int)(n c:Int):Nat->Option Nat
 |0=>none
 |k+1=>match fL l n c k with
  |some j=>some j
  |none=>if 0<n/\l[k]? =some n/\(bQ l k:Int)=c then some k else none
theorem nV {l:List Int}{n c:Int}:∀ {k j:Nat},fL l n c k=some j->j<k/\0<n/\l[j]? =some n/\(bQ l j:Int)=c
 |0,j,h=>by cases h
 |k+1,j,h=>by
  unfold fL at h
  cases hk:fL l n c k with
  |some i=>
   rw[hk]at h
   have:=Option.some.inj h
   subst this
   obtain⟨h1,h2⟩:=nV hk
   exact⟨by omega,h2⟩
  |none=>
   rw[hk]at h
   simp only at h
   by_cases hc:0<n/\l[k]? =some n/\(bQ l k:Int)=c
   ·rw[if_pos hc]at h
    have:=Option.some.inj h
    subst this
    exact⟨by omega,hc⟩
   ·rw[if_neg hc]at h;cases h
theorem FH {l:List Int}{n c:Int}:∀ {k:Nat},fL l n c k=none->∀j,j<k->¬(0<n/\l[j]? =some n/\(bQ l j:Int)=c)
 |0,h,j,hj=>by omega
 |k+1,h,j,hj=>by
  unfold fL at h
  cases hk:fL l n c k with
  |some i=>rw[hk]at h;cases h
  |none=>
   rw[hk]at h
   simp only at h
   by_cases c1:j=k
   ·subst c1
    intro hc
    rw[if_pos hc]at h;cases h
   ·exact FH hk j (by omega)
theorem I6 {l:List Int}(hin:O3 l){k:Nat}(hk:k<l.length)(hp:0<l[k]):fL l l[k] (bQ l k) k=none:=by
 cases h:fL l l[k] (bQ l k) k with
 |none=>rfl
 |some j=>
  obtain⟨h1,h2,h3,h4⟩:=nV h
  obtain⟨n,hn⟩:=Int.eq_ofNat_of_zero_le (show 0<=l[k] by omega)
  have hj:j<l.length:=by omega
  rw[List.getElem?_eq_getElem hj]at h3
  have h3:=Option.some.inj h3
  have:=apart hj hk (by omega) (h3.trans hn) hn (by omega) (Nat.le_refl n)
  rw[Nat.sub_self,Nat.pow_zero,Nat.div_one]at this
  exact absurd (by exact_mod_cast h4.symm) this
def pos (l:List Int):Prop:=∃x∈l,0<x
instance (l:List Int):Decidable (pos l):=by unfold pos;infer_instance
structure DecOK (l:List Int)(i:Nat)(m:List ((Int × Int) × Value)):Prop where
 get:∀n c,kG (n,c) m=(fL l n c i).map fun j:Nat=>Value.int .i64 (j:Int)
 emp:m=[]↔ ¬ ∃k,k<i/\∃x,l[k]? =some x/\0<x
def eL (p:Nat)(l:List Int):HP:=ex fun g:Nat=>ex fun m:List ((Int × Int) × Value)=>all [pt p (.cells #[.map (some g)] 313),iD g AU m,pu (DecOK l l.length m)]
section
variable {W:World} {A:HP} {a:Option Addr} {cap:Nat} {l:List Int}
theorem O6 (hr:RdB W A a l.length (l.map I))(hok:okL l):
  Cn p_ 213 [.slice a l.length cap] W [A] (fun p:Nat=> .tuple #[.pointer (some ⟨p,0,none⟩),.int .i64 0]) (fun p=>[eL p l,A]):=by
 (refine S.kw.cn fun F=>?_;unfold S.iW;simp only[ca_,na_])
 have hlen:=hok.len
 have hR:LQ l=0:=by simp[LQ,hok]
 have hB:kN l=dY l:=by simp[kN,hok]
 have hcl:=gK l
 refine c_ (ED hr (by omega)) fun _=>?_
 rename_i q
 obtain⟨qa,qc⟩:=q
 rw[hR,hB,hcl]
 (try dsimp only)
 refine iC ?_;refine iC ?_
 refine o_ eS ?_
 rw[dF_ (by omega)]
 refine aa (Fl AU fun gm=>?_)
 refine o_ cu ?_;refine cv fun g=>?_;refine o_ aN (aJ (.there (.there .here)) fun f1 f2 f3 f4=>?_)
 refine bj (fun m y=>[ex fun i:Nat=>ex fun mp:List ((Int × Int) × Value)=>all [pu (m+i=l.length/\y= .int .i64 (i:Int)/\DecOK l i mp),iD gm AU mp,pt g (.cells #[.map (some gm)] 313),Sl 1 3 qa qc l.length ((dY l).map I),A]]++F) l.length ?_ ?_
 ·refine .ex 0 (.ex [] (.all ?_))
  refine ay ?_
  refine .pu ⟨by omega,rfl,fun n c=>rfl,⟨fun _ ⟨k,hk,_⟩=>by omega,fun _=>rfl⟩⟩ ?_
  exact .pick (by repeat constructor) (.pick (by repeat constructor) (.pick (by repeat constructor) (.pick (by repeat constructor) .refl)))
 intro m ds y
 refine ay ?_
 refine aX Pick.here fun i=>aX Pick.here fun mp=>aB Pick.here ?_
 refine ay ?_
 refine aT Pick.here fun hi=>?_
 obtain⟨hmi,rfl,hdec⟩:=hi
 refine aF aI .nil (fun h=>?_) (fun h=>?_)
 ·have hil:i<l.length:=by omega
  obtain⟨ga,oa,rfl,_⟩:=hr.at_ (by omega)
  obtain⟨gq,rfl⟩:=f4 (by omega)
  refine ab (o_ (bA i (by rfl) hil) ?_)
  refine cm (cX hr (gB hil)) ?_
  have hli:l[i]? =some l[i]:=List.getElem?_eq_getElem hil
  refine aF bq .nil (fun h=>?_) (fun h=>?_)
  ·have hap:=I6 hok.ins hil h
   have gi:((dY l).map I)[0+i]? =some (I (bQ l i)):=by rw[Nat.zero_add,List.getElem?_map,dY,List.getElem?_map,List.getElem?_range hil];rfl
   refine ab (bM (t_ aW (t_ aw (kS ?_))))
   refine t_ (bA i (by rfl) hil) ?_
   refine jB (dP gi) ?_
   refine t_ cu ?_
   refine B_ (q:=(l[i],(bQ l i:Int))) R8 (by repeat constructor) ?_
   refine bW ?_
   refine aP (m-1) (by omega) (.ex (i+1) (.ex (iE (l[i],(bQ l i:Int)) (.int .i64 (i:Int)) mp) (.all ?_)))
   refine ay ?_
   refine .pu ⟨by omega,by norm_cast,fun n c=>?_,⟨fun c=>?_,fun c=>absurd ⟨i,by omega,l[i],hli,h⟩ c⟩⟩ ?_
   ·rw[oG,fL]
    by_cases e:(n,c)=(l[i],(bQ l i:Int))
    ·injection e with e1 e2
     subst e1;subst e2
     rw[if_pos rfl,hap]
     simp only
     rw[if_pos ⟨h,hli,by first|trivial|rfl⟩];rfl
    ·rw[if_neg e,hdec.get]
     cases hf:fL l n c i with
     |some j=>rfl
     |none=>
      simp only
      rw[if_neg (fun d=>e (by
       have d2:=d.2.1
       rw[hli]at d2
       rw[<- Option.some.inj d2,<- d.2.2]))]
   ·exfalso
    have:∀m:List ((Int × Int) × Value),iE (l[i],(bQ l i:Int)) (.int .i64 (i:Int)) m≠[]:=fun m=>by
     cases m with
     |nil=>simp[iE]
     |cons p m=>unfold iE;split <;> simp
    exact this mp c
   ·exact .pick (by repeat constructor) (.pick (by repeat constructor) (.pick (by repeat constructor) (.pick (by repeat constructor) .refl)))
  ·(refine aa ?_);refine bW ?_
   refine aP (m-1) (by omega) (.ex (i+1) (.ex mp (.all ?_)))
   refine ay ?_
   refine .pu ⟨by omega,by norm_cast,fun n c=>?_,?_⟩ ?_
   ·rw[hdec.get,fL]
    cases hf:fL l n c i with
    |some j=>rfl
    |none=>
     simp only
     rw[if_neg (fun d=>by
      have d2:=d.2.1
      rw[hli]at d2
      have:=Option.some.inj d2
      omega)]
   ·rw[hdec.emp]
    constructor
    ·rintro hn ⟨k,hk,x,hx,hx0⟩
     by_cases c:k=i
     ·subst c
      rw[hli]at hx
      have:=Option.some.inj hx
      omega
     ·exact hn ⟨k,by omega,x,hx,hx0⟩
    ·rintro hn ⟨k,hk,x,hx,hx0⟩
     exact hn ⟨k,by omega,x,hx,hx0⟩
   ·exact .pick (by repeat constructor) (.pick (by repeat constructor) (.pick (by repeat constructor) (.pick (by repeat constructor) .refl)))
 ·have hie:i=l.length:=by omega
  subst hie
  refine aa (bf g rfl ?_)
  refine .ex gm (.ex mp (.all ?_))
  refine ay ?_
  exact .pick (by repeat constructor) (.pick (by repeat constructor) (.pu hdec aC))
theorem LT (hr:RdB W A a l.length (l.map I))(hl:l.length<=4611686018427387904)(hok:¬okL l):
  Cn p_ 213 [.slice a l.length cap] W [A] (fun _:Unit=> .tuple #[.pointer none,.int .i64 30]) (fun _=>[A]):=by
 (refine S.kw.cn fun F=>?_;unfold S.iW;simp only[ca_,na_])
 have hR:LQ l=30:=by simp[LQ,hok]
 refine c_ (ED hr hl) fun _=>?_
 rename_i q
 obtain⟨qa,qc⟩:=q
 rw[hR]
 (try dsimp only)
 refine iC ?_;refine iC ?_
 refine o_ eS ?_
 rw[dT_ (by omega)]
 refine ab (bC () ?_)
 exact aC
end
end HF
namespace IF
open Go Go.Proofs Go.RowKit Sh Sl T HM HF B M
abbrev If (φ:Prop):={_u:Unit // φ}
def AV {φ:Prop}(h:φ):If φ:=⟨(),h⟩
def pn (e:Int):List PanicEntry:=pe (.iface 27 (.int .i64 e))
theorem Hc {W:World}{e:Int}:CnP p_ 175 [.int .i64 e] W [] (fun _:If (e=0)=> .tuple #[]) (fun _=>[]) (fun _:If (e≠0)=>pn e) (fun _=>[]):=by
 (refine S.wC.cnP fun F=>?_;unfold S.rp;simp only[ca_,na_,-eq_self])
 refine aF eS .nil (fun h=>?_) (fun h=>?_)
 ·refine ab (o_ uu (qK ?_))
  exact cI (AV (h)) rfl .refl
 ·refine aa (bC (AV (Decidable.not_not.1 h)) ?_)
  exact .refl
theorem iv {W:World}{b:Bool}{e:Int}:CnP p_ 172 [.bool b,.int .i64 e] W [] (fun _:If (b=true)=> .tuple #[]) (fun _=>[]) (fun _:If (b=false)=>pn e) (fun _=>[]):=by
 (refine S.tC.cnP fun F=>?_;unfold S.nE;simp only[ca_,na_,-eq_self])
 cases b with
 |true=>
  refine o_ eT (aa (bC (AV (rfl)) ?_))
  exact .refl
 |false=>
  refine o_ ee (ab (o_ uu (qK ?_)))
  exact cI (AV (rfl)) rfl .refl
def o7 (p:Nat)(b:List UInt8)(at_:Nat)(out:List UInt8)(most:Int):HP:=ex fun q:Nat × (Option Addr × Nat)=>all [pt p (.cells #[.pointer (some ⟨q.1,0,none⟩),.slice q.2.1 out.length q.2.2,.int .i64 most] 184),vl q.1 b at_,Sl 1 5 q.2.1 q.2.2 out.length (out.map Sl.B)]
theorem mG {W:World}{p at_:Nat}{b out:List UInt8}{most k:Int}:CnP p_ 138 [.pointer (some ⟨p,0,none⟩),.int .i64 k] W [o7 p b at_ out most]
  (fun _:If (cD b at_ k=0)=> .int .i64 (bK b at_ k:Int)) (fun _=>[o7 p b (aY b at_ k) out most]) (fun _:If (cD b at_ k≠0)=>pn (cD b at_ k)) (fun _=>[]):=by
 (refine S.ik.cnP fun F=>?_;unfold S.fu;simp only[ca_,na_,-eq_self])
 refine aX Pick.here fun q=>aB Pick.here ?_
 obtain⟨r,qa,qc⟩:=q
 refine ay ?_
 refine o_ aW (o_ aw (ck ?_))
 refine c_ B.take fun _=>?_
 refine iC ?_;refine iC ?_
 (refine' bg (Hc) ?hp (fun _=>?_) (fun _=>?_);(case hp=>(repeat(first|exact Picks.nil|(apply Picks.cons;(focus repeat constructor)))));(all_goals (try simp only[ca_,na_,Bool.not_true,Bool.not_false,-eq_self])))
 ·rename_i x
  refine bC (AV (x.2)) ?_
  refine .ex (r,(qa,qc)) (.all ?_)
  refine ay ?_
  exact .pick (by repeat constructor) (.pick (by repeat constructor) (.pick (by repeat constructor) aC))
 ·rename_i y
  refine cI (AV (y.2)) rfl ?_
  exact aC
theorem room {W:World}{p at_:Nat}{b out:List UInt8}{most n:Int}(h1: -1099511627776<=most/\most<=1099511627776)(h2:out.length<=1099511627776):CnP p_ 173 [.pointer (some ⟨p,0,none⟩),.int .i64 n] W [o7 p b at_ out most]
  (fun _:If (n<=most-out.length)=> .tuple #[]) (fun _=>[o7 p b at_ out most]) (fun _:If (¬n<=most-out.length)=>pn 6) (fun _=>[]):=by
 (refine S.mQ.cnP fun F=>?_;unfold S.i7;simp only[ca_,na_,-eq_self])
 refine aX Pick.here fun q=>aB Pick.here ?_
 obtain⟨r,qa,qc⟩:=q
 refine ay ?_
 refine bM (t_ aW (t_ aw (kS ?_)));refine t_ aW (t_ aw (kS ?_));refine t_ aN ?_;(refine t_ (ep (by omega) (by omega)) ?_)
 refine t_ dX ?_
 (refine' bg (iv) ?hp (fun _=>?_) (fun _=>?_);(case hp=>(repeat(first|exact Picks.nil|(apply Picks.cons;(focus repeat constructor)))));(all_goals (try simp only[ca_,na_,Bool.not_true,Bool.not_false,-eq_self])))
 ·rename_i x
  refine bC (AV (of_decide_eq_true x.2)) ?_
  refine .ex (r,(qa,qc)) (.all ?_)
  refine ay ?_
  exact .pick (by repeat constructor) (.pick (by repeat constructor) (.pick (by repeat constructor) aC))
 ·rename_i y
  refine cI (AV (of_decide_eq_false y.2)) rfl ?_
  exact aC
end IF
namespace HF
open Go Go.Proofs Go.RowKit Sh Sl T HM B M
theorem AW {W:World}{L L':List HP}{S:WP}{r at_:Nat}{b:List UInt8}(p:Pick L (vl r b at_) L')(h:at_<=8 * b.length->be W L S):be W L S:=fun w hw=>by
 obtain⟨f,⟨q,ha⟩,_⟩:=(hw.pick p).fst
 obtain⟨_,_,_,⟨_,_,_,⟨_,_,hp,_⟩,_⟩,_⟩:=ha
 exact h hp.1 w hw
def CH (l:List Int)(b:List UInt8):Nat->Nat->Nat->Nat->Int × Int × Nat
 |0,_,_,at_=>(0,30,at_)
 |f+1,n,c,at_=>if cD b at_ 1=0 then(match fL l ((n+1:Nat):Int) ((2 * c+bK b at_ 1:Nat):Int) l.length with
  |some i=>((i:Int),0,aY b at_ 1)
  |none=>CH l b f (n+1) (2 * c+bK b at_ 1) (aY b at_ 1))else(0,cD b at_ 1,aY b at_ 1)
def fG (l:List Int)(b:List UInt8)(at_:Nat):Int × Int × Nat:=if pos l then CH l b 15 0 0 at_ else(0,30,at_)
theorem LU (l:List Int):(∃k,k<l.length/\∃x,l[k]? =some x/\0<x)↔pos l:=by
 constructor
 ·rintro⟨k,hk,x,hx,h0⟩
  rw[List.getElem?_eq_getElem hk]at hx
  exact⟨x,by rw[<- Option.some.inj hx];exact List.getElem_mem hk,h0⟩
 ·rintro⟨x,hx,h0⟩
  obtain⟨k,hk,rfl⟩:=List.mem_iff_getElem.1 hx
  exact⟨k,hk,_,List.getElem?_eq_getElem hk,h0⟩
theorem I7 (b:List UInt8)(at_:Nat):∃v:Bool,bK b at_ 1=v.toNat:=by
 have h:bK b at_ 1<2:=by
  unfold bK
  split
  ·exact wZ _ _ _
  ·omega
 rcases(show bK b at_ 1=0\/bK b at_ 1=1 by omega)with e|e
 ·exact⟨false,e⟩
 ·exact⟨true,e⟩
theorem next {W:World}{p r at_:Nat}{l:List Int}{b:List UInt8}:
  Cn p_ 235 [.pointer (some ⟨p,0,none⟩),.pointer (some ⟨r,0,none⟩)] W [eL p l,vl r b at_] (fun _:Unit=> .tuple #[.int .i64 (fG l b at_).1,.int .i64 (fG l b at_).2.1]) (fun _=>[eL p l,vl r b (fG l b at_).2.2]):=by
 (refine S.o6.cn fun F=>?_;unfold S.kx;simp only[ca_,na_])
 refine AW (.there .here) fun hat=>?_
 refine aX Pick.here fun gm=>aX Pick.here fun mp=>aB Pick.here ?_
 refine ay ?_
 refine aT (.there (.there .here)) fun hdec=>?_
 have back:∀ {at2:Nat} (s e:Int) (L:List HP),Imp W L (pt p (.cells #[.map (some gm)] 313)::iD gm AU mp::vl r b at2::F)->fG l b at_=(s,e,at2)->be W L (fun w=>∃x:Unit,(.tuple #[.int .i64 s,.int .i64 e]:Value)= .tuple #[.int .i64 (fG l b at_).1,.int .i64 (fG l b at_).2.1]/\sat W ([eL p l,vl r b (fG l b at_).2.2]++F) w):=by
  intro at2 s e L hi hn
  rw[hn]
  refine cr hi ?_
  refine bf () rfl ?_
  refine .ex gm (.ex mp (.all ?_))
  refine ay ?_
  exact .pick .here (.pick .here (.pu hdec .refl))
 refine o_ vZ ?_;refine ag (ag (o_ aW (ag (o_ aw (ag (ck ?_))))));refine ag (o_ LS ?_)
 refine o_ ap (aa (c_ take fun _=>?_))
 have h00:cD b at_ 0=0:=by unfold cD;rw[if_neg (by omega),if_neg (by omega)]
 rw[h00,show aY b at_ 0=at_ by unfold aY;rw[if_pos h00];simp]
 refine iC ?_;refine iC ?_
 refine o_ eS ?_
 rw[dF_ (by omega)]
 refine aa (o_ aW (o_ aw (ck ?_)))
 refine cm Oi ?_
 have hemp:=hdec.emp
 rw[LU]at hemp
 refine aF bF .nil (fun h=>?_) (fun h=>?_)
 ·have hm0:mp=[]:=List.eq_nil_of_length_eq_zero (by omega)
  have hnp:=hemp.1 hm0
  exact ab (back 0 30 _ aC (by unfold fG;rw[if_neg hnp]))
 have hp:pos l:=by
  refine Decidable.byContradiction fun c=>h ?_
  rw[hemp.2 c];rfl
 have hn0:fG l b at_=CH l b 15 0 0 at_:=by unfold fG;rw[if_pos hp]
 refine aa (o_ cu ?_);refine bm fun g=>?_;refine gS ?_
 rename_i gx
 refine bj (fun m y=>[ex fun n:Nat=>ex fun c:Nat=>ex fun at2:Nat=>all [pu (m+n=15/\y= .int .i64 (n:Int)/\c<2^n/\fG l b at_=CH l b m n c at2),pt g (.cells #[.int .i64 (n:Int),.int .i64 (c:Int)] 315 (0,0)),pt p (.cells #[.map (some gm)] 313),iD gm AU mp,vl r b at2]]++F) 15 ?_ ?_
 ·refine .ex 0 (.ex 0 (.ex at_ (.all ?_)))
  refine ay ?_
  refine .pu ⟨by omega,rfl,by omega,hn0⟩ ?_
  exact .pick (by repeat constructor) (.pick (by repeat constructor) (.pick (by repeat constructor) (.pick (by repeat constructor) .refl)))
 intro m ds y
 refine ay ?_
 refine aX Pick.here fun n=>aX Pick.here fun c=>aX Pick.here fun at2=>aB Pick.here ?_
 refine ay ?_
 refine aT Pick.here fun hi=>?_
 obtain⟨hmn,rfl,hc,hd⟩:=hi
 refine aF aI .nil (fun h=>?_) (fun h=>?_)
 ·have hn15:n<15:=by omega
  obtain⟨m,rfl⟩:∃m',m=m'+1:=⟨m-1,by omega⟩
  have hc15:=r_ (show n<=15 by omega)
  refine ab (c_ take fun _=>?_)
  obtain⟨tb,htb⟩:=I7 b at2
  have htl:=Bool.toNat_le tb
  rw[CH]at hd
  by_cases hR:cD b at2 1=0
  ·rw[if_pos hR]at hd
   rw[hR,htb]
   rw[htb]at hd
   refine iC ?_;refine iC ?_
   refine o_ eS ?_
   rw[dF_ (by omega)]
   refine aa (o_ aw (ck ?_));refine bW ?_;refine o_ aw (fX ?_);refine o_ aw (ck ?_)
   refine o_ (me (by omega)) ?_
   rw[show(c:Int) * 2^(min ((1:Int)).toNat IntKind.i64.bits)=((c * 2:Nat):Int) by norm_cast,yZ (by omega) (by omega)]
   refine o_ BY ?_
   rw[IY (by omega)]
   refine o_ aw (fX ?_);refine bM (t_ aW (t_ aw (kS ?_)));(((refine' aQ (bP ?hn) ?hi ?_);(case hi=>exact .pick (by repeat constructor) .nil);(case hn=>rfl)))
   refine jB (B9 (q:=(((n:Int)+1),((2 * c+tb.toNat:Nat):Int))) R8) ?_
   have hg:=hdec.get ((n:Int)+1) ((2 * c+tb.toNat:Nat):Int)
   rw[hg]
   rw[show((n+1:Nat):Int)=(n:Int)+1 by norm_cast]at hd
   cases hf:fL l ((n:Int)+1) ((2 * c+tb.toNat:Nat):Int) l.length with
   |some i=>
    rw[hf]at hd
    (try simp only[Option.map_some,Option.getD_some,Option.isSome_some])
    refine t_ (bS (v:= .int .i64 (i:Int)) rfl) ?_
    refine t_ (bS (v:= .bool true) rfl) ?_
    exact ab (back (i:Int) 0 _ aC hd)
   |none=>
    rw[hf]at hd
    (try simp only[Option.map_none,Option.getD_none,Option.isSome_none])
    refine t_ (bS (v:= .int .i64 0) rfl) ?_
    refine t_ (bS (v:= .bool false) rfl) ?_
    refine aa (bW ?_)
    refine aP m (by omega) (.ex (n+1) (.ex (2 * c+tb.toNat) (.ex (aY b at2 1) (.all ?_))))
    refine ay ?_
    refine .pu ⟨by omega,by norm_cast,by rw[Nat.pow_succ];omega,hd⟩ ?_
    rw[show((n+1:Nat):Int)=(n:Int)+1 by norm_cast]
    exact .pick (by repeat constructor) (.pick (by repeat constructor) (.pick (by repeat constructor) (.pick (by repeat constructor) .refl)))
  ·rw[if_neg hR]at hd
   refine iC ?_;refine iC ?_
   refine o_ eS ?_
   rw[dT_ hR]
   exact ab (back 0 (cD b at2 1) _ aC hd)
 ·have hm0:m=0:=by omega
  subst hm0
  rw[CH]at hd
  exact aa (back 0 30 _ aC hd)
end HF
namespace IF
open Go Go.Proofs Go.RowKit Sh Sl T HM HF B M
abbrev Ok {α:Type}(m:Except Int α):={x:α // m= .ok x}
abbrev Er {α:Type}(m:Except Int α):={e:Int // m= .error e}
def fe (b:List UInt8)(most:Int)(at_:Nat)(out:List UInt8):Except Int (Nat × List UInt8):=
 if cD b ((at_+7) / 8 * 8) 16≠0 then .error (cD b ((at_+7) / 8 * 8) 16)else
 if cD b (aY b ((at_+7) / 8 * 8) 16) 16≠0 then .error (cD b (aY b ((at_+7) / 8 * 8) 16) 16)else
 if(bK b (aY b ((at_+7) / 8 * 8) 16) 16:Int)≠65535-(bK b ((at_+7) / 8 * 8) 16:Int)then .error 31 else
 if ¬(bK b ((at_+7) / 8 * 8) 16:Int)<=most-out.length then .error 6 else
 if Fy b (aY b (aY b ((at_+7) / 8 * 8) 16) 16) (bK b ((at_+7) / 8 * 8) 16:Int)≠0 then .error (Fy b (aY b (aY b ((at_+7) / 8 * 8) 16) 16) (bK b ((at_+7) / 8 * 8) 16:Int))else
 .ok (vm b (aY b (aY b ((at_+7) / 8 * 8) 16) 16) (bK b ((at_+7) / 8 * 8) 16:Int),out++vG b (aY b (aY b ((at_+7) / 8 * 8) 16) 16) (bK b ((at_+7) / 8 * 8) 16:Int))
theorem O7 {W:World}{p at_:Nat}{b out:List UInt8}{most:Int}(h1: -1099511627776<=most/\most<=1099511627776)(h2:out.length<=1099511627776):
  CnP p_ 134 [.pointer (some ⟨p,0,none⟩)] W [o7 p b at_ out most] (fun _:Ok (fe b most at_ out)=> .tuple #[]) (fun x=>[o7 p b x.1.1 x.1.2 most]) (fun y:Er (fe b most at_ out)=>pn y.1) (fun _=>[]):=by
 (refine S.lg.cnP fun F=>?_;unfold S.ij;simp only[ca_,na_,-eq_self])
 refine aX Pick.here fun q=>aB Pick.here ?_
 obtain⟨r,qa,qc⟩:=q
 refine ay ?_
 refine o_ aW (o_ aw (ck ?_))
 refine c_ OZ fun _=>?_
 refine cr (M:=o7 p b ((at_+7) / 8 * 8) out most::F) (.ex (r,(qa,qc)) (.all (.pick (by repeat constructor) (.pick (by repeat constructor) (.pick (by repeat constructor) aC))))) ?_
 obtain⟨a1,ha1⟩:∃a1,a1=(at_+7) / 8 * 8:=⟨_,rfl⟩
 have hM:fe b most at_ out=fe b most at_ out:=rfl
 conv at hM=>rhs;unfold fe
 rw[<- ha1]at hM ⊢
 (refine' bg (mG) ?hp (fun _=>?_) (fun _=>?_);(case hp=>(repeat(first|exact Picks.nil|(apply Picks.cons;(focus repeat constructor)))));(all_goals (try simp only[ca_,na_,Bool.not_true,Bool.not_false,-eq_self])))
 rotate_left
 ·rename_i y
  rw[if_pos y.2]at hM
  refine cI ⟨_,hM⟩ rfl ?_
  exact aC
 rename_i x1
 rw[if_neg (fun c=>c x1.2)]at hM
 obtain⟨n,hn⟩:∃n,n=bK b a1 16:=⟨_,rfl⟩
 obtain⟨a2,ha2⟩:∃a2,a2=aY b a1 16:=⟨_,rfl⟩
 rw[<- hn,<- ha2]at hM
 (try rw[<- hn])
 (try rw[<- ha2])
 (refine' bg (mG) ?hp (fun _=>?_) (fun _=>?_);(case hp=>(repeat(first|exact Picks.nil|(apply Picks.cons;(focus repeat constructor)))));(all_goals (try simp only[ca_,na_,Bool.not_true,Bool.not_false,-eq_self])))
 rotate_left
 ·rename_i y
  rw[if_pos y.2]at hM
  refine cI ⟨_,hM⟩ rfl ?_
  exact aC
 rename_i x2
 rw[if_neg (fun c=>c x2.2)]at hM
 obtain⟨m,hm⟩:∃m,m=bK b a2 16:=⟨_,rfl⟩
 obtain⟨a3,ha3⟩:∃a3,a3=aY b a2 16:=⟨_,rfl⟩
 rw[<- hm,<- ha3]at hM
 (try rw[<- hm])
 (try rw[<- ha3])
 have hn16:n<65536:=by rw[hn];unfold bK;split;exact wZ _ _ _;omega
 refine fI ?_
 refine o_ bF ?_
 (refine' bg (iv) ?hp (fun _=>?_) (fun _=>?_);(case hp=>(repeat(first|exact Picks.nil|(apply Picks.cons;(focus repeat constructor)))));(all_goals (try simp only[ca_,na_,Bool.not_true,Bool.not_false,-eq_self])))
 rotate_left
 ·rename_i y
  rw[if_pos (of_decide_eq_false y.2)]at hM
  refine cI ⟨_,hM⟩ rfl ?_
  exact aC
 rename_i x3
 rw[if_neg (fun c=>c (of_decide_eq_true x3.2))]at hM
 (refine' bg (room h1 h2) ?hp (fun _=>?_) (fun _=>?_);(case hp=>(repeat(first|exact Picks.nil|(apply Picks.cons;(focus repeat constructor)))));(all_goals (try simp only[ca_,na_,Bool.not_true,Bool.not_false,-eq_self])))
 rotate_left
 ·rename_i y
  rw[if_pos y.2]at hM
  refine cI ⟨_,hM⟩ rfl ?_
  exact aC
 rename_i x4
 rw[if_neg (fun c=>c x4.2)]at hM
 refine aX Pick.here fun q=>aB Pick.here ?_
 obtain⟨r,qa,qc⟩:=q
 refine ay ?_
 refine o_ aW (o_ aw (ck ?_))
 refine c_ UK fun _=>?_
 rename_i u
 obtain⟨ua,uc⟩:=u
 (try dsimp only)
 refine o_ (bS (v:= .slice ua (vG b a3 n).length uc) rfl) ?_
 refine o_ (bS (v:= .int .i64 (Fy b a3 n)) rfl) ?_
 (refine' bg (Hc) ?hp (fun _=>?_) (fun _=>?_);(case hp=>(repeat(first|exact Picks.nil|(apply Picks.cons;(focus repeat constructor)))));(all_goals (try simp only[ca_,na_,Bool.not_true,Bool.not_false,-eq_self])))
 rotate_left
 ·rename_i y
  rw[if_pos y.2]at hM
  refine cI ⟨_,hM⟩ rfl ?_
  exact aC
 rename_i x5
 rw[if_neg (fun c=>c x5.2)]at hM
 refine o_ aW (o_ aw (ck ?_))
 refine aJ .here fun f1 f2 f3 f4=>?_
 have hle:=O2 b a3 n
 have hbl:(vG b a3 n).length<=65536:=by
  have:(vG b a3 n).length<=n:=by unfold vG;split;(rw[List.length_take];omega);simp
  omega
 refine co (m:=(vG b a3 n).length) (news:=(vG b a3 n).map Sl.B) (by repeat constructor) (fM (e':=5) (by kernel_rfl) .here (dh (by simp) f4) (fun c=>(by
  rcases Nat.eq_zero_or_pos (vG b a3 n).length with z|z
  ·exact z
  ·obtain⟨_,e⟩:=f4 z;rw[c]at e;cases e)) hH) (by omega) (by omega) fun a' c'=>?_
 refine o_ aW (o_ aw (fX ?_))
 refine bC ((⟨_,hM⟩:Ok (fe b most at_ out))) ?_
 refine .ex (r,(a',c')) (.all ?_)
 refine ay ?_
 rw[List.length_append,List.map_append]
 exact .pick (by repeat constructor) (.pick (by repeat constructor) (.pick (by repeat constructor) aC))
theorem sb {W:World}{A:HP}{a:Option Addr}{cap:Nat}{l:List Int}(hr:RdB W A a l.length (l.map I))(hl:l.length<=4611686018427387904):
  CnP p_ 178 [.slice a l.length cap] W [A] (fun x:{p:Nat // okL l}=> .pointer (some ⟨x.1,0,none⟩)) (fun x=>[eL x.1 l,A]) (fun _:If (¬okL l)=>pn 30) (fun _=>[A]):=by
 (refine S.rq.cnP fun F=>?_;unfold S.mw;simp only[ca_,na_,-eq_self])
 by_cases hok:okL l
 ·refine c_ (O6 hr hok) fun _=>?_
  rename_i p
  refine o_ (bS (v:= .pointer (some ⟨p,0,none⟩)) rfl) ?_
  refine o_ (bS (v:= .int .i64 0) rfl) ?_
  (refine' bg (Hc) ?hp (fun _=>?_) (fun _=>?_);(case hp=>(repeat(first|exact Picks.nil|(apply Picks.cons;(focus repeat constructor)))));(all_goals (try simp only[ca_,na_,Bool.not_true,Bool.not_false,-eq_self])))
  ·refine bf ⟨p,hok⟩ rfl ?_
   exact aC
  ·rename_i y
   exact absurd rfl y.2
 ·refine c_ (LT hr hl hok) fun _=>?_
  refine iC ?_;refine iC ?_
  (refine' bg (Hc) ?hp (fun _=>?_) (fun _=>?_);(case hp=>(repeat(first|exact Picks.nil|(apply Picks.cons;(focus repeat constructor)))));(all_goals (try simp only[ca_,na_,Bool.not_true,Bool.not_false,-eq_self])))
  ·rename_i x
   exact absurd x.2 (by omega)
  ·refine cI (AV hok) rfl ?_
   exact aC
theorem I8 {W:World}{p r at_:Nat}{l:List Int}{b:List UInt8}:
  CnP p_ 210 [.pointer (some ⟨p,0,none⟩),.pointer (some ⟨r,0,none⟩)] W [eL p l,vl r b at_] (fun _:If ((fG l b at_).2.1=0)=> .int .i64 (fG l b at_).1) (fun _=>[eL p l,vl r b (fG l b at_).2.2]) (fun _:If ((fG l b at_).2.1≠0)=>pn (fG l b at_).2.1) (fun _=>[]):=by
 (refine S.wG.cnP fun F=>?_;unfold S.rB;simp only[ca_,na_,-eq_self])
 refine c_ next fun _=>?_
 refine o_ (bS (v:= .int .i64 (fG l b at_).1) rfl) ?_
 refine o_ (bS (v:= .int .i64 (fG l b at_).2.1) rfl) ?_
 (refine' bg (Hc) ?hp (fun _=>?_) (fun _=>?_);(case hp=>(repeat(first|exact Picks.nil|(apply Picks.cons;(focus repeat constructor)))));(all_goals (try simp only[ca_,na_,Bool.not_true,Bool.not_false,-eq_self])))
 ·rename_i x
  refine bC (AV x.2) ?_
  exact aC
 ·rename_i y
  refine cI (AV y.2) rfl ?_
  exact aC
def bL (s:Int):Int × Int:=if s-257<0\/28<s-257 then(0,0)else if s-257=28 then(258,0)else if s-257<8 then(s-257+3,0)else(3+(4+(s-257)%4) * ((2^((s-257) / 4-1).toNat:Nat):Int),(s-257) / 4-1)
def bD (s:Int):Int × Int:=if s<0\/29<s then(0,0)else if s<4 then(s+1,0)else(1+(2+s%2) * ((2^(s / 2-1).toNat:Nat):Int),s / 2-1)
theorem w_ {W:World}{s:Int}(h1: -1099511627776<=s/\s<=1099511627776):Cn p_ 211 [.int .i64 s] W [] (fun _:Unit=> .tuple #[.int .i64 (bL s).1,.int .i64 (bL s).2]) (fun _=>[]):=by
 (refine S.vi.cn fun F=>?_;unfold S.pC;simp only[ca_,na_])
 refine fI ?_
 refine aF aI .nil (fun h=>?_) (fun h=>?_)
 ·(refine aA ?_);refine aA ?_;refine o_ aq ?_;refine ab ?_
  rw[show bL s=(0,0)from if_pos (.inl h)]
  refine bC () ?_
  exact .refl
 have i1:=h
 refine ag (ag (aF bq .nil (fun h=>?_) (fun h=>?_)))
 ·(refine o_ ap ?_);refine ab ?_
  rw[show bL s=(0,0)from if_pos (.inr h)]
  refine bC () ?_
  exact .refl
 have i2:=h
 refine o_ ap (aa (aF bF .nil (fun h=>?_) (fun h=>?_)))
 ·(refine ab ?_)
  rw[show bL s=(258,0) by unfold bL;rw[if_neg (by omega),if_pos h]]
  refine bC () ?_
  exact .refl
 have i3:=h
 refine aa (aF aI .nil (fun h=>?_) (fun h=>?_))
 ·(refine ab ?_);refine bW ?_
  rw[show bL s=(s-257+3,0) by unfold bL;rw[if_neg (by omega),if_neg i3,if_pos h]]
  refine bC () ?_
  exact .refl
 have i4:=h
 obtain⟨K,hK⟩:=Int.eq_ofNat_of_zero_le (show 0<=s-257 by omega)
 have hb:bL s=(3+(4+(s-257)%4) * ((2^((s-257) / 4-1).toNat:Nat):Int),(s-257) / 4-1):=by unfold bL;rw[if_neg (by omega),if_neg i3,if_neg i4]
 rw[hb,hK]
 have e1:(K:Int) / 4-1=((K / 4-1:Nat):Int):=by omega
 refine aa ?_;(((refine o_ (uo ?h1 ?h2 ?h3) ?_);(case h1=>omega);(case h2=>omega);(case h3=>omega)));refine fI ?_;(((refine o_ (uq ?h1 ?h2) ?_);(case h1=>omega);(case h2=>omega)));refine bW ?_
 refine o_ bO ?_
 rw[iN (by omega) (by omega),e1]
 refine o_ (me (by omega)) ?_
 rw[FG (by omega) (by omega) (by omega),Int.toNat_natCast]
 have h5:(2:Nat)^(K / 4-1)<=32768:=r_ (by omega)
 obtain⟨E,hE⟩:∃E:Nat,E=2^(K / 4-1):=⟨_,rfl⟩
 rw[<- hE]at h5 ⊢
 have h6:(4+(K:Int)%4) * (E:Int)<=8 * 32768:=Int.mul_le_mul (by omega) (by omega) (by omega) (by omega)
 have h7:0<=(4+(K:Int)%4) * (E:Int):=Int.mul_nonneg (by omega) (by omega)
 refine bW ?_
 refine bC () ?_
 exact .refl
theorem sd {W:World}{s:Int}:Cn p_ 212 [.int .i64 s] W [] (fun _:Unit=> .tuple #[.int .i64 (bD s).1,.int .i64 (bD s).2]) (fun _=>[]):=by
 (refine S.rF.cn fun F=>?_;unfold S.mB;simp only[ca_,na_])
 refine aF aI .nil (fun h=>?_) (fun h=>?_)
 ·(refine aA ?_);refine aA ?_;refine o_ aq ?_;refine ab ?_
  rw[show bD s=(0,0)from if_pos (.inl h)]
  refine bC () ?_
  exact .refl
 have i1:=h
 refine ag (ag (aF bq .nil (fun h=>?_) (fun h=>?_)))
 ·(refine o_ ap ?_);refine ab ?_
  rw[show bD s=(0,0)from if_pos (.inr h)]
  refine bC () ?_
  exact .refl
 have i2:=h
 refine o_ ap (aa (aF aI .nil (fun h=>?_) (fun h=>?_)))
 ·(refine ab ?_);refine bW ?_
  rw[show bD s=(s+1,0) by unfold bD;rw[if_neg (by omega),if_pos h]]
  refine bC () ?_
  exact .refl
 have i4:=h
 obtain⟨K,rfl⟩:=Int.eq_ofNat_of_zero_le (show 0<=s by omega)
 have hb:bD K=(1+(2+(K:Int)%2) * ((2^((K:Int) / 2-1).toNat:Nat):Int),(K:Int) / 2-1):=by unfold bD;rw[if_neg (by omega),if_neg i4]
 rw[hb]
 have e1:(K:Int) / 2-1=((K / 2-1:Nat):Int):=by omega
 refine aa ?_;(((refine o_ (uo ?h1 ?h2 ?h3) ?_);(case h1=>omega);(case h2=>omega);(case h3=>omega)));refine fI ?_;(((refine o_ (uq ?h1 ?h2) ?_);(case h1=>omega);(case h2=>omega)));refine bW ?_
 refine o_ bO ?_
 rw[iN (by omega) (by omega),e1]
 refine o_ (me (by omega)) ?_
 rw[FG (by omega) (by omega) (by omega),Int.toNat_natCast]
 have h5:(2:Nat)^(K / 2-1)<=32768:=r_ (by omega)
 obtain⟨E,hE⟩:∃E:Nat,E=2^(K / 2-1):=⟨_,rfl⟩
 rw[<- hE]at h5 ⊢
 have h6:(2+(K:Int)%2) * (E:Int)<=8 * 32768:=Int.mul_le_mul (by omega) (by omega) (by omega) (by omega)
 have h7:0<=(2+(K:Int)%2) * (E:Int):=Int.mul_nonneg (by omega) (by omega)
 refine bW ?_
 refine bC () ?_
 exact .refl
theorem fill {W:World}{a:Option Addr}{c k n:Nat}{l:List Int}{v:Int}(hn:l.length=n)(h1:n<=1048576)(h2:k<=1048576):Cn p_ 209 [.slice a n c,.int .i64 (k:Int),.int .i64 v] W [Sl 1 3 a c n (l.map I)]
  (fun q:Option Addr × Nat=> .slice q.1 (n+k) q.2) (fun q=>[Sl 1 3 q.1 q.2 (n+k) ((l++List.replicate k v).map I)]):=by
 (refine S.rA.cn fun F=>?_;unfold S.mA;simp only[ca_,na_])
 refine cg (fun m x y=>[ex fun i:Nat=>ex fun q:Option Addr × Nat=>all [pu (m+i=k/\y= .int .i64 (i:Int)/\x= .slice q.1 (n+i) q.2),Sl 1 3 q.1 q.2 (n+i) ((l++List.replicate i v).map I)]]++F) k ?_ ?_
 ·refine .ex 0 (.ex (a,c) (.all ?_))
  refine ay ?_
  refine .pu ⟨by omega,rfl,rfl⟩ ?_
  rw[List.replicate_zero,List.append_nil]
  exact .refl
 intro m ds x y
 refine ay ?_
 refine aX Pick.here fun i=>aX Pick.here fun q=>aB Pick.here ?_
 obtain⟨qa,qc⟩:=q
 refine ay ?_
 refine aT Pick.here fun hi=>?_
 obtain⟨hmi,rfl,rfl⟩:=hi
 (try dsimp only)
 refine aF aI .nil (fun h=>?_) (fun h=>?_)
 ·refine ab (kF fun g=>?_)
  refine co (m:=1) (news:=[I v]) (by repeat constructor) (dq (e':=3) (by kernel_rfl) .here (by rfl) (Ce (l:=[v]))) (by omega) (by omega) fun a' c'=>?_
  refine bW ?_
  refine bH (m-1) (by omega) (.ex (i+1) (.ex (a',c') (.all ?_)))
  refine ay ?_
  refine .pu ⟨by omega,congrArg (Value.int .i64) (by omega),by rw[Nat.add_assoc]⟩ ?_
  rw[List.replicate_succ',<- List.append_assoc,List.map_append (l₁:=l++List.replicate i v),<- Nat.add_assoc]
  exact .pick (by repeat constructor) aC
 ·have:i=k:=by omega
  subst this
  refine aa (bf (qa,qc) rfl ?_)
  exact .refl
def lz:List Int:=List.replicate 144 8++List.replicate 112 9++List.replicate 24 7++List.replicate 8 8
def lC:List Int:=List.replicate 32 5
theorem se:lz.length=0+144+112+24+8:=by simp only[lz,List.length_append,List.length_replicate]
theorem sf:lC.length=0+32:=by simp only[lC,List.length_replicate]
theorem I9 {W:World}:Cn p_ 176 [] W [] (fun q:(Option Addr × Nat) × (Option Addr × Nat)=> .tuple #[.slice q.1.1 lz.length q.1.2,.slice q.2.1 lC.length q.2.2])
  (fun q=>[Sl 1 3 q.1.1 q.1.2 lz.length (lz.map I),Sl 1 3 q.2.1 q.2.2 lC.length (lC.map I)]):=by
 (refine S.vh.cn fun F=>?_;unfold S.pB;simp only[ca_,na_])
 rw[se,sf]
 refine d_ (s:=1) (e:=3) ?_
 refine c_ (fill (l:=[]) (k:=144) (v:=8) rfl (by omega) (by omega)) fun _=>?_
 rename_i q1
 obtain⟨a1,c1⟩:=q1
 (try dsimp only)
 refine c_ (fill (l:=List.replicate 144 8) (n:=0+144) (k:=112) (v:=9) (by rw[List.length_replicate]) (by omega) (by omega)) fun _=>?_
 rename_i q2
 obtain⟨a2,c2⟩:=q2
 (try dsimp only)
 refine c_ (fill (l:=List.replicate 144 8++List.replicate 112 9) (n:=0+144+112) (k:=24) (v:=7) (by rw[List.length_append,List.length_replicate,List.length_replicate]) (by omega) (by omega)) fun _=>?_
 rename_i q3
 obtain⟨a3,c3⟩:=q3
 (try dsimp only)
 refine c_ (fill (l:=List.replicate 144 8++List.replicate 112 9++List.replicate 24 7) (n:=0+144+112+24) (k:=8) (v:=8) (by rw[List.length_append,List.length_append,List.length_replicate,List.length_replicate,List.length_replicate]) (by omega) (by omega)) fun _=>?_
 rename_i q4
 obtain⟨a4,c4⟩:=q4
 (try dsimp only)
 rw[show(List.replicate 144 8++List.replicate 112 9++List.replicate 24 7++List.replicate 8 8:List Int)=lz from rfl]
 refine d_ (s:=1) (e:=3) ?_
 refine c_ (fill (l:=[]) (k:=32) (v:=5) rfl (by omega) (by omega)) fun _=>?_
 rename_i q5
 obtain⟨a5,c5⟩:=q5
 rw[show(List.replicate 32 5:List Int)=lC from rfl]
 (try dsimp only)
 refine bf ((a4,c4),(a5,c5)) rfl ?_
 exact .pick (by repeat constructor) (.pick (by repeat constructor) aC)
theorem I_ (l:List Int)(b:List UInt8):∀f n c at_,at_<=(CH l b f n c at_).2.2/\((CH l b f n c at_).2.1=0->at_<(CH l b f n c at_).2.2)
 |0,n,c,at_=>⟨Nat.le_refl _,fun h=>by simp[CH]at h⟩
 |f+1,n,c,at_=>by
  have hA:at_<=aY b at_ 1:=by unfold aY;split <;> omega
  unfold CH
  by_cases hR:cD b at_ 1=0
  ·rw[if_pos hR]
   have hA1:aY b at_ 1=at_+1:=by unfold aY;rw[if_pos hR];rfl
   cases fL l ((n+1:Nat):Int) ((2 * c+bK b at_ 1:Nat):Int) l.length with
   |some i=>exact⟨hA,fun _=>by simp only;omega⟩
   |none=>
    have ih:=I_ l b f (n+1) (2 * c+bK b at_ 1) (aY b at_ 1)
    simp only
    exact⟨by omega,fun h=>by have:=ih.2 h;omega⟩
  ·rw[if_neg hR]
   exact⟨hA,fun h=>absurd h hR⟩
theorem qo (l:List Int)(b:List UInt8)(at_:Nat):at_<=(fG l b at_).2.2/\((fG l b at_).2.1=0->at_<(fG l b at_).2.2):=by
 unfold fG
 split
 ·exact I_ l b 15 0 0 at_
 ·exact⟨Nat.le_refl _,fun h=>by cases h⟩
theorem dw (b:List UInt8)(at_:Nat)(k:Int):at_<=aY b at_ k:=by unfold aY;split <;> omega
def eM (out:List UInt8)(far:Nat):Nat->List UInt8
 |0=>out
 |k+1=>eM out far k++[(eM out far k).getD ((eM out far k).length-far) 0]
theorem lE (out:List UInt8)(far:Nat):∀k,(eM out far k).length=out.length+k
 |0=>rfl
 |k+1=>by rw[eM,List.length_append,lE out far k,List.length_singleton];omega
def iw (la lb:List Int)(b:List UInt8)(most:Int)(at_:Nat)(out:List UInt8):Except Int (Bool × Nat × List UInt8):=
 let x:=fG la b at_
 if x.2.1≠0 then .error x.2.1 else
 if x.1=256 then .ok (true,x.2.2,out)else
 if x.1<256 then(if ¬(1:Int)<=most-out.length then .error 6 else .ok (false,x.2.2,out++[UInt8.ofNat x.1.toNat]))else
 if ¬0<(bL x.1).1 then .error 30 else
 if cD b x.2.2 (bL x.1).2≠0 then .error (cD b x.2.2 (bL x.1).2)else
 let y:=fG lb b (aY b x.2.2 (bL x.1).2)
 if y.2.1≠0 then .error y.2.1 else
 if ¬0<(bD y.1).1 then .error 30 else
 if cD b y.2.2 (bD y.1).2≠0 then .error (cD b y.2.2 (bD y.1).2)else
 if ¬(bD y.1).1+bK b y.2.2 (bD y.1).2<=out.length then .error 31 else
 if ¬(bL x.1).1+bK b x.2.2 (bL x.1).2<=most-out.length then .error 6 else
 .ok (false,aY b y.2.2 (bD y.1).2,eM out ((bD y.1).1+bK b y.2.2 (bD y.1).2).toNat ((bL x.1).1+bK b x.2.2 (bL x.1).2).toNat)
def nW (la lb:List Int)(b:List UInt8)(most:Int):Nat->Nat->List UInt8->Except Int (Nat × List UInt8)
 |0,_,_=> .error 20
 |f+1,at_,out=>match iw la lb b most at_ out with
  | .error e=> .error e
  | .ok (true,a,o)=> .ok (a,o)
  | .ok (false,a,o)=>nW la lb b most f a o
theorem FI (l:List Int)(b:List UInt8):∀f n c at_,0<=(CH l b f n c at_).1/\(CH l b f n c at_).1<=l.length
 |0,n,c,at_=>by simp[CH]
 |f+1,n,c,at_=>by
  unfold CH
  split
  ·cases h:fL l ((n+1:Nat):Int) ((2 * c+bK b at_ 1:Nat):Int) l.length with
   |some i=>have:=(nV h).1;simp only;omega
   |none=>exact FI l b f _ _ _
  ·simp
theorem vH (l:List Int)(b:List UInt8)(at_:Nat):0<=(fG l b at_).1/\(fG l b at_).1<=l.length:=by
 unfold fG
 split
 ·exact FI l b 15 0 0 at_
 ·simp
theorem UL (s:Int)(h:0<=s):0<=(bL s).1/\(bL s).1<=1099511627776/\0<=(bL s).2:=by
 unfold bL
 split
 ·simp
 ·split
  ·simp
  ·split
   ·simp only;omega
   ·rename_i h1 h2 h3
    have e:((2^((s-257) / 4-1).toNat:Nat):Int)<=32768:=by
     have:=r_ (show((s-257) / 4-1).toNat<=15 by omega)
     omega
    have e0:(0:Int)<=((2^((s-257) / 4-1).toNat:Nat):Int):=Int.natCast_nonneg _
    obtain⟨E,hE⟩:∃E:Int,E=((2^((s-257) / 4-1).toNat:Nat):Int):=⟨_,rfl⟩
    rw[<- hE]at e e0 ⊢
    have h6:(4+(s-257)%4) * E<=8 * 32768:=Int.mul_le_mul (by omega) (by omega) (by omega) (by omega)
    have h7:0<=(4+(s-257)%4) * E:=Int.mul_nonneg (by omega) (by omega)
    simp only;omega
theorem UM (s:Int)(h:0<=s):0<=(bD s).1/\(bD s).1<=1099511627776/\0<=(bD s).2:=by
 unfold bD
 split
 ·simp
 ·split
  ·simp only;omega
  ·rename_i h1 h2
   have e:((2^(s / 2-1).toNat:Nat):Int)<=32768:=by
    have:=r_ (show(s / 2-1).toNat<=15 by omega)
    omega
   have e0:(0:Int)<=((2^(s / 2-1).toNat:Nat):Int):=Int.natCast_nonneg _
   obtain⟨E,hE⟩:∃E:Int,E=((2^(s / 2-1).toNat:Nat):Int):=⟨_,rfl⟩
   rw[<- hE]at e e0 ⊢
   have h6:(2+s%2) * E<=8 * 32768:=Int.mul_le_mul (by omega) (by omega) (by omega) (by omega)
   have h7:0<=(2+s%2) * E:=Int.mul_nonneg (by omega) (by omega)
   simp only;omega
theorem xb (b:List UInt8)(at_:Nat)(k:Int):bK b at_ k<4294967296:=by
 unfold bK
 split
 ·rename_i h
  have hk:k.toNat<=32:=by
   unfold cD at h
   split at h
   ·cases h
   ·omega
  exact Nat.lt_of_lt_of_le (wZ _ _ _) (Nat.le_trans (Nat.pow_le_pow_right (by omega) hk) (by decide))
 ·omega
theorem bh {α:Type}{c:Prop}[Decidable c]{e:Int}{x:Except Int α}{v:α}(h:(if c then .error e else x)= .ok v):¬c/\x= .ok v:=by
 by_cases hc:c
 ·rw[if_pos hc]at h;cases h
 ·rw[if_neg hc]at h;exact⟨hc,h⟩
theorem zq {la lb:List Int}{b:List UInt8}{most:Int}{at_:Nat}{out:List UInt8}{t:Bool}{a:Nat}{o:List UInt8}(h:iw la lb b most at_ out= .ok (t,a,o))(h0:(out.length:Int)<=most):(o.length:Int)<=most:=by
 have ho:∀ {t':Bool} {a':Nat} {o':List UInt8},(Except.ok (t',a',o'):Except Int (Bool × Nat × List UInt8))= .ok (t,a,o)->o'=o:=fun e=>(Prod.mk.inj (Prod.mk.inj (Except.ok.inj e)).2).2
 unfold iw at h
 simp only at h
 obtain⟨_,h⟩:=bh h
 by_cases c1:(fG la b at_).1=256
 ·rw[if_pos c1]at h
  rw[<- ho h];exact h0
 rw[if_neg c1]at h
 by_cases c2:(fG la b at_).1<256
 ·rw[if_pos c2]at h
  obtain⟨c3,h⟩:=bh h
  rw[<- ho h,List.length_append,List.length_singleton];omega
 rw[if_neg c2]at h
 obtain⟨_,h⟩:=bh h
 obtain⟨_,h⟩:=bh h
 obtain⟨_,h⟩:=bh h
 obtain⟨_,h⟩:=bh h
 obtain⟨_,h⟩:=bh h
 obtain⟨_,h⟩:=bh h
 obtain⟨c3,h⟩:=bh h
 rw[<- ho h,lE]
 generalize (bL (fG la b at_).1).1+(bK b (fG la b at_).2.2 (bL (fG la b at_).1).2:Int)=E at c3 ⊢
 omega
theorem xd {la lb:List Int}{b:List UInt8}{most:Int}:∀(f:Nat) {at_:Nat} {out:List UInt8} {a:Nat} {o:List UInt8},nW la lb b most f at_ out= .ok (a,o)->(out.length:Int)<=most->(o.length:Int)<=most
 |0,_,_,_,_,h,_=>by cases h
 |f+1,at_,out,a,o,h,h0=>by
  rw[nW]at h
  split at h
  ·cases h
  ·rename_i hr
   cases h
   exact zq hr h0
  ·rename_i hr
   exact xd f h (zq hr h0)
def mS (la lb:List Int)(b:List UInt8)(most:Int)(at_:Nat)(out:List UInt8):Except Int (Nat × List UInt8):=nW la lb b most (8 * b.length+1-at_) at_ out
theorem FJ {W:World}{p pa pb at_:Nat}{la lb:List Int}{b out:List UInt8}{most:Int}(hla:la.length<=320)(hlb:lb.length<=320)(h1:0<=most/\most<=1048576)(h2:(out.length:Int)<=most):
  CnP p_ 177 [.pointer (some ⟨p,0,none⟩),.pointer (some ⟨pa,0,none⟩),.pointer (some ⟨pb,0,none⟩)] W [o7 p b at_ out most,eL pa la,eL pb lb]
   (fun _:Ok (mS la lb b most at_ out)=> .tuple #[]) (fun x=>[o7 p b x.1.1 x.1.2 most]) (fun y:Er (mS la lb b most at_ out)=>pn y.1) (fun _=>[]):=by
 (refine S.kJ.cnP fun F=>?_;unfold S.gE;simp only[ca_,na_,-eq_self])
 obtain⟨R,hR⟩:∃R,R=mS la lb b most at_ out:=⟨_,rfl⟩
 rw[<- hR]
 refine Ag (fun m=>[ex fun at1:Nat=>ex fun o1:List UInt8=>all [pu (8 * b.length+1<=m+at1/\R=nW la lb b most m at1 o1/\(o1.length:Int)<=most),o7 p b at1 o1 most,eL pa la,eL pb lb]]++F) (8 * b.length+1-at_) ?_ ?_
 ·refine .ex at_ (.ex out (.all ?_))
  refine ay ?_
  refine .pu ⟨by omega,hR,h2⟩ ?_
  exact .pick (by repeat constructor) (.pick (by repeat constructor) (.pick (by repeat constructor) .refl))
 clear hR h2
 intro m ds
 refine ay ?_
 refine aX Pick.here fun at1=>aX Pick.here fun o1=>aB Pick.here ?_
 refine ay ?_
 refine aT Pick.here fun hi=>?_
 obtain⟨hm,hR,h2⟩:=hi
 refine aX Pick.here fun q=>aB Pick.here ?_
 obtain⟨r,qa,qc⟩:=q
 refine ay ?_
 refine AW (.there .here) fun hat=>?_
 obtain⟨m,rfl⟩:∃m',m=m'+1:=⟨m-1,by omega⟩
 rw[nW]at hR
 have hM:iw la lb b most at1 o1=iw la lb b most at1 o1:=rfl
 conv at hM=>rhs;unfold iw
 simp only at hM
 refine o_ aW (o_ aw (ck ?_))
 (refine' bg (I8) ?hp (fun _=>?_) (fun _=>?_);(case hp=>(repeat(first|exact Picks.nil|(apply Picks.cons;(focus repeat constructor)))));(all_goals (try simp only[ca_,na_,Bool.not_true,Bool.not_false,-eq_self])))
 rotate_left
 ·rename_i y
  rw[if_pos y.2]at hM
  rw[hM]at hR
  refine cI ⟨_,hR⟩ rfl ?_
  exact aC
 rename_i x1
 rw[if_neg (fun c=>c x1.2)]at hM
 have hv:=vH la b at1
 have hlt:=(qo la b at1).2 x1.2
 obtain⟨x,hx⟩:∃x,x=(fG la b at1).1:=⟨_,rfl⟩
 obtain⟨a2,ha2⟩:∃a2,a2=(fG la b at1).2.2:=⟨_,rfl⟩
 rw[<- hx]at hv
 rw[<- ha2]at hlt
 rw[<- hx,<- ha2]at hM ⊢
 refine cr (M:=o7 p b a2 o1 most::eL pa la::eL pb lb::F) (.ex (r,(qa,qc)) (.all (.pick (by repeat constructor) (.pick (by repeat constructor) (.pick (by repeat constructor) aC))))) ?_
 refine aF bF .nil (fun h=>?_) (fun h=>?_)
 ·rw[if_pos h]at hM
  rw[hM]at hR
  refine ab (bC ((⟨_,hR⟩:Ok R)) ?_)
  exact aC
 rw[if_neg h]at hM
 refine aa (aF aI .nil (fun h=>?_) (fun h=>?_))
 ·rw[if_pos h]at hM
  refine ab ?_
  (refine' bg (room (most:=most) (out:=o1) (by omega) (by omega)) ?hp (fun _=>?_) (fun _=>?_);(case hp=>(repeat(first|exact Picks.nil|(apply Picks.cons;(focus repeat constructor)))));(all_goals (try simp only[ca_,na_,Bool.not_true,Bool.not_false,-eq_self])))
  rotate_left
  ·rename_i y
   rw[if_pos y.2]at hM
   rw[hM]at hR
   refine cI ⟨_,hR⟩ rfl ?_
   exact aC
  rename_i x2
  have h3:=x2.2
  rw[if_neg (fun c=>c x2.2)]at hM
  rw[hM]at hR
  simp only at hR
  refine aX Pick.here fun q=>aB Pick.here ?_
  obtain⟨r,qa,qc⟩:=q
  refine ay ?_
  obtain⟨X,rfl⟩:=Int.eq_ofNat_of_zero_le hv.1
  refine o_ aW (o_ aw (ck ?_))
  refine o_ bO ?_
  rw[IW (by omega),<- lY (by omega)]
  refine kF fun g=>?_
  refine co (m:=1) (news:=[Sl.B (UInt8.ofNat X)]) (by repeat constructor) (dq (e':=5) (by kernel_rfl) .here (by rfl) (hH (l:=[UInt8.ofNat X]))) (by omega) (by omega) fun a' c'=>?_
  refine o_ aW (o_ aw (fX ?_))
  refine vt m (by omega) (.ex a2 (.ex (o1++[UInt8.ofNat X]) (.all ?_)))
  refine ay ?_
  refine .pu ⟨by omega,hR,by rw[List.length_append,List.length_singleton];omega⟩ ?_
  refine .ex (r,(a',c')) (.all ?_)
  refine ay ?_
  rw[List.length_append,List.map_append,List.length_singleton]
  exact .pick (by repeat constructor) (.pick (by repeat constructor) (.pick (by repeat constructor) (.pick (by repeat constructor) (.pick (by repeat constructor) aC))))
 rw[if_neg h]at hM
 refine aa ?_
 have hbl:=UL x (by omega)
 refine c_ (w_ (by omega)) fun _=>?_
 obtain⟨base,hbase⟩:∃base,base=(bL x).1:=⟨_,rfl⟩
 obtain⟨n,hn⟩:∃n,n=(bL x).2:=⟨_,rfl⟩
 rw[<- hbase,<- hn]at hM hbl ⊢
 refine o_ (bS (v:= .int .i64 base) rfl) ?_
 refine o_ (bS (v:= .int .i64 n) rfl) ?_
 refine o_ bq ?_
 (refine' bg (iv) ?hp (fun _=>?_) (fun _=>?_);(case hp=>(repeat(first|exact Picks.nil|(apply Picks.cons;(focus repeat constructor)))));(all_goals (try simp only[ca_,na_,Bool.not_true,Bool.not_false,-eq_self])))
 rotate_left
 ·rename_i y
  rw[if_pos (of_decide_eq_false y.2)]at hM
  rw[hM]at hR
  refine cI ⟨_,hR⟩ rfl ?_
  exact aC
 rename_i x3
 rw[if_neg (fun c=>c (of_decide_eq_true x3.2))]at hM
 (refine' bg (mG) ?hp (fun _=>?_) (fun _=>?_);(case hp=>(repeat(first|exact Picks.nil|(apply Picks.cons;(focus repeat constructor)))));(all_goals (try simp only[ca_,na_,Bool.not_true,Bool.not_false,-eq_self])))
 rotate_left
 ·rename_i y
  rw[if_pos y.2]at hM
  rw[hM]at hR
  refine cI ⟨_,hR⟩ rfl ?_
  exact aC
 rename_i x4
 rw[if_neg (fun c=>c x4.2)]at hM
 have ht1:=xb b a2 n
 obtain⟨t1,ht⟩:∃t1,t1=bK b a2 n:=⟨_,rfl⟩
 have hlt3:=dw b a2 n
 obtain⟨a3,ha3⟩:∃a3,a3=aY b a2 n:=⟨_,rfl⟩
 rw[<- ht]at ht1
 rw[<- ha3]at hlt3
 rw[<- ht,<- ha3]at hM ⊢
 refine bW ?_;refine o_ aW (o_ aw (aX Pick.here fun q=>aB Pick.here ?_))
 obtain⟨r,qa,qc⟩:=q
 refine ay ?_
 refine ck ?_
 (refine' bg (I8) ?hp (fun _=>?_) (fun _=>?_);(case hp=>(repeat(first|exact Picks.nil|(apply Picks.cons;(focus repeat constructor)))));(all_goals (try simp only[ca_,na_,Bool.not_true,Bool.not_false,-eq_self])))
 rotate_left
 ·rename_i y
  rw[if_pos y.2]at hM
  rw[hM]at hR
  refine cI ⟨_,hR⟩ rfl ?_
  exact aC
 rename_i x5
 rw[if_neg (fun c=>c x5.2)]at hM
 have hv5:=vH lb b a3
 have hlt5:=(qo lb b a3).2 x5.2
 obtain⟨y1,hy1⟩:∃x,x=(fG lb b a3).1:=⟨_,rfl⟩
 obtain⟨a4,ha4⟩:∃a2,a2=(fG lb b a3).2.2:=⟨_,rfl⟩
 rw[<- hy1]at hv5
 rw[<- ha4]at hlt5
 rw[<- hy1,<- ha4]at hM ⊢
 refine cr (M:=o7 p b a4 o1 most::eL pa la::eL pb lb::F) (.ex (r,(qa,qc)) (.all (.pick (by repeat constructor) (.pick (by repeat constructor) (.pick (by repeat constructor) aC))))) ?_
 have hbd:=UM y1 (by omega)
 refine c_ sd fun _=>?_
 obtain⟨dist,hdist⟩:∃base,base=(bD y1).1:=⟨_,rfl⟩
 obtain⟨k,hk⟩:∃n,n=(bD y1).2:=⟨_,rfl⟩
 rw[<- hdist,<- hk]at hM hbd ⊢
 refine o_ (bS (v:= .int .i64 dist) rfl) ?_
 refine o_ (bS (v:= .int .i64 k) rfl) ?_
 refine o_ bq ?_
 (refine' bg (iv) ?hp (fun _=>?_) (fun _=>?_);(case hp=>(repeat(first|exact Picks.nil|(apply Picks.cons;(focus repeat constructor)))));(all_goals (try simp only[ca_,na_,Bool.not_true,Bool.not_false,-eq_self])))
 rotate_left
 ·rename_i y
  rw[if_pos (of_decide_eq_false y.2)]at hM
  rw[hM]at hR
  refine cI ⟨_,hR⟩ rfl ?_
  exact aC
 rename_i x6
 have hd0:=of_decide_eq_true x6.2
 rw[if_neg (fun c=>c (of_decide_eq_true x6.2))]at hM
 (refine' bg (mG) ?hp (fun _=>?_) (fun _=>?_);(case hp=>(repeat(first|exact Picks.nil|(apply Picks.cons;(focus repeat constructor)))));(all_goals (try simp only[ca_,na_,Bool.not_true,Bool.not_false,-eq_self])))
 rotate_left
 ·rename_i y
  rw[if_pos y.2]at hM
  rw[hM]at hR
  refine cI ⟨_,hR⟩ rfl ?_
  exact aC
 rename_i x7
 rw[if_neg (fun c=>c x7.2)]at hM
 have ht7:=xb b a4 k
 obtain⟨t2,htt⟩:∃t1,t1=bK b a4 k:=⟨_,rfl⟩
 have hlt7:=dw b a4 k
 obtain⟨a5,ha5⟩:∃a3,a3=aY b a4 k:=⟨_,rfl⟩
 rw[<- htt]at ht7
 rw[<- ha5]at hlt7
 rw[<- htt,<- ha5]at hM ⊢
 refine bW ?_;refine o_ aW (o_ aw (aX Pick.here fun q=>aB Pick.here ?_))
 obtain⟨r,qa,qc⟩:=q
 refine ay ?_
 refine ck ?_;refine o_ aN (o_ dX ?_)
 (refine' bg (iv) ?hp (fun _=>?_) (fun _=>?_);(case hp=>(repeat(first|exact Picks.nil|(apply Picks.cons;(focus repeat constructor)))));(all_goals (try simp only[ca_,na_,Bool.not_true,Bool.not_false,-eq_self])))
 rotate_left
 ·rename_i y
  rw[if_pos (of_decide_eq_false y.2)]at hM
  rw[hM]at hR
  refine cI ⟨_,hR⟩ rfl ?_
  exact aC
 rename_i x8
 have hfar:=of_decide_eq_true x8.2
 rw[if_neg (fun c=>c (of_decide_eq_true x8.2))]at hM
 refine cr (M:=o7 p b a5 o1 most::eL pa la::eL pb lb::F) (.ex (r,(qa,qc)) (.all (.pick (by repeat constructor) (.pick (by repeat constructor) (.pick (by repeat constructor) aC))))) ?_
 (refine' bg (room (most:=most) (out:=o1) (by omega) (by omega)) ?hp (fun _=>?_) (fun _=>?_);(case hp=>(repeat(first|exact Picks.nil|(apply Picks.cons;(focus repeat constructor)))));(all_goals (try simp only[ca_,na_,Bool.not_true,Bool.not_false,-eq_self])))
 rotate_left
 ·rename_i y
  rw[if_pos y.2]at hM
  rw[hM]at hR
  refine cI ⟨_,hR⟩ rfl ?_
  exact aC
 rename_i x9
 have hroom:=x9.2
 rw[if_neg (fun c=>c x9.2)]at hM
 rw[hM]at hR
 simp only at hR
 obtain⟨far,hfarE⟩:∃far:Nat,far=(dist+(t2:Int)).toNat:=⟨_,rfl⟩
 obtain⟨len,hlenE⟩:∃len:Nat,len=(base+(t1:Int)).toNat:=⟨_,rfl⟩
 rw[<- hfarE,<- hlenE]at hR
 rw[show dist+(t2:Int)=(far:Int) by omega,show base+(t1:Int)=(len:Int) by omega]
 refine bj (fun m2 y=>[ex fun i:Nat=>all [pu (m2+i=len/\y= .int .i64 (i:Int)),o7 p b a5 (eM o1 far i) most,eL pa la,eL pb lb]]++F) len ?_ ?_
 ·refine .ex 0 (.all ?_)
  refine ay ?_
  refine .pu ⟨by omega,rfl⟩ ?_
  exact .pick (by repeat constructor) (.pick (by repeat constructor) (.pick (by repeat constructor) .refl))
 intro m2 ds y
 refine ay ?_
 refine aX Pick.here fun i=>aB Pick.here ?_
 refine ay ?_
 refine aT Pick.here fun hi=>?_
 obtain⟨hmi,rfl⟩:=hi
 have hcl:=lE o1 far i
 refine aF aI .nil (fun h=>?_) (fun h=>?_)
 ·refine ab (aX Pick.here fun q=>aB Pick.here ?_)
  obtain⟨r,qa,qc⟩:=q
  refine ay ?_
  refine aJ (.there (.there .here)) fun f1 f2 f3 f4=>?_
  obtain⟨C,hC⟩:∃C,C=eM o1 far i:=⟨_,rfl⟩
  rw[<- hC]at hcl f4 ⊢
  obtain⟨gq,rfl⟩:=f4 (by omega)
  have hj:C.length-far<C.length:=by omega
  refine bM (aZ aW .nil ?_);refine aZ aw .nil ?_;(((refine' aZ (br ?hc) ?hi ?_);(case hi=>exact .pick (by repeat constructor) .nil);(case hc=>repeat constructor)));refine t_ aW (t_ aw (kS ?_));refine t_ aW (t_ aw (kS ?_));refine t_ aN ?_;(refine t_ (ep (by omega) (by omega)) ?_)
  refine t_ (bA (C.length-far) (by omega) hj) ?_
  refine jB (dP (v:=Sl.B C[C.length-far]) (by rw[Nat.zero_add];exact H9 hj)) ?_
  refine kF fun g=>?_
  refine cq ?_;refine cq ?_;refine cq ?_
  refine co (m:=1) (news:=[Sl.B C[C.length-far]]) (by repeat constructor) (dq (e':=5) (by kernel_rfl) .here (by rfl) (hH (l:=[C[C.length-far]]))) (by omega) (by omega) fun a' c'=>?_
  refine t_ aW (t_ aw (fX ?_));refine bW ?_
  refine aP (m2-1) (by omega) (.ex (i+1) (.all ?_))
  refine ay ?_
  refine .pu ⟨by omega,congrArg (Value.int .i64) (by omega)⟩ ?_
  refine .ex (r,(a',c')) (.all ?_)
  refine ay ?_
  rw[show eM o1 far (i+1)=C++[C[C.length-far]] by rw[eM,<- hC,List.getD_eq_getElem?_getD,List.getElem?_eq_getElem hj];rfl]
  rw[List.length_append,List.map_append,List.length_singleton]
  exact .pick (by repeat constructor) (.pick (by repeat constructor) (.pick (by repeat constructor) (.pick (by repeat constructor) (.pick (by repeat constructor) aC))))
 ·have:i=len:=by omega
  subst this
  refine aa (vt m (by omega) (.ex a5 (.ex (eM o1 far i) (.all ?_))))
  refine ay ?_
  refine .pu ⟨by omega,hR,by omega⟩ ?_
  exact .pick (by repeat constructor) (.pick (by repeat constructor) (.pick (by repeat constructor) .refl))
end IF
end Go.Proofs.YtndojgomlkpeaaaGreatDoor
