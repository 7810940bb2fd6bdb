/- A client's connection: which bytes of a head were taken. (53 texts made one; each says below what it is.) -/
import Derived.Test.YtdjkdjepjahjfaaGreatDoorK3
import Derived.Laws.Externs
import Derived.Lib.SliceRun
import Derived.LaidEqlPtr
import Derived.Laws.StructEq
set_option linter.unusedVariables false
set_option linter.unusedSimpArgs false
set_option linter.unusedSectionVars false
set_option maxRecDepth 9999
namespace Go.Proofs.YtdjkdjepjahjfaaGreatDoor.TP
open Go Go.Proofs Go.RowKit Sh Sl T FD
theorem Im {W:World}{c:Nat}{s:CnS}{b:List UInt8}{a:Option Addr}{cap:Nat}{A:HP}(hA:RdB W A a b.length (b.map Sl.B))(hbl:b.length<=1048576):Cn p_ 141 [pC c,.slice a b.length cap] W [cD c s,A] (fun _:Int × Bool × Int=> .tuple #[]) (fun x=>[cD c {s with ln:=x.1,bg:=x.2.1,si:=x.2.2},A]):=by
 (refine Shp.cn (Sg.g_ Tryz.call141 Tryz.func141 (an:={loops:=[(1,[9])]})) fun F=>?_;simp only[ca_,na_])
 cases s
 rename_i bo ke ck si rd bg nx hd rr ln q0 q1 q2 q3 got ev row nu out
 (unfold cD oB;(try dsimp only))
 refine o_ aI (aY (fun m y=>[ex fun i:Nat=>ex fun l:Int=>all [pu (m+i=b.length/\y= .int .i64 (i:Int)),cD c ⟨bo,ke,ck,si,rd,bg,nx,hd,rr,l,q0,q1,q2,q3,got,ev,row,nu,out⟩,A]]++F) b.length ?_ ?_)
 ·refine .ex 0 (.ex ln (.all ?_))
  refine am ?_
  exact .pu ⟨rfl,rfl⟩ .refl
 intro m ds y
 refine am ?_
 refine a8 .here fun i=>a8 .here fun l=>aB .here ?_
 refine am ?_
 refine aT .here fun hi=>?_
 obtain⟨hm,rfl⟩:=hi
 have step:∀(l':Int) (j:Nat),i=j->i<b.length->Imp W (pt c (.cells (oB ⟨bo,ke,ck,si,rd,bg,nx,hd,rr,l',q0,q1,q2,q3,got,ev,row,nu,out⟩).toArray 175)::A::F) ((ex fun i:Nat=>ex fun l:Int=>all [pu (m-1+i=b.length/\(.int .i64 ((j:Int)+1):Value)= .int .i64 (i:Int)),cD c ⟨bo,ke,ck,si,rd,bg,nx,hd,rr,l,q0,q1,q2,q3,got,ev,row,nu,out⟩,A])::F):=fun l' j hj hlt=>by
  subst hj
  refine .ex (i+1) (.ex l' (.all ?_))
  refine am ?_
  exact .pu ⟨by omega,by push_cast;rfl⟩ .refl
 (unfold cD oB;(try dsimp only))
 refine o_ bD ?_
 by_cases hlt:i<b.length
 ·rw[dT_ (by omega)]
  refine ai ?_
  have hv:(b.map Sl.B)[i]? =some (.int .u8 (b[i].toNat:Int)):=by simp[hlt,Sl.B]
  have hA':=hA
  obtain⟨ga,oa,ha,_⟩:=hA'.at_ (by omega)
  subst ha
  refine o_ (bq i rfl hlt) ?_
  refine aE (dv hA hv) az ?_
  generalize (b[i].toNat:Int)=n
  by_cases h13:n=13
  ·subst h13
   (((refine o_ (Sl.cq ?hcq) ?_);(case hcq=>(first|omega|(simp only[List.length_nil,List.length_cons];omega)))));refine aj ?_;refine aj ?_;refine o_ ak ?_;refine aj ?_;refine aj ?_;refine aj ?_;refine aj ?_;refine aj ?_;refine o_ ak ?_;refine af ?_;(((refine o_ (Sl.bA ?hcq) ?_);(case hcq=>(first|omega|(simp only[List.length_nil,List.length_cons];omega)))));refine aj ?_;refine aj ?_;refine aj ?_;refine aj ?_;refine aj ?_;refine o_ ak ?_;refine af ?_;refine bP ?_
   refine aZ (m-1) ?_ ?_
   ·omega
   exact step l i rfl hlt
  by_cases h10:n=10
  ·subst h10
   by_cases hl:l=1
   ·subst hl
    (((refine o_ (Sl.eI ?hcq) ?_);(case hcq=>(first|omega|(simp only[List.length_nil,List.length_cons];omega)))));refine ab ?_;refine ab ?_;(((refine o_ (Sl.cq ?hcq) ?_);(case hcq=>(first|omega|(simp only[List.length_nil,List.length_cons];omega)))));refine o_ av ?_;refine aj ?_;refine aj ?_;refine aj ?_;refine aj ?_;refine aj ?_;refine o_ ak ?_;refine af ?_;(((refine o_ (Sl.ce ?hcq) ?_);(case hcq=>(first|omega|(simp only[List.length_nil,List.length_cons];omega)))));refine ab ?_;refine ab ?_;refine o_ ag ?_;refine ab ?_;refine o_ ae ?_;refine ab ?_;refine aH ?_;refine ab ?_;(((refine o_ (Sl.ce ?hcq) ?_);(case hcq=>(first|omega|(simp only[List.length_nil,List.length_cons];omega)))));refine o_ av ?_;refine ai ?_;refine o_ ag ?_;refine o_ ae ?_;refine bR ?_;refine bP ?_
    refine aZ (m-1) ?_ ?_
    ·omega
    exact step 2 i rfl hlt
   ·skip
    (((refine o_ (Sl.eI ?hcq) ?_);(case hcq=>(first|omega|(simp only[List.length_nil,List.length_cons];omega)))));refine ab ?_;refine ab ?_;(((refine o_ (Sl.cq ?hcq) ?_);(case hcq=>(first|omega|(simp only[List.length_nil,List.length_cons];omega)))));refine o_ av ?_;refine aj ?_;refine aj ?_;refine aj ?_;refine aj ?_;refine aj ?_;refine o_ ak ?_;refine af ?_;(((refine o_ (Sl.ce ?hcq) ?_);(case hcq=>(first|omega|(simp only[List.length_nil,List.length_cons];omega)))));refine ab ?_;refine ab ?_;refine o_ ag ?_;refine ab ?_;refine o_ ae ?_;refine ab ?_;refine aH ?_;refine ab ?_;(((refine o_ (Sl.bA ?hcq) ?_);(case hcq=>(first|omega|(simp only[List.length_nil,List.length_cons];omega)))));refine o_ av ?_;refine af ?_;refine bP ?_
    refine aZ (m-1) ?_ ?_
    ·omega
    exact step l i rfl hlt
  by_cases hl:l=0
  ·subst hl
   (((refine o_ (Sl.eI ?hcq) ?_);(case hcq=>(first|omega|(simp only[List.length_nil,List.length_cons];omega)))));refine ab ?_;refine ab ?_;(((refine o_ (Sl.eI ?hcq) ?_);(case hcq=>(first|omega|(simp only[List.length_nil,List.length_cons];omega)))));refine o_ av ?_;refine ab ?_;refine ab ?_;refine o_ ag ?_;refine ab ?_;refine o_ ae ?_;refine ab ?_;refine aH ?_;refine ab ?_;(((refine o_ (Sl.ce ?hcq) ?_);(case hcq=>(first|omega|(simp only[List.length_nil,List.length_cons];omega)))));refine o_ av ?_;refine ai ?_;refine o_ ag ?_;refine o_ ae ?_;refine bR ?_;refine bP ?_
   refine aZ (m-1) ?_ ?_
   ·omega
   exact step 1 i rfl hlt
  ·skip
   (((refine o_ (Sl.eI ?hcq) ?_);(case hcq=>(first|omega|(simp only[List.length_nil,List.length_cons];omega)))));refine ab ?_;refine ab ?_;(((refine o_ (Sl.eI ?hcq) ?_);(case hcq=>(first|omega|(simp only[List.length_nil,List.length_cons];omega)))));refine o_ av ?_;refine ab ?_;refine ab ?_;refine o_ ag ?_;refine ab ?_;refine o_ ae ?_;refine ab ?_;refine aH ?_;refine ab ?_;(((refine o_ (Sl.bA ?hcq) ?_);(case hcq=>(first|omega|(simp only[List.length_nil,List.length_cons];omega)))));refine o_ av ?_;refine af ?_;(((refine o_ (Sl.bA ?hcq) ?_);(case hcq=>(first|omega|(simp only[List.length_nil,List.length_cons];omega)))));refine aj ?_;refine aj ?_;refine aj ?_;refine aj ?_;refine aj ?_;refine o_ ak ?_;refine af ?_;refine bP ?_
   refine aZ (m-1) ?_ ?_
   ·omega
   exact step l i rfl hlt
 rw[dF_ (by omega)]
 refine af ?_
 by_cases hb:bg=true
 ·subst hb
  refine o_ ag (o_ ae (aH ?_));refine o_ bB (aj (aj (aj (aj (aj (o_ ak (af (aR ((l,true,si)) ?_))))))))
  exact az
 obtain rfl:bg=false:=by simpa using hb
 by_cases hl:0<l
 ·(refine o_ ag ?_);refine o_ ae ?_;refine aH ?_;refine o_ cL ?_;refine ab ?_;refine ab ?_;refine o_ ag ?_;refine ab ?_;refine o_ ae ?_;refine ab ?_;refine aH ?_;refine ab ?_;(((refine o_ (Sl.gi ?hcq) ?_);(case hcq=>(first|omega|(simp only[List.length_nil,List.length_cons];omega)))));refine o_ av ?_;refine ai ?_;refine o_ ag ?_;refine o_ ae ?_;refine aH ?_;refine o_ ag ?_;refine o_ ae ?_;refine bR ?_;refine o_ ag ?_;refine o_ ae ?_;refine bR ?_
  refine aR ((l,true,ck)) ?_
  exact az
 ·(refine o_ ag ?_);refine o_ ae ?_;refine aH ?_;refine o_ cL ?_;refine ab ?_;refine ab ?_;refine o_ ag ?_;refine ab ?_;refine o_ ae ?_;refine ab ?_;refine aH ?_;refine ab ?_;(((refine o_ (Sl.cf ?hcq) ?_);(case hcq=>(first|omega|(simp only[List.length_nil,List.length_cons];omega)))));refine o_ av ?_;refine af ?_
  refine aR ((l,false,si)) ?_
  exact az
end Go.Proofs.YtdjkdjepjahjfaaGreatDoor.TP
namespace Go.Proofs.YtdjkdjepjahjfaaGreatDoor.FD
open Go Go.Proofs Go.RowKit Sh Sl T
def ik (sep:List UInt8):List (List UInt8)->List UInt8
 |[]=>[]
 |v::r=>v++r.flatMap (fun w=>sep++w)
def iw:List (List UInt8)->Nat
 |[]=>0
 |v::r=>v.length+iw r
theorem xd (a b:List (List UInt8)):iw (a++b)=iw a+iw b:=by
 induction a with
 |nil=>simp[iw]
 |cons v r ih=>simp[iw,ih];omega
theorem pq (sep:List UInt8)(r:List (List UInt8)):(r.flatMap (fun w=>sep++w)).length=iw r+sep.length * r.length:=by
 induction r with
 |nil=>simp[iw]
 |cons v r ih=>
  rw[List.flatMap_cons,List.length_append,ih,iw,List.length_append,List.length_cons,Nat.mul_add,Nat.mul_one]
  omega
theorem Ba {V:List (List UInt8)}{i:Nat}(h:i<V.length):iw (V.take (i+1))=iw (V.take i)+V[i].length:=by
 rw[List.take_succ_eq_append_getElem h,xd]
 simp[iw]
theorem nD (V:List (List UInt8))(i:Nat):iw (V.take i)<=iw V:=by
 have:=xd (V.take i) (V.drop i)
 rw[List.take_append_drop]at this;omega
theorem Ei {k:Nat}(h1:1<=k)(h2:k<=4194304):16<9223372036854775807 / k:=by
 have:=Nat.div_le_div_left (a:=9223372036854775807) h2 (by omega)
 have e:9223372036854775807 / 4194304=2199023255551:=rfl
 omega
theorem join {W:World}{sep:List UInt8}{V:List (List UInt8)}{a:Option Addr}{c:Nat}(hs:0<sep.length)(hs2:sep.length<=16)(hV:(ik sep V).length<=4194304)(hn:V.length<=4194304):
  Cn p_ 205 [.slice a V.length c,ay sep] W [Sl 1 9 a c V.length (V.map ay)] (fun _:Unit=>ay (ik sep V)) (fun _=>[]):=by
 (refine Shp.cn (Sg.g_ Tryz.call205 Tryz.func205 (an:={cuts:=[(10,[]),(11,[5]),(16,[])],loops:=[(12,[5,41]),(22,[65])]})) fun F=>?_;simp only[ca_,na_])
 match V,hV,hn with
 |[],_,_=>
  refine o_ aI (o_ cH ?_)
  rw[dT_ (by rfl)]
  refine ai (aR () ?_)
  exact az
 |[v],_,_=>
  refine o_ aI (o_ cH ?_)
  rw[dF_ (by simp)]
  refine af (o_ cH ?_)
  rw[dT_ (by rfl)]
  refine ai (a9 (a:=a) .here (by simp) fun g hg=>?_)
  subst hg
  have ld:aQ p_ W [Sl 1 9 (some ⟨g,0,none⟩) c [v].length ([v].map ay)] (aG 9 (.pointer (some ⟨g,0+0,none⟩))) (ay v):=bw rfl
  refine o_ (bq 0 rfl (by simp)) ?_
  refine cO ld ?_
  refine bK () (by simp[ik]) ?_
  exact az
 |v::u::r,hV,hn=>
  have hjl:(ik sep (v::u::r)).length=iw (v::u::r)+sep.length * ((v::u::r).length-1):=by
   unfold ik
   rw[List.length_append,pq]
   simp only[iw,List.length_cons,Nat.add_sub_cancel]
   omega
  obtain⟨V,hVe⟩:∃V,V=v::u::r:=⟨_,rfl⟩
  have h2:2<=V.length:=by rw[hVe];simp
  have hv0:V[0]? =some v:=by rw[hVe];rfl
  have hj0:ik sep V=v++(V.drop 1).flatMap (fun w=>sep++w):=by rw[hVe];rfl
  rw[<- hVe]at hV hn hjl ⊢
  clear hVe
  have hq:=Ei (k:=V.length-1) (by omega) (by omega)
  refine o_ aI (o_ cH ?_)
  rw[dF_ (by omega)]
  refine af (o_ cH ?_)
  rw[dF_ (by omega)]
  refine af (a9 (a:=a) .here (by omega) fun g hg=>?_)
  subst hg
  refine aP .here fun f1 f2 f3 f4=>?_
  have ld:∀i (h:i<V.length),aQ p_ W [Sl 1 9 (some ⟨g,0,none⟩) c V.length (V.map ay)] (aG 9 (.pointer (some ⟨g,i,none⟩))) (ay V[i]):=fun i h=>bw (by rw[List.getElem?_map,List.getElem?_eq_getElem h];rfl)
  have hml:sep.length * (V.length-1)<=4194304:=by omega
  refine dK (fun z=>pu (z= .int .i64 ((sep.length * (V.length-1):Nat):Int))::Sl 1 9 (some ⟨g,0,none⟩) c V.length (V.map ay)::F) ?_ ?_
  rotate_left
  ·refine o_ bu (o_ eu ?_)
   rw[dT_ (by omega)]
   refine ai (dP ?_)
   refine o_ bu (o_ aI (rZ ?_))
   rw[show((V.length:Nat):Int)-1=((V.length-1:Nat):Int) by omega]
   refine o_ (MS (by omega) (by omega) (by omega)) ?_
   refine o_ dt ?_
   rw[dF_ (by
    have e:(9223372036854775807:Int) / ((V.length-1:Nat):Int)=((9223372036854775807 / (V.length-1):Nat):Int):=rfl
    rw[e]
    omega)]
   refine af (i6 fun ds=>?_)
   refine o_ bu (o_ aI (rZ ?_))
   rw[show((V.length:Nat):Int)-1=((V.length-1:Nat):Int) by omega]
   have hm:((sep.length:Nat):Int) * ((V.length-1:Nat):Int)=((sep.length * (V.length-1):Nat):Int):=by push_cast;rfl
   refine o_ (tq (by rw[hm];omega) (by rw[hm];omega)) ?_
   rw[hm]
   refine bP ?_
   refine aN (.pu (by congr 1;push_cast;omega) ?_)
   exact .refl
  ·intro ds z
   refine aT .here fun hz=>?_
   subst hz
   refine o_ aI ?_
   have hsum:iw V+sep.length * (V.length-1)<=4194304:=by omega
   generalize hM:sep.length * (V.length-1)=M at hml hsum hjl ⊢
   have hMp:0<M:=by
    rw[<- hM]
    exact Nat.mul_pos hs (by omega)
   refine cp (fun m x y=>(ex fun i:Nat=>pu (m+i=V.length/\x= .int .i64 ((M+iw (V.take i):Nat):Int)/\y= .int .i64 (i:Int)))::Sl 1 9 (some ⟨g,0,none⟩) c V.length (V.map ay)::F) V.length ?_ ?_
   ·exact .ex 0 (.pu ⟨rfl,rfl,rfl⟩ .refl)
   intro m ds2 x y
   refine a8 .here fun i=>aT .here fun hi=>?_
   obtain⟨hmi,rfl,rfl⟩:=hi
   have hst:=nD V i
   refine bz bD .nil (fun h=>?_) (fun h=>?_)
   ·have hil:i<V.length:=by omega
    have hsu:=Ba hil
    have hst2:=nD V (i+1)
    refine ai (o_ (bq i rfl hil) ?_)
    rw[Nat.zero_add]
    refine aE (ld i hil) (.pick .here .nil) ?_
    refine dP ?_
    refine o_ bu (rZ ?_)
    refine o_ eu ?_
    rw[dF_ (by omega)]
    refine af (i6 fun ds3=>?_)
    refine o_ bu (bP ?_)
    refine bP ?_
    exact bI (m-1) (by omega) (.ex (i+1) (.pu ⟨by omega,by rw[hsu];congr 1;omega,rfl⟩ .refl))
   ·have hie:i=V.length:=by omega
    subst hie
    rw[List.take_length]
    refine af (aU fun b=>?_)
    refine ah (Pi (n:=M+iw V) (by omega) (by omega)) (.cons .here .nil) fun r=>?_
    refine am ?_
    obtain⟨v',hv'⟩:∃v',v'=v:=⟨_,rfl⟩
    have hV0:V[0]'(by omega)=v:=by
     rw[List.getElem?_eq_getElem (by omega)]at hv0
     exact Option.some.inj hv0
    have hvl:v.length<=4194304:=by
     rw[hj0,List.length_append]at hV
     omega
    refine o_ (bq 0 rfl (by omega)) ?_
    have ld0:=ld 0 (by omega)
    rw[hV0]at ld0
    refine cO ld0 ?_
    refine ah (lU (l:=[]) (m:=v) (by simp;omega)) (.cons .here .nil) fun r=>?_
    refine am ?_
    refine o_ (jK 1 rfl (by omega)) ?_
    rw[if_neg (by omega),show(some (⟨g,0,none⟩:Addr)).map (·.add (1 * 1))=some ⟨g,1,none⟩ by simp[du]]
    refine o_ aI (aY (fun m y=>(ex fun st:Nat × Option Addr × Nat=>all [pu (m+st.1=V.length-1/\y= .int .i64 (st.1:Int)),bd b st.2 (v++((V.drop 1).take st.1).flatMap (fun w=>sep++w))])::Sl 1 9 (some ⟨g,0,none⟩) c V.length (V.map ay)::F) (V.length-1) ?_ ?_)
    ·refine .ex (0,r) (.all ?_)
     refine am ?_
     refine .pu ⟨rfl,rfl⟩ ?_
     simp only[List.take_zero,List.flatMap_nil,List.append_nil]
     exact .refl
    intro m ds4 y
    refine a8 .here fun st=>aB .here ?_
    obtain⟨i,r⟩:=st
    refine am ?_
    refine aT .here fun hi=>?_
    (try dsimp only at hi)
    obtain⟨hmi,rfl⟩:=hi
    have hfl:=pq sep ((V.drop 1).take i)
    have hle:(v++((V.drop 1).take i).flatMap (fun w=>sep++w)).length<=4194304:=by
     have e:(V.drop 1).flatMap (fun w=>sep++w)=((V.drop 1).take i).flatMap (fun w=>sep++w)++((V.drop 1).drop i).flatMap (fun w=>sep++w):=by
      rw[<- List.flatMap_append,List.take_append_drop]
     rw[hj0,e,List.length_append,List.length_append]at hV
     rw[List.length_append]
     omega
    refine bz bD .nil (fun h=>?_) (fun h=>?_)
    ·have hil:i<V.length-1:=by omega
     have hwl:V[1+i]'(by omega)∈V:=List.getElem_mem _
     have htk:(V.drop 1).take (i+1)=(V.drop 1).take i++[V[1+i]'(by omega)]:=by
      rw[List.take_succ_eq_append_getElem (by rw[List.length_drop];omega),List.getElem_drop]
     have hle2:(v++((V.drop 1).take (i+1)).flatMap (fun w=>sep++w)).length<=4194304:=by
      have e:(V.drop 1).flatMap (fun w=>sep++w)=((V.drop 1).take (i+1)).flatMap (fun w=>sep++w)++((V.drop 1).drop (i+1)).flatMap (fun w=>sep++w):=by
       rw[<- List.flatMap_append,List.take_append_drop]
      rw[hj0,e,List.length_append,List.length_append]at hV
      rw[List.length_append]
      omega
     have hstep:v++((V.drop 1).take (i+1)).flatMap (fun w=>sep++w)=((v++((V.drop 1).take i).flatMap (fun w=>sep++w))++sep)++V[1+i]'(by omega):=by
      rw[htk,List.flatMap_append]
      simp
     rw[hstep,List.length_append,List.length_append]at hle2
     refine ai (o_ (bq i rfl hil) ?_)
     refine cO (ld (1+i) (by omega)) ?_
     refine ah (lU (by omega)) (.cons .here .nil) fun r1=>?_
     refine am ?_
     refine ah (lU (by rw[List.length_append];omega)) (.cons .here .nil) fun r2=>?_
     refine am ?_
     refine bP ?_
     refine aZ (m-1) (by omega) (.ex (i+1,r2) (.all ?_))
     refine am ?_
     refine .pu ⟨by(try dsimp only);omega,rfl⟩ ?_
     (try dsimp only)
     rw[hstep]
     exact .refl
    ·have hie:i=V.length-1:=by omega
     have ht:(V.drop 1).take i=V.drop 1:=List.take_of_length_le (by rw[List.length_drop];omega)
     rw[ht,<- hj0]
     refine af ?_
     refine ah (pg (by
      intro e
      rw[e]at hjl
      simp at hjl
      omega)) (.cons .here .nil) fun _=>?_
     refine am ?_
     refine aR () ?_
     exact az
def kP (names:List (List UInt8))(f:Fd):Bool:=!names.any (fun n=>gD f.1 n)
def dx (l:List Fd)(names:List (List UInt8)):List Fd:=l.filter (kP names)
theorem yG {l:List Fd}{N:List (List UInt8)}{i:Nat}(h:i<l.length):dx (l.take (i+1)) N=dx (l.take i) N++(if kP N l[i]then [l[i]]else []):=by
 unfold dx
 rw[List.take_succ_eq_append_getElem h,List.filter_append]
 congr 1
 cases he:kP N l[i] <;> simp[he]
theorem lV (l:List Fd)(N:List (List UInt8)):(dx l N).length<=l.length:=List.length_filter_le _ _
end Go.Proofs.YtdjkdjepjahjfaaGreatDoor.FD
namespace Go.Proofs.YtdjkdjepjahjfaaGreatDoor.FD
open Go Go.Proofs Go.RowKit
def bs (s:String):List UInt8:=s.toUTF8.toList
def sx (v:List UInt8):List (List UInt8):=(mu (ey o5 (br false false v))).1
def dN:List UInt8:=[67,111,110,110,101,99,116,105,111,110]
def vP:List UInt8:=[75,101,101,112,45,65,108,105,118,101]
def vQ:List UInt8:=[80,114,111,120,121,45,67,111,110,110,101,99,116,105,111,110]
def t7:List UInt8:=[80,114,111,120,121,45,65,117,116,104,101,110,116,105,99,97,116,101]
def t8:List UInt8:=[80,114,111,120,121,45,65,117,116,104,111,114,105,122,97,116,105,111,110]
def VP:List UInt8:=[84,69]
def Bb:List UInt8:=[84,114,97,105,108,101,114]
def yH:List UInt8:=[84,114,97,110,115,102,101,114,45,69,110,99,111,100,105,110,103]
def Bc:List UInt8:=[85,112,103,114,97,100,101]
def eT:List UInt8:=[72,111,115,116]
def j3:List UInt8:=[104,111,115,116]
def ST:List UInt8:=[67,111,110,116,101,110,116,45,76,101,110,103,116,104]
def Ej:List UInt8:=[69,120,112,101,99,116]
def mT:List UInt8:=[86,105,97]
def qn:List (List UInt8):=[dN,vP,vQ,t7,t8,VP,Bb,yH,Bc]
def d5 (v:List UInt8):List (List UInt8):=(sx v).filter fun n=>decide (n≠j3)
def ub (l:List Fd):List (List UInt8):=qn++(bW l dN).flatMap d5
def dX (l:List Fd):List Fd:=dx l (ub l)
def sy:List (List UInt8):=[eT,ST,Ej,mT]
def sA:List UInt8:=[49,46,48,32,103,97,116,101,104,111,117,115,101]
def sB:List UInt8:=[49,46,49,32,103,97,116,101,104,111,117,115,101]
def ud (l:List Fd)(minor:Int):List UInt8:=ik [44,32] (bW l mT++[if minor=0 then sA else sB])
def sC (l:List Fd)(host:List UInt8)(minor:Int)(dg:Option (List UInt8)):List Fd:=
 (eT,host)::dx (dX l) sy++(mT,ud l minor)::(match dg with|some d=>[(ST,d)]|none=>[])
theorem yI (f:Fd)(l:List Fd)(n:List UInt8):bW (f::l) n=if gD f.1 n then f.2::bW l n else bW l n:=by
 unfold bW
 rw[List.filter_cons]
 split <;> simp
def zF:List Fd->Nat
 |[]=>0
 |f::r=>f.1.length+f.2.length+3+zF r
theorem oC (f:Fd)(r:List Fd):zF (f::r)=f.1.length+f.2.length+3+zF r:=rfl
theorem PB {l:List Fd}{f:Fd}(h:f∈l):f.1.length+f.2.length+3<=zF l:=by
 induction l with
 |nil=>cases h
 |cons g r ih=>
  unfold zF
  rcases List.mem_cons.1 h with rfl|h
  ·omega
  ·have:=ih h;omega
theorem lW (l:List Fd):3 * l.length<=zF l:=by
 induction l with
 |nil=>simp[zF]
 |cons g r ih=>unfold zF;rw[List.length_cons];omega
theorem ue {l:List Fd}(h:zF l<=2097152):qS l:=⟨by have:=lW l;omega,fun f hf=>by have:=PB hf;omega⟩
theorem uf (p:Fd->Bool)(l:List Fd):zF (l.filter p)<=zF l:=by
 induction l with
 |nil=>simp[zF]
 |cons g r ih=>
  rw[List.filter_cons,oC]
  split
  ·rw[oC];omega
  ·omega
def zL:List (List UInt8)->Nat
 |[]=>0
 |v::r=>v.length+1+zL r
theorem lX (v:List UInt8)(r:List (List UInt8)):zL (v::r)=v.length+1+zL r:=rfl
theorem In (a b:List (List UInt8)):zL (a++b)=zL a+zL b:=by
 induction a with
 |nil=>simp[zL]
 |cons v r ih=>rw[List.cons_append,lX,lX,ih];omega
theorem Bd {l:List (List UInt8)}{v:List UInt8}(h:v∈l):v.length+1<=zL l:=by
 induction l with
 |nil=>cases h
 |cons g r ih=>
  unfold zL
  rcases List.mem_cons.1 h with rfl|h
  ·omega
  ·have:=ih h;omega
theorem oD (l:List Fd)(n:List UInt8):zL (bW l n)<=zF l:=by
 induction l with
 |nil=>simp[bW,zL,zF]
 |cons g r ih=>
  rw[yI,oC]
  split
  ·rw[lX];omega
  ·omega
theorem pw (v:List UInt8):(sx v).length<=v.length+1/\∀w∈sx v,w.length<=v.length:=by
 have h1:=kq (q:=false) (e:=false) (l:=v)
 unfold sx ey
 split
 ·refine⟨by simp[mu];omega,fun w hw=>?_⟩
  simp only[mu,List.mem_map]at hw
  obtain⟨x,hx,rfl⟩:=hw
  have:=kp hx
  simpa [o5,fK]using this
 ·exact⟨by simp[mu],fun w hw=>by simp[mu]at hw⟩
theorem mU:∀V:List (List UInt8),(V.flatMap d5).length<=zL V
 |[]=>Nat.zero_le _
 |v::r=>by
  have h1:=(pw v).1
  have h2:=mU r
  have h3:(d5 v).length<=(sx v).length:=List.length_filter_le _ _
  rw[List.flatMap_cons,List.length_append]
  unfold zL
  omega
theorem Ek {l:List Fd}(h:zF l<=2097152):(ub l).length<=2097161/\∀n∈ub l,n.length<=4194304:=by
 have hv:=oD l dN
 refine⟨?_,fun n hn=>?_⟩
 ·unfold ub
  have:=mU (bW l dN)
  rw[List.length_append,show qn.length=9 from rfl];omega
 ·unfold ub at hn
  rcases List.mem_append.1 hn with c|c
  ·have:∀n∈qn,n.length<=20:=by decide
   have:=this n c;omega
  ·obtain⟨v,hv1,hv2⟩:=List.mem_flatMap.1 c
   have h1:=(pw v).2 n (List.mem_filter.1 hv2).1
   have h2:=Bd hv1
   omega
end Go.Proofs.YtdjkdjepjahjfaaGreatDoor.FD
namespace Go.Proofs.YtdjkdjepjahjfaaGreatDoor.FD
open Go Go.Proofs Go.RowKit Sh Sl T
theorem yJ {N:List (List UInt8)}{f:Fd}{j:Nat}(h:j<N.length):kP (N.take (j+1)) f=(kP (N.take j) f&&!gD f.1 N[j]):=by
 unfold kP
 rw[List.take_succ_eq_append_getElem h,List.any_append]
 simp
theorem lu {W:World}{A:HP}{g o n j:Nat}{N:List (List UInt8)}(hN:RdB W A (some ⟨g,o,none⟩) n (N.map ay))(h:j<N.length):aQ p_ W [A] (aG 9 (.pointer (some ⟨g,o+j,none⟩))) (ay N[j]):=
 dv hN (by rw[List.getElem?_map,List.getElem?_eq_getElem h];rfl)
theorem ky {W:World}{l:List Fd}{N:List (List UInt8)}{a na:Option Addr}{c nc:Nat}{A NA:HP}(hA:gX W A a l)(hl:qS l)(hN:RdB W NA na N.length (N.map ay))(hn:∀n∈N,n.length<=4194304)(hNl:N.length<=1099511627776):
  Cn p_ 110 [.slice a l.length c,.slice na N.length nc] W [A,NA] (fun r:Option Addr × Nat=> .slice r.1 (dx l N).length r.2)
  (fun r=>[A,NA,Sl 2 192 r.1 r.2 (dx l N).length ((dx l N).flatMap cS)]):=by
 (refine Shp.cn (Sg.g_ Tryz.call110 Tryz.func110 (an:={loops:=[(3,[5,12]),(6,[18])]})) fun F=>?_;simp only[ca_,na_])
 refine o_ aI (cp (fun m x y=>[ex fun st:(Option Addr × Nat) × Nat=>all [pu (m+st.2=l.length/\x= .slice st.1.1 (dx (l.take st.2) N).length st.1.2/\y= .int .i64 (st.2:Int)),Sl 2 192 st.1.1 st.1.2 (dx (l.take st.2) N).length ((dx (l.take st.2) N).flatMap cS),A,NA]]++F) l.length ?_ ?_)
 ·refine Imp.ex ((none,0),0) (.all ?_)
  refine am ?_
  refine .pu ⟨rfl,rfl,rfl⟩ ?_
  exact bJ .refl
 intro m ds x y
 refine am ?_
 refine a8 Pick.here fun st=>aB Pick.here ?_
 obtain⟨⟨sa,sc⟩,i⟩:=st
 refine am ?_
 refine aT Pick.here fun hi=>?_
 (try dsimp only at hi)
 obtain⟨hmi,rfl,rfl⟩:=hi
 refine bz bD .nil (fun h=>?_) (fun h=>?_)
 ·have hil:i<l.length:=by omega
  have hb:=hl.2 _ (List.getElem_mem hil)
  have hv:=yG (N:=N) hil
  have hvl:=lV (l.take i) N
  have hl1:=hl.1
  rw[List.length_take]at hvl
  refine ai ?_
  obtain⟨g,o,rfl⟩:=mO hA (Nat.zero_lt_of_lt hil)
  refine o_ (dR i rfl hil) ?_
  refine cO (mP hA hil) ?_
  generalize l[i]=f at hb hv ⊢
  unfold vF
  refine aU fun b7=>?_
  refine aK .here (by rfl) (by rfl) (by intro u hu;simp at hu;rcases hu with rfl|rfl <;> rfl) ?_
  refine o_ aI (aY (fun k y=>pu (∃j:Nat,k+j=N.length/\y= .int .i64 (j:Int)/\kP (N.take j) f=true)::pt b7 (.cells #[ay f.1,ay f.2] 192)::Sl 2 192 sa sc (dx (l.take i) N).length ((dx (l.take i) N).flatMap cS)::A::NA::F) N.length ?_ ?_)
  ·refine .pu ⟨0,rfl,rfl,by simp[kP]⟩ ?_
   exact az
  intro k ds2 y
  refine aT .here fun hj=>?_
  obtain⟨j,hkj,rfl,hno⟩:=hj
  refine bz bD .nil (fun h2=>?_) (fun h2=>?_)
  ·have hjl:j<N.length:=by omega
   have hnl:=hn _ (List.getElem_mem hjl)
   have hnt:=yJ (f:=f) hjl
   refine ai ?_
   obtain⟨ng,no,rfl,_⟩:=hN.at_ (by omega)
   refine o_ (bq j rfl hjl) ?_
   refine cO (lu hN hjl) ?_
   refine o_ ae (aH ?_)
   refine ah (equal (a:=f.1) (b:=N[j]) (by omega) (by omega)) .nil fun _=>?_
   refine am ?_
   cases he:gD f.1 N[j]with
   |true=>
    refine ai (bP ?_)
    have hbad:kP N f=false:=by
     unfold kP
     rw[List.any_eq_true.2 ⟨_,List.getElem_mem hjl,he⟩];rfl
    rw[hbad,if_neg (by decide),List.append_nil]at hv
    refine bI (m-1) (by omega) (.ex ((sa,sc),i+1) (.all ?_))
    refine am ?_
    (try dsimp only)
    rw[hv]
    refine .pu ⟨by omega,rfl,by norm_cast⟩ ?_
    exact az
   |false=>
    refine af (bP ?_)
    refine aZ (k-1) (by omega) (.pu ⟨j+1,by omega,by norm_cast,by rw[hnt,hno,he];rfl⟩ ?_)
    exact az
  ·have hjl:j=N.length:=by omega
   subst hjl
   rw[List.take_length]at hno
   rw[hno,if_pos rfl]at hv
   refine af (jL ?_)
   refine dS (n:=1) (vs:=[vF f]) rfl (by omega) rfl (by intro v hv;rw[List.mem_singleton.1 hv];rfl) (by omega) fun gb=>?_
   refine bQ (m:=1) (news:=cS f) (by(repeat constructor):Pick _ (Sl 2 192 sa sc (dx (l.take i) N).length ((dx (l.take i) N).flatMap cS)) _) (bL (s:=2) (e':=192) (by kernel_rfl) .here (by rfl) (by intro u hu;simp[vF,Value.cells]at hu;rcases hu with rfl|rfl <;> rfl)) (by omega) (by omega) fun a' c'=>?_
   refine bP ?_
   refine bI (m-1) (by omega) (.ex ((a',c'),i+1) (.all ?_))
   refine am ?_
   (try dsimp only)
   rw[hv,List.length_append,List.flatMap_append,List.length_singleton,List.flatMap_cons,List.flatMap_nil,List.append_nil]
   refine .pu ⟨by omega,rfl,by norm_cast⟩ ?_
   exact az
 ·have:i=l.length:=by omega
  subst this
  rw[List.take_length]
  refine af (aR ((sa,sc)) ?_)
  exact az
theorem El {W:World}{l:List UInt8}(hl:l.length<=2097152):Cn p_ 107 [ay l] W [] (fun r:Option Addr × Nat=> .tuple #[.slice r.1 (sx l).length r.2,.int .i64 (mu (DG l)).2])
  (fun r=>[Sl 1 9 r.1 r.2 (sx l).length ((sx l).map ay)]):=by
 have e:∀L:List (List UInt8),L.flatMap kw=L.map ay:=fun L=>by
  induction L with
  |nil=>rfl
  |cons x r ih=>rw[List.flatMap_cons,ih];rfl
 (refine Shp.cn (Sg.g_ Tryz.call107 Tryz.func107) fun F=>?_;simp only[ca_,na_])
 refine o_ bO ?_
 refine ah (tQ hl fun w hw=>HW (by omega)) .nil fun r=>?_
 refine am ?_
 refine o_ (bU (vs:=[_,_]) .here) ?_
 refine o_ (bU (vs:=[_,_]) (.there .here)) ?_
 refine aR r ?_
 rw[e]
 exact .refl
theorem ug {T:List (List UInt8)}{p:List UInt8->Bool}{j:Nat}(h:j<T.length):(T.take (j+1)).filter p=(T.take j).filter p++(if p T[j]then [T[j]]else []):=by
 rw[List.take_succ_eq_append_getElem h,List.filter_append]
 congr 1
 cases he:p T[j] <;> simp[he]
theorem yK {V:List (List UInt8)}{f:List UInt8->List (List UInt8)}{i:Nat}(h:i<V.length):(V.take (i+1)).flatMap f=(V.take i).flatMap f++f V[i]:=by
 rw[List.take_succ_eq_append_getElem h,List.flatMap_append];simp
theorem qo {V:List (List UInt8)}{f:List UInt8->List (List UInt8)}{i:Nat}:((V.take i).flatMap f).length<=(V.flatMap f).length:=by
 have:V.flatMap f=(V.take i).flatMap f++(V.drop i).flatMap f:=by rw[<- List.flatMap_append,List.take_append_drop]
 rw[this,List.length_append];omega
theorem Be {W:World}{l:List Fd}{a:Option Addr}{c:Nat}{A:HP}(hA:gX W A a l)(hl:zF l<=2097152):
  Cn p_ 111 [.slice a l.length c] W [A] (fun r:Option Addr × Nat=> .slice r.1 (dX l).length r.2)
  (fun r=>[A,Sl 2 192 r.1 r.2 (dX l).length ((dX l).flatMap cS)]):=by
 have hok:=ue hl
 obtain⟨hn1,hn2⟩:=Ek hl
 (refine Shp.cn (Sg.g_ Tryz.call111 Tryz.func111 (an:={loops:=[(3,[3,14]),(7,[3,25])]})) fun F=>?_;simp only[ca_,na_])
 refine ej (n:=9) (vs:=qn.map ay) rfl rfl (by intro v hv;obtain⟨c,_,rfl⟩:=List.mem_map.1 hv;rfl) (by omega) fun g0=>?_
 refine MV (s:=1) (n:=9) .here rfl (by decide) ?_
 refine ah (fO (n:=dN) hA hok (by decide)) (.cons (by repeat constructor) .nil) fun r=>?_
 obtain⟨va,vc⟩:=r
 refine am ?_
 obtain⟨V,hV⟩:∃V,V=bW l dN:=⟨_,rfl⟩
 have hzV:zL V<=zF l:=by rw[hV];exact oD l dN
 have hVn:=mU V
 rw[<- hV]
 have hVl:V.length<=4194304:=by rw[hV];have:=jW l dN;have:=hok.1;omega
 refine o_ aI (aP (by(repeat constructor):Pick _ (Sl 1 9 va vc V.length (V.map ay)) _) fun _ _ _ hsV=>?_)
 refine cp (fun m x y=>[ex fun st:(Option Addr × Nat) × Nat=>all [pu (m+st.2=V.length/\x= .slice st.1.1 (qn++(V.take st.2).flatMap d5).length st.1.2/\y= .int .i64 (st.2:Int)),Sl 1 9 st.1.1 st.1.2 (qn++(V.take st.2).flatMap d5).length ((qn++(V.take st.2).flatMap d5).map ay),Sl 1 9 va vc V.length (V.map ay),A]]++F) V.length ?_ ?_
 ·refine Imp.ex ((some ⟨g0,0,none⟩,9),0) (.all ?_)
  refine am ?_
  refine .pu ⟨rfl,rfl,rfl⟩ ?_
  (try dsimp only)
  exact az
 intro m ds x y
 refine am ?_
 refine a8 Pick.here fun st=>aB Pick.here ?_
 obtain⟨⟨sa,sc⟩,i⟩:=st
 refine am ?_
 refine aT Pick.here fun hi=>?_
 (try dsimp only at hi)
 obtain⟨hmi,rfl,rfl⟩:=hi
 (try dsimp only)
 refine bz bD .nil (fun h=>?_) (fun h=>?_)
 ·have hil:i<V.length:=by omega
  obtain⟨gv,rfl⟩:=hsV (by omega)
  have hft:=yK (f:=d5) hil
  have hzi:=Bd (List.getElem_mem hil)
  have hfl:=qo (V:=V) (f:=d5) (i:=i)
  refine ai (o_ (bq i rfl hil) ?_)
  rw[Nat.zero_add]
  have hld:(V.map ay)[i]? =some (ay V[i]):=by rw[List.getElem?_map,List.getElem?_eq_getElem hil];rfl
  refine cO (bw hld) ?_
  generalize V[i]=v at hft hzi ⊢
  refine ah (El (l:=v) (by omega)) .nil fun r=>?_
  obtain⟨ta,tc⟩:=r
  refine am ?_
  (try dsimp only)
  refine o_ (bU (vs:=[_,_]) .here) ?_
  refine o_ (bU (vs:=[_,_]) (.there .here)) ?_
  refine o_ aI ?_
  obtain⟨T,hT⟩:∃T,T=sx v:=⟨_,rfl⟩
  have hTl:=(pw v).1
  rw[<- hT]at hTl ⊢
  obtain⟨P,hP⟩:∃P,P=qn++(V.take i).flatMap d5:=⟨_,rfl⟩
  have hPl:P.length<=9+(V.flatMap d5).length:=by rw[hP,List.length_append,show qn.length=9 from rfl];omega
  rw[<- hP]
  refine aP .here fun _ _ _ hsT=>?_
  refine cp (fun k x y=>[ex fun st:(Option Addr × Nat) × Nat=>all [pu (k+st.2=T.length/\x= .slice st.1.1 (P++(T.take st.2).filter fun n=>decide (n≠j3)).length st.1.2/\y= .int .i64 (st.2:Int)),Sl 1 9 st.1.1 st.1.2 (P++(T.take st.2).filter fun n=>decide (n≠j3)).length ((P++(T.take st.2).filter fun n=>decide (n≠j3)).map ay),Sl 1 9 ta tc T.length (T.map ay),Sl 1 9 (some ⟨gv,0,none⟩) vc V.length (V.map ay),A]]++F) T.length ?_ ?_
  ·refine Imp.ex ((sa,sc),0) (.all ?_)
   refine am ?_
   refine .pu ⟨rfl,by rw[List.take_zero,List.filter_nil,List.append_nil],rfl⟩ ?_
   rw[List.take_zero,List.filter_nil,List.append_nil]
   exact az
  intro k ds2 x y
  refine am ?_
  refine a8 Pick.here fun st=>aB Pick.here ?_
  obtain⟨⟨ua,uc⟩,j⟩:=st
  refine am ?_
  refine aT Pick.here fun hj=>?_
  (try dsimp only at hj)
  obtain⟨hkj,rfl,rfl⟩:=hj
  (try dsimp only)
  refine bz bD .nil (fun h2=>?_) (fun h2=>?_)
  ·have hjl:j<T.length:=by omega
   obtain⟨gt,rfl⟩:=hsT (by omega)
   have hfj:=ug (p:=fun n=>decide (n≠j3)) hjl
   have hfjl:((T.take j).filter fun n=>decide (n≠j3)).length<=T.length:=Nat.le_trans (List.length_filter_le _ _) (by rw[List.length_take];omega)
   refine ai (o_ (bq j rfl hjl) ?_)
   rw[Nat.zero_add]
   have hlt:(T.map ay)[j]? =some (ay T[j]):=by rw[List.getElem?_map,List.getElem?_eq_getElem hjl];rfl
   refine cO (bw hlt) ?_
   generalize T[j]=t at hfj ⊢
   refine o_ (ep (l:=t) (m:=j3)) ?_
   by_cases hh:t=j3
   ·rw[if_neg (by simpa using hh),List.append_nil]at hfj
    rw[dF_ (fun c=>c hh)]
    refine af (bP ?_)
    refine bI (k-1) (by omega) (.ex ((ua,uc),j+1) (.all ?_))
    refine am ?_
    (try dsimp only)
    rw[hfj]
    refine .pu ⟨by omega,rfl,by norm_cast⟩ ?_
    exact az
   ·rw[if_pos (by simpa using hh)]at hfj
    rw[dT_ hh]
    refine ai (ej (n:=1) (vs:=[ay t]) rfl rfl (by intro v hv;rw[List.mem_singleton.1 hv];rfl) (by omega) fun gb=>?_)
    refine bQ (m:=1) (news:=[ay t]) (by(repeat constructor):Pick _ (Sl 1 9 ua uc (P++(T.take j).filter fun n=>decide (n≠j3)).length ((P++(T.take j).filter fun n=>decide (n≠j3)).map ay)) _) (bL (s:=1) (e':=9) (by kernel_rfl) .here (by rfl) (by intro u hu;rw[List.mem_singleton.1 hu];rfl)) (by rw[List.length_append];omega) (by rw[List.length_append];omega) fun a' c'=>?_
    refine bP ?_
    refine bI (k-1) (by omega) (.ex ((a',c'),j+1) (.all ?_))
    refine am ?_
    (try dsimp only)
    rw[hfj,<- List.append_assoc,List.length_append (bs:=[t]),List.map_append (l₂:=[t])]
    refine .pu ⟨by omega,rfl,by norm_cast⟩ ?_
    exact az
  ·have hjl:j=T.length:=by omega
   subst hjl
   rw[List.take_length]
   refine af (bP ?_)
   refine bI (m-1) (by omega) (.ex ((ua,uc),i+1) (.all ?_))
   refine am ?_
   (try dsimp only)
   rw[hft,<- List.append_assoc,<- hP,show d5 v=T.filter fun n=>decide (n≠j3) by rw[hT];rfl]
   refine .pu ⟨by omega,rfl,by norm_cast⟩ ?_
   exact az
 ·have:i=V.length:=by omega
  subst this
  rw[List.take_length]
  refine af ?_
  have hN:qn++V.flatMap d5=ub l:=by unfold ub;rw[hV]
  rw[hN]
  refine aP .here fun _ _ _ hs=>?_
  refine ah (ky (N:=ub l) hA hok (gO (e:=9) (a:=sa) (cap:=sc) (by rw[List.length_map]) hs) hn2 (by omega)) (.cons (by repeat constructor) (.cons (by repeat constructor) .nil)) fun r=>?_
  refine am ?_
  refine aR r ?_
  unfold dX
  exact az
theorem Io (c:UInt8):tE c=((decide ((c.toNat:Int)<32)&&decide (c≠9))||decide (c=127)):=by
 have e:decide ((c.toNat:Int)<32)=decide (c<32):=by
  rw[decide_eq_decide,UInt8.lt_iff_toNat_lt]
  simp only[show(32:UInt8).toNat=32 from rfl]
  omega
 rw[e]
 unfold tE
 by_cases h1:c<32 <;> by_cases h2:c=9 <;> by_cases h3:c=127 <;> simp[h1,h2,h3]
theorem sD:∀(n:Nat) (r:List UInt8),r.length<=n->∀acc,(jO acc r).1.length<=acc.length+r.length
 |_,[],_,acc=>by simp[jO]
 |n+1,c::r,hn,acc=>by
  have hr:r.length<=n:=by simpa using hn
  rw[qI]
  split
  ·simp
  ·split
   ·cases r with
    |nil=>simp
    |cons d r'=>
     simp only
     split
     ·simp
     ·have:=sD n r' (by simp at hr;omega) (acc++[d])
      simp at this ⊢;omega
   ·split
    ·simp
    ·have:=sD n r hr (acc++[c])
     simp at this ⊢;omega
theorem Em {a:Option Addr}{n:Nat}(h:0<n->∃g,a=some ⟨g,0,none⟩):a=none->n=0:=fun e=>by
 rcases Nat.eq_zero_or_pos n with c|c
 ·exact c
 ·obtain⟨g,hg⟩:=h c
  rw[e]at hg;cases hg
theorem xe {l:List UInt8}(h:0<l.length):mF l=if l[0]=34 then jO [] (l.drop 1)else([],false):=by
 cases l with
 |nil=>simp at h
 |cons c r=>rfl
theorem Eo {W:World}{l:List UInt8}(hl:l.length<=4194304):Cn p_ 497 [ay l] W [] (fun _:Unit=> .tuple #[ay (mF l).1,.bool (mF l).2]) (fun _=>[]):=by
 (refine Shp.cn (Sg.g_ Tryz.call497 Tryz.func497 (an:={cuts:=[(15,[5,6])],loops:=[(5,[4,5])]})) fun F=>?_;simp only[ca_,na_])
 refine o_ bu (o_ bD ?_)
 have e0:(Value.string ⟨#[]⟩)=ay []:=rfl
 rw[e0]
 by_cases h2:l.length<2
 ·have hno:mF l=([],false):=by
   match l,h2 with
   |[],_=>rfl
   |[c],_=>
    show(if c=34 then jO [] []else([],false))=([],false)
    split <;> rfl
   |_::_::_,h=>exact absurd h (by simp)
  rw[hno,dT_ (by omega)]
  refine aC (aC (aC (o_ av (ai (aR () ?_)))))
  exact az
 ·rw[dF_ (by omega)]
  refine Pd (fun _=>ew (l:=l) 0 rfl (by omega)) (fun _=>O5 34 rfl) ?_
  rw[Bool.false_or]
  by_cases h3:l[0]'(by omega)=34
  ·rw[dF_ (fun c=>c h3)]
   have hu:mF l=jO [] (l.drop 1):=by rw[xe (by omega),if_pos h3]
   rw[hu]
   refine af (cp (fun m x y=>[ex fun st:(List UInt8 × Option Addr × Nat) × Nat=>all [pu (m+st.2=l.length+1/\st.2<=l.length/\x= .slice st.1.2.1 st.1.1.length st.1.2.2/\y= .int .i64 (st.2:Int)/\st.1.1.length<=st.2/\jO [] (l.drop 1)=jO st.1.1 (l.drop st.2)),Sl 1 5 st.1.2.1 st.1.2.2 st.1.1.length (st.1.1.map B)]]++F) l.length ?_ ?_)
   ·refine Imp.ex (([],none,0),1) (.all ?_)
    refine am ?_
    refine .pu ⟨rfl,by(try dsimp only);omega,rfl,rfl,by simp,rfl⟩ ?_
    exact bJ .refl
   intro m ds x y
   refine am ?_
   refine a8 Pick.here fun st=>aB Pick.here ?_
   obtain⟨⟨acc,sa,sc⟩,i⟩:=st
   refine am ?_
   refine aT Pick.here fun hi=>?_
   (try dsimp only at hi)
   obtain⟨hmi,hil,rfl,rfl,hac,hun⟩:=hi
   refine o_ bu (bz bD .nil (fun h=>?_) (fun h=>?_))
   rotate_left
   ·have hie:i=l.length:=by omega
    rw[show l.drop i=[]from List.drop_of_length_le (by omega)]at hun
    have hun:jO [] (l.drop 1)=([],false):=by rw[hun];rfl
    rw[hun]
    refine af (aR () ?_)
    exact az
   have hlt:i<l.length:=by omega
   rw[dr hlt,qI]at hun
   refine ai (o_ (ew i rfl hlt) ?_)
   refine fJ (fun z5 z6=>(ex fun st:Nat × UInt8=>pu (z5= .int .i64 (st.1:Int)/\z6=B st.2/\i<=st.1/\st.1<l.length/\jO [] (l.drop 1)=if tE st.2 then([],false)else jO (acc++[st.2]) (l.drop (st.1+1))))::Sl 1 5 sa sc acc.length (acc.map B)::F) ?_ ?_
   ·intro ds2 z5 z6
    refine a8 .here fun st=>aT .here fun hz=>?_
    obtain⟨j,d⟩:=st
    (try dsimp only at hz)
    obtain⟨rfl,rfl,hij,hjl,hun2⟩:=hz
    refine o_ (bD (q:= .u8) (a:=(d.toNat:Int)) (b:=32)) ?_
    refine tM (fun _=>O5 9 rfl) ?_
    refine Pb (fun _=>sf 127 rfl) ?_
    rw[<- Io]
    cases hb:tE d with
    |true=>
     rw[hb,if_pos rfl]at hun2
     rw[hun2]
     refine ai (aR () ?_)
     exact az
    |false=>
     rw[hb,if_neg (by decide)]at hun2
     refine af (cI fun gb=>?_)
     refine bQ (m:=1) (news:=[B d]) (by repeat constructor) (bL (e':=5) (by kernel_rfl) .here (by rfl) (by intro u hu;rw[List.mem_singleton.1 hu];rfl)) (by omega) (by omega) fun a' c'=>?_
     refine bP ?_
     refine bI (m-(j+1-i)) (by omega) (.ex ((acc++[d],a',c'),j+1) (.all ?_))
     refine am ?_
     refine .pu ⟨by(try dsimp only);omega,by(try dsimp only);omega,by simp,rfl,by simp;omega,hun2⟩ ?_
     rw[List.length_append,List.map_append]
     simp only[List.length_singleton,List.map_cons,List.map_nil]
     exact az
   ·refine o_ (sf 34 rfl) ?_
    by_cases h34:l[i]=34
    ·rw[dT_ h34]
     rw[if_pos h34]at hun
     rw[hun]
     refine ai (aP .here fun f1 f2 f3 f4=>?_)
     refine aE (tA (l:=acc) (gO (by simp) f4) (Em f4)) (.pick .here .nil) ?_
     refine bP ?_
     refine o_ bu (o_ cH ?_)
     have e:decide ((i:Int)+1=(l.length:Int))=(l.drop (i+1)).isEmpty:=by
      rw[Bool.eq_iff_iff]
      simp only[decide_eq_true_iff,List.isEmpty_iff,List.drop_eq_nil_iff]
      omega
     rw[e]
     refine aR () ?_
     exact az
    ·rw[dF_ h34]
     rw[if_neg h34]at hun
     refine af (o_ (sf 92 rfl) ?_)
     by_cases h92:l[i]=92
     ·rw[dT_ h92]
      rw[if_pos h92]at hun
      refine ai (bP ?_)
      refine o_ bu (bz cH .nil (fun h5=>?_) (fun h5=>?_))
      ·rw[show l.drop (i+1)=[]from List.drop_of_length_le (by omega)]at hun
       simp only at hun
       rw[hun]
       refine ai (aR () ?_)
       exact az
      ·have hi1:i+1<l.length:=by omega
       rw[dr hi1]at hun
       simp only at hun
       refine af (o_ (ew (i+1) rfl hi1) ?_)
       refine aN (.ex (i+1,l[i+1]) (.pu ⟨rfl,rfl,by(try dsimp only);omega,hi1,hun⟩ .refl))
     ·rw[dF_ h92]
      rw[if_neg h92]at hun
      refine af (aN (.ex (i,l[i]) (.pu ⟨rfl,rfl,Nat.le_refl _,hlt,hun⟩ .refl)))
  ·rw[dT_ h3]
   have hno:mF l=([],false):=by rw[xe (by omega),if_neg h3]
   rw[hno]
   refine ai (aR () ?_)
   exact az
theorem yL {W:World}{l:List UInt8}(hl:l.length<=4194304):Cn p_ 443 [ay l] W [] (fun _:Unit=> .tuple #[tR (mG l).1,.bool (mG l).2]) (fun _=>[]):=by
 have hA:=gR (c:=61) l
 have hB:=f6 (c:=61) l
 (refine Shp.cn (Sg.g_ Tryz.call443 Tryz.func443) fun F=>?_;simp only[ca_,na_])
 refine aU fun b2=>?_
 refine c_ (Ay (c:=61) (l:=l) (by omega)) fun _=>?_
 refine o_ (bU (vs:=[_,_,_]) .here) ?_
 refine o_ (bU (vs:=[_,_,_]) (.there .here)) ?_
 refine o_ (bU (vs:=[_,_,_]) (.there (.there .here))) ?_
 refine o_ ae (bR ?_);refine o_ ae (bR ?_);refine o_ ae (bR ?_);refine o_ ae (aH ?_)
 refine c_ (nC (l:=cu 61 l) (by omega)) fun _=>?_
 refine o_ ae (aH ?_)
 refine c_ (pb (l:=cu 61 l) (by omega)) fun _=>?_
 refine o_ ae (bR ?_);refine o_ ae (aH ?_)
 cases hs:fZ 61 l with
 |false=>
  have e:mG l=(⟨fK (cu 61 l),bS 61 l,false⟩,kF (cu 61 l)):=by unfold mG;rw[hs];rfl
  rw[e]
  refine aj (aj (aj (aj (o_ ak (af (jL ?_))))));(((refine' aK ?hp ?hn ?hv ?h1 ?_);(case hp=>(repeat constructor));(case hn=>rfl);(case hv=>rfl);(case h1=>simp[Value.oneCell',ay])));(((refine' be (cQ ?hn) ?hi ?_);(case hi=>exact az);(case hn=>rfl)))
  refine aR () ?_
  exact az
 |true=>
  refine ab (o_ ae (ab (aH ?_)));refine ab (c_ (nC (l:=bS 61 l) (by omega)) fun _=>?_)
  refine ab (o_ fx (o_ av ?_))
  cases ht:kF (bS 61 l)with
  |true=>
   have e:mG l=(⟨fK (cu 61 l),bS 61 l,true⟩,kF (cu 61 l)):=by unfold mG;rw[hs,ht];rfl
   rw[e,show(!true)=false from rfl]
   refine af (jL ?_);(((refine' aK ?hp ?hn ?hv ?h1 ?_);(case hp=>(repeat constructor));(case hn=>rfl);(case hv=>rfl);(case h1=>simp[Value.oneCell',ay])));(((refine' be (cQ ?hn) ?hi ?_);(case hi=>exact az);(case hn=>rfl)))
   refine aR () ?_
   exact az
  |false=>
   have e:mG l=(⟨fK (cu 61 l),(mF (bS 61 l)).1,true⟩,kF (cu 61 l)&&(mF (bS 61 l)).2):=by unfold mG;rw[hs,ht];rfl
   rw[e,show(!false)=true from rfl]
   refine ai (o_ ae (aH ?_))
   refine c_ (Eo (l:=bS 61 l) (by omega)) fun _=>?_
   refine bE ?_;refine bE ?_;refine o_ ae (bR ?_)
   refine vA ?_
   refine jL ?_;(((refine' aK ?hp ?hn ?hv ?h1 ?_);(case hp=>(repeat constructor));(case hn=>rfl);(case hv=>rfl);(case h1=>simp[Value.oneCell',ay])));(((refine' be (cQ ?hn) ?hi ?_);(case hi=>exact az);(case hn=>rfl)))
   refine aR () ?_
   exact az
theorem px {W:World}{l:List UInt8}(hl:l.length<=2097152):Cn p_ 381 [ay l] W [] (fun r:Option Addr × Nat=> .tuple #[.slice r.1 (mu (kO l)).1.length r.2,.int .i64 (mu (kO l)).2])
  (fun r=>[Sl 3 524 r.1 r.2 (mu (kO l)).1.length ((mu (kO l)).1.flatMap je)]):=by
 (refine Shp.cn (Sg.g_ Tryz.call381 Tryz.func381) fun F=>?_;simp only[ca_,na_])
 refine o_ bO ?_
 refine ah (AG hl fun w hw=>yL (by omega)) .nil fun r=>?_
 refine am ?_
 refine o_ (bU (vs:=[_,_]) .here) ?_
 refine o_ (bU (vs:=[_,_]) (.there .here)) ?_
 refine aR r ?_
 exact .refl
def py (c:UInt8):Nat->List UInt8->List (List UInt8)
 |0,_=>[]
 |f+1,l=>if l=[]then []else if cK (cu c l)=[]then py c f (bS c l)else cK (cu c l)::py c f (bS c l)
def xh (c:UInt8)(l:List UInt8):List (List UInt8):=py c (l.length+1) l
theorem gL (c:UInt8):∀l:List UInt8,(cu c l).length<=l.length/\(l≠[]->(bS c l).length<l.length)
 |[]=>⟨Nat.le_refl _,fun h=>absurd rfl h⟩
 |x::l=>by
  obtain⟨h1,h2⟩:=gL c l
  constructor
  ·unfold cu;split <;> simp;omega
  ·intro _
   unfold bS
   split
   ·simp
   ·by_cases hl:l=[]
    ·subst hl;simp[bS]
    ·have:=h2 hl;simp;omega
theorem Bf (c:UInt8){l:List UInt8}(h:l≠[]):∀f,l.length<f->py c f l=if cK (cu c l)=[]then py c (f-1) (bS c l)else cK (cu c l)::py c (f-1) (bS c l)
 |0,hf=>by omega
 |f+1,hf=>by rw[py,if_neg h,Nat.add_sub_cancel]
theorem uh (c:UInt8):∀(n:Nat) (l:List UInt8),l.length<=n->∀f g,l.length<f->l.length<g->py c f l=py c g l
 |n,l,hn,0,g,hf,hg=>by omega
 |n,l,hn,f+1,0,hf,hg=>by omega
 |n,l,hn,f+1,g+1,hf,hg=>by
  rw[py,py]
  by_cases h:l=[]
  ·rw[if_pos h,if_pos h]
  ·rw[if_neg h,if_neg h]
   have hl:=(gL c l).2 h
   cases n with
   |zero=>have:l=[]:=List.eq_nil_of_length_eq_zero (by omega);exact absurd this h
   |succ n=>rw[uh c n (bS c l) (by omega) f g (by omega) (by omega)]
theorem sE (c:UInt8):xh c []=[]:=rfl
theorem ui (c:UInt8){l:List UInt8}(h:l≠[]):xh c l=(if cK (cu c l)=[]then []else [cK (cu c l)])++xh c (bS c l):=by
 have hl:=(gL c l).2 h
 unfold xh
 rw[Bf c h _ (by omega),Nat.add_sub_cancel,uh c _ (bS c l) (Nat.le_refl _) l.length ((bS c l).length+1) hl (by omega)]
 split <;> rfl
theorem oE (c:UInt8):∀(n:Nat) (l:List UInt8),l.length<=n->(xh c l).length<=l.length/\∀w∈xh c l,w.length<=l.length
 |0,l,h=>by
  have:l=[]:=List.eq_nil_of_length_eq_zero (by omega)
  subst this
  exact⟨Nat.le_refl _,fun w hw=>by simp[sE]at hw⟩
 |n+1,l,h=>by
  by_cases hl:l=[]
  ·subst hl;exact⟨Nat.le_refl _,fun w hw=>by simp[sE]at hw⟩
  ·have h1:=(gL c l).2 hl
   obtain⟨i1,i2⟩:=oE c n (bS c l) (by omega)
   rw[ui c hl]
   constructor
   ·rw[List.length_append]
    split <;> simp <;> omega
   ·intro w hw
    rcases List.mem_append.1 hw with hw|hw
    ·split at hw
     ·cases hw
     ·rw[List.mem_singleton.1 hw]
      exact Nat.le_trans (o4 _) (gL c l).1
    ·exact Nat.le_trans (i2 w hw) (by omega)
theorem split {W:World}{l:List UInt8}{c:UInt8}(hl:l.length<=4194304):Cn p_ 305 [ay l,Sl.B c] W [] (fun r:Option Addr × Nat=> .slice r.1 (xh c l).length r.2) (fun r=>[Sl 1 9 r.1 r.2 (xh c l).length ((xh c l).map ay)]):=by
 have hnum:=(oE c _ l (Nat.le_refl _)).1
 (refine Shp.cn (Sg.g_ Tryz.call305 Tryz.func305 (an:={cuts:=[(8,[0,6])],loops:=[(2,[0,5])],drs:=[(6,.ofL [(0,1),(1,1),(2,1),(3,1),(4,1),(5,1),(6,1),(7,1),(8,1)])]})) fun F=>?_;simp only[ca_,na_])
 refine cp (fun m x y=>(ex fun st:(Option Addr × Nat) × (List UInt8 × List (List UInt8))=>all [pu (m=st.2.1.length/\x=ay st.2.1/\y= .slice st.1.1 st.2.2.length st.1.2/\xh c l=st.2.2++xh c st.2.1/\st.2.1.length<=l.length),Sl 1 9 st.1.1 st.1.2 st.2.2.length (st.2.2.map ay)])::F) l.length ?_ ?_
 ·refine .ex ((none,0),(l,[])) (.all ?_)
  refine am ?_
  refine .pu ⟨rfl,rfl,rfl,rfl,Nat.le_refl _⟩ ?_
  exact bJ .refl
 intro m ds x y
 refine a8 .here fun st=>aB .here ?_
 obtain⟨⟨sa,sc⟩,⟨r,out⟩⟩:=st
 refine am ?_
 refine aT .here fun hi=>?_
 (try dsimp only at hi)
 obtain⟨rfl,rfl,rfl,hsp,hrl⟩:=hi
 (try dsimp only)
 have hol:=congrArg List.length hsp
 rw[List.length_append]at hol
 refine o_ bu (o_ eu ?_)
 by_cases hr:r=[]
 ·subst hr
  rw[dF_ (by decide)]
  refine af ?_
  rw[sE,List.append_nil]at hsp
  rw[hsp]
  refine aR ((sa,sc)) ?_
  exact az
 have hr0:0<r.length:=List.length_pos_iff.2 hr
 rw[dT_ (by omega)]
 refine ai (fJ (fun x y=>pu (x=ay (bS c r)/\y=ay (cu c r))::Sl 1 9 sa sc out.length (out.map ay)::F) ?_ ?_)
 rotate_left
 ·refine c_ (indexByte (l:=r) (c:=c)) fun _=>?_
  obtain⟨k1,k2⟩:=jd (c:=c) (l:=r)
  refine bz dt .nil (fun h=>?_) (fun h=>?_)
  ·have hm:=eO.1 h
   obtain⟨_,q1,q2⟩:=k1 hm
   have hix:lB r c=((r.findIdx (· ==c):Nat):Int):=by unfold lB;rw[if_pos hm]
   have hfl:r.findIdx (· ==c)<r.length:=List.findIdx_lt_length_of_exists ⟨c,hm,by simp⟩
   rw[hix]
   refine ai (aW (t_ (ny (r.findIdx (· ==c)) rfl (by omega)) ?_))
   refine t_ (g9 (by omega) (by omega)) ?_
   refine t_ (jn (r.findIdx (· ==c)+1) (by norm_cast) (by omega)) ?_
   rw[q1,q2]
   refine aN (.pu ⟨rfl,rfl⟩ ?_)
   exact az
  ·have hm:c∉r:=fun d=>h (eO.2 d)
   obtain⟨_,q1,q2⟩:=k2 hm
   refine af ?_
   rw[q1,q2]
   refine aN (.pu ⟨rfl,rfl⟩ ?_)
   exact az
 intro ds2 x y
 refine aT .here fun hi=>?_
 obtain⟨rfl,rfl⟩:=hi
 obtain⟨l1,l2⟩:=gL c r
 have l2:=l2 hr
 have hst:=ui c hr
 refine c_ (tO (l:=cu c r) (by omega)) fun _=>?_
 refine o_ (ep (m:=[])) ?_
 by_cases ht:cK (cu c r)=[]
 ·rw[dF_ (fun h=>h ht)]
  rw[if_pos ht,List.nil_append]at hst
  refine af (bI (bS c r).length l2 (.ex ((sa,sc),(bS c r,out)) (.all ?_)))
  refine am ?_
  refine .pu ⟨rfl,rfl,rfl,by rw[hsp,hst],by(try dsimp only);omega⟩ ?_
  exact az
 ·rw[dT_ ht]
  rw[if_neg ht]at hst
  refine ai (ej (n:=1) (vs:=[ay (cK (cu c r))]) rfl rfl (by intro v hv;rw[List.mem_singleton.1 hv];rfl) (by omega) fun gb=>?_)
  refine bQ (m:=1) (news:=[ay (cK (cu c r))]) (by(repeat constructor):Pick _ (Sl 1 9 sa sc out.length (out.map ay)) _) (bL (s:=1) (e':=9) (by kernel_rfl) .here (by rfl) (by intro u hu;rw[List.mem_singleton.1 hu];rfl)) (by omega) (by omega) fun a' c'=>?_
  refine bI (bS c r).length l2 (.ex ((a',c'),(bS c r,out++[cK (cu c r)])) (.all ?_))
  refine am ?_
  rw[List.length_append,List.map_append]
  refine .pu ⟨rfl,rfl,rfl,by rw[hsp,hst,List.append_assoc],by(try dsimp only);omega⟩ ?_
  exact az
theorem mV {W:World}{N:List (List UInt8)}{x:List UInt8}{a:Option Addr}{c:Nat}{NA:HP}(hN:RdB W NA a N.length (N.map ay))(hn:N.length<=4611686018427387904):Cn p_ 108 [.slice a N.length c,ay x] W [NA] (fun _:Unit=> .bool (N.contains x)) (fun _=>[NA]):=by
 have hI:Cn p_ 181 [.slice a N.length c,ay x] W [NA] (fun i:{i:Int // decide (0<=i)=N.contains x}=> .int .i64 i.1) (fun _=>[NA]):=by
  (refine Shp.cn (Sg.g_ Tryz.call181 Tryz.func181 (an:={loops:=[(2,[8])]})) fun F=>?_;simp only[ca_,na_])
  refine o_ aI (aY (fun m y=>pu (∃i:Nat,m+i=N.length/\y= .int .i64 (i:Int)/\x∉N.take i)::NA::F) N.length ?_ ?_)
  ·refine .pu ⟨0,rfl,rfl,by simp⟩ ?_
   exact az
  intro m ds y
  refine aT .here fun hi=>?_
  obtain⟨i,hmi,rfl,hno⟩:=hi
  refine bz bD .nil (fun h=>?_) (fun h=>?_)
  ·have hin:i<N.length:=by omega
   obtain⟨g,o,rfl,_⟩:=hN.at_ (by omega)
   refine ai (o_ (bq i rfl hin) ?_)
   refine cO (lu hN hin) ?_
   refine bz eo .nil (fun h2=>?_) (fun h2=>?_)
   ·refine ai (bK ⟨(i:Int),by rw[dT_ (by omega)];symm;rw[List.contains_iff_mem,h2];exact List.getElem_mem hin⟩ rfl ?_)
    exact az
   ·refine af (bP ?_)
    refine aZ (m-1) (by omega) (.pu ⟨i+1,by omega,by norm_cast,?_⟩ ?_)
    ·rw[List.take_succ_eq_append_getElem hin]
     intro c
     rcases List.mem_append.1 c with c|c
     ·exact hno c
     ·exact h2 (List.mem_singleton.1 c)
    exact az
  ·have:i=N.length:=by omega
   subst this
   rw[List.take_length]at hno
   refine af (bK ⟨-1,by rw[dF_ (by decide)];symm;rw[Bool.eq_false_iff];intro c;exact hno (List.contains_iff_mem.1 c)⟩ rfl ?_)
   exact az
 (refine Shp.cn (Sg.g_ Tryz.call108 Tryz.func108) fun F=>?_;simp only[ca_,na_])
 refine c_ hI fun _=>?_
 rename_i i
 refine o_ dt ?_
 rw[i.2]
 refine aR () ?_
 exact az
end Go.Proofs.YtdjkdjepjahjfaaGreatDoor.FD
namespace Go.Proofs.YtdjkdjepjahjfaaGreatDoor.TP
open Go Go.Proofs Go.RowKit Sh Sl T FD
theorem Bg {W:World}[hG:Gl W]{v w:List UInt8}{n:Int}{g c:Nat}(hv:v.length<=4194304)(hs:xh 44 v=[w])(hd:dh w=(n,0))(hn:n<=1048576):Cn p_ 193 [.slice (some ⟨g,0,none⟩) 1 c] W [Sl 1 9 (some ⟨g,0,none⟩) c 1 [ay v]] (fun _:Unit=> .tuple #[.int .i64 n,.int .i64 0]) (fun _=>[]):=by
 have hwl:w.length<=v.length:=(oE 44 _ v (Nat.le_refl _)).2 w (by rw[hs];exact List.mem_singleton.2 rfl)
 have hd1:(dh w).1=n:=by rw[hd]
 have hd2:(dh w).2=0:=by rw[hd]
 (refine Shp.cn (Sg.g_ Tryz.call193 Tryz.func193 (an:={loops:=[(3,[4,16]),(11,[31])]})) fun F=>?_;simp only[ca_,na_])
 refine o_ aI (cp (fun m x y=>[ex fun st:Nat × (Option Addr × Nat)=>all [pu (m+st.1=1/\x= .slice st.2.1 st.1 st.2.2/\y= .int .i64 (st.1:Int)),Sl 1 9 st.2.1 st.2.2 st.1 (List.replicate st.1 (ay w)),Sl 1 9 (some ⟨g,0,none⟩) c 1 [ay v]]]++F) 1 ?_ ?_)
 ·refine Imp.ex (0,(none,0)) (.all ?_)
  refine am ?_
  refine .pu ⟨rfl,rfl,rfl⟩ ?_
  exact bJ .refl
 intro m ds x y
 refine am ?_
 refine a8 Pick.here fun st=>aB Pick.here ?_
 obtain⟨i,r⟩:=st
 refine am ?_
 refine aT .here fun hi=>?_
 (try dsimp only at hi)
 obtain⟨hm,rfl,rfl⟩:=hi
 (try dsimp only)
 rcases Nat.lt_or_ge i 1 with hi|hi
 ·obtain rfl:i=0:=by omega
  (((refine o_ (Sl.bY ?hcq) ?_);(case hcq=>(first|omega|(simp only[List.length_nil,List.length_cons];omega)))));refine ai ?_;(((refine' aE (bq 0 rfl ?hcq) .nil ?_);(case hcq=>(first|omega|decide|(simp;done)))));(((refine' aE (bw ?hc) ?hi ?_);(case hi=>exact az);(case hc=>rfl)))
  refine' ah (split (l:=v) (c:=44) hv) ?hp fun r2=>?_
  case hp=>exact .nil
  rw[hs]
  refine am ?_
  simp only[List.map_cons,List.map_nil,List.length_cons,List.length_nil,Nat.zero_add]
  refine o_ aI ?_;(((refine o_ (Sl.bA ?hcq) ?_);(case hcq=>(first|omega|(simp only[List.length_nil,List.length_cons];omega)))));refine af (bQ (m:=1) (news:=[ay w]) (by(repeat constructor):Pick _ (Sl 1 9 r.1 r.2 0 (List.replicate 0 (ay w))) _) (oZ (s:=1) (e':=9) (by kernel_rfl) .here (by intro u hu;rw[List.mem_singleton.1 hu];rfl)) (by omega) (by omega) fun a' c'=>?_)
  refine bP ?_
  refine bI (m-1) ?_ ?_
  ·omega
  refine .ex (1,(a',c')) (.all ?_)
  refine am ?_
  refine .pu ⟨by omega,rfl,rfl⟩ ?_
  (try dsimp only)
  exact .pick .here az
 ·obtain rfl:i=1:=by omega
  (((refine o_ (Sl.bF ?hcq) ?_);(case hcq=>(first|omega|(simp only[List.length_nil,List.length_cons];omega)))));refine af ?_;refine o_ aI ?_
  refine aY (fun m y=>[ex fun i:Nat=>all [pu (m+i=1/\y= .int .i64 (i:Int)),Sl 1 9 r.1 r.2 1 [ay w]]]++F) 1 ?_ ?_
  ·refine Imp.ex 0 (.all ?_)
   refine am ?_
   refine .pu ⟨rfl,rfl⟩ ?_
   (try dsimp only)
   exact .pick .here az
  intro m2 ds2 y2
  refine am ?_
  refine a8 Pick.here fun i=>aB Pick.here ?_
  refine am ?_
  refine aT .here fun hi=>?_
  obtain⟨hm2,rfl⟩:=hi
  refine a9 .here (by decide) fun gr hgr=>?_
  obtain⟨ra,rc⟩:=r
  (try dsimp only at hgr)
  subst hgr
  rcases Nat.lt_or_ge i 1 with hi|hi
  ·obtain rfl:i=0:=by omega
   (((refine o_ (Sl.bY ?hcq) ?_);(case hcq=>(first|omega|(simp only[List.length_nil,List.length_cons];omega)))));refine ai ?_;(((refine' aE (bq 0 rfl ?hcq) .nil ?_);(case hcq=>(first|omega|decide|(simp;done)))));(((refine' aE (bw ?hc) ?hi ?_);(case hi=>exact az);(case hc=>rfl)))
   refine c_ (lS (l:=w) (by omega)) fun _=>?_
   rw[hd1,hd2]
   refine bE ?_;refine bE ?_;(((refine o_ (Sl.bA ?hcq) ?_);(case hcq=>(first|omega|(simp only[List.length_nil,List.length_cons];omega)))));refine ab (ab (ab ?_));(((refine' aE (bq 0 rfl ?hcq) .nil ?_);(case hcq=>(first|omega|decide|(simp;done)))));refine ab ?_;(((refine' aE (bw ?hc) ?hi ?_);(case hi=>exact az);(case hc=>rfl)));refine ab ?_;(((refine' aE (Sl.qT ?hcq) .nil ?_);(case hcq=>(intro hh;exact hh (by first|rfl|assumption)))));refine o_ ak (af (bP ?_))
   refine aZ (m2-1) ?_ ?_
   ·omega
   refine am ?_
   refine .ex 1 (.all ?_)
   refine am ?_
   refine .pu ⟨by omega,rfl⟩ ?_
   exact az
  ·obtain rfl:i=1:=by omega
   (((refine o_ (Sl.bF ?hcq) ?_);(case hcq=>(first|omega|(simp only[List.length_nil,List.length_cons];omega)))));refine af ?_;(((refine' aE (bq 0 rfl ?hcq) .nil ?_);(case hcq=>(first|omega|decide|(simp;done)))));(((refine' aE (bw ?hc) ?hi ?_);(case hi=>exact az);(case hc=>rfl)))
   refine c_ (lS (l:=w) (by omega)) fun _=>?_
   rw[hd1,hd2]
   refine bE ?_;refine bE ?_;(((refine o_ (Sl.cq ?hcq) ?_);(case hcq=>(first|omega|(simp only[List.length_nil,List.length_cons];omega)))));refine ab (ab ?_);(((refine o_ (Sl.cf ?hcq) ?_);(case hcq=>(first|omega|(simp only[List.length_nil,List.length_cons];omega)))));refine o_ ak (af (aR () ?_))
   exact az
def pz:List UInt8:=[67,111,110,116,101,110,116,45,76,101,110,103,116,104]
def Ep:List UInt8:=[84,114,97,110,115,102,101,114,45,69,110,99,111,100,105,110,103]
def uj (fs:List FD.Fd):Option (Int × Int):=
 if bW fs Ep=[]then match bW fs pz with
  |[]=>some (0,0)
  |[v]=>match xh 44 v with
   |[w]=>if(dh w).2=0/\(dh w).1<=1048576/\v.length<=4194304 then some (1,(dh w).1)else none
   |_=>none
  |_=>none
 else none
theorem pA {W:World}[hG:Gl W]{m tg:Value}{mi:Int}{fs:List FD.Fd}{a:Option Addr}{c:Nat}{A:HP}{r:Int × Int}(hA:gX W A a fs)(hl:qS fs)(h:uj fs=some r):Cn p_ 118 [.agg #[m,tg,.int .i64 mi,.slice a fs.length c]] W [A] (fun _:Unit=> .tuple #[.agg #[.int .i64 r.1,.int .i64 r.2],.int .i64 0]) (fun _=>[A]):=by
 unfold uj at h
 split at h
 rotate_left
 ·cases h
 rename_i hte
 (refine Shp.cn (Sg.g_ Tryz.call118 Tryz.func118 (an:={drs:=[(1,.ofL [(0,1),(1,1),(3,3),(4,3),(2,0),(5,0),(6,1),(7,1)])]}) (os:=[(1,[(2,[4,3])])])) fun F=>?_;simp only[ca_,na_])
 refine aX fun g=>?_;refine aU fun g=>?_;refine aW (t_ ae (cm ?_));refine aq ae .nil ?_;(((refine' aq (aS ?hc) ?hi ?_);(case hi=>exact .pick (by repeat constructor) .nil);(case hc=>repeat constructor)))
 refine' ah (fO (a:=a) (c:=c) (n:=pz) hA hl (by decide)) ?hp fun r1=>?_
 case hp=>(repeat(first|exact Picks.nil|(apply Picks.cons;(focus repeat constructor))))
 refine am ?_
 refine bj ?_;refine bj ?_
 refine' ah (fO (a:=a) (c:=c) (n:=Ep) hA hl (by decide)) ?hp fun r2=>?_
 case hp=>(repeat(first|exact Picks.nil|(apply Picks.cons;(focus repeat constructor))))
 rw[hte]
 refine am ?_
 split at h
 ·rename_i hcl
  cases h
  rw[hcl]
  refine o_ aI ?_;(((refine o_ (Sl.cf ?hcq) ?_);(case hcq=>(first|omega|(simp only[List.length_nil,List.length_cons];omega)))));refine aj (aj (aj (aj (bT (bT (bT (aj (o_ ak (af (o_ aI ?_))))))))));(((refine o_ (Sl.cf ?hcq) ?_);(case hcq=>(first|omega|(simp only[List.length_nil,List.length_cons];omega)))));refine af (o_ aI ?_);(((refine o_ (Sl.cf ?hcq) ?_);(case hcq=>(first|omega|(simp only[List.length_nil,List.length_cons];omega)))));refine af (o_ bO ?_);(((refine' aK ?hp ?hn ?hv ?h1 ?_);(case hp=>(repeat constructor));(case hn=>rfl);(case hv=>rfl);(case h1=>simp[Value.oneCell',ay])));(((refine' be (cQ ?hn) ?hi ?_);(case hi=>exact az);(case hn=>rfl)))
  refine aR () ?_
  exact az
 ·rename_i v hcl
  split at h
  rotate_left
  ·cases h
  rename_i w hw
  split at h
  rotate_left
  ·cases h
  rename_i hd
  cases h
  rw[hcl]
  refine a9 (by(repeat constructor):Pick _ (Sl 1 9 r1.1 r1.2 [v].length ([v].map ay)) _) (by simp) fun gr hgr=>?_
  obtain⟨ra,rc⟩:=r1
  (try dsimp only at hgr)
  subst hgr
  simp only[List.map_cons,List.map_nil,List.length_cons,List.length_nil,Nat.zero_add]
  refine o_ aI ?_;(((refine o_ (Sl.cf ?hcq) ?_);(case hcq=>(first|omega|(simp only[List.length_nil,List.length_cons];omega)))));refine aj (aj (aj (aj (bT (bT (bT (aj (o_ ak (af (o_ aI ?_))))))))));(((refine o_ (Sl.cf ?hcq) ?_);(case hcq=>(first|omega|(simp only[List.length_nil,List.length_cons];omega)))));refine af (o_ aI ?_);(((refine o_ (Sl.gi ?hcq) ?_);(case hcq=>(first|omega|(simp only[List.length_nil,List.length_cons];omega)))));refine ai ?_
  refine' ah (Bg (g:=gr) (c:=rc) (v:=v) (w:=w) (n:=(dh w).1) hd.2.2 hw (by rw[<- hd.1]) hd.2.1) ?hp fun _=>?_
  case hp=>(repeat(first|exact Picks.nil|(apply Picks.cons;(focus repeat constructor))))
  refine am ?_
  refine bE ?_;refine bE ?_;(((refine o_ (Sl.cq ?hcq) ?_);(case hcq=>(first|omega|(simp only[List.length_nil,List.length_cons];omega)))));refine af (o_ bO ?_);(((refine' aK ?hp ?hn ?hv ?h1 ?_);(case hp=>(repeat constructor));(case hn=>rfl);(case hv=>rfl);(case h1=>simp[Value.oneCell',ay])));(((refine' be (cQ ?hn) ?hi ?_);(case hi=>exact az);(case hn=>rfl)))
  refine aR () ?_
  exact az
 ·cases h
end Go.Proofs.YtdjkdjepjahjfaaGreatDoor.TP
namespace Go.Proofs.YtdjkdjepjahjfaaGreatDoor.FD
open Go Go.Proofs Go.RowKit Sh Sl T
theorem oF {L:List Fd}:∀u∈L.flatMap cS,u.oneCell'=true:=fun u hu=>by
 obtain⟨f,_,hf⟩:=List.mem_flatMap.1 hu
 simp[cS]at hf
 rcases hf with rfl|rfl <;> rfl
theorem cJ {W:World}{a:Option Addr}{c:Nat}{l:List Fd}(h:0<l.length->∃g,a=some ⟨g,0,none⟩):gX W (Sl 2 192 a c l.length (l.flatMap cS)) a l:=d8 (lL (f:=cS) (s:=2) (fun _=>rfl) l) h
theorem Ip {W:World}{L:List HP}{A B:WP}(h1:aJ W L A)(h2:aJ W L B):aJ W L (zH A B):=fun w hw=>⟨h1 w hw,h2 w hw⟩
theorem Iq {W:World}{g:Nat}{x0 x1 x2:Value}{q:Option Addr × Nat}{fs:List Fd}{n v:List UInt8}(hl:fs.length<=1099511627776):
  Cn p_ 204 ([ay n,ay v]++[.pointer (some ⟨g,0,none⟩)]) W [pt g (.cells #[x0,x1,x2,.slice q.1 fs.length q.2] 94),Sl 2 192 q.1 q.2 fs.length (fs.flatMap cS)]
   (fun _:Option Addr × Nat=> .tuple #[]) (fun r=>[pt g (.cells #[x0,x1,x2,.slice r.1 (fs++[(n,v)]).length r.2] 94),Sl 2 192 r.1 r.2 (fs++[(n,v)]).length ((fs++[(n,v)]).flatMap cS)]):=by
 (refine Shp.cn (Sg.g_ Tryz.call204 Tryz.func204) fun F=>?_;simp only[ca_,na_])
 refine o_ ae (aH ?_);refine o_ bO ?_
 refine dS (n:=1) (vs:=[vF (n,v)]) rfl (by omega) rfl (by intro v hv;rw[List.mem_singleton.1 hv];rfl) (by omega) fun gb=>?_
 refine bQ (m:=1) (news:=cS (n,v)) (by(repeat constructor):Pick _ (Sl 2 192 q.1 q.2 fs.length (fs.flatMap cS)) _) (bL (s:=2) (e':=192) (by kernel_rfl) .here (by rfl) (by intro u hu;simp[vF,Value.cells]at hu;rcases hu with rfl|rfl <;> rfl)) (by omega) (by omega) fun a' c'=>?_
 rw[show fs.length+1=(fs++[(n,v)]).length by simp,show fs.flatMap cS++cS (n,v)=(fs++[(n,v)]).flatMap cS by simp[List.flatMap_append]]
 refine o_ ae (bR ?_)
 refine ip (a',c') ?_
 exact az
def MD (pa qu:List UInt8)(asked:Bool):List UInt8:=if asked then pa++(63::qu)else pa
def Gq (l:List Fd)(fo:Int)(ho:List UInt8)(po:Int):List UInt8:=if fo=2 then(if 0<=po then ho++(58::eg po)else ho)else(lf l eT).1
theorem qX (sep:List UInt8):∀V:List (List UInt8),(ik sep V).length<=zL V+sep.length * V.length
 |[]=>Nat.zero_le _
 |v::r=>by
  have h:=pq sep r
  have h2:iw r<=zL r:=by
   clear h
   induction r with
   |nil=>exact Nat.le_refl _
   |cons w r ih=>rw[lX];unfold iw;omega
  unfold ik
  rw[List.length_append,h,lX,List.length_cons,Nat.mul_add,Nat.mul_one]
  omega
theorem Eq {l:List Fd}{minor:Int}(hl:zF l<=1048576):(ud l minor).length<=4194304/\(bW l mT).length<=1048576:=by
 have h1:=oD l mT
 have h2:=jW l mT
 have h3:=lW l
 have h4:=qX [44,32] (bW l mT++[if minor=0 then sA else sB])
 rw[In,List.length_append]at h4
 have h5:zL [if minor=0 then sA else sB]=14:=by split <;> rfl
 rw[h5]at h4
 simp only[List.length_cons,List.length_nil]at h4
 unfold ud
 omega
theorem Er {W : World} [hG : Gp W] {m tg ho pa qu : List UInt8} {mi fo po sz : Int} {l : List Fd} {asked sized : Bool} {a : Option Addr} {c : Nat} {A : HP} (hA : gX W A a l) (hl : zF l <= 1048576) (hpq : pa.length + qu.length <= 1048576) (hho : ho.length <= 1048576)
  (hp1 : -9223372036854775808 <= po) (hp2 : po <= 9223372036854775807) (hz1 : -9223372036854775808 <= sz) (hz2 : sz <= 9223372036854775807) :
  Cn p_ 129 [.agg #[ay m, ay tg, .int .i64 mi, .slice a l.length c], .agg #[.int .i64 fo, ay ho, .int .i64 po, ay pa, ay qu, .bool asked], .int .i64 sz, .bool sized] W [A]
   (fun r : Option Addr × Nat => .agg #[ay m, ay (MD pa qu asked), .int .i64 1, .slice r.1 (sC l (Gq l fo ho po) mi (if sized then some (eg sz) else none)).length r.2])
   (fun r => [A, Sl 2 192 r.1 r.2 (sC l (Gq l fo ho po) mi (if sized then some (eg sz) else none)).length ((sC l (Gq l fo ho po) mi (if sized then some (eg sz) else none)).flatMap cS)]) := by
 have hok := ue (l := l) (by omega)
 have hzl := lW l
 (refine Shp.cn (Sg.g_ Tryz.call129 Tryz.func129 (an := { cuts := [(4, []), (10, [11]), (15, [13])], drs := [(11, (.op 0 3 (.op 1 3 (.op 2 3 (.op 3 3 (.alt (.ofL [(4, 0), (5, 0), (6, 0), (7, 0), (8, 1), (9, 0)]) (.ofL [(5, 0), (4, 0), (6, 0), (7, 0), (8, 1), (9, 0)])))))))], rcuts := [(12, [])] }) (os := [(11, [(4, [1, 0]), (5, [3, 2, 1, 0]), (6, [1, 0])])])) fun F => ?_; simp only [ca_, na_])
 refine aX fun b4 => ?_
 refine aX fun b5 => ?_
 refine aU fun b8 => ?_
 refine o_ ae (aH ?_); refine o_ ae (aH ?_); refine o_ bO ?_; refine aU fun g => ?_; (((refine' aK ?hp ?hn ?hv ?h1 ?_); (case hp => (repeat constructor)); (case hn => rfl); (case hv => rfl); (case h1 => simp [Value.oneCell', ay])))
 rename Nat => b9
 refine rR ([pt b9 (.cells #[ay m, ay (MD pa qu asked), .int .i64 1, .slice none 0 0] 94), pt b8 (.cells #[.string .empty, .string .empty, .int .i64 0, .slice none 0 0] 94), pt b5 (.cells #[.int .i64 fo, ay ho, .int .i64 po, ay pa, ay qu, .bool asked] 99), pt b4 (.cells #[ay m, ay tg, .int .i64 mi, .slice a l.length c] 94), A] ++ F) ?_ ?_
 rotate_left
 ·cases asked with
  | true =>
   refine o_ ae (aH ?_); refine ai (o_ ae (aH ?_)); refine o_ ae (aH ?_)
   refine o_ (cA (a := [63]) (by simp; omega)) ?_
   refine o_ (cA (by simp; omega)) ?_
   refine o_ ae (bR ?_)
   refine aN ?_
   exact az
  | false =>
   refine o_ ae (aH ?_); refine af (aN ?_)
   exact az
 intro ds
 refine am ?_
 refine o_ bC (o_ ae (aH ?_))
 refine ah (first (n := eT) hA hok (by decide)) (.cons (by repeat constructor) .nil) fun _ => ?_
 refine am ?_
 refine o_ (bU (vs := [_, _]) .here) ?_
 refine o_ (bU (vs := [_, _]) (.there .here)) ?_
 obtain ⟨H, hH⟩ : ∃ H, H = Gq l fo ho po := ⟨_, rfl⟩
 refine dK (fun z => [pu (z = ay H), A, pt b9 (.cells #[ay m, ay (MD pa qu asked), .int .i64 1, .slice none 0 0] 94), pt b8 (.cells #[.string .empty, .string .empty, .int .i64 0, .slice none 0 0] 94), pt b5 (.cells #[.int .i64 fo, ay ho, .int .i64 po, ay pa, ay qu, .bool asked] 99), pt b4 (.cells #[ay m, ay tg, .int .i64 mi, .slice a l.length c] 94)] ++ F) ?_ ?_
 rotate_left
 ·(refine o_ ae ?_); refine aH ?_
  refine bz cH .nil (fun h => ?_) (fun h => ?_)
  ·rw [show H = if 0 <= po then ho ++ (58 :: eg po) else ho by rw [hH]; unfold Gq; rw [if_pos h]]
   refine ai (o_ ae (aH ?_)); refine o_ ae (aH ?_)
   refine bz dt .nil (fun h2 => ?_) (fun h2 => ?_)
   ·rw [if_pos h2]
    have hdl := eL hp1 hp2
    refine ai (o_ ae (aH ?_))
    refine c_ (fP hp1 hp2) fun _ => ?_
    refine o_ (cA (a := [58]) (by simp; omega)) ?_
    refine o_ (cA (by simp; omega)) ?_
    refine aN (.pu rfl ?_)
    exact az
   ·rw [if_neg h2]
    refine af (aN (.pu rfl ?_))
    exact az
  ·rw [show H = (lf l eT).1 by rw [hH]; unfold Gq; rw [if_neg h]]
   refine af (aN (.pu rfl ?_))
   exact az
 intro ds2 z
 refine am ?_
 refine aT .here fun hz => ?_
 subst hz
 refine e_ (s := 2) (e := 192) ?_
 refine bt (cap := [.pointer (some ⟨b9, 0, none⟩)]) (Iq (g := b9) (q := (none, 0)) (fs := []) (n := eT) (v := H) (by decide)) (by (repeat (first | exact Picks.nil | (apply Picks.cons; (focus repeat constructor))))) fun r => ?_
 obtain ⟨ra, rc⟩ := r
 refine am ?_
 (try dsimp only)
 have hsl : (dX l).length <= l.length := lV l _
 have hsz : qS (dX l) := ue (Nat.le_trans (uf _ l) (by omega))
 have hwl : (dx (dX l) sy).length <= l.length := Nat.le_trans (lV _ _) hsl
 obtain ⟨M, hM⟩ : ∃ M, M = dx (dX l) sy := ⟨_, rfl⟩
 rw [<- hM] at hwl
 refine rR ([ex fun q : Option Addr × Nat => all [pt b9 (.cells #[ay m, ay (MD pa qu asked), .int .i64 1, .slice q.1 ([(eT, H)] ++ M).length q.2] 94), Sl 2 192 q.1 q.2 ([(eT, H)] ++ M).length (([(eT, H)] ++ M).flatMap cS)], A, pt b8 (.cells #[.string .empty, .string .empty, .int .i64 0, .slice none 0 0] 94), pt b5 (.cells #[.int .i64 fo, ay ho, .int .i64 po, ay pa, ay qu, .bool asked] 99), pt b4 (.cells #[ay m, ay tg, .int .i64 mi, .slice a l.length c] 94)] ++ F) ?_ ?_
 rotate_left
 ·refine aW (aq ae .nil ?_); (((refine' aq (aS ?hc) ?hi ?_); (case hi => exact .pick (by repeat constructor) .nil); (case hc => repeat constructor))); refine aq ae .nil ?_; (((refine' aq (aS ?hc) ?hi ?_); (case hi => exact .pick (by repeat constructor) .nil); (case hc => repeat constructor)))
  refine Ip ?_ ?_
  ·refine ah (Be hA (by omega)) (.cons (by repeat constructor) .nil) fun s => ?_
   obtain ⟨s1, s2⟩ := s
   refine am ?_
   (try dsimp only)
   refine bj ?_; refine bj ?_
   refine ej (n := 4) (vs := sy.map ay) rfl rfl (by intro v hv; obtain ⟨c, _, rfl⟩ := List.mem_map.1 hv; rfl) (by omega) fun g4 => ?_
   refine bj ?_; refine bj ?_; refine bj ?_; refine bj ?_
   refine aP (by (repeat constructor) : Pick _ (Sl 2 192 s1 s2 (dX l).length ((dX l).flatMap cS)) _) fun _ _ _ hs => ?_
   refine ah (ky (l := dX l) (c := s2) (N := sy) (nc := 4) (NA := pt g4 (.cells (sy.map ay).toArray 9)) (cJ hs) hsz (gP (by rfl)) (by decide) (by decide)) (.cons (by repeat constructor) (.cons (by repeat constructor) .nil)) fun w => ?_
   obtain ⟨w1, w2⟩ := w
   refine am ?_
   (try dsimp only)
   rw [<- hM]
   refine bj ?_; refine bj ?_
   refine bQ (m := M.length) (news := M.flatMap cS) (by (repeat constructor) : Pick _ (Sl 2 192 ra rc [(eT, H)].length ([(eT, H)].flatMap cS)) _) (oZ (s := 2) (e' := 192) (by kernel_rfl) (by (repeat constructor) : Pick _ (Sl 2 192 w1 w2 M.length (M.flatMap cS)) _) oF) (by simp; omega) (by simp; omega) fun a' c' => ?_
   rw [<- List.length_append, <- List.flatMap_append]
   refine t_ ae (bR ?_)
   refine aN (.ex (a', c') (.all ?_))
   refine am ?_
   exact az
  ·refine ej (n := 4) (vs := sy.map ay) rfl rfl (by intro v hv; obtain ⟨c, _, rfl⟩ := List.mem_map.1 hv; rfl) (by omega) fun g4 => ?_
   refine bj ?_; refine bj ?_; refine bj ?_; refine bj ?_
   refine ah (Be hA (by omega)) (.cons (by repeat constructor) .nil) fun s => ?_
   obtain ⟨s1, s2⟩ := s
   refine am ?_
   (try dsimp only)
   refine bj ?_; refine bj ?_
   refine aP (by (repeat constructor) : Pick _ (Sl 2 192 s1 s2 (dX l).length ((dX l).flatMap cS)) _) fun _ _ _ hs => ?_
   refine ah (ky (l := dX l) (c := s2) (N := sy) (nc := 4) (NA := pt g4 (.cells (sy.map ay).toArray 9)) (cJ hs) hsz (gP (by rfl)) (by decide) (by decide)) (.cons (by repeat constructor) (.cons (by repeat constructor) .nil)) fun w => ?_
   obtain ⟨w1, w2⟩ := w
   refine am ?_
   (try dsimp only)
   rw [<- hM]
   refine bj ?_; refine bj ?_
   refine bQ (m := M.length) (news := M.flatMap cS) (by (repeat constructor) : Pick _ (Sl 2 192 ra rc [(eT, H)].length ([(eT, H)].flatMap cS)) _) (oZ (s := 2) (e' := 192) (by kernel_rfl) (by (repeat constructor) : Pick _ (Sl 2 192 w1 w2 M.length (M.flatMap cS)) _) oF) (by simp; omega) (by simp; omega) fun a' c' => ?_
   rw [<- List.length_append, <- List.flatMap_append]
   refine t_ ae (bR ?_)
   refine aN (.ex (a', c') (.all ?_))
   refine am ?_
   exact az
 intro ds3
 refine am ?_
 refine a8 .here fun q => aB .here ?_
 obtain ⟨ma, mc⟩ := q
 refine am ?_
 obtain ⟨mk, hmk⟩ : ∃ mk, mk = if mi = 0 then sA else sB := ⟨_, rfl⟩
 refine dK (fun z => pu (z = ay mk) :: pt b9 (.cells #[ay m, ay (MD pa qu asked), .int .i64 1, .slice ma ((eT, H) :: M).length mc] 94) :: Sl 2 192 ma mc ((eT, H) :: M).length (((eT, H) :: M).flatMap cS) :: A :: pt b8 (.cells #[.string .empty, .string .empty, .int .i64 0, .slice none 0 0] 94) :: pt b4 (.cells #[ay m, ay tg, .int .i64 mi, .slice a l.length c] 94) :: F) ?_ ?_
 rotate_left
 ·(refine o_ ae ?_); refine aH ?_
  refine bz cH .nil (fun h => ?_) (fun h => ?_)
  ·rw [hmk, if_pos h]
   refine ai (aN (.pu rfl ?_))
   exact az
  ·rw [hmk, if_neg h]
   refine af (aN (.pu rfl ?_))
   exact az
 intro ds4 z
 refine aT .here fun hz => ?_
 subst hz
 refine o_ ae (aH ?_)
 refine ah (fO (n := mT) hA hok (by decide)) (.cons (by repeat constructor) .nil) fun r => ?_
 obtain ⟨va, vc⟩ := r
 refine am ?_
 (try dsimp only)
 obtain ⟨hvl, hvn⟩ := Eq (minor := mi) hl
 obtain ⟨V, hV⟩ : ∃ V, V = bW l mT := ⟨_, rfl⟩
 have hvia : ud l mi = ik [44, 32] (V ++ [mk]) := by rw [hV, hmk]; rfl
 rw [<- hV] at hvn ⊢
 rw [hvia] at hvl
 refine ej (n := 1) (vs := [ay mk]) rfl rfl (by intro v hv; rw [List.mem_singleton.1 hv]; rfl) (by omega) fun gm => ?_
 refine bQ (m := 1) (news := [ay mk]) (by (repeat constructor) : Pick _ (Sl 1 9 va vc V.length (V.map ay)) _) (bL (s := 1) (e' := 9) (by kernel_rfl) .here (by rfl) (by intro u hu; rw [List.mem_singleton.1 hu]; rfl)) (by omega) (by omega) fun ja jc => ?_
 rw [show V.map ay ++ [ay mk] = (V ++ [mk]).map ay by simp, show V.length + 1 = (V ++ [mk]).length by simp]
 refine ah (join (sep := [44, 32]) (V := V ++ [mk]) (by decide) (by decide) hvl (by simp; omega)) (.cons (by repeat constructor) .nil) fun _ => ?_
 refine am ?_
 rw [<- hvia]
 refine bt (cap := [.pointer (some ⟨b9, 0, none⟩)]) (Iq (g := b9) (q := (ma, mc)) (fs := (eT, H) :: M) (n := mT) (v := ud l mi) (by rw [List.length_cons]; omega)) (by (repeat (first | exact Picks.nil | (apply Picks.cons; (focus repeat constructor))))) fun r => ?_
 obtain ⟨na, nc⟩ := r
 refine am ?_
 (try dsimp only)
 cases sized with
 | false =>
  have hfw : (eT, H) :: M ++ [(mT, ud l mi)] = sC l H mi none := by unfold sC; rw [hM]
  simp only [Bool.false_eq_true, if_false]
  rw [<- hH, <- hfw]
  refine af (jL ?_); (((refine' aK ?hp ?hn ?hv ?h1 ?_); (case hp => (repeat constructor)); (case hn => rfl); (case hv => rfl); (case h1 => simp [Value.oneCell', ay]))); (((refine' be (cQ ?hn) ?hi ?_); (case hi => exact az); (case hn => rfl)))
  refine aR ((na, nc)) ?_
  exact az
 | true =>
  have hfw : (eT, H) :: M ++ [(mT, ud l mi)] ++ [(ST, eg sz)] = sC l H mi (some (eg sz)) := by unfold sC; rw [hM]; simp
  simp only [if_true]
  rw [<- hH, <- hfw]
  refine ai (c_ (fP hz1 hz2) fun _ => ?_)
  refine bt (cap := [.pointer (some ⟨b9, 0, none⟩)]) (Iq (g := b9) (q := (na, nc)) (fs := (eT, H) :: M ++ [(mT, ud l mi)]) (n := ST) (v := eg sz) (by simp; omega)) (by (repeat (first | exact Picks.nil | (apply Picks.cons; (focus repeat constructor))))) fun r => ?_
  obtain ⟨oa, oc⟩ := r
  refine am ?_
  (try dsimp only)
  refine jL ?_; (((refine' aK ?hp ?hn ?hv ?h1 ?_); (case hp => (repeat constructor)); (case hn => rfl); (case hv => rfl); (case h1 => simp [Value.oneCell', ay]))); (((refine' be (cQ ?hn) ?hi ?_); (case hi => exact az); (case hn => rfl)))
  refine aR ((oa, oc)) ?_
  exact az
end Go.Proofs.YtdjkdjepjahjfaaGreatDoor.FD
namespace Go.Proofs.YtdjkdjepjahjfaaGreatDoor.TP
open Go Go.Proofs Go.RowKit Sh Sl T FD
theorem Es {W:World}{l:List UInt8}(hl:l.length<=1048576)(h:l.contains 37=false):Cn p_ 162 [ay l] W [] (fun _:Unit=> .tuple #[ay l,.int .i64 0]) (fun _=>[]):=by
 have hn:37∉l:=by simpa using h
 (refine Shp.cn (Sg.g_ Tryz.call162 Tryz.func162 (an:={loops:=[(2,[0,4])],drs:=[(11,.ofL [(0,1),(1,1),(2,1),(3,1),(4,1),(5,1)])]})) fun F=>?_;simp only[ca_,na_])
 refine cp (fun m x y=>(ex fun st:Nat × (Option Addr × Nat)=>all [pu (m+st.1=l.length/\x=ay (l.drop st.1)/\y= .slice st.2.1 st.1 st.2.2),Sl 1 5 st.2.1 st.2.2 st.1 ((l.take st.1).map Sl.B)])::F) l.length ?_ ?_
 ·refine .ex (0,(none,0)) (.all ?_)
  refine am ?_
  exact .pu ⟨by omega,rfl,rfl⟩ (bJ .refl)
 intro m ds x y
 refine a8 .here fun st=>aB .here ?_
 obtain⟨i,r⟩:=st
 refine am ?_
 refine aT .here fun hi=>?_
 (try dsimp only at hi)
 obtain⟨hm,rfl,rfl⟩:=hi
 (try dsimp only)
 refine o_ (ep (m:=[])) ?_
 by_cases hlt:i<l.length
 ·rw[dT_ (show l.drop i≠[]from fun e=>by have:=congrArg List.length e;simp at this;omega)]
  have hg:(l.drop i)[0]'(by simp;omega)=l[i]:=by simp
  have hc:¬((l[i].toNat:Nat):Int)=37:=fun e=>hn (by rw[show(37:UInt8)=l[i]from UInt8.toNat_inj.1 (by show 37=l[i].toNat;omega)];exact List.getElem_mem hlt)
  refine ai (o_ (ew 0 rfl (by simp;omega)) ?_)
  rw[hg,show Sl.B l[i]= .int .u8 (l[i].toNat:Int)from rfl]
  refine o_ (jn 1 rfl (by simp;omega)) ?_
  rw[List.drop_drop]
  (((refine o_ (Sl.bA ?hcq) ?_);(case hcq=>(first|omega|(simp only[List.length_nil,List.length_cons];omega)))));refine af ?_;refine cI fun g=>?_
  refine bQ (m:=1) (news:=[.int .u8 (l[i].toNat:Int)]) (by(repeat constructor):Pick _ (Sl 1 5 r.1 r.2 i ((l.take i).map Sl.B)) _) (bL (s:=1) (e':=5) (by kernel_rfl) .here (by rfl) (by intro u hu;rw[List.mem_singleton.1 hu];rfl)) (by omega) (by omega) fun a' c'=>?_
  refine bI (m-1) ?_ ?_
  ·omega
  refine .ex (i+1,(a',c')) (.all ?_)
  refine am ?_
  refine .pu ⟨by omega,rfl,rfl⟩ ?_
  (try dsimp only)
  rw[List.take_succ_eq_append_getElem hlt,List.map_append]
  exact .pick .here az
 ·have he:i=l.length:=by omega
  subst he
  rw[dF_ (by simp)]
  refine af ?_
  rw[List.take_length]
  refine aE sq az ?_
  refine aR () ?_
  exact az
def dG (r:List UInt8):List (List UInt8):=cy 47 (r.length+1) r
def Ir (ws:List (List UInt8)):List (List Value):=(List.range ws.length).map fun k=>[ay (ws.getD k []),.bool (decide (k+1=ws.length))]
theorem sF {ws:List (List UInt8)}{k:Nat}(h:k<ws.length):(Ir ws)[k]? =some [ay (ws.getD k []),.bool (decide (k+1=ws.length))]:=by simp[Ir,h]
theorem sG {ws:List (List UInt8)}:(Ir ws).length=ws.length:=by simp[Ir]
theorem pB {c:UInt8}{l:List UInt8}:∀n,0<n->cy c n l≠[]
 |1,_=>by simp[cy]
 |n+2,_=>by rw[cy];split <;> simp
theorem Ur {W:World}{p:List UInt8}:Cn p_ 206 [ay p] W [] (fun b:Nat=> .func (.func 312) #[] [.pointer (some ⟨b,0,none⟩)].toArray) (fun b=>[pt b (.cells #[ay p] 9)]):=by
 (refine Shp.cn (Sg.g_ Tryz.call206 Tryz.func206) fun F=>?_;simp only[ca_,na_])
 refine b_ fun g=>?_;refine o_ bC (aR g ?_)
 exact .refl
theorem PC {W:World} {c l:Nat} {p r:List UInt8} {G:Nat->HP} {Gx T T':HP} (hp:p=47::r) (hl:p.length<=1048576)
  (hy:jJ p_ l (Ir (dG r)) (fun k=>all [T,all [pt c (.cells #[ay p] 9),G k]]) (all [T',Gx]) W):
  Cn p_ 312 [yv l,.pointer (some ⟨c,0,none⟩)] W [all [T,all [pt c (.cells #[ay p] 9),G 0]]] (fun _:Bool=> .tuple #[]) (fun b=>[if b then all [T,all [pt c (.cells #[ay p] 9),G (dG r).length]]else all [T',Gx]]):=by
 subst hp
 simp only[List.length_cons]at hl
 (refine Shp.cn (Sg.g_ Tryz.call312 Tryz.func312 (an:={loops:=[(1,[3])]})) fun F=>?_;simp only[ca_,na_])
 refine aB .here ?_
 refine am ?_
 refine aB (.there .here) ?_
 refine am ?_
 refine aH ?_
 refine o_ (jn 1 rfl (by simp)) ?_
 rw[show(47::r).drop 1=r from rfl]
 refine aY (fun m y=>[ex fun st:Nat × List UInt8=>all [pu (m+st.1=(dG r).length/\y=ay st.2/\(dG r).drop st.1=cy 47 (r.length+1-st.1) st.2/\st.2.length+st.1<=r.length),all [T,all [pt c (.cells #[ay (47::r)] 9),G st.1]]]]++F) (dG r).length ?_ ?_
 ·refine .ex (0,r) (.all ?_)
  refine am ?_
  refine .pu ⟨rfl,rfl,rfl,by simp⟩ (.all ?_)
  refine am ?_
  refine .pick (by repeat constructor) (.all ?_)
  refine am ?_
  exact az
 intro m ds y
 refine am ?_
 refine a8 Pick.here fun st=>aB Pick.here ?_
 obtain⟨k,s⟩:=st
 refine am ?_
 refine aT Pick.here fun hi=>?_
 (try dsimp only at hi)
 obtain⟨hmi,rfl,hd,hle⟩:=hi
 (try dsimp only)
 have hne:cy 47 (r.length+1-k) s≠[]:=pB _ (by omega)
 have hkl:k<(dG r).length:=by
  rcases Nat.lt_or_ge k (dG r).length with h|h
  ·exact h
  ·rw[List.drop_eq_nil_of_le h]at hd;exact absurd hd.symm hne
 have hk0:(dG r).getD k []=(cy 47 (r.length+1-k) s).headD []:=by
  rw[<- hd,List.headD_eq_head?_getD,List.head?_drop,List.getD_eq_getElem?_getD]
 have hdl:=congrArg List.length hd
 rw[List.length_drop]at hdl
 refine' ah (Ay (l:=s) (c:=47) (by omega)) ?hp fun _=>?_
 case hp=>exact .nil
 refine am ?_
 cases hc:fZ 47 s with
 |false=>
  rw[lh hc (by omega)]at hk0 hd hdl
  simp only[List.length_cons,List.length_nil]at hdl
  have hca:cu 47 s=s:=((jd (c:=47) (l:=s)).2 (fun hm=>by rw[((jd (c:=47) (l:=s)).1 hm).1]at hc;cases hc)).2.1
  refine bE ?_;refine bE ?_;refine bE ?_;refine o_ cL ?_
  rw[hca]
  refine ia hy k (by rw[sF hkl,hk0,dT_ (by omega)];rfl) .here ?_ ?_
  ·(refine o_ bB ?_);refine ab ?_;refine ab ?_;refine o_ cL ?_;refine o_ ak ?_;refine ai ?_
   refine aR true ?_
   rw[show(dG r).length=k+1 by omega]
   exact .refl
  ·(refine o_ cL ?_);refine aC ?_;refine aC ?_;refine o_ av ?_;refine ai ?_
   refine aR false ?_
   exact .refl
 |true=>
  have hbl:=wZ hc
  obtain⟨q,hq⟩:∃q,r.length+1-k=q+2:=⟨r.length+1-k-2,by omega⟩
  rw[hq,jf hc]at hk0 hd hdl
  have hn2:=pB (c:=47) (l:=bS 47 s) (q+1) (by omega)
  have:=List.length_pos_iff.2 hn2
  simp only[List.length_cons]at hdl
  refine bE ?_;refine bE ?_;refine bE ?_;refine o_ bB (ia hy k (by rw[sF hkl,hk0,dF_ (by omega)];rfl) .here ?_ ?_)
  ·(refine o_ bB ?_);refine ab ?_;refine ab ?_;refine o_ bB ?_;refine o_ ak ?_;refine af ?_
   refine aZ (m-1) ?_ ?_
   ·omega
   refine .ex (k+1,bS 47 s) (.all ?_)
   refine am ?_
   refine .pu ⟨by omega,rfl,?_,by(try dsimp only);omega⟩ .refl
   (try dsimp only)
   rw[<- List.drop_drop,hd,show r.length+1-(k+1)=q+1 by omega]
   rfl
  ·(refine o_ cL ?_);refine aC ?_;refine aC ?_;refine o_ av ?_;refine ai ?_
   refine aR false ?_
   exact .refl
def il (r:List UInt8):Bool:=decide (r.length<=4000)&&!r.contains 0&&(decide (r=[])||(dG r).all fun w=>decide (w≠[]/\w≠[46]/\w≠[46,46]))&&decide (ik [47] ((dG r).filter nb)=r)
theorem gZ {W:World}{L:List HP}{rest:List Value->WP}(h:∀ds,aJ W L (rest ds)):aJ W L (fun w=>∀ds,rest ds w):=fun w hw ds=>h ds w hw
theorem yM {ws:List (List UInt8)}{k:Nat}(h:k<ws.length):(ws.take (k+1)).filter nb=(ws.take k).filter nb++(if nb (ws.getD k [])then [ws.getD k []]else []):=by
 rw[List.take_succ_eq_append_getElem h,List.filter_append,List.getD_eq_getElem?_getD,List.getElem?_eq_getElem h]
 cases hb:nb ws[k] <;> simp[hb]
theorem qY {c:UInt8}:∀(n:Nat) (l:List UInt8),(cy c n l).length<=n
 |0,l=>by simp[cy]
 |1,l=>by simp[cy]
 |n+2,l=>by
  rw[cy]
  split
  ·have:=qY (c:=c) (n+1) (bS c l)
   simp;omega
  ·simp
theorem Bh {W:World}{p r:List UInt8}(hp:p=47::r)(h:il r=true):Cn p_ 130 [ay p] W [] (fun _:Unit=> .tuple #[ay p,.int .i64 0]) (fun _=>[]):=by
 subst hp
 simp only[il,Bool.and_eq_true,Bool.or_eq_true,decide_eq_true_eq,Bool.not_eq_true',List.contains_eq_mem,decide_eq_false_iff_not]at h
 obtain⟨⟨⟨h1,h2⟩,h3⟩,h4⟩:=h
 have hlen:(47::r).length=r.length+1:=rfl
 have hpre:gY [47] (47::r)=true:=by simp[gY]
 have hnul:lB (47::r) 0<0:=by
  have:(0:UInt8)∉(47::r):=by simp[h2]
  have:=mt eO.1 this
  omega
 have hsl:(dG r).length<=r.length+1:=qY _ _
 have hsn:0<(dG r).length:=List.length_pos_iff.2 (pB _ (by omega))
 have hgood:∀k,k<(dG r).length->nb ((dG r).getD k [])=decide (r≠[])/\(dG r).getD k []≠[46]/\(dG r).getD k []≠[46,46]:=by
  intro k hk
  by_cases h0:r=[]
  ·subst h0
   have:k=0:=by have:(dG []).length=1:=rfl;omega
   subst this
   decide
  ·have:=List.all_eq_true.1 (h3.resolve_left h0) _ (List.getElem_mem hk)
   have hk2:(dG r).getD k []=(dG r)[k]:=by rw[List.getD_eq_getElem?_getD,List.getElem?_eq_getElem hk];rfl
   rw[hk2,dT_ h0]
   obtain⟨e1,e2,e3⟩:=of_decide_eq_true this
   exact⟨by unfold nb;cases hx:(dG r)[k] <;> simp_all,e2,e3⟩
 have hfl:∀k,((dG r).take k |>.filter nb).length<=r.length+1:=fun k=>Nat.le_trans (List.length_filter_le _ _) (by simp;omega)
 (refine S.tL.cn fun F=>?_;unfold S.qP;simp only[ca_,na_])
 refine de fun g=>?_;refine de fun g=>?_
 rename_i b2
 refine' ah (oA (l:=47::r) (p:=[47]) (by simp;omega) (by decide)) ?hp fun _=>?_
 case hp=>exact .nil
 rw[hpre]
 refine am ?_
 refine o_ bB (ab (ab (o_ bu (ab ?_))));(((refine o_ (Sl.cf ?hcq) ?_);(case hcq=>(first|omega|(simp only[List.length_nil,List.length_cons];omega)))));refine o_ ak (ab (ab ?_))
 refine' ah (indexByte (l:=47::r) (c:=0)) ?hp fun _=>?_
 case hp=>exact .nil
 refine am ?_
 rename Nat=>b3
 refine ab ?_;(((refine o_ (Sl.eS ?hcq) ?_);(case hcq=>(first|omega|(simp only[List.length_nil,List.length_cons];omega)))));refine o_ ak (af (de fun g=>?_));refine de fun g=>?_;refine bR ?_
 rename_i b4
 refine' ah (Ur (p:=47::r)) ?hp fun bc=>?_
 case hp=>exact .nil
 refine am ?_
 refine z_ (f:=312) (cap:=[.pointer (some ⟨bc,0,none⟩)]) (Ir (dG r))
  (fun k=>all [pt bc (.cells #[ay (47::r)] 9),all [ex fun q:Option Addr × Nat=>all [pt b4 (.cells #[.slice q.1 ((dG r).take k |>.filter nb).length q.2] 33),Sl 1 9 q.1 q.2 ((dG r).take k |>.filter nb).length (((dG r).take k |>.filter nb).map ay)],pt g (.cells #[.bool (decide (k=(dG r).length)&&decide (r=[]))] 4),pt b2 (.cells #[ay []] 9),pt b3 (.cells #[.int .i64 0] 29),all F]])
  (pu False) rfl ?_ ?_ ?_ ?_ ?_ ?_
 ·intro x hx
  obtain⟨k,_,rfl⟩:=List.mem_map.1 hx
  rfl
 ·refine .all ?_
  refine am ?_
  refine .pick (by repeat constructor) (.all ?_)
  refine am ?_
  refine .ex (none,0) (.all ?_)
  rw[dF_ (by omega)]
  refine am ?_
  refine .pick (by repeat constructor) (bJ ?_)
  refine .pick (by repeat constructor) (.pick (by repeat constructor) (.pick (by repeat constructor) (.all ?_)))
  rw[List.append_nil]
  exact .refl
 ·intro l T T' hy
  rw[sG]
  exact PC rfl (by simp;omega) hy
 ·intro k hk F2 T0 T1 B N J hB hN hJ
  rw[sG]at hk
  have e0:∀h,(Ir (dG r))[k]'h=[ay ((dG r).getD k []),.bool (decide (k+1=(dG r).length))]:=fun h=>by
   have:=sF hk
   rw[List.getElem?_eq_getElem h]at this
   exact Option.some.inj this
  rw[e0]
  simp only[iB,List.headD_cons,List.tail_cons]
  have hft:=yM hk
  have hk1:=hfl k
  have hk2:=hfl (k+1)
  obtain⟨g1,g2,g3⟩:=hgood k hk
  refine aB (.there .here) ?_
  refine am ?_
  refine aB (.there .here) ?_
  refine am ?_
  refine a8 .here fun q=>aB .here ?_
  obtain⟨qa,qc⟩:=q
  refine am ?_
  (try dsimp only)
  refine hB _ _ _ (by repeat constructor) ?_
  obtain⟨w,hw⟩:∃w,w=(dG r).getD k []:=⟨_,rfl⟩
  obtain⟨V,hV⟩:∃V,V=((dG r).take k).filter nb:=⟨_,rfl⟩
  rw[<- hw]at hft g1 g2 g3 ⊢
  rw[<- hV]at hft hk1 ⊢
  obtain⟨V2,hV2⟩:∃V2,V2=((dG r).take (k+1)).filter nb:=⟨_,rfl⟩
  rw[<- hV2]at hft hk2
  have tail:∀q:Option Addr × Nat,Imp W (pt b4 (.cells #[.slice q.1 V2.length q.2] 33)::Sl 1 9 q.1 q.2 V2.length (V2.map ay)::pt g (.cells #[.bool (decide (k+1=(dG r).length)&&decide (r=[]))] 4)::pt b2 (.cells #[ay []] 9)::pt b3 (.cells #[.int .i64 0] 29)::all F::pt bc (.cells #[ay (47::r)] 9)::T1::F2) (T1::all [pt bc (.cells #[ay (47::r)] 9),all [ex fun q:Option Addr × Nat=>all [pt b4 (.cells #[.slice q.1 ((dG r).take (k+1) |>.filter nb).length q.2] 33),Sl 1 9 q.1 q.2 ((dG r).take (k+1) |>.filter nb).length (((dG r).take (k+1) |>.filter nb).map ay)],pt g (.cells #[.bool (decide (k+1=(dG r).length)&&decide (r=[]))] 4),pt b2 (.cells #[ay []] 9),pt b3 (.cells #[.int .i64 0] 29),all F]]::F2):=fun q=>by
   rw[<- hV2]
   refine .pick (by repeat constructor) (.all ?_)
   refine am ?_
   refine .pick (by repeat constructor) (.all ?_)
   refine am ?_
   refine .ex q (.all ?_)
   refine am ?_
   exact az
  by_cases hr:r=[]
  ·rw[dF_ (by simpa using hr)]at g1
   have hw0:w=[]:=by cases w with|nil=>rfl|cons=>simp[nb]at g1
   rw[if_neg (by rw[g1];simp),List.append_nil]at hft
   subst hw0
   refine o_ (Sl.jq (m:=[]) rfl) ?_
   refine aC (aC (o_ av ?_));(((refine' aE (Sl.fB ?hcq) .nil ?_);(case hcq=>(first|assumption|simp_all;done))))
   refine dP ?_
   refine aj (aj (aj (o_ ak (af (af (o_ bB (af (gZ fun ds=>?_))))))))
   by_cases hlast:k+1=(dG r).length
   ·rw[dT_ hlast]
    refine ab (ab (aC (ab (o_ av (o_ av (bR ?_))))))
    refine bf ?_ (hN _ (tail (qa,qc)))
    rw[hft,dT_ hlast,dT_ hr]
    exact az
   ·rw[dF_ hlast]
    refine aj (aj (bT (aj (o_ ak (bR ?_)))))
    refine bf ?_ (hN _ (tail (qa,qc)))
    rw[hft,dF_ hlast]
    exact az
  ·rw[dT_ hr]at g1
   have hw0:w≠[]:=by rintro rfl;simp[nb]at g1
   rw[if_pos g1]at hft
   (((refine' aE (Sl.fB ?hcq) .nil ?_);(case hcq=>(first|assumption|simp_all;done))));refine ab ?_;refine ab ?_;(((refine' aE (Sl.fB ?hcq) .nil ?_);(case hcq=>(first|assumption|simp_all;done))));refine o_ ak ?_;(((refine' aE (Sl.fB ?hcq) .nil ?_);(case hcq=>(first|assumption|simp_all;done))))
   refine dP ?_
   refine aj (aj (aj (o_ ak (af (af (o_ cL (ai (aH ?_))))))));refine cI fun g=>?_
   refine bQ (m:=1) (news:=[ay w]) (by(repeat constructor):Pick _ (Sl 1 9 qa qc V.length (V.map ay)) _) (bL (s:=1) (e':=9) (by kernel_rfl) .here (by rfl) (by intro u hu;rw[List.mem_singleton.1 hu];rfl)) (by omega) (by omega) fun a' c'=>?_
   refine bR ?_
   refine gZ fun ds=>?_
   by_cases hlast:k+1=(dG r).length
   ·rw[dT_ hlast]
    refine ab (ab (ab (ab (o_ ak (o_ av (bR ?_))))))
    refine bf ?_ (hN _ (tail (a',c')))
    rw[hft,dF_ hr,Bool.and_false,List.length_append,List.map_append]
    exact az
   ·rw[dF_ hlast]
    refine aj (aj (bT (aj (o_ ak (bR ?_)))))
    refine bf ?_ (hN _ (tail (a',c')))
    rw[hft,dF_ hr,Bool.and_false,List.length_append,List.map_append]
    exact az
 ·intro d
  refine aB (.there .here) ?_
  refine am ?_
  refine aB (.there .here) ?_
  refine am ?_
  refine a8 .here fun q=>aB .here ?_
  obtain⟨qa,qc⟩:=q
  refine am ?_
  (try dsimp only)
  rw[sG,List.take_length,dT_ rfl,Bool.true_and]
  have hfl':=hfl (dG r).length
  rw[List.take_length]at hfl'
  refine aH ?_
  refine' ah (join (sep:=[47]) (V:=(dG r).filter nb) (a:=qa) (c:=qc) (by decide) (by decide) (by rw[h4];omega) (by omega)) ?hp fun _=>?_
  case hp=>(repeat(first|exact Picks.nil|(apply Picks.cons;(focus repeat constructor))))
  rw[h4]
  refine am ?_
  refine o_ (cA (a:=[47]) (by simp;omega)) ?_
  refine aH ?_
  by_cases hr:r=[]
  ·rw[dT_ hr]
   have hz:((dG r).filter nb).length=0:=by subst hr;decide
   refine ab (aH ?_);refine ab (o_ aI (ab ?_));(((refine o_ (Sl.cf ?hcq) ?_);(case hcq=>(first|omega|(simp only[List.length_nil,List.length_cons];omega)))));refine o_ av (af (bR ?_));refine bR ?_
   refine rU (by repeat constructor) ?_
   (((refine' be (cX ?hc) ?hi ?_);(case hi=>exact az);(case hc=>repeat constructor)));(((refine' be (cX ?hc) ?hi ?_);(case hi=>exact az);(case hc=>repeat constructor)))
   refine i7 (M:=[]) (F:=F) az ?_
   refine am ?_
   refine aR () ?_
   exact .refl
  ·rw[dF_ hr]
   refine aj (aj (aj (o_ ak (af (bR ?_)))));refine bR ?_
   refine rU (by repeat constructor) ?_
   (((refine' be (cX ?hc) ?hi ?_);(case hi=>exact az);(case hc=>repeat constructor)));(((refine' be (cX ?hc) ?hi ?_);(case hi=>exact az);(case hc=>repeat constructor)))
   refine i7 (M:=[]) (F:=F) az ?_
   refine am ?_
   refine aR () ?_
   exact .refl
 ·intro d
  refine aT (.there .here) fun hp=>hp.elim
theorem Bi {W:World}{p r:List UInt8}(hp:p=47::r)(h:il r=true)(h37:p.contains 37=false):Cn p_ 89 [ay p] W [] (fun _:Unit=> .tuple #[ay p,.int .i64 0]) (fun _=>[]):=by
 have hl:p.length<=1048576:=by
  subst hp
  simp only[il,Bool.and_eq_true,decide_eq_true_eq]at h
  simp;omega
 (refine Shp.cn (Sg.g_ Tryz.call89 Tryz.func89) fun F=>?_;simp only[ca_,na_])
 refine c_ (Es hl h37) fun _=>?_
 refine bE ?_;refine bE ?_;(((refine o_ (Sl.cq ?hcq) ?_);(case hcq=>(first|omega|(simp only[List.length_nil,List.length_cons];omega)))));refine af (c_ (Bh hp h) fun _=>?_)
 refine bE ?_;refine bE ?_
 refine aR () ?_
 exact az
def fH:List FD.Fd:=[(qW,[97])]
def PD:List UInt8:=[69,120,112,101,99,116]
theorem pD:qS fH:=⟨by decide,by decide⟩
theorem Et:bW fH qW=[[97]]:=by decide+kernel
theorem Is:bW fH mS=[]:=by decide+kernel
theorem It:lf fH PD=([],false):=by decide+kernel
theorem Bj:uj fH=some (0,0):=by decide+kernel
def SU (t:List UInt8):Prop:=(∃r,t=47::r)/\t.all tZ=true/\t.length<=1000
def PE (p:Ps)(t:List UInt8):Prop:=p.done=true/\p.reply=false/\p.meth=cU/\p.targ=t/\p.minor=1/\p.fs=fH
def Iu (g:Nat)(bo:Int):HP:=pt g (.cells (jx 0 0 bo 0 (none,0) 0 false).toArray 234)
theorem Iv {W : World} [hG : Gl W] {c H : Nat} {s : CnS} {p : Ps} {t : List UInt8} (ht : SU t) (hp : PE p t) (hh : s.hd = pC H) (hb0 : 0 <= s.bo) (hb : s.bo <= 1048576) :
  Cn p_ 143 [pC c] W [cD c s, cV H p] (fun _ : Nat × Nat × (Option Addr × Nat) => .tuple #[])
   (fun x => [cD c { s with hd := pC x.1, rr := pC x.2.1, ln := 0, q0 := ay cU, q1 := ay t, q2 := .int .i64 1, q3 := .slice x.2.2.1 1 x.2.2.2, got := .slice none 0 0, nx := Vw c }, cV x.1 (ef false), Iu x.2.1 s.bo, Sl 2 192 x.2.2.1 x.2.2.2 1 (fH.flatMap cS)]) := by
 (refine Shp.cn (Sg.g_ Tryz.call143 Tryz.func143 (an := { cuts := [(5, []), (13, []), (22, [])], drs := [(1, .ofL [(0, 2), (1, 2), (2, 2), (3, 2), (4, 3), (5, 0), (6, 1), (7, 1), (8, 0), (9, 1), (10, 1), (11, 0), (12, 1), (13, 1), (14, 0), (15, 1), (16, 1), (17, 0)]), (17, .ofL [(0, 1), (1, 1), (2, 1), (3, 1), (4, 1), (5, 1), (6, 1), (7, 1), (8, 1), (9, 1), (10, 1), (11, 1), (12, 1), (13, 1)]), (22, .ofL [(0, 2), (1, 1), (2, 1), (3, 1), (4, 1), (5, 1), (6, 1), (7, 0), (8, 1), (9, 1), (10, 3), (11, 1), (12, 1), (13, 0)])] }) (os := [(1, [(5, [4])]), (22, [(13, [10])])])) fun F => ?_; simp only [ca_, na_])
 cases s
 rename_i bo ke ck si rd bg nx hd rr ln q0 q1 q2 q3 got ev row nu out
 (try dsimp only at *)
 subst hh
 obtain ⟨hd, hr, hm, hg, hi, hf⟩ := hp
 (unfold cD oB; (try dsimp only))
 refine o_ ag (o_ ae (aH ?_))
 refine' ah (AR (g := H) (p := p) hd hr (by rw [hf]; decide)) ?hp fun q => ?_
 case hp => (repeat (first | exact Picks.nil | (apply Picks.cons; (focus repeat constructor))))
 obtain ⟨qa, qc⟩ := q
 rw [hm, hg, hi, hf, show fH.length = 1 from rfl]
 refine am ?_
 (try dsimp only)
 refine aU fun g => ?_; (((refine' aK ?hp ?hn ?hv ?h1 ?_); (case hp => (repeat constructor)); (case hn => rfl); (case hv => rfl); (case h1 => simp [Value.oneCell', ay]))); refine aW ?_; (((refine' aq (bN ?hn) ?hi ?_); (case hi => exact .pick (by repeat constructor) .nil); (case hn => rfl)))
 refine' ah (DZ (r := false)) ?hp fun H2 => ?_
 case hp => (repeat (first | exact Picks.nil | (apply Picks.cons; (focus repeat constructor))))
 refine am ?_
 refine cB (aN az) ?_
 refine t_ ag (t_ ae (pf (n := 4) (vs := [ay cU, ay t, .int .i64 1, .slice qa 1 qc]) (cs' := [.int .i64 bo, .int .i64 ke, .int .i64 ck, .int .i64 si, .bool rd, .bool bg, nx, pC H, rr, .int .i64 ln, ay cU, ay t, .int .i64 1, .slice qa 1 qc, got, ev, row, .int .i64 nu, out]) (by repeat constructor) rfl (by simp) (by simp [Value.oneCell', ay]) rfl ?_))
 refine t_ ag (t_ ae (bR ?_)); refine t_ ag (t_ ae (bR ?_)); refine t_ ag (t_ ae (bR ?_))
 refine aP (by (repeat constructor) : Pick _ (Sl 2 192 qa qc 1 (fH.flatMap cS)) _) fun _ _ _ hs => ?_
 have hA : gX W (Sl 2 192 qa qc 1 (fH.flatMap cS)) qa fH := cJ (l := fH) hs
 obtain ⟨⟨r, hr⟩, ht2, ht3⟩ := ht
 refine dP ?_
 refine o_ ae (aH ?_); refine o_ ae (aH ?_)
 refine c_ (A8 (m := cU) (p := t) (r := r) rfl hr ht2 (by omega)) fun _ => ?_
 unfold Ik
 refine bE ?_; refine bE ?_; refine aU fun g => ?_; (((refine' aK ?hp ?hn ?hv ?h1 ?_); (case hp => (repeat constructor)); (case hn => rfl); (case hv => rfl); (case h1 => simp [Value.oneCell', ay]))); (((refine o_ (Sl.cq ?hcq) ?_); (case hcq => (first | omega | (simp only [List.length_nil, List.length_cons]; omega))))); refine ab (o_ ae (ab (aH ?_))); refine ab ?_; (((refine o_ (Sl.gi ?hcq) ?_); (case hcq => (first | omega | (simp only [List.length_nil, List.length_cons]; omega))))); refine ab (ab (jL ?_)); refine ab ?_
 refine' ah (Eg (l := [97]) hA pD Et (by decide) (by decide) (by decide +kernel)) ?hp fun _ => ?_
 case hp => (repeat (first | exact Picks.nil | (apply Picks.cons; (focus repeat constructor))))
 refine am ?_
 refine ab (o_ bB (ab (o_ av (o_ ak (af (gZ fun ds => ?_))))))
 refine jL ?_
 refine' ah (pA hA pD Bj) ?hp fun _ => ?_
 case hp => (repeat (first | exact Picks.nil | (apply Picks.cons; (focus repeat constructor))))
 refine am ?_
 refine bE ?_; refine bE ?_; refine aU fun g => ?_; (((refine' aK ?hp ?hn ?hv ?h1 ?_); (case hp => (repeat constructor)); (case hn => rfl); (case hv => rfl); (case h1 => simp [Value.oneCell', ay])))
 refine dP ?_
 (((refine o_ (Sl.ce ?hcq) ?_); (case hcq => (first | omega | (simp only [List.length_nil, List.length_cons]; omega))))); refine ai ?_
 refine gZ fun ds => ?_
 refine o_ ae (aH ?_)
 refine' ah (first (n := PD) hA pD (by decide)) ?hp fun _ => ?_
 case hp => (repeat (first | exact Picks.nil | (apply Picks.cons; (focus repeat constructor))))
 rw [It]
 refine am ?_
 refine bE ?_; refine bE ?_; refine aj (aj (aj (o_ ak (dP ?_))))
 refine aj (aj (aj (o_ ak (af (aW (t_ ae (cm ?_))))))); (((refine t_ (Sl.bA ?hcq) ?_); (case hcq => (first | omega | (simp only [List.length_nil, List.length_cons]; omega))))); refine aj (aj (aj (aj (aj (aj (aj (aj (t_ ak (af (aj (aj (aj (aj (aj (aj (o_ ak (aj (aj (aj (aj (bT (bT (bT (aj (o_ ak (af (gZ fun ds => ?_)))))))))))))))))))))))))))
 refine aW ?_; (((refine' be (bN ?hn) ?hi ?_); (case hi => exact .pick (by repeat constructor) .nil); (case hn => rfl))); refine t_ ag (t_ ae (t_ ae (cm ?_)))
 refine' ah (If (k := 0) (n := 0) (most := bo) (.inl ⟨rfl, rfl⟩) hb0 hb) ?hp fun G => ?_
 case hp => (repeat (first | exact Picks.nil | (apply Picks.cons; (focus repeat constructor))))
 refine am ?_
 refine rY ?_; (((refine' aq (bU ?hc) .nil ?_); (case hc => repeat constructor))); refine t_ ag (t_ ae (bR ?_)); refine bj ?_; refine o_ bC (o_ ag (o_ ae (bR ?_)))
 refine aR ((H2, G, (qa, qc))) ?_
 unfold Iu
 (try dsimp only)
 exact az
def PF (b t:List UInt8):Prop:=b.length<=2000/\0<b.length/\SU t/\∃p,dM (ef false) b=some (p,[])/\PE p t
theorem Iw {P:Program}{W:World}{t e:TypeId}{s b n cap g o:Nat}{r:IntKind}{j:Int}(h:Nat)[ht:SlT P t e s b](hj:j=(h:Int))(h2:h<=cap):
  aQ P W [] (n8 t (.slice (some ⟨g,o,none⟩) n cap) none (some (.int r j)) none) (.slice (some ⟨g,o,none⟩) h cap):=by
 have:=wI (P:=P) (W:=W) (t:=t) (n:=n) (a:=some ⟨g,o,none⟩) (r:=r) h hj h2
 have e:(if cap=0 then some (⟨g,o,none⟩:Addr)else(some (⟨g,o,none⟩:Addr)).map (·.add (0 * s)))=some ⟨g,o,none⟩:=by
  split
  ·rfl
  ·simp[du]
 rw[e]at this
 exact this
theorem Iy {W:World}[hG:Gl W]{c H:Nat}{s:CnS}{b t:List UInt8}{a:Option Addr}{cap:Nat}{A:HP}(hA:RdB W A a b.length (b.map Sl.B))(hr:PF b t)(hcap:b.length<=cap)(hh:s.hd=pC H)(hb0:0<=s.bo)(hb:s.bo<=1048576):
  Cn p_ 75 [pC c,.slice a b.length cap] W [cD c s,cV H (ef false),A] (fun x:(Option Addr × Nat) × Bool × Int × Nat × Nat × (Option Addr × Nat)=> .slice x.1.1 0 x.1.2)
   (fun x=>[cD c {s with bg:=x.2.1,si:=x.2.2.1,hd:=pC x.2.2.2.1,rr:=pC x.2.2.2.2.1,ln:=0,q0:=ay cU,q1:=ay t,q2:= .int .i64 1,q3:= .slice x.2.2.2.2.2.1 1 x.2.2.2.2.2.2,got:= .slice none 0 0,nx:=Vw c},cV x.2.2.2.1 (ef false),Iu x.2.2.2.2.1 s.bo,Sl 2 192 x.2.2.2.2.2.1 x.2.2.2.2.2.2 1 (fH.flatMap cS),A]):=by
 (refine Shp.cn (Sg.g_ Tryz.call75 Tryz.func75) fun F=>?_;simp only[ca_,na_])
 obtain⟨hl,h0,ht,p,hf,hp⟩:=hr
 cases s
 rename_i bo ke ck si rd bg nx hd rr ln q0 q1 q2 q3 got ev row nu out
 (try dsimp only at *)
 subst hh
 have hA':=hA
 obtain⟨ga,oa,ha,_⟩:=hA'.at_ h0
 subst ha
 (unfold cD oB;(try dsimp only))
 refine o_ ag (o_ ae (aH ?_))
 refine' ah (AS (G:=H) (cap:=cap) hA hf rfl (by omega)) ?hp fun _=>?_
 case hp=>(repeat(first|exact Picks.nil|(apply Picks.cons;(focus repeat constructor))))
 rw[hp.1]
 refine am ?_
 rw[show((b.length:Int)-(([]:List UInt8).length:Int))=(b.length:Int) by simp]
 refine bE ?_;refine bE ?_;refine bE ?_
 refine o_ (Iw b.length rfl hcap) ?_
 refine iv (by repeat constructor) ?_
 refine' ah (Im (c:=c) hA (by omega)) ?hp fun y=>?_
 case hp=>(repeat(first|exact Picks.nil|(apply Picks.cons;(focus repeat constructor))))
 obtain⟨y1,y2,y3⟩:=y
 refine am ?_
 (try dsimp only)
 (((refine o_ (Sl.bA ?hcq) ?_);(case hcq=>(first|omega|(simp only[List.length_nil,List.length_cons];omega)))));refine aj ?_;refine aj ?_;refine aj ?_;refine aj ?_;refine aj ?_;refine o_ ak ?_;refine af ?_;(((refine o_ (Sl.bA ?hcq) ?_);(case hcq=>(first|omega|(simp only[List.length_nil,List.length_cons];omega)))));refine af ?_;(((refine o_ (Sl.cq ?hcq) ?_);(case hcq=>(first|omega|(simp only[List.length_nil,List.length_cons];omega)))));refine af ?_;refine ai ?_
 refine' ah (Iv (c:=c) (H:=H) (t:=t) ht hp ?hc1 ?hc2 ?hc3) ?hp fun x=>?_
 case hp=>(repeat(first|exact Picks.nil|(apply Picks.cons;(focus repeat constructor))))
 case hc1=>rfl
 case hc2=>exact hb0
 case hc3=>exact hb
 obtain⟨x1,x2,x3⟩:=x
 refine am ?_
 (try dsimp only)
 refine o_ (jK b.length rfl (Nat.le_refl _)) ?_
 rw[Nat.sub_self]
 refine aR (((_,_),y2,y3,x1,x2,x3)) ?_
 exact az
end Go.Proofs.YtdjkdjepjahjfaaGreatDoor.TP
namespace Go.Proofs.YtdjkdjepjahjfaaGreatDoor.FD
open Go Go.Proofs Go.RowKit Sh Sl T
theorem uk {p:Nat->Bool}{i:Nat}:(List.range (i+1)).any p=((List.range i).any p||p i):=by rw[List.range_succ,List.any_append];simp
theorem Bk {p:Nat->Bool}{n i:Nat}(hi:i<n)(h:p i=true):(List.range n).any p=true:=List.any_eq_true.2 ⟨i,List.mem_range.2 hi,h⟩
theorem sH {α:Type}{l:List α}{p:Nat->Bool}{q:α->Bool}(h:∀(i:Nat) (hi:i<l.length),p i=q l[i]):(List.range l.length).any p=l.any q:=by
 apply Bool.eq_iff_iff.2
 rw[List.any_eq_true,List.any_eq_true]
 constructor
 ·rintro⟨i,hi,hp⟩
  have hi:=List.mem_range.1 hi
  exact⟨l[i],List.getElem_mem hi,by rw[<- h i hi];exact hp⟩
 ·rintro⟨x,hx,hq⟩
  obtain⟨i,hi,rfl⟩:=List.mem_iff_getElem.1 hx
  exact⟨i,List.mem_range.2 hi,by rw[h i hi];exact hq⟩
theorem Eu {W:World} {n c:Nat} {a:Option Addr} {v:Nat->Value} {p:Nat->Bool} {NA C:HP} {k:FuncId} {cap:List Value} (hn:n<=4611686018427387904) (ha:0<n->∃g o,a=some ⟨g,o,none⟩)
  (hld:∀i g o,i<n->a=some ⟨g,o,none⟩->aQ p_ W [NA] (aG 9 (.pointer (some ⟨g,o+i * 1,none⟩))) (v i))
  (hf:∀i,i<n->Cn p_ k ([v i]++cap) W [C] (fun _:Unit=> .bool (p i)) (fun _=>[C])):
  Cn p_ 177 [.slice a n c,.func (.func k) #[] cap.toArray] W [NA,C] (fun i:{i:Int // decide (0<=i)=(List.range n).any p}=> .int .i64 i.1) (fun _=>[NA,C]):=by
 (refine Shp.cn (Sg.g_ Tryz.call177 Tryz.func177 (an:={loops:=[(2,[8])]})) fun F=>?_;simp only[ca_,na_])
 refine o_ aI (aY (fun m y=>pu (∃i:Nat,m+i=n/\y= .int .i64 (i:Int)/\(List.range i).any p=false)::NA::C::F) n ?_ ?_)
 ·refine .pu ⟨0,rfl,rfl,rfl⟩ ?_
  exact az
 intro m ds y
 refine aT .here fun hi=>?_
 obtain⟨i,hmi,rfl,hno⟩:=hi
 refine bz bD .nil (fun h=>?_) (fun h=>?_)
 ·have hin:i<n:=by omega
  obtain⟨g,o,rfl⟩:=ha (by omega)
  have hany:=uk (p:=p) (i:=i)
  refine ai (o_ (dR i rfl hin) ?_)
  refine cO (hld i g o hin rfl) ?_
  refine bt (hf i hin) (by(repeat(first|exact Picks.nil|(apply Picks.cons;(focus repeat constructor))))) fun _=>?_
  refine am ?_
  cases hp:p i with
  |true=>
   refine ai (bK ⟨(i:Int),by rw[Bk hin hp];exact dT_ (by omega)⟩ rfl ?_)
   exact az
  |false=>
   refine af (bP ?_)
   refine aZ (m-1) (by omega) (.pu ⟨i+1,by omega,by norm_cast,by rw[hany,hno,hp];rfl⟩ ?_)
   exact az
 ·have:i=n:=by omega
  subst this
  refine af (bK ⟨-1,by rw[hno];rfl⟩ rfl ?_)
  exact az
theorem xi {W:World} {n c:Nat} {a:Option Addr} {v:Nat->Value} {p:Nat->Bool} {NA C:HP} {k:FuncId} {cap:List Value} (hn:n<=4611686018427387904) (ha:0<n->∃g o,a=some ⟨g,o,none⟩)
  (hld:∀i g o,i<n->a=some ⟨g,o,none⟩->aQ p_ W [NA] (aG 9 (.pointer (some ⟨g,o+i * 1,none⟩))) (v i))
  (hf:∀i,i<n->Cn p_ k ([v i]++cap) W [C] (fun _:Unit=> .bool (p i)) (fun _=>[C])):
  Cn p_ 104 [.slice a n c,.func (.func k) #[] cap.toArray] W [NA,C] (fun _:Unit=> .bool ((List.range n).any p)) (fun _=>[NA,C]):=by
 (refine Shp.cn (Sg.g_ Tryz.call104 Tryz.func104) fun F=>?_;simp only[ca_,na_])
 refine ah (Eu hn ha hld hf) (by(repeat(first|exact Picks.nil|(apply Picks.cons;(focus repeat constructor))))) fun i=>?_
 obtain⟨i,hi⟩:=i
 refine am ?_
 refine o_ dt ?_
 rw[hi]
 refine aR () ?_
 exact az
theorem Ev {W:World} {n c:Nat} {a:Option Addr} {v:Nat->Value} {p:Nat->Bool} {NA C:HP} {k:FuncId} {cap:List Value} (hn:n<=4611686018427387904) (ha:0<n->∃g o,a=some ⟨g,o,none⟩)
  (hld:∀i g o,i<n->a=some ⟨g,o,none⟩->aQ p_ W [NA] (aG 524 (.pointer (some ⟨g,o+i * 3,none⟩))) (v i))
  (hf:∀i,i<n->Cn p_ k ([v i]++cap) W [C] (fun _:Unit=> .bool (p i)) (fun _=>[C])):
  Cn p_ 506 [.slice a n c,.func (.func k) #[] cap.toArray] W [NA,C] (fun i:{i:Int // decide (0<=i)=(List.range n).any p}=> .int .i64 i.1) (fun _=>[NA,C]):=by
 (refine Shp.cn (Sg.g_ Tryz.call506 Tryz.func506 (an:={loops:=[(2,[8])]})) fun F=>?_;simp only[ca_,na_])
 refine o_ aI (aY (fun m y=>pu (∃i:Nat,m+i=n/\y= .int .i64 (i:Int)/\(List.range i).any p=false)::NA::C::F) n ?_ ?_)
 ·refine .pu ⟨0,rfl,rfl,rfl⟩ ?_
  exact az
 intro m ds y
 refine aT .here fun hi=>?_
 obtain⟨i,hmi,rfl,hno⟩:=hi
 refine bz bD .nil (fun h=>?_) (fun h=>?_)
 ·have hin:i<n:=by omega
  obtain⟨g,o,rfl⟩:=ha (by omega)
  have hany:=uk (p:=p) (i:=i)
  refine ai (o_ (dR i rfl hin) ?_)
  refine cO (hld i g o hin rfl) ?_
  refine bt (hf i hin) (by(repeat(first|exact Picks.nil|(apply Picks.cons;(focus repeat constructor))))) fun _=>?_
  refine am ?_
  cases hp:p i with
  |true=>
   refine ai (bK ⟨(i:Int),by rw[Bk hin hp];exact dT_ (by omega)⟩ rfl ?_)
   exact az
  |false=>
   refine af (bP ?_)
   refine aZ (m-1) (by omega) (.pu ⟨i+1,by omega,by norm_cast,by rw[hany,hno,hp];rfl⟩ ?_)
   exact az
 ·have:i=n:=by omega
  subst this
  refine af (bK ⟨-1,by rw[hno];rfl⟩ rfl ?_)
  exact az
theorem xj {W:World} {n c:Nat} {a:Option Addr} {v:Nat->Value} {p:Nat->Bool} {NA C:HP} {k:FuncId} {cap:List Value} (hn:n<=4611686018427387904) (ha:0<n->∃g o,a=some ⟨g,o,none⟩)
  (hld:∀i g o,i<n->a=some ⟨g,o,none⟩->aQ p_ W [NA] (aG 524 (.pointer (some ⟨g,o+i * 3,none⟩))) (v i))
  (hf:∀i,i<n->Cn p_ k ([v i]++cap) W [C] (fun _:Unit=> .bool (p i)) (fun _=>[C])):
  Cn p_ 454 [.slice a n c,.func (.func k) #[] cap.toArray] W [NA,C] (fun _:Unit=> .bool ((List.range n).any p)) (fun _=>[NA,C]):=by
 (refine Shp.cn (Sg.g_ Tryz.call454 Tryz.func454) fun F=>?_;simp only[ca_,na_])
 refine ah (Ev hn ha hld hf) (by(repeat(first|exact Picks.nil|(apply Picks.cons;(focus repeat constructor))))) fun i=>?_
 obtain⟨i,hi⟩:=i
 refine am ?_
 refine o_ dt ?_
 rw[hi]
 refine aR () ?_
 exact az
def Vx (x:Dir):Prop:=x.value.length<=4194304/\(x.has=false->x.value=[])
theorem Ew {l:List UInt8}(hl:l.length<=2097152):∀x∈(mu (kO l)).1,Vx x:=by
 intro x hx
 unfold kO ey at hx
 split at hx
 ·obtain⟨w,hw,rfl⟩:=List.mem_map.1 hx
  have hwl:=kp hw
  refine⟨?_,DH⟩
  have hB:=f6 (c:=61) w
  unfold mG
  split
  ·show(mF (bS 61 w)).1.length<=_
   have:(mF (bS 61 w)).1.length<=(bS 61 w).length:=by
    cases bS 61 w with
    |nil=>simp[mF]
    |cons c r=>
     show(if c=34 then jO [] r else([],false)).1.length<=_
     split
     ·have:=sD r.length r (Nat.le_refl _) []
      simp at this ⊢;omega
     ·simp
   omega
  ·show(bS 61 w).length<=_
   omega
 ·simp[mu]at hx
theorem Bl {l:List UInt8}:(mu (kO l)).1.length<=l.length+1:=by
 have hn:=kq (q:=true) (e:=true) (l:=l)
 unfold kO ey
 split
 ·show(List.map _ _).length<=_
  rw[List.length_map];omega
 ·simp[mu]
def qq (l:List Fd)(n:List UInt8):List UInt8:=ik [44] (bW l n)
theorem iS {l:List Fd}(n:List UInt8)(hl:zF l<=1048576):(qq l n).length<=1500000/\(bW l n).length<=1048576:=by
 have h1:=oD l n
 have h2:=jW l n
 have h3:=lW l
 have h4:=qX [44] (bW l n)
 simp only[List.length_cons,List.length_nil]at h4
 unfold qq
 omega
theorem PH {W:World}{l:List Fd}{n:List UInt8}{a:Option Addr}{c:Nat}{A:HP}(hA:gX W A a l)(hl:zF l<=1048576)(hn:n.length<=4194304):Cn p_ 456 [.slice a l.length c,ay n] W [A] (fun _:Unit=>ay (qq l n)) (fun _=>[A]):=by
 obtain⟨h1,h2⟩:=iS n hl
 (refine Shp.cn (Sg.g_ Tryz.call456 Tryz.func456) fun F=>?_;simp only[ca_,na_])
 refine ah (fO (n:=n) hA (ue (by omega)) hn) (.cons (by repeat constructor) .nil) fun r=>?_
 obtain⟨va,vc⟩:=r
 refine am ?_
 (try dsimp only)
 unfold qq at *
 refine ah (join (sep:=[44]) (by decide) (by decide) (by omega) (by omega)) (.cons (by repeat constructor) .nil) fun _=>?_
 refine am ?_
 refine aR () ?_
 exact az
def Dm:List UInt8:=[67,97,99,104,101,45,67,111,110,116,114,111,108]
def pF:List UInt8:=[86,97,114,121]
def gU (l:List Fd):List Dir:=(mu (kO (qq l Dm))).1
theorem xk {l:List Fd}(hl:zF l<=1048576):(gU l).length<=1500001/\∀x∈gU l,Vx x:=by
 obtain⟨h1,_⟩:=iS Dm hl
 have h2:=Bl (l:=qq l Dm)
 exact⟨by unfold gU;omega,Ew (by omega)⟩
theorem Gr {W:World}{l:List Fd}{a:Option Addr}{c:Nat}{A:HP}(hA:gX W A a l)(hl:zF l<=1048576):Cn p_ 392 [.slice a l.length c] W [A] (fun r:Option Addr × Nat=> .slice r.1 (gU l).length r.2) (fun r=>[A,Sl 3 524 r.1 r.2 (gU l).length ((gU l).flatMap je)]):=by
 obtain⟨h1,h2⟩:=iS Dm hl
 (refine Shp.cn (Sg.g_ Tryz.call392 Tryz.func392) fun F=>?_;simp only[ca_,na_])
 refine ah (PH (n:=Dm) hA hl (by decide)) (.cons (by repeat constructor) .nil) fun _=>?_
 refine am ?_
 refine ah (px (l:=qq l Dm) (by omega)) .nil fun r=>?_
 refine am ?_
 refine o_ (bU (vs:=[_,_]) .here) ?_
 refine o_ (bU (vs:=[_,_]) (.there .here)) ?_
 unfold gU
 refine aR r ?_
 exact az
def cz (l:List Fd):List (List UInt8):=xh 44 (qq l pF)
theorem mW {l:List Fd}(hl:zF l<=1048576):(cz l).length<=1500000/\∀n∈cz l,n.length<=1500000:=by
 obtain⟨h1,_⟩:=iS pF hl
 obtain⟨h2,h3⟩:=oE 44 _ (qq l pF) (Nat.le_refl _)
 exact⟨by unfold cz;omega,fun n hn=>by have:=h3 n hn;omega⟩
theorem sI {W:World}{l:List Fd}{a:Option Addr}{c:Nat}{A:HP}(hA:gX W A a l)(hl:zF l<=1048576):Cn p_ 395 [.slice a l.length c] W [A] (fun r:Option Addr × Nat=> .slice r.1 (cz l).length r.2) (fun r=>[A,Sl 1 9 r.1 r.2 (cz l).length ((cz l).map ay)]):=by
 obtain⟨h1,h2⟩:=iS pF hl
 (refine Shp.cn (Sg.g_ Tryz.call395 Tryz.func395) fun F=>?_;simp only[ca_,na_])
 refine ah (PH (n:=pF) hA hl (by decide)) (.cons (by repeat constructor) .nil) fun _=>?_
 refine am ?_
 refine ah (split (l:=qq l pF) (c:=44) (by omega)) .nil fun r=>?_
 refine am ?_
 unfold cz
 refine aR r ?_
 exact az
def Bm (l:List Fd)(N:List (List UInt8)):Bool:=N.any fun n=>decide (0<(bW l n).length)
theorem Iz {W:World}{l:List Fd}{N:List (List UInt8)}{a na:Option Addr}{c nc:Nat}{A NA:HP}(hA:gX W A a l)(hl:zF l<=1048576)(hN:RdB W NA na N.length (N.map ay))(hn:∀n∈N,n.length<=4194304)(hNl:N.length<=4194304):
  Cn p_ 394 [.slice a l.length c,.slice na N.length nc] W [A,NA] (fun _:Unit=> .bool (Bm l N)) (fun _=>[A,NA]):=by
 obtain⟨_,h2⟩:=iS pF hl
 have hok:=ue (l:=l) (by omega)
 have hcl:∀(g:Nat) (n:List UInt8),n.length<=4194304->Cn p_ 458 ([ay n]++[.pointer (some ⟨g,0,none⟩)]) W [all [pt g (.cells #[.slice a l.length c] 535),A]] (fun _:Unit=> .bool (decide (0<(bW l n).length))) (fun _=>[all [pt g (.cells #[.slice a l.length c] 535),A]]):=fun g n hnl=>by
  (refine Shp.cn (Sg.g_ Tryz.call458 Tryz.func458) fun F=>?_;simp only[ca_,na_])
  refine aB .here ?_
  refine am ?_
  refine aH ?_
  refine ah (fO (n:=n) hA hok hnl) (.cons (by repeat constructor) .nil) fun r=>?_
  refine am ?_
  refine o_ aI (o_ eu (bK () (by congr 1;exact decide_eq_decide.2 (by omega)) ?_))
  refine .all ?_
  refine am ?_
  exact az
 (refine Shp.cn (Sg.g_ Tryz.call394 Tryz.func394) fun F=>?_;simp only[ca_,na_])
 refine b_ fun g=>?_
 refine o_ bC ?_
 rename Nat=>g
 refine bf (M:=all [pt g (.cells #[.slice a l.length c] 535),A]::NA::F) (.all az) ?_
 refine ah (xi (v:=fun i=>ay (N.getD i [])) (p:=fun i=>decide (0<(bW l (N.getD i [])).length)) (NA:=NA) (k:=458) (cap:=[.pointer (some ⟨g,0,none⟩)]) (by omega) (fun h=>by obtain⟨g,o,e,_⟩:=hN.at_ h;exact⟨g,o,e⟩)
  (fun i g o hi e=>by subst e;rw[Nat.mul_one,show N.getD i []=N[i] by simp[List.getD,hi]];exact lu hN hi)
  (fun i hi=>hcl g _ (by rw[show N.getD i []=N[i] by simp[List.getD,hi]];exact hn _ (List.getElem_mem hi)))) (.cons (by repeat constructor) (.cons (by repeat constructor) .nil)) fun _=>?_
 refine am ?_
 rw[sH (q:=fun n=>decide (0<(bW l n).length)) (fun i hi=>by simp[List.getD,hi])]
 refine aB (.there .here) ?_
 refine am ?_
 refine aR () ?_
 exact az
def j4 (D:List Dir)(N:List (List UInt8)):Bool:=D.any fun x=>N.contains x.name
theorem PI {W : World} {D : List Dir} {N : List (List UInt8)} {da na : Option Addr} {gd dc nc : Nat} {NA : HP} (hN : RdB W NA na N.length (N.map ay)) (hNl : N.length ≤ 4194304) (hDl : D.length ≤ 4194304) :
  Cn p_ 453 ([.slice na N.length nc] ++ [.pointer (some ⟨gd, 0, none⟩)]) W [all [pt gd (.cells #[.slice da D.length dc] 520), Sl 3 524 da dc D.length (D.flatMap je)], NA] (fun _ : Unit => .bool (j4 D N))
   (fun _ => [all [pt gd (.cells #[.slice da D.length dc] 520), Sl 3 524 da dc D.length (D.flatMap je)], NA]) := by
 have hcl : ∀ (g : Nat) (x : Dir), Cn p_ 455 ([tR x] ++ [.pointer (some ⟨g, 0, none⟩)]) W [all [pt g (.cells #[.slice na N.length nc] 33), NA]] (fun _ : Unit => .bool (N.contains x.name)) (fun _ => [all [pt g (.cells #[.slice na N.length nc] 33), NA]]) := fun g x => by
  unfold tR
  (refine Shp.cn (Sg.g_ Tryz.call455 Tryz.func455) fun F => ?_; simp only [ca_, na_])
  refine aB .here ?_
  refine am ?_
  refine aX fun g => ?_; refine aH ?_; refine o_ ae (aH ?_)
  refine ah (mV (x := x.name) hN (by omega)) (.cons (by repeat constructor) .nil) fun _ => ?_
  refine am ?_
  refine bK () rfl ?_
  refine .all ?_
  refine am ?_
  exact az
 (refine Shp.cn (Sg.g_ Tryz.call453 Tryz.func453) fun F => ?_; simp only [ca_, na_])
 refine aB .here ?_
 refine am ?_
 refine b_ fun g => ?_; refine aH ?_
 refine o_ bC ?_
 rename Nat => g
 refine aP (by (repeat constructor) : Pick _ (Sl 3 524 da dc D.length (D.flatMap je)) _) fun _ _ _ hsome => ?_
 refine bf (M := all [pt g (.cells #[.slice na N.length nc] 33), NA] :: Sl 3 524 da dc D.length (D.flatMap je) :: pt gd (.cells #[.slice da D.length dc] 520) :: F) (.all az) ?_
 refine ah (xj (v := fun i => match D[i]? with | some d => tR d | none => undef) (p := fun i => match D[i]? with | some d => N.contains d.name | none => false) (NA := Sl 3 524 da dc D.length (D.flatMap je)) (k := 455) (cap := [.pointer (some ⟨g, 0, none⟩)]) (by omega) (fun h => by obtain ⟨g, e⟩ := hsome h; exact ⟨g, 0, e⟩)
  (fun i g o hi e => by
   obtain ⟨g', e'⟩ := hsome (by omega)
   have he := e.symm.trans e'
   injection he with he
   injection he with h1 h2 h3
   subst h1; subst h2; subst e
   rw [List.getElem?_eq_getElem hi]
   exact df (vs := je D[i]) (d8 (lL (f := je) (s := 3) (fun _ => rfl) D) (fun _ => ⟨_, rfl⟩)) rfl (fun j hj => jR (f := je) (s := 3) (fun _ => rfl) D i j hi hj))
  (fun i hi => by rw [List.getElem?_eq_getElem hi]; exact hcl g _)) (.cons (by repeat constructor) (.cons (by repeat constructor) .nil)) fun _ => ?_
 refine am ?_
 rw [sH (q := fun x => N.contains x.name) (fun i hi => by rw [List.getElem?_eq_getElem hi])]
 refine aB (.there .here) ?_
 refine am ?_
 refine bK () rfl ?_
 refine .all ?_
 refine am ?_
 exact az
theorem Bo {W:World}{n:Int}:Cn p_ 297 [.int .i64 n] W [] (fun _:Unit=> .int .i64 (max 0 (min n 1099511627776))) (fun _=>[]):=by
 (refine Shp.cn (Sg.g_ Tryz.call297 Tryz.func297) fun F=>?_;simp only[ca_,na_])
 refine o_ qH (o_ tw (bK () (by congr 1;split <;> split <;> omega) ?_))
 exact .refl
theorem yN {W:World}{N:List Int}{x:Int}{a:Option Addr}{c:Nat}{NA:HP}(hN:RdB W NA a N.length (N.map Sl.I))(hn:N.length<=4611686018427387904):Cn p_ 393 [.slice a N.length c,.int .i64 x] W [NA] (fun _:Unit=> .bool (N.contains x)) (fun _=>[NA]):=by
 have hI:Cn p_ 457 [.slice a N.length c,.int .i64 x] W [NA] (fun i:{i:Int // decide (0<=i)=N.contains x}=> .int .i64 i.1) (fun _=>[NA]):=by
  (refine Shp.cn (Sg.g_ Tryz.call457 Tryz.func457 (an:={loops:=[(2,[8])]})) fun F=>?_;simp only[ca_,na_])
  refine o_ aI (aY (fun m y=>pu (∃i:Nat,m+i=N.length/\y= .int .i64 (i:Int)/\x∉N.take i)::NA::F) N.length ?_ ?_)
  ·refine .pu ⟨0,rfl,rfl,by simp⟩ ?_
   exact az
  intro m ds y
  refine aT .here fun hi=>?_
  obtain⟨i,hmi,rfl,hno⟩:=hi
  refine bz bD .nil (fun h=>?_) (fun h=>?_)
  ·have hin:i<N.length:=by omega
   obtain⟨g,o,rfl,_⟩:=hN.at_ (by omega)
   refine ai (o_ (bq i rfl hin) ?_)
   refine cO (dv hN (v:= .int .i64 N[i]) (by rw[List.getElem?_map,List.getElem?_eq_getElem hin];rfl)) ?_
   refine bz cH .nil (fun h2=>?_) (fun h2=>?_)
   ·refine ai (bK ⟨(i:Int),by rw[dT_ (by omega)];symm;rw[List.contains_iff_mem,h2];exact List.getElem_mem hin⟩ rfl ?_)
    exact az
   ·refine af (bP ?_)
    refine aZ (m-1) (by omega) (.pu ⟨i+1,by omega,by norm_cast,?_⟩ ?_)
    ·rw[List.take_succ_eq_append_getElem hin]
     intro c
     rcases List.mem_append.1 c with c|c
     ·exact hno c
     ·exact h2 (List.mem_singleton.1 c)
    exact az
  ·have:i=N.length:=by omega
   subst this
   rw[List.take_length]at hno
   refine af (bK ⟨-1,by rw[dF_ (by decide)];symm;rw[Bool.eq_false_iff];intro c;exact hno (List.contains_iff_mem.1 c)⟩ rfl ?_)
   exact az
 (refine Shp.cn (Sg.g_ Tryz.call393 Tryz.func393) fun F=>?_;simp only[ca_,na_])
 refine c_ hI fun _=>?_
 rename_i i
 refine o_ dt ?_
 rw[i.2]
 refine aR () ?_
 exact az
theorem Gs {W:World}{a:Option Addr}{n c:Nat}:Cn p_ 391 [.slice a n c] W [] (fun g:Nat=> .func (.func 453) #[] ([.pointer (some ⟨g,0,none⟩)]:List Value).toArray) (fun g=>[pt g (.cells #[.slice a n c] 520)]):=by
 (refine Shp.cn (Sg.g_ Tryz.call391 Tryz.func391) fun F=>?_;simp only[ca_,na_])
 refine b_ fun g=>?_
 refine o_ bC ?_
 rename Nat=>g
 refine aR g ?_
 exact az
def PJ:List UInt8:=[71,69,84]
def f9:List UInt8:=[110,111,45,115,116,111,114,101]
def lY:List UInt8:=[112,114,105,118,97,116,101]
def oH:List UInt8:=[112,117,98,108,105,99]
def nE:List UInt8:=[115,45,109,97,120,97,103,101]
def xl:List UInt8:=[109,97,120,45,97,103,101]
def xm:List UInt8:=[65,117,116,104,111,114,105,122,97,116,105,111,110]
def sJ:List UInt8:=[67,111,110,116,101,110,116,45,82,97,110,103,101]
def Bq:List UInt8:=[83,101,116,45,67,111,111,107,105,101]
def pG:List UInt8:=[69,120,112,105,114,101,115]
def Br:List UInt8:=[69,84,97,103]
def vR:List UInt8:=[76,97,115,116,45,77,111,100,105,102,105,101,100]
def Ex (m:List UInt8)(st:Int)(l X:List Fd):Bool:=
 if m≠PJ then true else if !([200,301,404,410]:List Int).contains st then true else if j4 (gU l) [f9]then true else if j4 (gU X) [f9,lY]then true
 else if Bm l [xm]&&!j4 (gU X) [oH,nE]then true else if(cz X).contains [42]then true else Bm X [sJ,Bq]
def xn (m:List UInt8)(st:Int)(l X:List Fd):Bool:=if Ex m st l X then false else j4 (gU X) [nE,xl]||Bm X [pG,Br,vR]
theorem Bt {W:World}{m tg:List UInt8}{mi st:Int}{l X:List Fd}{a ax:Option Addr}{c cx:Nat}{bd:Value}{A B:HP}(hA:gX W A a l)(hl:zF l<=1048576)(hB:gX W B ax X)(hx:zF X<=1048576)[hbd:OC bd]:
  Cn p_ 295 [.agg #[ay m,ay tg,.int .i64 mi,.slice a l.length c],.agg #[.int .i64 st,.slice ax X.length cx,bd]] W [A,B] (fun _:Unit=> .bool (xn m st l X)) (fun _=>[A,B]):=by
 have hd:=(xk hl).1
 have he:=(xk hx).1
 have hv:=(mW hx).1
 (refine Shp.cn (Sg.g_ Tryz.call295 Tryz.func295 (an:={cuts:=[(10,[17])]})) fun F=>?_;simp only[ca_,na_])
 refine aX fun b2=>?_
 refine aX fun b3=>?_
 refine o_ ae (aH ?_);refine o_ ae (aH ?_)
 refine ah (Gr hA hl) (.cons (by repeat constructor) .nil) fun r=>?_
 obtain⟨da,dc⟩:=r
 refine am ?_
 (try dsimp only)
 refine ah Gs .nil fun gd=>?_
 refine am ?_
 refine ah (Gr hB hx) (.cons (by repeat constructor) .nil) fun r=>?_
 obtain⟨ea,ec⟩:=r
 refine am ?_
 (try dsimp only)
 refine ah Gs .nil fun ge=>?_
 refine am ?_
 obtain⟨AD,hAD⟩:∃AD,AD=all [pt gd (.cells #[.slice da (gU l).length dc] 520),Sl 3 524 da dc (gU l).length ((gU l).flatMap je)]:=⟨_,rfl⟩
 obtain⟨AE,hAE⟩:∃AE,AE=all [pt ge (.cells #[.slice ea (gU X).length ec] 520),Sl 3 524 ea ec (gU X).length ((gU X).flatMap je)]:=⟨_,rfl⟩
 refine bf (M:=AD::AE::A::B::pt b2 (.cells #[ay m,ay tg,.int .i64 mi,.slice a l.length c] 94)::pt b3 (.cells #[.int .i64 st,.slice ax X.length cx,bd] 48)::F) (by rw[hAD,hAE];exact .all (.pick (by repeat constructor) (.pick (by repeat constructor) (.all (.pick (by repeat constructor) (.pick (by repeat constructor) az)))))) ?_
 have sayD:∀ {N:List (List UInt8)} {na:Option Addr} {nc:Nat} {NA:HP},RdB W NA na N.length (N.map ay)->N.length<=4194304->Cn p_ 453 ([.slice na N.length nc]++[.pointer (some ⟨gd,0,none⟩)]) W [AD,NA] (fun _:Unit=> .bool (j4 (gU l) N)) (fun _=>[AD,NA]):=fun h1 h2=>by rw[hAD];exact PI h1 h2 (by omega)
 have sayE:∀ {N:List (List UInt8)} {na:Option Addr} {nc:Nat} {NA:HP},RdB W NA na N.length (N.map ay)->N.length<=4194304->Cn p_ 453 ([.slice na N.length nc]++[.pointer (some ⟨ge,0,none⟩)]) W [AE,NA] (fun _:Unit=> .bool (j4 (gU X) N)) (fun _=>[AE,NA]):=fun h1 h2=>by rw[hAE];exact PI h1 h2 (by omega)
 clear hAD hAE
 have tm:∀ {N:List (List UInt8)},∀v∈N.map ay,v.cells= #[v]:=fun v hv=>by obtain⟨c,_,rfl⟩:=List.mem_map.1 hv;rfl
 refine dK (fun z=>pu (z= .bool (Ex m st l X))::AE::A::B::F) ?_ ?_
 rotate_left
 ·unfold Ex
  refine o_ ae (aH ?_)
  refine bz (ep (l:=m) (m:=PJ)) .nil (fun h=>?_) (fun h=>?_)
  ·rw[if_pos h]
   refine ai (aN (.pu rfl ?_))
   exact az
  rw[if_neg h]
  refine af (ej (n:=4) (vs:=([200,301,404,410]:List Int).map Sl.I) rfl rfl (by intro v hv;obtain⟨c,_,rfl⟩:=List.mem_map.1 hv;rfl) (by omega) fun g0=>?_)
  refine o_ ae (aH ?_)
  refine ah (yN (N:=[200,301,404,410]) (x:=st) (gP rfl) (by decide)) (.cons (by repeat constructor) .nil) fun _=>?_
  refine am ?_
  refine o_ fx ?_
  cases h1:([200,301,404,410]:List Int).contains st with
  |false=>
   simp only[Bool.not_false,if_true]
   refine ai (aN (.pu trivial ?_))
   exact az
  |true=>
  simp only[Bool.not_true,Bool.false_eq_true,if_false]
  refine af (ej (n:=1) (vs:=[f9].map ay) rfl rfl tm (by omega) fun g1=>?_)
  refine bt (cap:=[.pointer (some ⟨gd,0,none⟩)]) (sayD (N:=[f9]) (gP rfl) (by decide)) (by(repeat(first|exact Picks.nil|(apply Picks.cons;(focus repeat constructor))))) fun _=>?_
  refine am ?_
  cases h2:j4 (gU l) [f9]with
  |true=>
   simp only[if_true]
   refine ai (aN (.pu trivial ?_))
   exact az
  |false=>
  simp only[Bool.false_eq_true,if_false]
  refine af (ej (n:=2) (vs:=[f9,lY].map ay) rfl rfl tm (by omega) fun g2=>?_)
  refine bt (cap:=[.pointer (some ⟨ge,0,none⟩)]) (sayE (N:=[f9,lY]) (gP rfl) (by decide)) (by(repeat(first|exact Picks.nil|(apply Picks.cons;(focus repeat constructor))))) fun _=>?_
  refine am ?_
  cases h3:j4 (gU X) [f9,lY]with
  |true=>
   simp only[if_true]
   refine ai (aN (.pu trivial ?_))
   exact az
  |false=>
  simp only[Bool.false_eq_true,if_false]
  refine af (o_ dm (cO (aS (.there (.there (.there .here)))) ?_))
  refine ej (n:=1) (vs:=[xm].map ay) rfl rfl tm (by omega) fun g3=>?_
  refine ah (Iz (N:=[xm]) hA hl (gP rfl) (by decide) (by decide)) (.cons (by repeat constructor) (.cons (by repeat constructor) .nil)) fun _=>?_
  refine am ?_
  refine' Gm ?_ ?_
  rotate_left
  ·intro main
   cases h4:Bm l [xm]with
   |false=>
    refine aj (aj (aj (aj (o_ ak ?_))))
    simp only[Bool.false_and,Bool.false_eq_true,if_false]
    refine bf (M:=AE::A::B::F) az ?_
    exact main
   |true=>
    refine ab (ab (ej (n:=2) (vs:=[oH,nE].map ay) rfl rfl tm (by omega) fun g4=>?_))
    refine ab (bt (cap:=[.pointer (some ⟨ge,0,none⟩)]) (sayE (N:=[oH,nE]) (gP rfl) (by decide)) (by(repeat(first|exact Picks.nil|(apply Picks.cons;(focus repeat constructor))))) fun _=>?_)
    refine am ?_
    refine ab (o_ fx (o_ av ?_))
    cases h5:j4 (gU X) [oH,nE]with
    |true=>
     simp only[Bool.not_true,Bool.and_false,Bool.false_eq_true,if_false]
     refine bf (M:=AE::A::B::F) az ?_
     exact main
    |false=>
     simp only[Bool.not_false,Bool.and_true,if_true]
     refine ai (aN (.pu trivial ?_))
     exact az
  refine af (ah (sI hB hx) (.cons (by repeat constructor) .nil) fun r=>?_)
  obtain⟨va,vc⟩:=r
  refine am ?_
  (try dsimp only)
  refine aP (by(repeat constructor):Pick _ (Sl 1 9 va vc (cz X).length ((cz X).map ay)) _) fun _ _ _ hs=>?_
  refine ah (mV (N:=cz X) (x:=[42]) (gO (e:=9) (a:=va) (cap:=vc) (by rw[List.length_map]) hs) (by omega)) (.cons (by repeat constructor) .nil) fun _=>?_
  refine am ?_
  cases h6:(cz X).contains [42]with
  |true=>
   simp only[if_true]
   refine ai (aN (.pu trivial ?_))
   exact az
  |false=>
  simp only[Bool.false_eq_true,if_false]
  refine af (ej (n:=2) (vs:=[sJ,Bq].map ay) rfl rfl tm (by omega) fun g5=>?_)
  refine ah (Iz (N:=[sJ,Bq]) hB hx (gP rfl) (by decide) (by decide)) (.cons (by repeat constructor) (.cons (by repeat constructor) .nil)) fun _=>?_
  refine am ?_
  refine aN (.pu rfl ?_)
  exact az
 intro ds z
 refine aT .here fun hz=>?_
 subst hz
 unfold xn
 cases hb:Ex m st l X with
 |true=>
  refine ai (bK () rfl ?_)
  exact az
 |false=>
 simp only[Bool.false_eq_true,if_false]
 refine af (ej (n:=2) (vs:=[nE,xl].map ay) rfl rfl tm (by omega) fun g6=>?_)
 refine bt (cap:=[.pointer (some ⟨ge,0,none⟩)]) (sayE (N:=[nE,xl]) (gP rfl) (by decide)) (by(repeat(first|exact Picks.nil|(apply Picks.cons;(focus repeat constructor))))) fun _=>?_
 refine am ?_
 cases h7:j4 (gU X) [nE,xl]with
 |true=>
  refine aC (aC (aC (o_ av (aR () ?_))))
  exact az
 |false=>
  refine ab (ab (ej (n:=3) (vs:=[pG,Br,vR].map ay) rfl rfl tm (by omega) fun g7=>?_))
  refine ab (ah (Iz (N:=[pG,Br,vR]) hB hx (gP rfl) (by decide) (by decide)) (.cons (by repeat constructor) (.cons (by repeat constructor) .nil)) fun _=>?_)
  refine am ?_
  refine o_ ak (bK () (by rw[Bool.false_or]) ?_)
  exact az
def Ey (n:Int):Int:=max 0 (min n 1099511627776)
theorem oI {P:Program}{W:World}{t e:TypeId}{s b n c:Nat}{ox oy:Operand}{a:Option Addr}[ht:SlT P t e s b]:aQ P W [] (dY .eql t ox oy (.slice a n c) (.slice none 0 0)) (.bool a.isNone):=fun w _=>by
 have:=Lib.run_eql_slice_nil (P:=P) w t e a n c 0 0 ht.ut
 simp[dY,sv,eqGuard,this]
theorem sK {W:World}{a:Option Addr}{c:Nat}{l:List Fd}{A:HP}(hA:gX W A a l)(ha:a=none->l=[])(hl:l.length<=1099511627776):
  Cn p_ 167 [.slice a l.length c] W [A] (fun q:Option Addr × Nat=> .slice q.1 l.length q.2) (fun q=>[A,Sl 2 192 q.1 q.2 l.length (l.flatMap cS)]):=by
 (refine Shp.cn (Sg.g_ Tryz.call167 Tryz.func167) fun F=>?_;simp only[ca_,na_])
 refine o_ oI ?_
 cases a with
 |none=>
  obtain rfl:=ha rfl
  refine ai (e_ (s:=2) (e:=192) ?_)
  refine bK (none,0) rfl ?_
  exact az
 |some ad=>
  refine af (rW fun g=>?_)
  refine bQ (m:=l.length) (news:=l.flatMap cS) .here (wK (s:=2) (e':=192) (by kernel_rfl) (by decide) (.there .here) hA (fun h=>by cases h) oF) (by omega) (by omega) fun a' c'=>?_
  rw[Nat.zero_add,List.nil_append]
  refine bK (a',c') rfl ?_
  exact az
theorem Bu {W:World}{a:Option Addr}{c:Nat}{l:List UInt8}{A:HP}(hA:RdB W A a l.length (l.map Sl.B))(ha:a=none->l=[])(hl:l.length<=1099511627776):
  Cn p_ 132 [.slice a l.length c] W [A] (fun q:Option Addr × Nat=> .slice q.1 l.length q.2) (fun q=>[A,Sl 1 5 q.1 q.2 l.length (l.map Sl.B)]):=by
 (refine Shp.cn (Sg.g_ Tryz.call132 Tryz.func132) fun F=>?_;simp only[ca_,na_])
 refine o_ oI ?_
 cases a with
 |none=>
  obtain rfl:=ha rfl
  refine ai (e_ (s:=1) (e:=5) ?_)
  refine bK (none,0) rfl ?_
  exact az
 |some ad=>
  refine af (rW fun g=>?_)
  refine bQ (m:=l.length) (news:=l.map Sl.B) .here (k8 (e':=5) (by kernel_rfl) (.there .here) hA (fun h=>by cases h) MW) (by omega) (by omega) fun a' c'=>?_
  rw[Nat.zero_add,List.nil_append]
  refine bK (a',c') rfl ?_
  exact az
theorem Us {W:World}{st:Int}{X:List Fd}{ax:Option Addr}{cx:Nat}{D:List UInt8}{ad:Option Addr}{cd:Nat}{A B:HP}(hA:gX W A ax X)(hax:ax=none->X=[])(hX:X.length<=1099511627776)(hB:RdB W B ad D.length (D.map Sl.B))(had:ad=none->D=[])(hD:D.length<=1099511627776):
  Cn p_ 293 [.agg #[.int .i64 st,.slice ax X.length cx,.slice ad D.length cd]] W [A,B] (fun q:(Option Addr × Nat) × (Option Addr × Nat)=> .agg #[.int .i64 st,.slice q.1.1 X.length q.1.2,.slice q.2.1 D.length q.2.2])
   (fun q=>[A,B,Sl 2 192 q.1.1 q.1.2 X.length (X.flatMap cS),Sl 1 5 q.2.1 q.2.2 D.length (D.map Sl.B)]):=by
 (refine Shp.cn (Sg.g_ Tryz.call293 Tryz.func293 (an:={drs:=[(1,.ofL [(0,3),(1,3),(2,1),(3,1),(5,3),(6,3),(4,0),(7,0),(8,1),(9,0)])]}) (os:=[(1,[(4,[6,5,1,0]),(7,[1,0])])])) fun F=>?_;simp only[ca_,na_])
 refine aX fun b1=>?_
 refine aU fun g=>?_;refine aW (aq ae .nil ?_);(((refine' aq (aS ?hc) ?hi ?_);(case hi=>exact .pick (by repeat constructor) .nil);(case hc=>repeat constructor)));refine t_ ae (cm ?_);refine aq ae .nil ?_;(((refine' aq (aS ?hc) ?hi ?_);(case hi=>exact .pick (by repeat constructor) .nil);(case hc=>repeat constructor)))
 refine ah (sK hA hax hX) (.cons (by repeat constructor) .nil) fun q=>?_
 obtain⟨q1,q2⟩:=q
 refine am ?_
 (try dsimp only)
 refine bj ?_;refine bj ?_;refine bj ?_;refine bj ?_
 refine ah (Bu hB had hD) (.cons (by repeat constructor) .nil) fun r=>?_
 obtain⟨r1,r2⟩:=r
 refine am ?_
 (try dsimp only)
 refine bj ?_;refine bj ?_;refine t_ bO ?_;(((refine' aK ?hp ?hn ?hv ?h1 ?_);(case hp=>(repeat constructor));(case hn=>rfl);(case hv=>rfl);(case h1=>simp[Value.oneCell',ay])));(((refine' be (cQ ?hn) ?hi ?_);(case hi=>exact az);(case hn=>rfl)))
 refine bK ((q1,q2),(r1,r2)) rfl ?_
 exact az
def jg:List Fd->Nat
 |[]=>0
 |f::r=>f.1.length+f.2.length+jg r
theorem ul:∀(l:List Fd) (i:Nat) (h:i<l.length),jg (l.take (i+1))=jg (l.take i)+(l[i].1.length+l[i].2.length)
 |f::r,0,_=>by simp[jg]
 |f::r,i+1,h=>by
  have:=ul r i (by simpa using h)
  simp only[List.take_succ_cons,jg,List.getElem_cons_succ]
  omega
theorem Bv (l:List Fd):jg l<=zF l:=by
 induction l with
 |nil=>exact Nat.zero_le _
 |cons f r ih=>rw[oC];unfold jg;omega
theorem Bw (l:List Fd)(i:Nat):jg (l.take i)<=jg l:=by
 induction l generalizing i with
 |nil=>simp
 |cons f r ih=>
  cases i with
  |zero=>simp[jg]
  |succ i=>have:=ih i;simp only[List.take_succ_cons,jg];omega
theorem Gt {W:World}{l:List Fd}{a:Option Addr}{c:Nat}{A:HP}(hA:gX W A a l)(hl:zF l<=1048576):
  Cn p_ 298 [.slice a l.length c] W [A] (fun _:Unit=> .int .i64 (jg l:Nat)) (fun _=>[A]):=by
 have h1:=Bv l
 have h2:=lW l
 (refine Shp.cn (Sg.g_ Tryz.call298 Tryz.func298 (an:={loops:=[(3,[3,8])]})) fun F=>?_;simp only[ca_,na_])
 refine o_ aI (cp (fun m x y=>[ex fun i:Nat=>all [pu (m+i=l.length/\x= .int .i64 (jg (l.take i):Nat)/\y= .int .i64 (i:Int)),A]]++F) l.length ?_ ?_)
 ·refine .ex 0 (.all ?_)
  refine am ?_
  refine .pu ⟨rfl,rfl,rfl⟩ ?_
  exact az
 intro m ds x y
 refine am ?_
 refine a8 Pick.here fun i=>aB Pick.here ?_
 refine am ?_
 refine aT Pick.here fun hi=>?_
 obtain⟨hmi,rfl,rfl⟩:=hi
 refine bz bD .nil (fun h=>?_) (fun h=>?_)
 ·have hin:i<l.length:=by omega
  have h3:=ul l i hin
  have h4:=Bw l (i+1)
  have h5:=Bw l i
  obtain⟨g,o,rfl⟩:=mO hA (by omega)
  refine ai (o_ (dR i rfl hin) ?_)
  refine cO (mP hA hin) ?_
  unfold vF
  refine aU fun g=>?_;(((refine' aK ?hp ?hn ?hv ?h1 ?_);(case hp=>(repeat constructor));(case hn=>rfl);(case hv=>rfl);(case h1=>simp[Value.oneCell',ay])));refine o_ ae (aH ?_)
  refine o_ bu (o_ ae (aH ?_))
  refine o_ bu (bP ?_);refine bP ?_;refine bP ?_
  refine bI (m-1) (by omega) (.ex (i+1) (.all ?_))
  refine am ?_
  refine .pu ⟨by omega,by rw[h3];norm_cast,by norm_cast⟩ ?_
  exact az
 ·have:i=l.length:=by omega
  subst this
  rw[List.take_length]
  refine af (aR () ?_)
  exact az
def eU (r:List Fd)(V:List (List UInt8)):List Fd:=r.filter fun f=>V.any fun n=>gD n f.1
theorem yO {l:List Fd}{V:List (List UInt8)}{i:Nat}(h:i<l.length):eU (l.take (i+1)) V=eU (l.take i) V++(if V.any (fun n=>gD n l[i].1)then [l[i]]else []):=by
 unfold eU
 rw[List.take_succ_eq_append_getElem h,List.filter_append]
 congr 1
 cases he:V.any (fun n=>gD n l[i].1) <;> simp[he]
theorem By (l:List Fd)(V:List (List UInt8)):(eU l V).length<=l.length:=List.length_filter_le _ _
theorem IA {W : World} {st : Int} {R X : List Fd} {ar ax : Option Addr} {cr cx : Nat} {bd : Value} [hbd : OC bd] {A B : HP} (hA : gX W A ar R) (hR : zF R ≤ 1048576) (hB : gX W B ax X) (hX : zF X ≤ 1048576) :
  Cn p_ 296 [.slice ar R.length cr, .agg #[.int .i64 st, .slice ax X.length cx, bd]] W [A, B] (fun q : Option Addr × Nat => .slice q.1 (eU R (cz X)).length q.2)
   (fun q => [A, B, Sl 2 192 q.1 q.2 (eU R (cz X)).length ((eU R (cz X)).flatMap cS)]) := by
 obtain ⟨n1, n2⟩ := mW hX
 have hok := ue (l := R) (by omega)
 have h2 := lW R
 (refine Shp.cn (Sg.g_ Tryz.call296 Tryz.func296 (an := { loops := [(4, [6, 14])] })) fun F => ?_; simp only [ca_, na_])
 refine aX fun b3 => ?_
 refine o_ ae (aH ?_)
 refine ah (sI hB hX) (.cons (by repeat constructor) .nil) fun v => ?_
 obtain ⟨va, vc⟩ := v
 refine am ?_
 (try dsimp only)
 obtain ⟨V, hV⟩ : ∃ V, V = cz X := ⟨_, rfl⟩
 rw [← hV] at n1 n2 ⊢
 refine aP (by (repeat constructor) : Pick _ (Sl 1 9 va vc V.length (V.map ay)) _) fun _ _ _ hs => ?_
 have hN : RdB W (Sl 1 9 va vc V.length (V.map ay)) va V.length (V.map ay) := gO (by rw [List.length_map]) hs
 refine o_ aI (cp (fun m x y => [ex fun i : Nat => ex fun q : Option Addr × Nat => all [pu (m + i = R.length ∧ x = .slice q.1 (eU (R.take i) V).length q.2 ∧ y = .int .i64 (i : Int)), Sl 2 192 q.1 q.2 (eU (R.take i) V).length ((eU (R.take i) V).flatMap cS), A, B, Sl 1 9 va vc V.length (V.map ay)]] ++ F) R.length ?_ ?_)
 ·refine .ex 0 (.ex (none, 0) (.all ?_))
  refine am ?_
  refine .pu ⟨rfl, rfl, rfl⟩ (bJ ?_)
  exact az
 intro m ds x y
 refine am ?_
 refine a8 Pick.here fun i => a8 Pick.here fun q => aB Pick.here ?_
 obtain ⟨qa, qc⟩ := q
 refine am ?_
 refine aT Pick.here fun hi => ?_
 obtain ⟨hmi, rfl, rfl⟩ := hi
 refine bz bD .nil (fun h => ?_) (fun h => ?_)
 ·have hin : i < R.length := by omega
  have hpt := yO (V := V) hin
  have hpl := By (R.take i) V
  have hrl : (R.take i).length ≤ R.length := by rw [List.length_take]; omega
  obtain ⟨g, o, rfl⟩ := mO hA (by omega)
  have hfo := hok.2 _ (List.getElem_mem hin)
  refine ai (o_ (dR i rfl hin) ?_)
  refine cO (mP hA hin) ?_
  unfold vF
  refine aU fun g => ?_; (((refine' aK ?hp ?hn ?hv ?h1 ?_); (case hp => (repeat constructor)); (case hn => rfl); (case hv => rfl); (case h1 => simp [Value.oneCell', ay])))
  rename Nat => b8
  refine o_ bC ?_
  refine ah (xi (NA := Sl 1 9 va vc V.length (V.map ay)) (C := pt b8 (.cells #[ay R[i].1, ay R[i].2] 192)) (cap := [.pointer (some ⟨b8, 0, none⟩)]) (n := V.length) (c := vc) (a := va) (k := 396) (v := fun j => ay (V.getD j [])) (p := fun j => gD (V.getD j []) R[i].1) (by omega) (fun hp => by obtain ⟨g, hg⟩ := hs hp; exact ⟨g, 0, hg⟩)
   (fun j g o hj hg => by
    rw [List.getD_eq_getElem?_getD, List.getElem?_eq_getElem hj]
    rw [Nat.mul_one]
    subst hg
    exact lu hN hj)
   (fun j hj => by
    have hvj := n2 _ (List.getElem_mem hj)
    rw [List.getD_eq_getElem?_getD, List.getElem?_eq_getElem hj]
    simp only [Option.getD_some]
    (refine Shp.cn (Sg.g_ Tryz.call396 Tryz.func396) fun F => ?_; simp only [ca_, na_])
    refine o_ ae (aH ?_)
    refine ah (equal (a := V[j]) (b := R[i].1) (by omega) (by omega)) .nil fun _ => ?_
    refine am ?_
    refine bK () rfl ?_
    (repeat (first | exact .refl | exact .nil | (apply Imp.pick; (focus ((repeat constructor); done))) | refine .drop ?_)))) (.cons (by repeat constructor) (.cons (by repeat constructor) .nil)) fun _ => ?_
  refine am ?_
  have hany : (List.range V.length).any (fun j => gD (V.getD j []) R[i].1) = V.any (fun n => gD n R[i].1) := sH (l := V) (q := fun n => gD n R[i].1) fun j hj => by
   rw [List.getD_eq_getElem?_getD, List.getElem?_eq_getElem hj]; rfl
  rw [hany]
  cases hc : V.any (fun n => gD n R[i].1) with
  | true =>
   rw [hc, if_pos rfl] at hpt
   refine ai (jL ?_)
   refine dS (n := 1) (vs := [vF R[i]]) rfl (by omega) rfl (by intro v hv; rw [List.mem_singleton.1 hv]; rfl) (by omega) fun gb => ?_
   refine bQ (m := 1) (news := cS R[i]) (by (repeat constructor) : Pick _ (Sl 2 192 qa qc (eU (R.take i) V).length ((eU (R.take i) V).flatMap cS)) _) (bL (s := 2) (e' := 192) (by kernel_rfl) .here (by rfl) (by intro u hu; simp [vF, Value.cells] at hu; rcases hu with rfl | rfl <;> rfl)) (by omega) (by omega) fun a' c' => ?_
   refine bP ?_
   refine bI (m - 1) (by omega) (.ex (i + 1) (.ex (a', c') (.all ?_)))
   refine am ?_
   rw [hpt, List.length_append, List.flatMap_append]
   refine .pu ⟨by omega, rfl, by norm_cast⟩ ?_
   rw [show [R[i]].flatMap cS = cS R[i] by simp]
   exact az
  | false =>
   rw [hc] at hpt
   simp only [Bool.false_eq_true, if_false, List.append_nil] at hpt
   refine af (bP ?_)
   refine bI (m - 1) (by omega) (.ex (i + 1) (.ex (qa, qc) (.all ?_)))
   refine am ?_
   rw [hpt]
   refine .pu ⟨by omega, rfl, by norm_cast⟩ ?_
   exact az
 ·have : i = R.length := by omega
  subst this
  rw [List.take_length]
  refine af (bK (qa, qc) rfl ?_)
  exact az
end Go.Proofs.YtdjkdjepjahjfaaGreatDoor.FD
namespace Go.Proofs.YtdjkdjepjahjfaaGreatDoor.Sl
open Go Go.RowKit Sh
variable {P:Program} {W:World} {L L':List HP} {Kp:PK} {k:Value->WP}
theorem IB {g h:Nat}{o o':Obj}{w:World}(H:sat W [pt g o,pt h o'] w):g≠h/\w.heap[g]? =some o/\w.heap[h]? =some o':=by
 obtain⟨b,f,⟨h1,h2,ha,⟨k1,k2,kb,_,_,t1,_⟩,d,s1,s2⟩,c⟩:=H
 have ha:h1 g=some o:=ha
 have hb:h2 h=some o':=t1 _ _ kb
 refine⟨?_,(c g _ (s1 _ _ ha)).2,(c h _ (s2 _ _ hb)).2⟩
 rintro rfl
 rcases d g with x|x
 ·rw[ha]at x;cases x
 ·rw[hb]at x;cases x
theorem PM {t e:TypeId}{j:TypeInfo}{ox oy:Operand}{a:Addr}(hp:P.underlying t=some (.pointer e))(hte:P.info? e=some j):aQ P W [] (dY .eql t ox oy (.pointer (some a)) (.pointer (some a))) (.bool true):=fun w _=>by
 have:=run_eql_ptr_same (P:=P) w (tp:=t) (te:=e) (j:=j) a hp hte
 simp[dY,sv,eqGuard,this]
theorem BA {w:World}{t e:TypeId}{j:TypeInfo}(a:Addr)(hp:P.underlying t=some (.pointer e))(hte:P.info? e=some j):(binOp .neq t (.pointer (some a)) (.pointer (some a))).run P w= .ok (.bool false) w:=by
 have h:∀d:Nat,(Op.equalIn (d+1) t (.pointer (some a)) (.pointer (some a))).run P w= .ok true w:=fun d=>by
  simp[Op.equalIn,run_underlying hp,sizeOf,typeInfo,hte,run_sameAddr_same]
 simp only[binOp]
 simp[Op.equal,Op.maxDepth,h 9999]
theorem IC {t e:TypeId}{j:TypeInfo}{ox oy:Operand}{a:Addr}(hp:P.underlying t=some (.pointer e))(hte:P.info? e=some j):aQ P W [] (dY .neq t ox oy (.pointer (some a)) (.pointer (some a))) (.bool false):=fun w _=>by
 simp[dY,sv,eqGuard,BA (P:=P) (w:=w) a hp hte]
theorem ID {t e:TypeId}{j:TypeInfo}{ox oy:Operand}{g h:Nat}{ca cb:Array Value}{ta tb:TypeId}(hp:P.underlying t=some (.pointer e))(hte:P.info? e=some j)(hsz:j.size≠0):aQ P W [pt g (.cells ca ta (0,0)),pt h (.cells cb tb (0,0))] (dY .neq t ox oy (.pointer (some ⟨g,0,none⟩)) (.pointer (some ⟨h,0,none⟩))) (.bool true):=fun w hw=>by
 obtain⟨hne,ha,hb⟩:=IB hw
 have h:∀d:Nat,(Op.equalIn (d+1) t (.pointer (some ⟨g,0,none⟩)) (.pointer (some ⟨h,0,none⟩))).run P w= .ok false w:=fun d=>by
  simp[Op.equalIn,run_underlying hp,sizeOf,typeInfo,hte,hsz,run_sameAddr_other w (a:=⟨g,0,none⟩) (b:=⟨h,0,none⟩) (by simp) ha hb]
 simp[dY,sv,eqGuard,binOp,Op.equal,Op.maxDepth,h 9999]
theorem AA {t:TypeId}{v:Value}[ht:PtrT P t]:aQ P W [] (nM t v) (.iface t v):=fun w _=>by
 simp[nM,Instr.makeInterface,run_underlying ht.ex]
theorem Gu {t a:TypeId}{v:Value}[ht:PtrT P a]:aQ P W [] (zO (.iface a v) t a true) (.tuple #[v,.bool true]):=fun w _=>by
 simp[zO,Instr.typeAssert,run_underlying ht.ex]
theorem PN {t a b:TypeId}{v z:Value}{k:IntKind}[hz:ZeroT P a z](ha:P.underlying a=some (.int k))(h:b≠a):aQ P W [] (zO (.iface b v) t a true) (.tuple #[z,.bool false]):=fun w _=>by
 simp[zO,Instr.typeAssert,run_underlying ha,h,hz.run]
def BB (v:Value):HP:=fun _ h=>v= .pointer none\/∃g cs T,v= .pointer (some ⟨g,0,none⟩)/\h g=some (.cells cs T (0,0))
theorem PO {S:WP}{g:Nat}{cs:Array Value}{T:TypeId}(p:Pick L (pt g (.cells cs T (0,0))) L')(h:aJ W (BB (.pointer (some ⟨g,0,none⟩))::L') S):aJ W L S:=
 mC p (fun _ H=> .inr ⟨g,cs,T,rfl,H⟩) h
theorem IE {S:WP}(h:aJ W (BB (.pointer none)::L) S):aJ W L S:=bf (.conv (B:=pu True) (fun _ _=> .inl rfl) (.pu trivial .refl)) h
theorem IF {t e:TypeId}{j:TypeInfo}{ox oy:Operand}{g:Nat}{ca:Array Value}{ta:TypeId}{v:Value}[ht:PtrT P t](hp:P.underlying t=some (.pointer e))(hte:P.info? e=some j)(hsz:j.size≠0):aQ P W [BB v,pt g (.cells ca ta (0,0))] (dY .neq t ox oy (.pointer (some ⟨g,0,none⟩)) v) (.bool true):=fun w hw=>by
 obtain⟨b,f,⟨h1,h2,ha,r⟩,c⟩:=hw
 rcases ha with rfl|⟨g',cs,T,rfl,ha⟩
 ·refine oY (P:=P) (W:=W) w ?_
  exact⟨b,fun _=>none,trivial,fun _ _ e=>by cases e⟩
 ·have hw':sat W [pt g' (.cells cs T (0,0)),pt g (.cells ca ta (0,0))] w:=⟨b,f,⟨h1,h2,ha,r⟩,c⟩
  exact ID hp hte hsz w (hw'.pick (.there .here))
end Go.Proofs.YtdjkdjepjahjfaaGreatDoor.Sl
namespace Go.Proofs.YtdjkdjepjahjfaaGreatDoor.TP
open Go Go.Proofs Go.RowKit Sh Sl T FD
def oJ:List UInt8:=[117,112]
def eE:List UInt8:=[47,97,112,105]
def qZ:List UInt8:=[104,101,114,101]
def dy:List Value:=[ay [47],.int .i64 3,ay [],ay [],.int .i64 0,.int .i64 0,ay [],.bool false,.int .i64 0,.int .i64 0,.int .i64 200,ay qZ]
def bX:List Value:=[ay eE,.int .i64 2,ay [],ay [],.int .i64 0,.int .i64 0,ay oJ,.bool true,.int .i64 0,.int .i64 0,.int .i64 0,ay []]
abbrev AC:=Option Addr × Nat
structure Ca where
 u:AC
 p:AC
 s:AC
 l:AC
def iT (q:Ca)(tm rt:Int):List Value:=[ay oJ,.slice q.p.1 1 q.p.2,.int .i64 tm,.int .i64 rt]
def jy (q:Ca):List Value:=[.slice none 0 0,.bool false,.slice q.l.1 2 q.l.2]
def uY (st:Nat)(q:Ca):List Value:=[.int .i64 75,.int .i64 65536,.int .i64 (st:Int),.int .i64 1000,.slice q.u.1 1 q.u.2,.slice q.s.1 1 q.s.2]
def eJ (q:Ca)(tm rt:Int):HP:=all [Sl 4 145 q.u.1 q.u.2 1 (iT q tm rt),Sl 2 315 q.p.1 q.p.2 1 [.int .i64 1,.int .i64 64],Sl 3 200 q.s.1 q.s.2 1 (jy q),Sl 12 101 q.l.1 q.l.2 2 (dy++bX)]
def sL (g:Nat):Value:= .iface 281 (pC g)
def um (nu:Int)(t:List UInt8)(f:AC)(ans:Value):List Value:=[.int .i64 nu,ay cU,ay t,.int .i64 1,.slice f.1 1 f.2,.bool true,ans]
def yP (nu:Int)(t:List UInt8)(f g:AC):List Value:=[.int .i64 nu,ay cU,ay t,.int .i64 1,.slice f.1 1 f.2,.slice g.1 0 g.2]
def ed (g:Nat)(nu:Int)(t:List UInt8)(f:AC)(ans:Value):HP:=pt g (.cells (um nu t f ans).toArray 302)
def mX (f:AC):HP:=Sl 2 192 f.1 f.2 1 (fH.flatMap cS)
def nQ (r:AC)(ps:List Nat):HP:=jr 1 279 r.1 r.2 ps.length (ps.map sL)
theorem vS {W:World}{c:Nat}{bo ke ck si ln nu:Int}{rd bg:Bool}{nx hd rr q0 q1 q2 q3 got ev row out:Value}:aQ p_ W [pt c (.cells #[.int .i64 bo,.int .i64 ke,.int .i64 ck,.int .i64 si,.bool rd,.bool bg,nx,hd,rr,.int .i64 ln,q0,q1,q2,q3,got,ev,row,.int .i64 nu,out] 175)] (aG 94 (.pointer (some ⟨c,10,none⟩))) (.agg #[q0,q1,q2,q3]):=
 iO (n:=4) (o:=10) (vs:=[q0,q1,q2,q3]) rfl fun i hi=>by
  rcases(show i=0\/i=1\/i=2\/i=3 by omega)with rfl|rfl|rfl|rfl <;> rfl
structure Rq where
 f:AC
 g:AC
 e:AC
 r:AC
 a:Nat
def CnS.rq (s:CnS)(c n:Nat)(x:Rq):CnS:={s with nx:=Il c,bg:=false,si:=s.ck,rd:=true,nu:=s.nu+1,got:= .slice x.g.1 0 x.g.2,ev:= .slice x.e.1 1 x.e.2,row:= .slice x.r.1 (n+1) x.r.2}
def ME (nu:Int)(t:List UInt8)(f:AC)(ps:List Nat)(x:Rq):List HP:=[mX f,mX x.f,Sl 6 96 x.e.1 x.e.2 1 (yP nu t x.f x.g),nQ x.r (ps++[x.a]),ed x.a nu t f (.pointer none)]
def PP (s:CnS)(t:List UInt8)(f g r:AC)(n:Nat):Prop:=s.q0=ay cU/\s.q1=ay t/\s.q2= .int .i64 1/\s.q3= .slice f.1 1 f.2/\s.got= .slice g.1 0 g.2/\s.ev= .slice none 0 0/\s.row= .slice r.1 n r.2/\n<63/\0<=s.nu/\s.nu<=1000000
theorem BC {W:World}{c:Nat}{s:CnS}{t:List UInt8}{f g r:AC}{ps:List Nat}(h:PP s t f g r ps.length):
  Cn p_ 347 [pC c] W [cD c s,mX f,nQ r ps] (fun _:Rq=> .tuple #[]) (fun x=>cD c (s.rq c ps.length {x with g:=g})::ME s.nu t f ps {x with g:=g}):=by
 (refine Shp.cn (Sg.g_ Tryz.call347 Tryz.func347 (an:={drs:=[(2,.ofL [(0,2),(1,2),(2,3),(3,3),(4,3),(5,1),(6,1),(7,1),(8,1),(9,1),(10,1),(11,1),(12,1),(13,1),(14,1),(15,0),(16,0),(17,1),(18,1),(19,0)]),(3,.ofL [(0,2),(1,3),(2,3),(3,3),(4,2),(5,3),(6,3),(7,3),(8,1),(9,1),(10,1),(11,1),(12,0),(13,1),(14,0),(15,1)])]}) (os:=[(2,[(15,[4,3,2])]),(3,[(12,[7,6,5,3,2,1])])])) fun F=>?_;simp only[ca_,na_])
 cases s
 rename_i bo ke ck si rd bg nx hd rr ln q0 q1 q2 q3 got ev row nu out
 obtain⟨h0,h1,h2,h3,h4,h5,h6,h7,h8,h9⟩:=h
 (try dsimp only at *)
 subst h0 h1 h2 h3 h4 h5 h6
 obtain⟨fa,fc⟩:=f
 obtain⟨ga,gc⟩:=g
 obtain⟨ra,rc⟩:=r
 unfold mX nQ
 (try dsimp only)
 refine aP (by(repeat constructor):Pick _ (Sl 2 192 fa fc 1 (fH.flatMap cS)) _) fun _ _ _ hs=>?_
 have hA:gX W (Sl 2 192 fa fc 1 (fH.flatMap cS)) fa fH:=cJ (l:=fH) hs
 have hfa:fa=none->fH=[]:=by
  rintro rfl
  obtain⟨g,hg⟩:=hs (by decide)
  cases hg
 (unfold cD oB;(try dsimp only))
 refine o_ ag (o_ ae (aE vS az ?_))
 refine aU fun g=>?_;(((refine' aK ?hp ?hn ?hv ?h1 ?_);(case hp=>(repeat constructor));(case hn=>rfl);(case hv=>rfl);(case h1=>simp[Value.oneCell',ay])));refine o_ ae (aH ?_)
 refine' ah (sK (c:=fc) hA hfa (by decide)) ?hp fun q=>?_
 case hp=>(repeat(first|exact Picks.nil|(apply Picks.cons;(focus repeat constructor))))
 obtain⟨qa,qc⟩:=q
 rw[show fH.length=1 from rfl]
 refine am ?_
 (try dsimp only)
 refine o_ ae (bR ?_);refine aW (aq ag .nil ?_);refine aq ae .nil ?_;(((refine' aq (aS ?hc) ?hi ?_);(case hi=>exact .pick (by repeat constructor) .nil);(case hc=>repeat constructor)));refine t_ ag (t_ ae (cm ?_));(((refine' be (bN ?hn) ?hi ?_);(case hi=>exact .pick (by repeat constructor) .nil);(case hn=>rfl)));refine t_ ag (t_ ae (cm ?_));refine t_ bO ?_
 refine dS (n:=1) (vs:=[.agg #[.int .i64 nu,ay cU,ay t,.int .i64 1,.slice qa 1 qc,.slice ga 0 gc]]) rfl (by decide) rfl (by intro v hv;rw[List.mem_singleton.1 hv];rfl) (by decide) fun gb=>?_
 refine cB (aN az) (cB (aN az) (cB (aN az) ?_))
 refine e_ (s:=6) (e:=96) ?_
 refine bQ (m:=1) (news:=yP nu t (qa,qc) (ga,gc)) .here (bL (s:=6) (e':=96) (by kernel_rfl) (by(repeat constructor):Pick _ (pt gb _) _) (by rfl) (by intro u hu;simp[yP,Value.cells]at hu;rcases hu with rfl|rfl|rfl|rfl|rfl|rfl <;> rfl)) (by decide) (by decide) fun ea ec=>?_
 rw[Nat.zero_add,List.nil_append]
 refine t_ ag (t_ ae (bR ?_));refine aW (aq ag .nil ?_);refine aq ae .nil ?_;(((refine' aq (aS ?hc) ?hi ?_);(case hi=>exact .pick (by repeat constructor) .nil);(case hc=>repeat constructor)));refine aq ag .nil ?_;refine aq ae .nil ?_
 refine aq vS az ?_
 refine t_ ag (t_ ae (be vS az ?_))
 refine' ah (A_ (c:=fc) hA pD Is) ?hp fun _=>?_
 case hp=>(repeat(first|exact Picks.nil|(apply Picks.cons;(focus repeat constructor))))
 refine am ?_
 refine cB (aN az) (cB (aN az) (cB (aN az) (cB (aN az) (cB (aN az) (cB (aN az) ?_)))))
 refine t_ bO ?_;refine aX fun g=>?_;refine o_ ag (o_ ae (aH ?_))
 rename Nat=>G
 refine o_ AA ?_
 refine ej (vs:=[sL G]) rfl rfl (by intro v hv;rw[List.mem_singleton.1 hv];rfl) (by decide) fun gr=>?_
 refine pj (m:=1) (news:=[sL G]) (by(repeat constructor):Pick _ (jr 1 279 ra rc ps.length _) _) (bL (s:=1) (e':=279) (by kernel_rfl) (by(repeat constructor):Pick _ (pt gr _) _) (by rfl) (by intro u hu;rw[List.mem_singleton.1 hu];rfl)) (by omega) (by omega) fun ra' rc'=>?_
 refine o_ ag (o_ ae (bR ?_));refine o_ ag (o_ ae (aH ?_));refine bP ?_;refine o_ ag (o_ ae (bR ?_));refine o_ bC (o_ ag (o_ ae (aH ?_)));refine o_ ag (o_ ae (bR ?_));refine o_ ag (o_ ae (bR ?_));refine o_ ag (o_ ae (bR ?_));refine o_ ag (o_ ae (aH ?_));refine o_ ag (o_ ae (bR ?_));refine o_ ag (o_ ae (aH ?_));refine ab (ab (o_ ag (ab (o_ ae (ab (aH ?_))))));refine ab (o_ aI (ab ?_));(((refine o_ (Sl.bA ?hcq) ?_);(case hcq=>(first|omega|(simp only[List.length_nil,List.length_cons];omega)))));refine o_ av (af (aR ((⟨(qa,qc),(ga,gc),(ea,ec),(ra',rc'),G⟩:Rq)) ?_))
 unfold ME mX nQ ed um CnS.rq
 rw[show(ps++[G]).length=ps.length+1 by simp,List.map_append]
 (try dsimp only)
 exact az
def Ut (g:Nat)(bo:Int):HP:=pt g (.cells (jx 0 0 bo 0 (none,0) 0 true).toArray 234)
theorem Ez {W:World}{c R:Nat}{s:CnS}{t:List UInt8}{f r:AC}{ps:List Nat}{a:Option Addr}{cap:Nat}(hr:s.rr=pC R)(h:PP s t f (none,0) r ps.length)(hb:0<=s.bo):
  Cn p_ 238 [pC c,.slice a 0 cap] W [cD c s,Iu R s.bo,mX f,nQ r ps] (fun x:AC × Rq=> .slice x.1.1 0 x.1.2) (fun x=>cD c (s.rq c ps.length x.2)::Ut R s.bo::ME s.nu t f ps x.2):=by
 (refine Shp.cn (Sg.g_ Tryz.call238 Tryz.func238) fun F=>?_;simp only[ca_,na_])
 cases s
 rename_i bo ke ck si rd bg nx hd rr ln q0 q1 q2 q3 got ev row nu out
 obtain⟨h0,h1,h2,h3,h4,h5,h6,h7,h8,h9⟩:=h
 (try dsimp only at *)
 subst h0 h1 h2 h3 h4 h5 h6 hr
 unfold Iu
 (unfold cD oB;(try dsimp only))
 refine o_ ag (o_ ae (aH ?_))
 refine' ah (Ih (G:=R) (most:=bo) hb) ?hp fun _=>?_
 case hp=>(repeat(first|exact Picks.nil|(apply Picks.cons;(focus repeat constructor))))
 refine am ?_
 refine bE ?_;refine bE ?_;refine bE ?_;refine bE ?_;refine o_ ag (o_ ae (aH ?_))
 refine e_ (s:=1) (e:=5) (e_ (s:=1) (e:=5) ?_)
 refine bQ (m:=0) (news:=[]) .here (oZ (s:=1) (e':=5) (by kernel_rfl) (.there .here:Pick _ (Sl 1 5 none 0 0 []) _) (by simp)) (by decide) (by decide) fun ga gc=>?_
 refine o_ ag (o_ ae (bR ?_));(((refine o_ (Sl.bA ?hcq) ?_);(case hcq=>(first|omega|(simp only[List.length_nil,List.length_cons];omega)))));refine af ?_;(((refine o_ (Sl.cq ?hcq) ?_);(case hcq=>(first|omega|(simp only[List.length_nil,List.length_cons];omega)))));refine af (ai (iv (by repeat constructor) ?_))
 refine' ah (BC (c:=c) (t:=t) (f:=f) (g:=(ga,gc)) (r:=r) (ps:=ps) ?hq) ?hp fun x=>?_
 case hp=>(repeat(first|exact Picks.nil|(apply Picks.cons;(focus repeat constructor))))
 case hq=>exact⟨rfl,rfl,rfl,rfl,rfl,rfl,rfl,h7,h8,h9⟩
 refine am ?_
 refine o_ (jK 0 rfl (Nat.le_refl _)) ?_
 refine aR (((_,_),{x with g:=(ga,gc)})) ?_
 unfold Ut
 (try dsimp only)
 exact az
theorem PQ {W:World}{L:List HP}{b2 b4:Nat}{Kret:WP}{Kp:PK}(h:aJ W L Kret):aJ W L (dfS p_ {target:= .fn (.func 144) #[.pointer (some ⟨b2,0,none⟩),.pointer (some ⟨b4,0,none⟩)],args:=#[]++ #[]} .returning Kret Kp):=by
 refine tz (f:=144) (A:=[.pointer (some ⟨b2,0,none⟩),.pointer (some ⟨b4,0,none⟩)]) (shape:=fun rv=>S.er (.pointer (some ⟨b2,0,none⟩)) (.pointer (some ⟨b4,0,none⟩)) rv) (fun c=>by cases c) ⟨_,_,rfl⟩ (fX (cs:=[.pointer (some ⟨b2,0,none⟩),.pointer (some ⟨b4,0,none⟩)]) (bs:=[]) Tryz.call144) (fun h=>S.k_ h) ?_
 unfold S.er
 rw[oe,rT]
 refine o_ (ku (by kernel_rfl)) ?_
 exact af h
def CnS.took (s:CnS)(c n:Nat)(t:List UInt8)(H R:Nat)(f:AC)(x:Rq):CnS:={s with nx:=Il c,hd:=pC H,rr:=pC R,ln:=0,q0:=ay cU,q1:=ay t,q2:= .int .i64 1,q3:= .slice f.1 1 f.2,got:= .slice x.g.1 0 x.g.2,ev:= .slice x.e.1 1 x.e.2,row:= .slice x.r.1 (n+1) x.r.2,rd:=true,bg:=false,si:=s.ck,nu:=s.nu+1}
theorem PR {W:World}[hG:Gl W]{c H:Nat}{s:CnS}{b t:List UInt8}{r:AC}{ps:List Nat}{a:Option Addr}{cap:Nat}{A:HP}(hA:RdB W A a b.length (b.map Sl.B))(hr:PF b t)(hcap:b.length<=cap)(hn:s.nx=Il c)(hh:s.hd=pC H)(hrd:s.rd=true)(hev:s.ev= .slice none 0 0)(hrow:s.row= .slice r.1 ps.length r.2)(hp:ps.length<63)(hu0:0<=s.nu)(hu:s.nu<=1000000)(hb0:0<=s.bo)(hb:s.bo<=1048576):
  Cn p_ 78 [pC c,.slice a b.length cap] W [cD c s,BB s.rr,cV H (ef false),A,nQ r ps] (fun x:AC × (Nat × Nat × AC × Rq)=> .slice x.1.1 0 x.1.2)
   (fun x=>cD c (s.took c ps.length t x.2.1 x.2.2.1 x.2.2.2.1 x.2.2.2.2)::cV x.2.1 (ef false)::BB (pC x.2.2.1)::A::ME s.nu t x.2.2.2.1 ps x.2.2.2.2):=by
 (refine S.mI.cn fun F=>?_;unfold S.jS;simp only[ca_,na_])
 cases s
 rename_i bo ke ck si rd bg nx hd rr ln q0 q1 q2 q3 got ev row nu out
 (try dsimp only at *)
 subst hn hh hrd hev hrow
 (unfold cD oB;(try dsimp only))
 refine b_ fun g=>?_;refine de fun g=>?_;refine o_ bC (k7 ?_)
 refine aH ?_;refine o_ ag (o_ ae (aH ?_));refine aH ?_;refine o_ ag (o_ ae (aH ?_))
 refine iv (by repeat constructor) ?_
 refine' dW (first:=[pC c]) (args:=[.slice a b.length cap]) (cap:=[]) (Iy (c:=c) (H:=H) (t:=t) hA hr hcap ?hc1 ?hc2 ?hc3) ?hp fun x=>?_
 case hp=>(repeat(first|exact Picks.nil|(apply Picks.cons;(focus repeat constructor))))
 case hc1=>rfl
 case hc2=>exact hb0
 case hc3=>exact hb
 obtain⟨⟨xa,xc⟩,b1,s1,H2,R,f⟩:=x
 unfold Iu
 refine am ?_
 (try dsimp only)
 (unfold cD oB;(try dsimp only))
 refine bR ?_;refine aH ?_;refine o_ ag (o_ ae (aH ?_))
 refine aE (IF (t:=120) (e:=234) (j:=Tryz.t234) (by kernel_rfl) (by kernel_rfl) (by decide+kernel)) az ?_
 refine ab (aH ?_);refine ab (o_ ag (ab (o_ ae (ab (aH ?_)))));refine o_ av (ai (aW (cm ?_)));refine t_ ag (t_ ae (cm ?_));refine cm ?_
 refine iv (by repeat constructor) ?_
 refine' dW (first:=[pC c]) (args:=[.slice xa 0 xc]) (cap:=[]) (Ez (c:=c) (R:=R) (t:=t) (f:=f) (r:=r) (ps:=ps) ?hc1 ?hc2 ?hc3) ?hp fun y=>?_
 case hp=>unfold Iu;(repeat(first|exact Picks.nil|(apply Picks.cons;(focus repeat constructor))))
 case hc1=>rfl
 case hc2=>exact⟨rfl,rfl,rfl,rfl,rfl,rfl,rfl,hp,hu0,hu⟩
 case hc3=>exact hb0
 obtain⟨⟨ya,yc⟩,y⟩:=y
 refine am ?_
 (try dsimp only)
 refine bR ?_;refine aH ?_;refine bR ?_
 refine PQ ?_
 unfold S.aF
 (((refine' be (cX ?hc) ?hi ?_);(case hi=>exact az);(case hc=>repeat constructor)))
 unfold Ut
 refine PO (by(repeat constructor):Pick _ (pt R _) _) ?_
 refine aR (((ya,yc),H2,R,f,y)) ?_
 unfold CnS.took CnS.rq
 (try dsimp only)
 exact az
theorem IG {W:World}{g:Nat}{nu:Int}{t:List UInt8}{f:AC}{p:Option Addr}:Cn p_ 608 [pC g] W [ed g nu t f (.pointer p)] (fun _:Unit=> .bool p.isNone) (fun _=>[ed g nu t f (.pointer p)]):=by
 (refine Shp.cn (Sg.g_ Tryz.call608 Tryz.func608) fun F=>?_;simp only[ca_,na_])
 unfold ed um
 refine o_ ag (o_ ae (aH ?_))
 refine o_ rS ?_
 refine aR () ?_
 exact .refl
theorem xo {W:World}{L L':List HP}{Kp:PK}{k:Value->WP}{g:Nat}{nu:Int}{t:List UInt8}{f:AC}{p:Option Addr}(h:Pick L (ed g nu t f (.pointer p)) L')(hk:aJ W (ed g nu t f (.pointer p)::L') (k (.bool p.isNone))):aJ W L (opN p_ (zQ (sL g) "gatehouse/conn.waits" []) Kp k):=
 Gg (f:=608) (fun w=>by kernel_rfl) IG (.cons h .nil) fun _=>by refine am ?_;exact hk
def IH:List UInt8:=[75,101,101,112,45,65,108,105,118,101]
def EA (X:List FD.Fd)(D:List UInt8):List FD.Fd:=dx (dx X [mS,Ep,IH]) [pz]++[(pz,eg D.length)]
def un (X:List FD.Fd)(D:List UInt8)(x d:AC):List Value:=[.int .i64 200,.slice x.1 X.length x.2,.slice d.1 D.length d.2]
def xp (g:Nat)(X:List FD.Fd)(D:List UInt8)(x d:AC):HP:=pt g (.cells (un X D x d).toArray 48)
theorem pH {X:List FD.Fd}(N:List (List UInt8))(h:qS X):qS (dx X N):=⟨Nat.le_trans (lV X N) h.1,fun f hf=>h.2 f (List.mem_filter.1 hf).1⟩
theorem II {W:World}{L:List HP}{k:Value->WP}{Kp:PK}(N:List (List UInt8)){n:Nat}{ps:List (Nat × Value)}(hn:N.length=n)(hp:ps=(N.map ay).zipIdx.map fun x=>(x.2,x.1))(hm:n<=100)(h:∀g,aJ W (pt g (.cells (N.map ay).toArray 9)::L) (k (.slice (some ⟨g,0,none⟩) n n))):aJ W L (opN p_ (co 33 n ps) Kp k):=
 ej (vs:=N.map ay) (by rw[List.length_map];exact hn) hp (by intro v hv;obtain⟨c,_,rfl⟩:=List.mem_map.1 hv;rfl) (by omega) h
theorem BD {W:World}{L L':List HP}{k:Value->WP}{Kp:PK}{X:List FD.Fd}{a:Option Addr}{c:Nat}{n v:List UInt8}(p:Pick L (Sl 2 192 a c X.length (X.flatMap cS)) L')(hX:X.length<=4194304)(h:∀a' c',aJ W (Sl 2 192 a' c' (X++[(n,v)]).length ((X++[(n,v)]).flatMap cS)::L') (k (.slice a' (X++[(n,v)]).length c'))):
  aJ W L (opN p_ (co 46 1 [(0,.agg #[ay n,ay v])]) Kp fun y=>opN p_ (ju #[46,46] 46 [.slice a X.length c,y]) Kp k):=by
 refine dS (n:=1) (vs:=[.agg #[ay n,ay v]]) rfl (by decide) rfl (by intro v hv;rw[List.mem_singleton.1 hv];rfl) (by decide) fun g=>?_
 refine bQ (m:=1) (news:=[ay n,ay v]) (.there p) (bL (s:=2) (e':=192) (by kernel_rfl) .here (by rfl) (by intro u hu;simp[Value.cells]at hu;rcases hu with rfl|rfl <;> rfl)) (by omega) (by omega) fun a' c'=>?_
 have e1:(X++[(n,v)]).length=X.length+1:=by simp
 have e2:(X++[(n,v)]).flatMap cS=X.flatMap cS++[ay n,ay v]:=by simp[cS]
 rw[<- e1,<- e2]
 exact bf (.pick .here (.drop .refl)) (h a' c')
def q4 (o:AC)(O:List UInt8):HP:=jr 1 5 o.1 o.2 O.length (O.map Sl.B)
theorem EB {W:World}{c:Nat}{s:CnS}{f:Fn}{a b:Array Value}(hn:s.nx= .func f a b):Cn p_ 46 [pC c] W [cD c s] (fun _:Unit=>s.out) (fun _=>[cD c {s with out:= .slice none 0 0}]):=by
 (refine Shp.cn (Sg.g_ Tryz.call46 Tryz.func46) fun F=>?_;simp only[ca_,na_])
 refine' ah (t6 (c:=c) hn) ?hp fun _=>?_
 case hp=>(repeat(first|exact Picks.nil|(apply Picks.cons;(focus repeat constructor))))
 refine am ?_
 cases s
 (unfold cD oB;(try dsimp only))
 refine af (o_ ag (o_ ae (aH ?_)));refine o_ ag (o_ ae (bR ?_))
 refine aR () ?_
 exact az
theorem EC {W:World}{c:Nat}{s:CnS}{f:Fn}{a b:Array Value}(hn:s.nx= .func f a b)(hr:s.rd=true):Cn p_ 29 [pC c] W [cD c s] (fun _:Unit=> .bool false) (fun _=>[cD c s]):=by
 (refine Shp.cn (Sg.g_ Tryz.call29 Tryz.func29) fun F=>?_;simp only[ca_,na_])
 refine' ah (t6 (c:=c) hn) ?hp fun _=>?_
 case hp=>(repeat(first|exact Picks.nil|(apply Picks.cons;(focus repeat constructor))))
 refine am ?_
 cases s
 (try dsimp only at *)
 subst hr
 (unfold cD oB;(try dsimp only))
 refine ab (ab (o_ ag (ab (o_ ae (ab (aH ?_))))));refine ab (o_ bB (ab (aj (aj (aj (aj (aj (aj (ab (o_ ak (o_ ak (aR () ?_))))))))))))
 exact az
end Go.Proofs.YtdjkdjepjahjfaaGreatDoor.TP
namespace Go.Proofs.YtdjkdjepjahjfaaGreatDoor.Sl
open Go Go.RowKit Sh
variable {P:Program} {W:World} {L L':List HP} {Kp:PK} {k:Value->WP}
def eW (n:Int):Value:= .int .i64 n
theorem ED {kt:TypeId}(hk:P.underlying kt=some (.int .i64)):KeyLaw P kt eW where
 check:=fun b k w=>MapKept.run_checkKey (n:=9999) (d:= .int .i64) hk (by simp[MapKept.IsKey,eW]) b
 eq:=fun k k' w=>by
  unfold eW Op.equal Op.maxDepth
  have:=run_equalIn_int (P:=P) w 9999 kt .i64 .i64 k k' hk
  rw[this]
  by_cases h:k=k' <;> simp[h]
 now:=⟨.int .i64,hk,fun k k'=> .inr (by
  by_cases h:k=k' <;> simp[Instr.sameNow,eW,h])⟩
 same:=fun k=>by simp[Instr.sameBits,eW]
variable {κ:Type} [DecidableEq κ] {enc:κ->Value} {t kt:TypeId}
def nR (q:κ)(m:List (κ × Value)):List (κ × Value):=match gW q m 0 with
 |some (i,_)=>m.eraseIdx i
 |none=>m
theorem xq (q:κ):∀(m:List (κ × Value)) (i j:Nat) (v:Value),gW q m i=some (j,v)->i<=j/\m[j-i]? =some (q,v)
 |[],i,j,v,h=>by simp[gW]at h
 |p::m,i,j,v,h=>by
  unfold gW at h
  by_cases c:q=p.1
  ·rw[if_pos c]at h
   simp at h
   obtain⟨rfl,rfl⟩:=h
   simp[c]
  ·rw[if_neg c]at h
   obtain⟨h1,h2⟩:=xq q m (i+1) j v h
   refine⟨by omega,?_⟩
   rw[show j-i=(j-(i+1))+1 by omega];simpa using h2
theorem uo (q:κ):∀(m:List (κ × Value)) (i:Nat),gW q m i=none↔q∉m.map (·.1)
 |[],i=>by simp[gW]
 |p::m,i=>by
  unfold gW
  by_cases c:q=p.1
  ·rw[if_pos c];simp[c]
  ·rw[if_neg c,uo q m (i+1)];simp[c]
theorem q5 (q:κ):∀(m:List (κ × Value)) (i j:Nat),(gW q m i).map (·.2)=(gW q m j).map (·.2)
 |[],i,j=>rfl
 |p::m,i,j=>by
  unfold gW
  split
  ·rfl
  ·exact q5 q m (i+1) (j+1)
theorem mY (q:κ)(p:κ × Value)(m:List (κ × Value)):i_ q (p::m)=if q=p.1 then some p.2 else i_ q m:=by
 unfold i_
 rw[gW]
 split
 ·rfl
 ·exact q5 q m 1 0
theorem yQ {q:κ}{m:List (κ × Value)}:i_ q m=none↔q∉m.map (·.1):=by
 unfold i_
 rw[Option.map_eq_none_iff,uo]
theorem q6 (q:κ)(p:κ × Value)(m:List (κ × Value)):nR q (p::m)=if q=p.1 then m else p::nR q m:=by
 unfold nR
 rw[gW]
 by_cases c:q=p.1
 ·simp[c]
 ·rw[if_neg c,if_neg c]
  have key:∀(m:List (κ × Value)) (i:Nat),(match gW q m (i+1)with|some (j,_)=>(p::m).eraseIdx (j-i)|none=>p::m)=p::(match gW q m i with|some (j,_)=>m.eraseIdx (j-i)|none=>m):=by
   intro m
   have sh:∀(m:List (κ × Value)) (i:Nat),gW q m (i+1)=(gW q m i).map fun x=>(x.1+1,x.2):=by
    intro m
    induction m with
    |nil=>intro i;rfl
    |cons p m ih=>
     intro i
     unfold gW
     split
     ·rfl
     ·exact ih (i+1)
   intro i
   rw[sh]
   cases hf:gW q m i with
   |none=>rfl
   |some x=>
    obtain⟨j,v⟩:=x
    have:=(xq q m i j v hf).1
    simp only[Option.map_some]
    rw[show j+1-i=(j-i)+1 by omega];rfl
  have:=key m 0
  simpa using this
theorem q7 (q:κ):∀m:List (κ × Value),((nR q m).map (·.1)).Sublist (m.map (·.1))
 |[]=>by simp[nR,gW]
 |p::m=>by
  rw[q6]
  split
  ·rw[List.map_cons];exact List.sublist_cons_self _ _
  ·rw[List.map_cons,List.map_cons];exact(q7 q m).cons_cons _
theorem q8 (q q':κ):∀m:List (κ × Value),(m.map (·.1)).Nodup->i_ q' (nR q m)=if q'=q then none else i_ q' m
 |[],_=>by simp[nR,gW,i_]
 |p::m,h=>by
  rw[List.map_cons,List.nodup_cons]at h
  have ih:=q8 q q' m h.2
  rw[q6]
  by_cases c:q=p.1
  ·rw[if_pos c,mY]
   by_cases d:q'=q
   ·rw[if_pos d,d,c]
    exact yQ.2 h.1
   ·rw[if_neg d,if_neg (by rw[<- c];exact d)]
  ·rw[if_neg c,mY,mY,ih]
   by_cases d:q'=p.1
   ·rw[if_pos d,if_neg (by rw[d];exact fun e=>c e.symm),if_pos d]
   ·rw[if_neg d,if_neg d]
theorem q9 (q:κ)(v:Value):∀m:List (κ × Value),(m.map (·.1)).Nodup->((k9 q v m).map (·.1)).Nodup/\∀x,x∈(k9 q v m).map (·.1)->x=q\/x∈m.map (·.1)
 |[],_=>by simp[k9]
 |p::m,h=>by
  rw[List.map_cons,List.nodup_cons]at h
  have ih:=q9 q v m h.2
  unfold k9
  by_cases c:q=p.1
  ·rw[if_pos c]
   refine⟨by rw[List.map_cons,List.nodup_cons];exact h,fun x hx=> .inr hx⟩
  ·rw[if_neg c]
   refine⟨?_,fun x hx=>?_⟩
   ·rw[List.map_cons,List.nodup_cons]
    refine⟨fun hx=>?_,ih.1⟩
    rcases ih.2 _ hx with e|e
    ·exact c e.symm
    ·exact h.1 e
   ·rw[List.map_cons,List.mem_cons]at hx
    rcases hx with e|e
    ·exact .inr (by rw[List.map_cons,e];exact List.mem_cons_self ..)
    ·rcases ih.2 _ e with e|e
     ·exact .inl e
     ·exact .inr (by rw[List.map_cons];exact List.mem_cons_of_mem _ e)
theorem kz {α β:Type}(f:α->β):∀(l:List α) (i:Nat),(l.eraseIdx i).map f=(l.map f).eraseIdx i
 |[],_=>by simp
 |x::l,0=>by simp
 |x::l,i+1=>by simp[kz f l i]
theorem Ents.del {es:Array MapEntry}{c i:Nat}{m:List (κ × Value)}(h:Ents enc es c m):Ents enc (es.eraseIdxIfInBounds i) c (m.eraseIdx i):=by
 have e0:(es.eraseIdxIfInBounds i).toList=es.toList.eraseIdx i:=by
  unfold Array.eraseIdxIfInBounds
  split
  ·simp
  ·rw[List.eraseIdx_of_length_le];simpa using Nat.le_of_not_lt ‹_›
 refine⟨?_,?_,?_⟩
 ·rw[e0,kz,kz,h.kvs]
 ·intro e he
  rw[e0]at he
  exact h.born e (List.mem_of_mem_eraseIdx he)
 ·rw[e0,kz]
  exact h.nodup.sublist (List.eraseIdx_sublist _ _)
theorem BF {e ty:TypeId}{g:Nat}{m:List (κ × Value)}{q:κ}{kt':TypeId}[ht:MapT P t kt e](K:KeyLaw P kt enc)(p:Pick L (jo g enc m) L')(h:aJ W (jo g enc (nR q m)::L') (k (.tuple #[]))):aJ W L (opN P (tj #[t,kt'] ty [.map (some g),enc q]) Kp k):=fun w hw=>by
 obtain⟨es,c,he,hp⟩:=oq (hw.pick p)
 have hg:=hp.pt_.1
 have hf:=ie K q w he.kvs
 refine⟨?_⟩
 cases hq:gW q m 0 with
 |none=>
  have:(tj #[t,kt'] ty [.map (some g),enc q]).run P w= .ok (.value (.tuple #[])) {w with heap:=w.heap.setIfInBounds g (.map es c)}:=by
   simp[tj,Builtin.delete_,run_underlying ht.ut,MapKept.run_getObj_map hg,K.check,hf,hq,Result.andThen,MapKept.run_setObj_map _ hg]
  rw[this]
  refine h _ (jQ ?_ (hp.putObj _))
  rw[show nR q m=m by simp[nR,hq]];exact he
 |some r=>
  obtain⟨i,u⟩:=r
  have:(tj #[t,kt'] ty [.map (some g),enc q]).run P w= .ok (.value (.tuple #[])) {w with heap:=w.heap.setIfInBounds g (.map (es.eraseIdxIfInBounds i) c)}:=by
   simp[tj,Builtin.delete_,run_underlying ht.ut,MapKept.run_getObj_map hg,K.check,hf,hq,Result.andThen,MapKept.run_setObj_map _ hg]
  rw[this]
  refine h _ (jQ ?_ (hp.putObj _))
  rw[show nR q m=m.eraseIdx i by simp[nR,hq]];exact he.del
def bH (g:Nat)(enc:κ->Value)(f:κ->Option Value):HP:=ex fun m=>all [pu ((m.map (·.1)).Nodup/\∀q,i_ q m=f q),jo g enc m]
def dE (f:κ->Option Value)(q:κ)(v:Option Value):κ->Option Value:=fun x=>if x=q then v else f x
theorem BG {g:Nat}{f:κ->Option Value}{S:WP}(p:Pick L (bH g enc f) L')(h:∀m,(m.map (·.1)).Nodup->(∀q,i_ q m=f q)->aJ W (jo g enc m::L') S):aJ W L S:=by
 refine a8 p fun m=>aB .here ?_
 refine aT .here fun hm=>h m hm.1 hm.2
theorem pI {g:Nat}{f:κ->Option Value}{M:List HP}{m:List (κ × Value)}(p:Pick L (jo g enc m) L')(h1:(m.map (·.1)).Nodup)(h2:∀q,i_ q m=f q)(h:Imp W L' M):Imp W L (bH g enc f::M):=
 .ex m (.all (.pu ⟨h1,h2⟩ (.pick p h)))
theorem gE {e:TypeId}{z:Value}{g:Nat}{f:κ->Option Value}{q:κ}[ht:MapT P t kt e][hz:ZeroT P e z](K:KeyLaw P kt enc)(p:Pick L (bH g enc f) L')(h:aJ W (bH g enc f::L') (k ((f q).getD z))):aJ W L (opN P (iE t (.map (some g)) (enc q) false) Kp k):=
 BG p fun m h1 h2=>aE (vv K) (.pick .here .nil) (bf (pI .here h1 h2 .refl) (by rw[h2];exact h))
theorem q_ {e:TypeId}{z:Value}{g:Nat}{f:κ->Option Value}{q:κ}[ht:MapT P t kt e][hz:ZeroT P e z](K:KeyLaw P kt enc)(p:Pick L (bH g enc f) L')(h:aJ W (bH g enc f::L') (k (.tuple #[(f q).getD z,.bool (f q).isSome]))):aJ W L (opN P (iE t (.map (some g)) (enc q) true) Kp k):=
 BG p fun m h1 h2=>aE (Am K) (.pick .here .nil) (bf (pI .here h1 h2 .refl) (by rw[h2];exact h))
theorem di {e:TypeId}{g:Nat}{f:κ->Option Value}{q:κ}{v:Value}[ht:MapT P t kt e](K:KeyLaw P kt enc)(p:Pick L (bH g enc f) L')(h:aJ W (bH g enc (dE f q (some v))::L') (k undef)):aJ W L (opN P (gA t (.map (some g)) (enc q) v) Kp k):=
 BG p fun m h1 h2=>Ao K .here (bf (pI .here (q9 q v m h1).1 (fun x=>by rw[yk,h2];rfl) .refl) h)
theorem sM {e ty:TypeId}{g:Nat}{f:κ->Option Value}{q:κ}{kt':TypeId}[ht:MapT P t kt e](K:KeyLaw P kt enc)(p:Pick L (bH g enc f) L')(h:aJ W (bH g enc (dE f q none)::L') (k (.tuple #[]))):aJ W L (opN P (tj #[t,kt'] ty [.map (some g),enc q]) Kp k):=
 BG p fun m h1 h2=>BF K .here (bf (pI .here (h1.sublist (q7 q m)) (fun x=>by rw[q8 q x m h1,h2];rfl) .refl) h)
theorem jt {e:TypeId}(enc:κ->Value)[ht:MapT P t kt e](h:∀g,aJ W (bH g enc (fun _=>none)::L) (k (.map (some g)))):aJ W L (opN P (oR t none) Kp k):=
 DI enc fun g=>bf (pI .here (by simp) (fun q=>by simp[i_,gW]) .refl) (h g)
theorem sN {P:Program}{W:World}{t kt e:TypeId}{ox oy:Operand}{g:Nat}[ht:MapT P t kt e]:aQ P W [] (dY .eql t ox oy (.map (some g)) (.map none)) (.bool false):=fun w _=>by
 have h:(Op.equal t (.map (some g)) (.map none)).run P w= .ok false w:=by
  unfold Op.equal Op.maxDepth Op.equalIn
  simp only[Sem.run_bind,run_underlying ht.ut,Result.andThen_ok]
  rfl
 simp[dY,sv,eqGuard,binOp,h,Result.andThen]
end Go.Proofs.YtdjkdjepjahjfaaGreatDoor.Sl
namespace Go.Proofs.YtdjkdjepjahjfaaGreatDoor.Sl
open Go Go.RowKit Sh
theorem Gv {l m:List UInt8}:((⟨l.toArray⟩:ByteArray)==(⟨m.toArray⟩:ByteArray))=decide (l=m):=by
 rw[<- Ab,beq_toListBytes]
theorem eX {P:Program}{kt:TypeId}(hk:P.underlying kt=some .string):KeyLaw P kt ay where
 check:=fun b k w=>MapKept.run_checkKey (n:=9999) (d:= .string) hk (by simp[MapKept.IsKey,ay]) b
 eq:=fun k k' w=>by
  unfold ay Op.equal Op.maxDepth
  have:=run_equalIn_string (P:=P) (w:=w) 9999 kt ⟨k.toArray⟩ ⟨k'.toArray⟩ hk
  rw[this,Ab]
 now:=⟨.string,hk,fun k k'=> .inr (by unfold ay;simp only[Instr.sameNow];rw[Gv])⟩
 same:=fun k=>by unfold ay;simp only[Instr.sameBits];rw[Gv];simp
end Go.Proofs.YtdjkdjepjahjfaaGreatDoor.Sl
namespace Go.Proofs.YtdjkdjepjahjfaaGreatDoor.TP
open Go Go.Proofs Go.RowKit Sh Sl T FD
def cW (m:Nat)(now:Int):List Value:=[.map (some m),.int .i64 now,.int .i64 0]
def jH (g:Nat)(now:Int):HP:=ex fun m:Nat=>all [pt g (.cells (cW m now).toArray 178),bH m ay fun _=>none]
theorem BI {W:World}{g:Nat}{now:Int}:Cn p_ 77 [.pointer (some ⟨g,0,none⟩)] W [jH g now] (fun _:Unit=> .bool false) (fun _=>[jH g now]):=by
 (refine Shp.cn (Sg.g_ Tryz.call77 Tryz.func77) fun F=>?_;simp only[ca_,na_])
 refine a8 .here fun m=>aB .here ?_
 unfold cW
 refine am ?_
 refine o_ bM ?_;refine ab (ab (o_ ag (ab (o_ ae (ab (aH ?_))))));refine ab (o_ sN ?_)
 refine o_ ak (aR () ?_)
 refine .ex m (.all ?_)
 refine am ?_
 exact az
theorem Uu {W:World}{now:Int}(h0:0<=now)(h1:now<=253402300799):Cn p_ 61 [.int .i64 now] W [] (fun g:Nat=> .tuple #[.pointer (some ⟨g,0,none⟩),.int .i64 0]) (fun g=>[jH g now]):=by
 (refine Shp.cn (Sg.g_ Tryz.call61 Tryz.func61) fun F=>?_;simp only[ca_,na_])
 (((refine o_ (Sl.bF ?hcq) ?_);(case hcq=>(first|omega|(simp only[List.length_nil,List.length_cons];omega)))));refine ab ?_;refine ab ?_;(((refine o_ (Sl.cf ?hcq) ?_);(case hcq=>(first|omega|(simp only[List.length_nil,List.length_cons];omega)))));refine o_ ak ?_;refine af ?_
 refine jt (P:=p_) (t:=176) (kt:=9) ay fun m=>?_
 refine o_ bO ?_;refine aX fun g=>?_
 refine aR g ?_
 refine .ex m (.all ?_)
 exact .pick .here (.pick .here .refl)
theorem mZ {W:World}{g:Nat}{now:Int}:Cn p_ 31 [.pointer (some ⟨g,0,none⟩)] W [jH g now] (fun _:Unit=> .int .i64 now) (fun _=>[jH g now]):=by
 (refine Shp.cn (Sg.g_ Tryz.call31 Tryz.func31) fun F=>?_;simp only[ca_,na_])
 refine c_ BI fun _=>?_
 refine af (o_ ag (o_ ae (a8 .here fun m=>aB .here ?_)))
 unfold cW
 refine am ?_
 refine aH ?_
 refine aR () ?_
 refine .ex m (.all ?_)
 refine am ?_
 exact az
theorem PS {W:World}{g:Nat}{now n:Int}(h0:0<=now)(hn:0<=n)(h1:now+n<=253402300799):Cn p_ 54 [.pointer (some ⟨g,0,none⟩),.int .i64 n] W [jH g now] (fun _:Unit=> .int .i64 0) (fun _=>[jH g (now+n)]):=by
 (refine Shp.cn (Sg.g_ Tryz.call54 Tryz.func54 (an:={drs:=[(3,.ofL [(0,1),(1,1),(2,1),(3,1),(4,1),(5,1),(6,1),(7,1),(8,1),(9,1),(10,1),(11,1),(12,1),(13,1),(14,0)])]})) fun F=>?_;simp only[ca_,na_])
 refine c_ BI fun _=>?_
 refine ab (ab ?_);(((refine o_ (Sl.bF ?hcq) ?_);(case hcq=>(first|omega|(simp only[List.length_nil,List.length_cons];omega)))));refine o_ ak (af (aW (t_ ag (t_ ae (a8 .here fun m=>aB .here ?_)))))
 unfold cW
 refine am ?_
 refine cm ?_;refine t_ ag (t_ ae (cm ?_));(refine t_ (hO (by omega) (by omega)) ?_)
 refine t_ qH ?_
 rw[if_neg (by omega)]
 (refine t_ (g9 (by omega) (by omega)) ?_);refine t_ ag ?_;refine t_ ae ?_;refine bR ?_
 refine aR () ?_
 refine .ex m (.all ?_)
 refine am ?_
 exact az
theorem PU {W:World}{g:Nat}{now:Int}{p:List UInt8}:Cn p_ 69 [.pointer (some ⟨g,0,none⟩),ay p] W [jH g now] (fun _:Unit=> .tuple #[.agg #[ay [],.slice none 0 0,.int .i64 0],.int .i64 0,.int .i64 3]) (fun _=>[jH g now]):=by
 (refine Shp.cn (Sg.g_ Tryz.call69 Tryz.func69 (an:={drs:=[(7,.ofL [(0,1),(1,1),(2,3),(3,3),(4,0),(5,1),(6,1)])]}) (os:=[(7,[(4,[3,2])])])) fun F=>?_;simp only[ca_,na_])
 refine aU fun g=>?_
 rename Nat=>g4
 refine c_ BI fun _=>?_
 refine af (o_ ag (o_ ae (a8 .here fun m=>aB .here ?_)))
 unfold cW
 refine am ?_
 refine aH ?_
 refine q_ (eX Tryz.underlying9) (by(repeat constructor):Pick _ (bH m ay fun _=>none) _) ?_
 rw[Option.getD_none,Option.isSome_none]
 refine bE ?_;refine bE ?_;refine aU fun g=>?_;(((refine' aK ?hp ?hn ?hv ?h1 ?_);(case hp=>(repeat constructor));(case hn=>rfl);(case hv=>rfl);(case h1=>simp[Value.oneCell',ay])));refine o_ cL (ai (o_ bO ?_));(((refine' aK ?hp ?hn ?hv ?h1 ?_);(case hp=>(repeat constructor));(case hn=>rfl);(case hv=>rfl);(case h1=>simp[Value.oneCell',ay])));(((refine' be (cQ ?hn) ?hi ?_);(case hi=>exact az);(case hn=>rfl)))
 refine aR () ?_
 refine .ex m (.all ?_)
 refine am ?_
 exact az
theorem PV {W:World}{now:Int}(h0:0<=now)(h1:now<=253402300799):Cn p_ 62 [.int .i64 now] W [] (fun g:Nat=> .pointer (some ⟨g,0,none⟩)) (fun _=>[]):=by
 (refine Shp.cn (Sg.g_ Tryz.call62 Tryz.func62) fun F=>?_;simp only[ca_,na_])
 (((refine o_ (Sl.bF ?hcq) ?_);(case hcq=>(first|omega|(simp only[List.length_nil,List.length_cons];omega)))));refine ab ?_;refine ab ?_;(((refine o_ (Sl.cf ?hcq) ?_);(case hcq=>(first|omega|(simp only[List.length_nil,List.length_cons];omega)))));refine o_ ak ?_;refine af ?_;refine o_ bO ?_;refine aX fun g=>?_
 refine aR g ?_
 exact az
theorem Uv {W:World}{e:Int}:Cn p_ 63 [.int .i64 e] W [] (fun _:Unit=> .int .i64 e) (fun _=>[]):=by
 (refine Shp.cn (Sg.g_ Tryz.call63 Tryz.func63) fun F=>?_;simp only[ca_,na_])
 refine aR () ?_
 exact .refl
theorem Uw {W:World}{now:Int}(h0:0<=now)(h1:now<2000000000):Cn p_ 26 [.int .i64 now,.slice none 0 0] W [] (fun r:Nat × Nat=> .tuple #[.pointer (some ⟨r.1,0,none⟩),.pointer (some ⟨r.2,0,none⟩),.bool true]) (fun r=>[jH r.1 now]):=by
 (refine Shp.cn (Sg.g_ Tryz.call26 Tryz.func26 (an:={loops:=[(7,[10])],drs:=[(10,.ofL [(0,1),(1,1),(2,1),(3,1),(4,1),(5,1),(8,2),(9,2),(10,2),(11,3),(12,3),(13,3),(6,0),(7,0),(14,0),(15,1)]),(13,.ofL [(0,2),(1,2),(2,2),(3,3),(4,3),(5,3),(7,2),(8,2),(9,3),(10,3),(11,3),(15,2),(16,2),(17,2),(18,3),(19,3),(20,3),(21,2),(22,2),(23,3),(24,3),(25,3),(6,0),(12,0),(13,0),(14,0),(26,0),(27,1)]),(16,.ofL [(0,1),(1,1),(2,1),(3,1),(4,1),(5,1),(8,2),(9,2),(10,2),(11,3),(12,3),(13,3),(6,0),(7,0),(14,0),(15,1)])]}) (os:=[(10,[(6,[13,12,11]),(7,[13,12,11])]),(13,[(6,[25,24,23,20,19,18,11,10,9,5,4,3]),(12,[25,24,23,20,19,18,5,4,3]),(13,[25,24,23,20,19,18]),(14,[25,24,23,20,19,18])]),(16,[(6,[13,12,11]),(7,[13,12,11])])])) fun F=>?_;simp only[ca_,na_])
 (((refine o_ (tu ?h1 ?h2) ?_);(case h1=>omega);(case h2=>omega)));refine bP ?_;(((refine o_ (tu ?h1 ?h2) ?_);(case h1=>omega);(case h2=>omega)))
 rw[show(now%2000000000+2000000000)%2000000000=now by omega]
 refine' ah (Uu h0 (by omega)) ?hp fun gw=>?_
 case hp=>exact .nil
 refine am ?_
 refine bE ?_;refine bE ?_
 refine' ah (PV h0 (by omega)) ?hp fun gr=>?_
 case hp=>exact .nil
 refine am ?_
 refine c_ Uv fun _=>?_
 (((refine o_ (Sl.cq ?hcq) ?_);(case hcq=>(first|omega|(simp only[List.length_nil,List.length_cons];omega)))));refine ab ?_;refine ab ?_;refine o_ bM ?_;refine o_ ak ?_;refine ab ?_;refine ab ?_;refine o_ bM ?_;refine o_ ak ?_;refine af ?_
 refine aY (fun m y=>pu (y= .int .i64 0)::_) 0 (.pu rfl .refl) ?_
 intro m ds y
 refine aT .here fun hz=>?_
 subst hz
 refine o_ aI ?_;(((refine o_ (Sl.bF ?hcq) ?_);(case hcq=>(first|omega|(simp only[List.length_nil,List.length_cons];omega)))));refine af (aR ((gw,gr)) ?_)
 exact az
theorem IJ {W:World}{b:Nat}{r:Option Addr × Nat}{l:List UInt8}{c:UInt8}(hl:l.length<=16777216):Cn p_ 423 [.pointer (some ⟨b,0,none⟩),.int .u8 (c.toNat:Int)] W [bd b r l] (fun _:Option Addr × Nat=> .nilIface) (fun r'=>[bd b r' (l++[c])]):=by
 (refine Shp.cn (Sg.g_ Tryz.call423 Tryz.func423) fun F=>?_;simp only[ca_,na_])
 unfold bd
 refine aB .here ?_
 refine am ?_
 refine ah AV (.cons .here .nil) fun _=>?_
 refine am ?_
 refine o_ ag (o_ ae (aH ?_));refine cI fun g=>?_
 refine bQ (m:=1) (news:=[.int .u8 (c.toNat:Int)]) (by(repeat constructor):Pick _ (Sl 1 5 r.1 r.2 l.length (l.map Sl.B)) _) (bL (s:=1) (e':=5) (by kernel_rfl) (by(repeat constructor):Pick _ (pt g _) _) (by rfl) (by intro u hu;rw[List.mem_singleton.1 hu];rfl)) (by omega) (by omega) fun a' c'=>?_
 refine o_ ag (o_ ae (bR ?_))
 refine aR ((a',c')) ?_
 refine .all ?_
 refine am ?_
 rw[List.length_append,List.map_append]
 refine .pick (by repeat constructor) ?_
 exact .pick .here az
theorem EE {W:World}{b:Nat}{c:UInt8}:Cn p_ 423 [.pointer (some ⟨b,0,none⟩),.int .u8 (c.toNat:Int)] W [MA b] (fun _:Option Addr × Nat=> .nilIface) (fun r'=>[bd b r' [c]]):=by
 (refine Shp.cn (Sg.g_ Tryz.call423 Tryz.func423) fun F=>?_;simp only[ca_,na_])
 unfold MA bd
 refine ah vJ (.cons .here .nil) fun _=>?_
 refine o_ ag (o_ ae (aH ?_));refine cI fun g=>?_
 refine bf (bJ (s:=1) (e:=5) .refl) ?_
 refine bQ (m:=1) (news:=[.int .u8 (c.toNat:Int)]) .here (bL (s:=1) (e':=5) (by kernel_rfl) (by(repeat constructor):Pick _ (pt g _) _) (by rfl) (by intro u hu;rw[List.mem_singleton.1 hu];rfl)) (by omega) (by omega) fun a' c'=>?_
 refine o_ ag (o_ ae (bR ?_))
 refine aR ((a',c')) ?_
 refine .all ?_
 refine am ?_
 refine .pick (by repeat constructor) ?_
 exact .pick .here az
def PW (c:UInt8):Bool:=decide (33<=c/\c<=126)&&!([34,37,92]:List UInt8).contains c
def lZ (t:List UInt8):Bool:=!t.isEmpty&&decide (t≠[45])&&t.all PW
theorem IK {W:World}{t:List UInt8}(h:lZ t=true)(hl:t.length<=8192):Cn p_ 362 [ay t] W [] (fun _:Unit=>ay t) (fun _=>[]):=by
 simp only[lZ,Bool.and_eq_true,Bool.not_eq_true',decide_eq_true_eq,List.all_eq_true]at h
 obtain⟨⟨h0,h45⟩,hall⟩:=h
 have hne:t≠[]:=by rintro rfl;simp at h0
 have hpos:0<t.length:=List.length_pos_iff.2 hne
 (refine Shp.cn (Sg.g_ Tryz.call362 Tryz.func362 (an:={loops:=[(5,[11])],drs:=[(9,.ofL [(0,1),(1,1),(2,1),(3,1),(4,1),(5,1),(6,1),(7,1),(8,1),(9,1),(10,1),(11,1),(12,1),(13,1),(14,0)])]})) fun F=>?_;simp only[ca_,na_])
 (((refine' aE (Sl.fB ?hcq) .nil ?_);(case hcq=>(first|assumption|simp_all;done))));refine af ?_;refine aU fun g=>?_
 rename Nat=>bb
 refine o3 Tryz.underlying35 Tryz.underlying5 fun gs cs rest fz=>?_
 refine o_ aI (aY (fun m y=>[ex fun st:Nat × (Option Addr × Nat)=>all [pu (m+st.1=t.length/\y= .int .i64 (st.1:Int)),if st.1=0 then MA bb else bd bb st.2 (t.take st.1)]]++(pt gs (.cells (t.map Sl.B++rest).toArray 5 fz)::F)) t.length ?_ ?_)
 ·refine Imp.ex (0,(none,0)) (.all ?_)
  refine am ?_
  refine .pu ⟨by omega,rfl⟩ ?_
  rw[if_pos rfl]
  unfold MA
  exact az
 intro m ds y
 refine am ?_
 refine a8 Pick.here fun st=>aB .here ?_
 obtain⟨i,r⟩:=st
 refine am ?_
 refine aT .here fun hi=>?_
 (try dsimp only at hi)
 obtain⟨hm,rfl⟩:=hi
 (try dsimp only)
 by_cases hlt:i<t.length
 ·have hv:(t.map Sl.B)[i]? =some (.int .u8 (t[i].toNat:Int)):=by simp[hlt,Sl.B]
  have hc:=hall _ (List.getElem_mem hlt)
  simp only[PW,Bool.and_eq_true,decide_eq_true_eq,Bool.not_eq_true',List.contains_eq_mem,decide_eq_false_iff_not]at hc
  obtain⟨⟨c1,c2⟩,c3⟩:=hc
  have c1:33<=t[i].toNat:=by have:=UInt8.le_iff_toNat_le.1 c1;simpa using this
  have c2:t[i].toNat<=126:=by have:=UInt8.le_iff_toNat_le.1 c2;simpa using this
  have hix:lB [34,37,92] t[i]<0:=by
   have:=mt eO.1 c3
   omega
  have hst:t.take (i+1)=t.take i++[t[i]]:=List.take_succ_eq_append_getElem hlt
  refine o_ (Sl.bY (by omega)) ?_
  refine ai (o_ (bq i rfl hlt) ?_)
  refine aE (dv (vt (cs:=t.map Sl.B)) hv) az ?_
  (((refine o_ (Sl.gi ?hcq) ?_);(case hcq=>(first|omega|(simp only[List.length_nil,List.length_cons];omega)))));refine ab ?_;refine ab ?_;(((refine o_ (Sl.bY ?hcq) ?_);(case hcq=>(first|omega|(simp only[List.length_nil,List.length_cons];omega)))));refine o_ av ?_;refine ab ?_;refine ab ?_
  refine' ah (indexByte (l:=[34,37,92]) (c:=t[i])) ?hp fun _=>?_
  case hp=>exact .nil
  refine am ?_
  refine ab ?_;(((refine o_ (Sl.bY ?hcq) ?_);(case hcq=>(first|omega|(simp only[List.length_nil,List.length_cons];omega)))));refine o_ av (ab (ab ?_));(((refine' aE (Sl.Gh ?hcq) .nil ?_);(case hcq=>(first|assumption|simp;done))));refine o_ av (ai ?_)
  by_cases hi0:i=0
  ·rw[if_pos hi0]
   refine' ah (EE (b:=bb) (c:=t[i])) ?hp fun r2=>?_
   case hp=>exact .cons (by repeat constructor) .nil
   refine am ?_
   refine bP ?_
   refine aZ (m-1) ?_ ?_
   ·omega
   refine .ex (i+1,r2) (.all ?_)
   refine am ?_
   refine .pu ⟨by omega,by simp⟩ ?_
   (try dsimp only)
   rw[if_neg (by omega),hst,show t.take i=[] by rw[hi0];rfl,List.nil_append]
   exact az
  ·rw[if_neg hi0]
   refine' ah (IJ (b:=bb) (r:=r) (l:=t.take i) (c:=t[i]) (by simp;omega)) ?hp fun r2=>?_
   case hp=>exact .cons (by repeat constructor) .nil
   refine am ?_
   refine bP ?_
   refine aZ (m-1) ?_ ?_
   ·omega
   refine .ex (i+1,r2) (.all ?_)
   refine am ?_
   refine .pu ⟨by omega,by simp⟩ ?_
   (try dsimp only)
   rw[if_neg (by omega),hst]
   exact az
 ·have he:i=t.length:=by omega
  subst he
  rw[if_neg (by omega),List.take_length]
  (((refine o_ (Sl.bF ?hcq) ?_);(case hcq=>(first|omega|(simp only[List.length_nil,List.length_cons];omega)))));refine af ?_
  refine' ah (pg (b:=bb) (r:=r) (l:=t) hne) ?hp fun _=>?_
  case hp=>exact .cons (by repeat constructor) .nil
  refine am ?_
  refine aR () ?_
  exact az
structure En where
 tm:Int
 cl:List UInt8
 me:List UInt8
 ho:List UInt8
 ta:List UInt8
 st:Int
 by_:Int
 ca:List UInt8
def oK (e:En):List Value:=[.int .i64 e.tm,ay e.cl,ay e.me,ay e.ho,ay e.ta,.int .i64 e.st,.int .i64 e.by_,ay e.ca]
def xt (n:Int):Prop:=0<=n/\n<=1000000000000000000
def re (t:List UInt8):Prop:=lZ t=true/\t.length<=8192
structure EnOk (e:En):Prop where
 tm:xt e.tm
 st:xt e.st
 by_:xt e.by_
 cl:re e.cl
 me:re e.me
 ho:re e.ho
 ta:re e.ta
 ca:re e.ca
theorem Ux {W:World}{x:Nat}:Cn p_ 265 [.pointer (some ⟨x,0,none⟩)] W [] (fun _:Unit=> .agg #[.pointer (some ⟨x,0,none⟩),.pointer (some ⟨x,5,none⟩),.pointer (some ⟨x,6,none⟩)]) (fun _=>[]):=by
 (refine Shp.cn (Sg.g_ Tryz.call265 Tryz.func265 (an:={drs:=[(1,.ofL [(0,1),(1,1),(2,1),(3,1),(4,1),(5,1),(6,1),(7,1),(8,1),(9,1),(10,0)])]})) fun F=>?_;simp only[ca_,na_])
 refine aU fun g=>?_;refine aW (t_ ag (t_ ae (t_ ag (t_ ae (t_ ag (t_ ae (t_ bO ?_)))))));(((refine' aK ?hp ?hn ?hv ?h1 ?_);(case hp=>(repeat constructor));(case hn=>rfl);(case hv=>rfl);(case h1=>simp[Value.oneCell',ay])));(((refine' be (cQ ?hn) ?hi ?_);(case hi=>exact az);(case hn=>rfl)))
 refine aR () ?_
 exact az
theorem IL {W:World}{x o:Nat}:Cn p_ 357 [.pointer (some ⟨x,o,none⟩)] W [] (fun b:Nat=> .func (.func 358) #[] #[.pointer (some ⟨b,0,none⟩)]) (fun b=>[pt b (.cells #[.pointer (some ⟨x,o,none⟩)] 354)]):=by
 (refine Shp.cn (Sg.g_ Tryz.call357 Tryz.func357) fun F=>?_;simp only[ca_,na_])
 refine b_ fun g=>?_;refine o_ bC (aR g ?_)
 exact .refl
theorem BJ {W:World}{x o:Nat}:Cn p_ 359 [.pointer (some ⟨x,o,none⟩)] W [] (fun b:Nat=> .func (.func 360) #[] #[.pointer (some ⟨b,0,none⟩)]) (fun b=>[pt b (.cells #[.pointer (some ⟨x,o,none⟩)] 406)]):=by
 (refine Shp.cn (Sg.g_ Tryz.call359 Tryz.func359) fun F=>?_;simp only[ca_,na_])
 refine b_ fun g=>?_;refine o_ bC (aR g ?_)
 exact .refl
theorem uq {W:World}{x o b:Nat}{cs:List Value}{T:TypeId}{t:List UInt8}(h:re t)(ho:cs[o]? =some (ay t)):Cn p_ 360 ([ay []]++[.pointer (some ⟨b,0,none⟩)]) W [pt b (.cells #[.pointer (some ⟨x,o,none⟩)] 406),pt x (.cells cs.toArray T (0,0))] (fun _:Unit=> .tuple #[ay t,.bool false]) (fun _=>[pt b (.cells #[.pointer (some ⟨x,o,none⟩)] 406),pt x (.cells cs.toArray T (0,0))]):=by
 (refine Shp.cn (Sg.g_ Tryz.call360 Tryz.func360 (an:={cuts:=[(3,[])],drs:=[(2,.ofL [(0,3),(1,1),(2,0),(3,1),(4,0)])]}) (os:=[(2,[(2,[0])])])) fun F=>?_;simp only[ca_,na_])
 refine dP ?_
 refine o_ (Sl.qT (m:=[]) (by simp)) ?_
 refine af (gZ fun ds=>?_)
 refine aH ?_;refine o_ ag (aE (iI (cs:=cs.toArray) (by simpa using ho)) az ?_)
 refine' ah (IK h.1 h.2) ?hp fun _=>?_
 case hp=>exact .nil
 refine am ?_
 refine o_ (Sl.qT (m:=[]) (by simp)) ?_
 refine aR () ?_
 exact az
theorem BK {W:World}[hG:Gl W][hP:Gp W]{x o b:Nat}{cs:List Value}{T:TypeId}{n:Int}(h:xt n)(ho:cs[o]? =some (.int .i64 n)):Cn p_ 358 ([ay []]++[.pointer (some ⟨b,0,none⟩)]) W [pt b (.cells #[.pointer (some ⟨x,o,none⟩)] 354),pt x (.cells cs.toArray T (0,0))] (fun _:Unit=> .tuple #[ay (eg n),.bool false]) (fun _=>[pt b (.cells #[.pointer (some ⟨x,o,none⟩)] 354),pt x (.cells cs.toArray T (0,0))]):=by
 (refine Shp.cn (Sg.g_ Tryz.call358 Tryz.func358 (an:={cuts:=[(4,[])]})) fun F=>?_;simp only[ca_,na_])
 refine' ah (lS (l:=[]) (by decide)) ?hp fun _=>?_
 case hp=>exact .nil
 rw[show dh []=(0,21) by decide]
 refine am ?_
 refine bE ?_;refine bE ?_
 refine dP ?_
 (((refine o_ (Sl.bA ?hcq) ?_);(case hcq=>(first|omega|(simp only[List.length_nil,List.length_cons];omega)))));refine af ?_
 refine gZ fun ds=>?_
 refine aH ?_;refine o_ ag (aE (iI (cs:=cs.toArray) (by simpa using ho)) az ?_)
 obtain⟨h1,h2⟩:=h
 refine' ah (fP (i:=n) (by omega) (by omega)) ?hp fun _=>?_
 case hp=>exact .nil
 refine am ?_
 (((refine o_ (Sl.bA ?hcq) ?_);(case hcq=>(first|omega|(simp only[List.length_nil,List.length_cons];omega)))))
 refine aR () ?_
 exact az
structure Bx where
 b0:Nat
 b1:Nat
 b2:Nat
 b3:Nat
 b4:Nat
 b5:Nat
 b6:Nat
 b7:Nat
def Uy (q:Bx):List Value:=[.func (.func 358) #[] #[.pointer (some ⟨q.b0,0,none⟩)],.func (.func 360) #[] #[.pointer (some ⟨q.b1,0,none⟩)],.func (.func 360) #[] #[.pointer (some ⟨q.b2,0,none⟩)],.func (.func 360) #[] #[.pointer (some ⟨q.b3,0,none⟩)],.func (.func 360) #[] #[.pointer (some ⟨q.b4,0,none⟩)],.func (.func 358) #[] #[.pointer (some ⟨q.b5,0,none⟩)],.func (.func 358) #[] #[.pointer (some ⟨q.b6,0,none⟩)],.func (.func 360) #[] #[.pointer (some ⟨q.b7,0,none⟩)]]
def EF (x:Nat)(q:Bx):HP:=all [pt q.b0 (.cells #[.pointer (some ⟨x,0,none⟩)] 354),pt q.b1 (.cells #[.pointer (some ⟨x,1,none⟩)] 406),pt q.b2 (.cells #[.pointer (some ⟨x,2,none⟩)] 406),pt q.b3 (.cells #[.pointer (some ⟨x,3,none⟩)] 406),pt q.b4 (.cells #[.pointer (some ⟨x,4,none⟩)] 406),pt q.b5 (.cells #[.pointer (some ⟨x,5,none⟩)] 354),pt q.b6 (.cells #[.pointer (some ⟨x,6,none⟩)] 354),pt q.b7 (.cells #[.pointer (some ⟨x,7,none⟩)] 406)]
theorem IM {W:World}{x:Nat}:Cn p_ 267 [.pointer (some ⟨x,0,none⟩)] W [] (fun q:Bx=> .agg (Uy q).toArray) (fun q=>[EF x q]):=by
 (refine Shp.cn (Sg.g_ Tryz.call267 Tryz.func267 (an:={drs:=[(3,.ofL [(0,1),(1,1),(2,1),(3,1),(5,2),(6,2),(7,3),(8,3),(10,2),(11,2),(12,3),(13,3),(15,2),(16,2),(17,3),(18,3),(20,2),(21,2),(22,3),(23,3),(25,2),(26,2),(27,3),(28,3),(30,2),(31,2),(32,3),(33,3),(35,2),(36,2),(37,3),(38,3),(4,0),(9,0),(14,0),(19,0),(24,0),(29,0),(34,0),(39,0),(40,1),(41,0)])]}) (os:=[(3,[(4,[38,37,33,32,28,27,23,22,18,17,13,12,8,7]),(9,[38,37,33,32,28,27,23,22,18,17,13,12]),(14,[38,37,33,32,28,27,23,22,18,17]),(19,[38,37,33,32,28,27,23,22]),(24,[38,37,33,32,28,27]),(29,[38,37,33,32]),(34,[38,37])])])) fun F=>?_;simp only[ca_,na_])
 refine aU fun g=>?_;refine aW (t_ ag (t_ ae (aq ag .nil ?_)));refine aq ae .nil ?_;refine aq ag .nil ?_;refine aq ae .nil ?_;refine aq ag .nil ?_;refine aq ae .nil ?_;refine aq ag .nil ?_;refine aq ae .nil ?_;refine aq ag .nil ?_;refine aq ae .nil ?_;refine aq ag .nil ?_;refine aq ae .nil ?_;refine aq ag .nil ?_;refine aq ae .nil ?_
 refine' ah (IL (x:=x) (o:=0)) ?hp fun b0=>?_
 case hp=>exact .nil
 refine am ?_
 refine bj ?_;refine bj ?_;refine bj ?_;refine bj ?_;refine bj ?_;refine bj ?_;refine bj ?_;refine bj ?_;refine bj ?_;refine bj ?_;refine bj ?_;refine bj ?_;refine bj ?_;refine bj ?_
 refine' ah (BJ (x:=x) (o:=1)) ?hp fun b1=>?_
 case hp=>exact .nil
 refine am ?_
 refine bj ?_;refine bj ?_;refine bj ?_;refine bj ?_;refine bj ?_;refine bj ?_;refine bj ?_;refine bj ?_;refine bj ?_;refine bj ?_;refine bj ?_;refine bj ?_
 refine' ah (BJ (x:=x) (o:=2)) ?hp fun b2=>?_
 case hp=>exact .nil
 refine am ?_
 refine bj ?_;refine bj ?_;refine bj ?_;refine bj ?_;refine bj ?_;refine bj ?_;refine bj ?_;refine bj ?_;refine bj ?_;refine bj ?_
 refine' ah (BJ (x:=x) (o:=3)) ?hp fun b3=>?_
 case hp=>exact .nil
 refine am ?_
 refine bj ?_;refine bj ?_;refine bj ?_;refine bj ?_;refine bj ?_;refine bj ?_;refine bj ?_;refine bj ?_
 refine' ah (BJ (x:=x) (o:=4)) ?hp fun b4=>?_
 case hp=>exact .nil
 refine am ?_
 refine bj ?_;refine bj ?_;refine bj ?_;refine bj ?_;refine bj ?_;refine bj ?_
 refine' ah (IL (x:=x) (o:=5)) ?hp fun b5=>?_
 case hp=>exact .nil
 refine am ?_
 refine bj ?_;refine bj ?_;refine bj ?_;refine bj ?_
 refine' ah (IL (x:=x) (o:=6)) ?hp fun b6=>?_
 case hp=>exact .nil
 refine am ?_
 refine bj ?_;refine bj ?_
 refine' ah (BJ (x:=x) (o:=7)) ?hp fun b7=>?_
 case hp=>exact .nil
 refine am ?_
 refine t_ bO ?_;(((refine' aK ?hp ?hn ?hv ?h1 ?_);(case hp=>(repeat constructor));(case hn=>rfl);(case hv=>rfl);(case h1=>simp[Value.oneCell',ay])));(((refine' be (cQ ?hn) ?hi ?_);(case hi=>exact az);(case hn=>rfl)))
 refine aR (⟨b0,b1,b2,b3,b4,b5,b6,b7⟩) ?_
 refine .all ?_
 refine am ?_
 exact az
end Go.Proofs.YtdjkdjepjahjfaaGreatDoor.TP
