/- A client's connection: which bytes of a head were taken. (36 texts made one; each says below what it is.) -/
import Derived.Test.YtdjkdjepjahjfaaGreatDoorK3
import Derived.Laws.Externs
set_option linter.unusedVariables false
set_option linter.unusedSimpArgs false
set_option linter.unusedSectionVars false
set_option maxRecDepth 9999
namespace Go.Proofs.YtdjkdjepjahjfaaGreatDoor.TP
open Go Go.Proofs Go.RowKit Sh Sl T FD
theorem If {W:World}{c:Nat}{s:CnS}{b:List UInt8}{a:Option Addr}{cap:Nat}{A:HP}(hA:RdB W A a b.length (b.map Sl.B))(hbl:b.length<=1048576):Cn p_ 141 [pC c,.slice a b.length cap] W [bQ c s,A] (fun _:Int × Bool × Int=> .tuple #[]) (fun x=>[bQ c {s with ln:=x.1,bg:=x.2.1,si:=x.2.2},A]):=by
 (refine Shp.cn (Sg.g_ Tryz.call141 Tryz.func141 (an:={loops:=[(1,[9])]})) fun F=>?_;simp only[ca_,na_])
 cases s
 rename_i bo ke ck si rd bg nx hd rr ln q0 q1 q2 q3 got ev row nu out
 (unfold bQ nJ;(try dsimp only))
 refine o_ aK (a_ (fun m y=>[ex fun i:Nat=>ex fun l:Int=>all [pu (m+i=b.length/\y= .int .i64 (i:Int)),bQ c ⟨bo,ke,ck,si,rd,bg,nx,hd,rr,l,q0,q1,q2,q3,got,ev,row,nu,out⟩,A]]++F) b.length ?_ ?_)
 ·refine .ex 0 (.ex ln (.all ?_))
  refine aq ?_
  exact .pu ⟨rfl,rfl⟩ .refl
 intro m ds y
 refine aq ?_
 refine bt .here fun i=>bt .here fun l=>aE .here ?_
 refine aq ?_
 refine aX .here fun hi=>?_
 obtain⟨hm,rfl⟩:=hi
 have step:∀(l':Int) (j:Nat),i=j->i<b.length->Imp W (pt c (.cells (nJ ⟨bo,ke,ck,si,rd,bg,nx,hd,rr,l',q0,q1,q2,q3,got,ev,row,nu,out⟩).toArray 175)::A::F) ((ex fun i:Nat=>ex fun l:Int=>all [pu (m-1+i=b.length/\(.int .i64 ((j:Int)+1):Value)= .int .i64 (i:Int)),bQ c ⟨bo,ke,ck,si,rd,bg,nx,hd,rr,l,q0,q1,q2,q3,got,ev,row,nu,out⟩,A])::F):=fun l' j hj hlt=>by
  subst hj
  refine .ex (i+1) (.ex l' (.all ?_))
  refine aq ?_
  exact .pu ⟨by omega,by push_cast;rfl⟩ .refl
 (unfold bQ nJ;(try dsimp only))
 refine o_ bD ?_
 by_cases hlt:i<b.length
 ·rw[dT_ (by omega)]
  refine ai ?_
  have hv:(b.map Sl.B)[i]? =some (.int .u8 (b[i].toNat:Int)):=by simp[hlt,Sl.B]
  have hA':=hA
  obtain⟨ga,oa,ha,_⟩:=hA'.at_ (by omega)
  subst ha
  refine o_ (br i rfl hlt) ?_
  refine aB (dI hA hv) aA ?_
  generalize (b[i].toNat:Int)=n
  by_cases h13:n=13
  ·subst h13
   (((refine o_ (Sl.cE ?hcq) ?_);(case hcq=>(first|omega|(simp only[List.length_nil,List.length_cons];omega)))));refine ao ?_;refine ao ?_;refine o_ am ?_;refine ao ?_;refine ao ?_;refine ao ?_;refine ao ?_;refine ao ?_;refine o_ am ?_;refine af ?_;(((refine o_ (Sl.bL ?hcq) ?_);(case hcq=>(first|omega|(simp only[List.length_nil,List.length_cons];omega)))));refine ao ?_;refine ao ?_;refine ao ?_;refine ao ?_;refine ao ?_;refine o_ am ?_;refine af ?_;refine bS ?_
   refine bq (m-1) ?_ ?_
   ·omega
   exact step l i rfl hlt
  by_cases h10:n=10
  ·subst h10
   by_cases hl:l=1
   ·subst hl
    (((refine o_ (Sl.kq ?hcq) ?_);(case hcq=>(first|omega|(simp only[List.length_nil,List.length_cons];omega)))));refine ab ?_;refine ab ?_;(((refine o_ (Sl.cE ?hcq) ?_);(case hcq=>(first|omega|(simp only[List.length_nil,List.length_cons];omega)))));refine o_ av ?_;refine ao ?_;refine ao ?_;refine ao ?_;refine ao ?_;refine ao ?_;refine o_ am ?_;refine af ?_;(((refine o_ (Sl.cv ?hcq) ?_);(case hcq=>(first|omega|(simp only[List.length_nil,List.length_cons];omega)))));refine ab ?_;refine ab ?_;refine o_ ah ?_;refine ab ?_;refine o_ ae ?_;refine ab ?_;refine aM ?_;refine ab ?_;(((refine o_ (Sl.cv ?hcq) ?_);(case hcq=>(first|omega|(simp only[List.length_nil,List.length_cons];omega)))));refine o_ av ?_;refine ai ?_;refine o_ ah ?_;refine o_ ae ?_;refine bU ?_;refine bS ?_
    refine bq (m-1) ?_ ?_
    ·omega
    exact step 2 i rfl hlt
   ·skip
    (((refine o_ (Sl.kq ?hcq) ?_);(case hcq=>(first|omega|(simp only[List.length_nil,List.length_cons];omega)))));refine ab ?_;refine ab ?_;(((refine o_ (Sl.cE ?hcq) ?_);(case hcq=>(first|omega|(simp only[List.length_nil,List.length_cons];omega)))));refine o_ av ?_;refine ao ?_;refine ao ?_;refine ao ?_;refine ao ?_;refine ao ?_;refine o_ am ?_;refine af ?_;(((refine o_ (Sl.cv ?hcq) ?_);(case hcq=>(first|omega|(simp only[List.length_nil,List.length_cons];omega)))));refine ab ?_;refine ab ?_;refine o_ ah ?_;refine ab ?_;refine o_ ae ?_;refine ab ?_;refine aM ?_;refine ab ?_;(((refine o_ (Sl.bL ?hcq) ?_);(case hcq=>(first|omega|(simp only[List.length_nil,List.length_cons];omega)))));refine o_ av ?_;refine af ?_;refine bS ?_
    refine bq (m-1) ?_ ?_
    ·omega
    exact step l i rfl hlt
  by_cases hl:l=0
  ·subst hl
   (((refine o_ (Sl.kq ?hcq) ?_);(case hcq=>(first|omega|(simp only[List.length_nil,List.length_cons];omega)))));refine ab ?_;refine ab ?_;(((refine o_ (Sl.kq ?hcq) ?_);(case hcq=>(first|omega|(simp only[List.length_nil,List.length_cons];omega)))));refine o_ av ?_;refine ab ?_;refine ab ?_;refine o_ ah ?_;refine ab ?_;refine o_ ae ?_;refine ab ?_;refine aM ?_;refine ab ?_;(((refine o_ (Sl.cv ?hcq) ?_);(case hcq=>(first|omega|(simp only[List.length_nil,List.length_cons];omega)))));refine o_ av ?_;refine ai ?_;refine o_ ah ?_;refine o_ ae ?_;refine bU ?_;refine bS ?_
   refine bq (m-1) ?_ ?_
   ·omega
   exact step 1 i rfl hlt
  ·skip
   (((refine o_ (Sl.kq ?hcq) ?_);(case hcq=>(first|omega|(simp only[List.length_nil,List.length_cons];omega)))));refine ab ?_;refine ab ?_;(((refine o_ (Sl.kq ?hcq) ?_);(case hcq=>(first|omega|(simp only[List.length_nil,List.length_cons];omega)))));refine o_ av ?_;refine ab ?_;refine ab ?_;refine o_ ah ?_;refine ab ?_;refine o_ ae ?_;refine ab ?_;refine aM ?_;refine ab ?_;(((refine o_ (Sl.bL ?hcq) ?_);(case hcq=>(first|omega|(simp only[List.length_nil,List.length_cons];omega)))));refine o_ av ?_;refine af ?_;(((refine o_ (Sl.bL ?hcq) ?_);(case hcq=>(first|omega|(simp only[List.length_nil,List.length_cons];omega)))));refine ao ?_;refine ao ?_;refine ao ?_;refine ao ?_;refine ao ?_;refine o_ am ?_;refine af ?_;refine bS ?_
   refine bq (m-1) ?_ ?_
   ·omega
   exact step l i rfl hlt
 rw[dF_ (by omega)]
 refine af ?_
 by_cases hb:bg=true
 ·subst hb
  refine o_ ah (o_ ae (aM ?_));refine o_ bA (ao (ao (ao (ao (ao (o_ am (af (aO ((l,true,si)) ?_))))))))
  exact aA
 obtain rfl:bg=false:=by simpa using hb
 by_cases hl:0<l
 ·(refine o_ ah ?_);refine o_ ae ?_;refine aM ?_;refine o_ cP ?_;refine ab ?_;refine ab ?_;refine o_ ah ?_;refine ab ?_;refine o_ ae ?_;refine ab ?_;refine aM ?_;refine ab ?_;(((refine o_ (Sl.gO ?hcq) ?_);(case hcq=>(first|omega|(simp only[List.length_nil,List.length_cons];omega)))));refine o_ av ?_;refine ai ?_;refine o_ ah ?_;refine o_ ae ?_;refine aM ?_;refine o_ ah ?_;refine o_ ae ?_;refine bU ?_;refine o_ ah ?_;refine o_ ae ?_;refine bU ?_
  refine aO ((l,true,ck)) ?_
  exact aA
 ·(refine o_ ah ?_);refine o_ ae ?_;refine aM ?_;refine o_ cP ?_;refine ab ?_;refine ab ?_;refine o_ ah ?_;refine ab ?_;refine o_ ae ?_;refine ab ?_;refine aM ?_;refine ab ?_;(((refine o_ (Sl.bZ ?hcq) ?_);(case hcq=>(first|omega|(simp only[List.length_nil,List.length_cons];omega)))));refine o_ av ?_;refine af ?_
  refine aO ((l,false,si)) ?_
  exact aA
end Go.Proofs.YtdjkdjepjahjfaaGreatDoor.TP
namespace Go.Proofs.YtdjkdjepjahjfaaGreatDoor.FD
open Go Go.Proofs Go.RowKit Sh Sl T
def iI (sep:List UInt8):List (List UInt8)->List UInt8
 |[]=>[]
 |v::r=>v++r.flatMap (fun w=>sep++w)
def iP:List (List UInt8)->Nat
 |[]=>0
 |v::r=>v.length+iP r
theorem xH (a b:List (List UInt8)):iP (a++b)=iP a+iP b:=by
 induction a with
 |nil=>simp[iP]
 |cons v r ih=>simp[iP,ih];omega
theorem qg (sep:List UInt8)(r:List (List UInt8)):(r.flatMap (fun w=>sep++w)).length=iP r+sep.length * r.length:=by
 induction r with
 |nil=>simp[iP]
 |cons v r ih=>
  rw[List.flatMap_cons,List.length_append,ih,iP,List.length_append,List.length_cons,Nat.mul_add,Nat.mul_one]
  omega
theorem Bw {V:List (List UInt8)}{i:Nat}(h:i<V.length):iP (V.take (i+1))=iP (V.take i)+V[i].length:=by
 rw[List.take_succ_eq_append_getElem h,xH]
 simp[iP]
theorem oA (V:List (List UInt8))(i:Nat):iP (V.take i)<=iP V:=by
 have:=xH (V.take i) (V.drop i)
 rw[List.take_append_drop]at this;omega
theorem Eo {k:Nat}(h1:1<=k)(h2:k<=4194304):16<9223372036854775807 / k:=by
 have:=Nat.div_le_div_left (a:=9223372036854775807) h2 (by omega)
 have e:9223372036854775807 / 4194304=2199023255551:=rfl
 omega
theorem join {W:World}{sep:List UInt8}{V:List (List UInt8)}{a:Option Addr}{c:Nat}(hs:0<sep.length)(hs2:sep.length<=16)(hV:(iI sep V).length<=4194304)(hn:V.length<=4194304):
  Cn p_ 205 [.slice a V.length c,az sep] W [Sl 1 9 a c V.length (V.map az)] (fun _:Unit=>az (iI sep V)) (fun _=>[]):=by
 (refine Shp.cn (Sg.g_ Tryz.call205 Tryz.func205 (an:={cuts:=[(10,[]),(11,[5]),(16,[])],loops:=[(12,[5,41]),(22,[65])]})) fun F=>?_;simp only[ca_,na_])
 match V,hV,hn with
 |[],_,_=>
  refine o_ aK (o_ cJ ?_)
  rw[dT_ (by rfl)]
  refine ai (aO () ?_)
  exact aA
 |[v],_,_=>
  refine o_ aK (o_ cJ ?_)
  rw[dF_ (by simp)]
  refine af (o_ cJ ?_)
  rw[dT_ (by rfl)]
  refine ai (be (a:=a) .here (by simp) fun g hg=>?_)
  subst hg
  have ld:aT p_ W [Sl 1 9 (some ⟨g,0,none⟩) c [v].length ([v].map az)] (aL 9 (.pointer (some ⟨g,0+0,none⟩))) (az v):=bF rfl
  refine o_ (br 0 rfl (by simp)) ?_
  refine dm ld ?_
  refine bG () (by simp[iI]) ?_
  exact aA
 |v::u::r,hV,hn=>
  have hjl:(iI sep (v::u::r)).length=iP (v::u::r)+sep.length * ((v::u::r).length-1):=by
   unfold iI
   rw[List.length_append,qg]
   simp only[iP,List.length_cons,Nat.add_sub_cancel]
   omega
  obtain⟨V,hVe⟩:∃V,V=v::u::r:=⟨_,rfl⟩
  have h2:2<=V.length:=by rw[hVe];simp
  have hv0:V[0]? =some v:=by rw[hVe];rfl
  have hj0:iI sep V=v++(V.drop 1).flatMap (fun w=>sep++w):=by rw[hVe];rfl
  rw[<- hVe]at hV hn hjl ⊢
  clear hVe
  have hq:=Eo (k:=V.length-1) (by omega) (by omega)
  refine o_ aK (o_ cJ ?_)
  rw[dF_ (by omega)]
  refine af (o_ cJ ?_)
  rw[dF_ (by omega)]
  refine af (be (a:=a) .here (by omega) fun g hg=>?_)
  subst hg
  refine aN .here fun f1 f2 f3 f4=>?_
  have ld:∀i (h:i<V.length),aT p_ W [Sl 1 9 (some ⟨g,0,none⟩) c V.length (V.map az)] (aL 9 (.pointer (some ⟨g,i,none⟩))) (az V[i]):=fun i h=>bF (by rw[List.getElem?_map,List.getElem?_eq_getElem h];rfl)
  have hml:sep.length * (V.length-1)<=4194304:=by omega
  refine dt (fun z=>pu (z= .int .i64 ((sep.length * (V.length-1):Nat):Int))::Sl 1 9 (some ⟨g,0,none⟩) c V.length (V.map az)::F) ?_ ?_
  rotate_left
  ·refine o_ bC (o_ eu ?_)
   rw[dT_ (by omega)]
   refine ai (eb ?_)
   refine o_ bC (o_ aK (kN ?_))
   rw[show((V.length:Nat):Int)-1=((V.length-1:Nat):Int) by omega]
   refine o_ (fB (by omega) (by omega) (by omega)) ?_
   refine o_ dy ?_
   rw[dF_ (by
    have e:(9223372036854775807:Int) / ((V.length-1:Nat):Int)=((9223372036854775807 / (V.length-1):Nat):Int):=rfl
    rw[e]
    omega)]
   refine af (jo fun ds=>?_)
   refine o_ bC (o_ aK (kN ?_))
   rw[show((V.length:Nat):Int)-1=((V.length-1:Nat):Int) by omega]
   have hm:((sep.length:Nat):Int) * ((V.length-1:Nat):Int)=((sep.length * (V.length-1):Nat):Int):=by push_cast;rfl
   refine o_ (gJ (by rw[hm];omega) (by rw[hm];omega)) ?_
   rw[hm]
   refine bS ?_
   refine aI (.pu (by congr 1;push_cast;omega) ?_)
   exact .refl
  ·intro ds z
   refine aX .here fun hz=>?_
   subst hz
   refine o_ aK ?_
   have hsum:iP V+sep.length * (V.length-1)<=4194304:=by omega
   generalize hM:sep.length * (V.length-1)=M at hml hsum hjl ⊢
   have hMp:0<M:=by
    rw[<- hM]
    exact Nat.mul_pos hs (by omega)
   refine cz (fun m x y=>(ex fun i:Nat=>pu (m+i=V.length/\x= .int .i64 ((M+iP (V.take i):Nat):Int)/\y= .int .i64 (i:Int)))::Sl 1 9 (some ⟨g,0,none⟩) c V.length (V.map az)::F) V.length ?_ ?_
   ·exact .ex 0 (.pu ⟨rfl,rfl,rfl⟩ .refl)
   intro m ds2 x y
   refine bt .here fun i=>aX .here fun hi=>?_
   obtain⟨hmi,rfl,rfl⟩:=hi
   have hst:=oA V i
   refine bj bD .nil (fun h=>?_) (fun h=>?_)
   ·have hil:i<V.length:=by omega
    have hsu:=Bw hil
    have hst2:=oA V (i+1)
    refine ai (o_ (br i rfl hil) ?_)
    rw[Nat.zero_add]
    refine aB (ld i hil) (.pick .here .nil) ?_
    refine eb ?_
    refine o_ bC (kN ?_)
    refine o_ eu ?_
    rw[dF_ (by omega)]
    refine af (jo fun ds3=>?_)
    refine o_ bC (bS ?_)
    refine bS ?_
    exact bX (m-1) (by omega) (.ex (i+1) (.pu ⟨by omega,by rw[hsu];congr 1;omega,rfl⟩ .refl))
   ·have hie:i=V.length:=by omega
    subst hie
    rw[List.take_length]
    refine af (aS fun b=>?_)
    refine aj (O6 (n:=M+iP V) (by omega) (by omega)) (.cons .here .nil) fun r=>?_
    refine aq ?_
    obtain⟨v',hv'⟩:∃v',v'=v:=⟨_,rfl⟩
    have hV0:V[0]'(by omega)=v:=by
     rw[List.getElem?_eq_getElem (by omega)]at hv0
     exact Option.some.inj hv0
    have hvl:v.length<=4194304:=by
     rw[hj0,List.length_append]at hV
     omega
    refine o_ (br 0 rfl (by omega)) ?_
    have ld0:=ld 0 (by omega)
    rw[hV0]at ld0
    refine dm ld0 ?_
    refine aj (mK (l:=[]) (m:=v) (by simp;omega)) (.cons .here .nil) fun r=>?_
    refine aq ?_
    refine o_ (lj 1 rfl (by omega)) ?_
    rw[if_neg (by omega),show(some (⟨g,0,none⟩:Addr)).map (·.add (1 * 1))=some ⟨g,1,none⟩ by simp[dQ]]
    refine o_ aK (a_ (fun m y=>(ex fun st:Nat × Option Addr × Nat=>all [pu (m+st.1=V.length-1/\y= .int .i64 (st.1:Int)),bd b st.2 (v++((V.drop 1).take st.1).flatMap (fun w=>sep++w))])::Sl 1 9 (some ⟨g,0,none⟩) c V.length (V.map az)::F) (V.length-1) ?_ ?_)
    ·refine .ex (0,r) (.all ?_)
     refine aq ?_
     refine .pu ⟨rfl,rfl⟩ ?_
     simp only[List.take_zero,List.flatMap_nil,List.append_nil]
     exact .refl
    intro m ds4 y
    refine bt .here fun st=>aE .here ?_
    obtain⟨i,r⟩:=st
    refine aq ?_
    refine aX .here fun hi=>?_
    (try dsimp only at hi)
    obtain⟨hmi,rfl⟩:=hi
    have hfl:=qg sep ((V.drop 1).take i)
    have hle:(v++((V.drop 1).take i).flatMap (fun w=>sep++w)).length<=4194304:=by
     have e:(V.drop 1).flatMap (fun w=>sep++w)=((V.drop 1).take i).flatMap (fun w=>sep++w)++((V.drop 1).drop i).flatMap (fun w=>sep++w):=by
      rw[<- List.flatMap_append,List.take_append_drop]
     rw[hj0,e,List.length_append,List.length_append]at hV
     rw[List.length_append]
     omega
    refine bj bD .nil (fun h=>?_) (fun h=>?_)
    ·have hil:i<V.length-1:=by omega
     have hwl:V[1+i]'(by omega)∈V:=List.getElem_mem _
     have htk:(V.drop 1).take (i+1)=(V.drop 1).take i++[V[1+i]'(by omega)]:=by
      rw[List.take_succ_eq_append_getElem (by rw[List.length_drop];omega),List.getElem_drop]
     have hle2:(v++((V.drop 1).take (i+1)).flatMap (fun w=>sep++w)).length<=4194304:=by
      have e:(V.drop 1).flatMap (fun w=>sep++w)=((V.drop 1).take (i+1)).flatMap (fun w=>sep++w)++((V.drop 1).drop (i+1)).flatMap (fun w=>sep++w):=by
       rw[<- List.flatMap_append,List.take_append_drop]
      rw[hj0,e,List.length_append,List.length_append]at hV
      rw[List.length_append]
      omega
     have hstep:v++((V.drop 1).take (i+1)).flatMap (fun w=>sep++w)=((v++((V.drop 1).take i).flatMap (fun w=>sep++w))++sep)++V[1+i]'(by omega):=by
      rw[htk,List.flatMap_append]
      simp
     rw[hstep,List.length_append,List.length_append]at hle2
     refine ai (o_ (br i rfl hil) ?_)
     refine dm (ld (1+i) (by omega)) ?_
     refine aj (mK (by omega)) (.cons .here .nil) fun r1=>?_
     refine aq ?_
     refine aj (mK (by rw[List.length_append];omega)) (.cons .here .nil) fun r2=>?_
     refine aq ?_
     refine bS ?_
     refine bq (m-1) (by omega) (.ex (i+1,r2) (.all ?_))
     refine aq ?_
     refine .pu ⟨by(try dsimp only);omega,rfl⟩ ?_
     (try dsimp only)
     rw[hstep]
     exact .refl
    ·have hie:i=V.length-1:=by omega
     have ht:(V.drop 1).take i=V.drop 1:=List.take_of_length_le (by rw[List.length_drop];omega)
     rw[ht,<- hj0]
     refine af ?_
     refine aj (pX (by
      intro e
      rw[e]at hjl
      simp at hjl
      omega)) (.cons .here .nil) fun _=>?_
     refine aq ?_
     refine aO () ?_
     exact aA
def lw (names:List (List UInt8))(f:Fd):Bool:=!names.any (fun n=>gi f.1 n)
def cX (l:List Fd)(names:List (List UInt8)):List Fd:=l.filter (lw names)
theorem yW {l:List Fd}{N:List (List UInt8)}{i:Nat}(h:i<l.length):cX (l.take (i+1)) N=cX (l.take i) N++(if lw N l[i]then [l[i]]else []):=by
 unfold cX
 rw[List.take_succ_eq_append_getElem h,List.filter_append]
 congr 1
 cases he:lw N l[i] <;> simp[he]
theorem ky (l:List Fd)(N:List (List UInt8)):(cX l N).length<=l.length:=List.length_filter_le _ _
end Go.Proofs.YtdjkdjepjahjfaaGreatDoor.FD
namespace Go.Proofs.YtdjkdjepjahjfaaGreatDoor.FD
open Go Go.Proofs Go.RowKit
def bs (s:String):List UInt8:=s.toUTF8.toList
def sP (v:List UInt8):List (List UInt8):=(jt (eH pN (bw false false v))).1
def d_:List UInt8:=[67,111,110,110,101,99,116,105,111,110]
def wj:List UInt8:=[75,101,101,112,45,65,108,105,118,101]
def wk:List UInt8:=[80,114,111,120,121,45,67,111,110,110,101,99,116,105,111,110]
def uw:List UInt8:=[80,114,111,120,121,45,65,117,116,104,101,110,116,105,99,97,116,101]
def ux:List UInt8:=[80,114,111,120,121,45,65,117,116,104,111,114,105,122,97,116,105,111,110]
def VX:List UInt8:=[84,69]
def By:List UInt8:=[84,114,97,105,108,101,114]
def yX:List UInt8:=[84,114,97,110,115,102,101,114,45,69,110,99,111,100,105,110,103]
def Bz:List UInt8:=[85,112,103,114,97,100,101]
def fg:List UInt8:=[72,111,115,116]
def kA:List UInt8:=[104,111,115,116]
def S3:List UInt8:=[67,111,110,116,101,110,116,45,76,101,110,103,116,104]
def Ep:List UInt8:=[69,120,112,101,99,116]
def nL:List UInt8:=[86,105,97]
def q5:List (List UInt8):=[d_,wj,wk,uw,ux,VX,By,yX,Bz]
def er (v:List UInt8):List (List UInt8):=(sP v).filter fun n=>decide (n≠kA)
def uy (l:List Fd):List (List UInt8):=q5++(bH l d_).flatMap er
def ej (l:List Fd):List Fd:=cX l (uy l)
def sQ:List (List UInt8):=[fg,S3,Ep,nL]
def sR:List UInt8:=[49,46,48,32,103,97,116,101,104,111,117,115,101]
def sS:List UInt8:=[49,46,49,32,103,97,116,101,104,111,117,115,101]
def uz (l:List Fd)(minor:Int):List UInt8:=iI [44,32] (bH l nL++[if minor=0 then sR else sS])
def sU (l:List Fd)(host:List UInt8)(minor:Int)(dg:Option (List UInt8)):List Fd:=
 (fg,host)::cX (ej l) sQ++(nL,uz l minor)::(match dg with|some d=>[(S3,d)]|none=>[])
theorem uA (a b:List Fd)(n:List UInt8):bH (a++b) n=bH a n++bH b n:=by unfold bH;rw[List.filter_append,List.map_append]
theorem nM (f:Fd)(l:List Fd)(n:List UInt8):bH (f::l) n=if gi f.1 n then f.2::bH l n else bH l n:=by
 unfold bH
 rw[List.filter_cons]
 split <;> simp
def zF:List Fd->Nat
 |[]=>0
 |f::r=>f.1.length+f.2.length+3+zF r
theorem o9 (f:Fd)(r:List Fd):zF (f::r)=f.1.length+f.2.length+3+zF r:=rfl
theorem Pp {l:List Fd}{f:Fd}(h:f∈l):f.1.length+f.2.length+3<=zF l:=by
 induction l with
 |nil=>cases h
 |cons g r ih=>
  unfold zF
  rcases List.mem_cons.1 h with rfl|h
  ·omega
  ·have:=ih h;omega
theorem kB (l:List Fd):3 * l.length<=zF l:=by
 induction l with
 |nil=>simp[zF]
 |cons g r ih=>unfold zF;rw[List.length_cons];omega
theorem qh {l:List Fd}(h:zF l<=2097152):oz l:=⟨by have:=kB l;omega,fun f hf=>by have:=Pp hf;omega⟩
theorem uB (p:Fd->Bool)(l:List Fd):zF (l.filter p)<=zF l:=by
 induction l with
 |nil=>simp[zF]
 |cons g r ih=>
  rw[List.filter_cons,o9]
  split
  ·rw[o9];omega
  ·omega
def zL:List (List UInt8)->Nat
 |[]=>0
 |v::r=>v.length+1+zL r
theorem mL (v:List UInt8)(r:List (List UInt8)):zL (v::r)=v.length+1+zL r:=rfl
theorem Ig (a b:List (List UInt8)):zL (a++b)=zL a+zL b:=by
 induction a with
 |nil=>simp[zL]
 |cons v r ih=>rw[List.cons_append,mL,mL,ih];omega
theorem BA {l:List (List UInt8)}{v:List UInt8}(h:v∈l):v.length+1<=zL l:=by
 induction l with
 |nil=>cases h
 |cons g r ih=>
  unfold zL
  rcases List.mem_cons.1 h with rfl|h
  ·omega
  ·have:=ih h;omega
theorem pb (l:List Fd)(n:List UInt8):zL (bH l n)<=zF l:=by
 induction l with
 |nil=>simp[bH,zL,zF]
 |cons g r ih=>
  rw[nM,o9]
  split
  ·rw[mL];omega
  ·omega
theorem qi (v:List UInt8):(sP v).length<=v.length+1/\∀w∈sP v,w.length<=v.length:=by
 have h1:=i_ (q:=false) (e:=false) (l:=v)
 unfold sP eH
 split
 ·refine⟨by simp[jt];omega,fun w hw=>?_⟩
  simp only[jt,List.mem_map]at hw
  obtain⟨x,hx,rfl⟩:=hw
  have:=kP hx
  simpa [pN,fX]using this
 ·exact⟨by simp[jt],fun w hw=>by simp[jt]at hw⟩
theorem nN:∀V:List (List UInt8),(V.flatMap er).length<=zL V
 |[]=>Nat.zero_le _
 |v::r=>by
  have h1:=(qi v).1
  have h2:=nN r
  have h3:(er v).length<=(sP v).length:=List.length_filter_le _ _
  rw[List.flatMap_cons,List.length_append]
  unfold zL
  omega
theorem Eq {l:List Fd}(h:zF l<=2097152):(uy l).length<=2097161/\∀n∈uy l,n.length<=4194304:=by
 have hv:=pb l d_
 refine⟨?_,fun n hn=>?_⟩
 ·unfold uy
  have:=nN (bH l d_)
  rw[List.length_append,show q5.length=9 from rfl];omega
 ·unfold uy at hn
  rcases List.mem_append.1 hn with c|c
  ·have:∀n∈q5,n.length<=20:=by decide
   have:=this n c;omega
  ·obtain⟨v,hv1,hv2⟩:=List.mem_flatMap.1 c
   have h1:=(qi v).2 n (List.mem_filter.1 hv2).1
   have h2:=BA hv1
   omega
end Go.Proofs.YtdjkdjepjahjfaaGreatDoor.FD
namespace Go.Proofs.YtdjkdjepjahjfaaGreatDoor.FD
open Go Go.Proofs Go.RowKit Sh Sl T
theorem yY {N:List (List UInt8)}{f:Fd}{j:Nat}(h:j<N.length):lw (N.take (j+1)) f=(lw (N.take j) f&&!gi f.1 N[j]):=by
 unfold lw
 rw[List.take_succ_eq_append_getElem h,List.any_append]
 simp
theorem lR {W:World}{A:HP}{g o n j:Nat}{N:List (List UInt8)}(hN:RdB W A (some ⟨g,o,none⟩) n (N.map az))(h:j<N.length):aT p_ W [A] (aL 9 (.pointer (some ⟨g,o+j,none⟩))) (az N[j]):=
 dI hN (by rw[List.getElem?_map,List.getElem?_eq_getElem h];rfl)
theorem iJ {W:World}{l:List Fd}{N:List (List UInt8)}{a na:Option Addr}{c nc:Nat}{A NA:HP}(hA:gD W A a l)(hl:oz l)(hN:RdB W NA na N.length (N.map az))(hn:∀n∈N,n.length<=4194304)(hNl:N.length<=1099511627776):
  Cn p_ 110 [.slice a l.length c,.slice na N.length nc] W [A,NA] (fun r:Option Addr × Nat=> .slice r.1 (cX l N).length r.2)
  (fun r=>[A,NA,Sl 2 192 r.1 r.2 (cX l N).length ((cX l N).flatMap cT)]):=by
 (refine Shp.cn (Sg.g_ Tryz.call110 Tryz.func110 (an:={loops:=[(3,[5,12]),(6,[18])]})) fun F=>?_;simp only[ca_,na_])
 refine o_ aK (cz (fun m x y=>[ex fun st:(Option Addr × Nat) × Nat=>all [pu (m+st.2=l.length/\x= .slice st.1.1 (cX (l.take st.2) N).length st.1.2/\y= .int .i64 (st.2:Int)),Sl 2 192 st.1.1 st.1.2 (cX (l.take st.2) N).length ((cX (l.take st.2) N).flatMap cT),A,NA]]++F) l.length ?_ ?_)
 ·refine Imp.ex ((none,0),0) (.all ?_)
  refine aq ?_
  refine .pu ⟨rfl,rfl,rfl⟩ ?_
  exact bO .refl
 intro m ds x y
 refine aq ?_
 refine bt Pick.here fun st=>aE Pick.here ?_
 obtain⟨⟨sa,sc⟩,i⟩:=st
 refine aq ?_
 refine aX Pick.here fun hi=>?_
 (try dsimp only at hi)
 obtain⟨hmi,rfl,rfl⟩:=hi
 refine bj bD .nil (fun h=>?_) (fun h=>?_)
 ·have hil:i<l.length:=by omega
  have hb:=hl.2 _ (List.getElem_mem hil)
  have hv:=yW (N:=N) hil
  have hvl:=ky (l.take i) N
  have hl1:=hl.1
  rw[List.length_take]at hvl
  refine ai ?_
  obtain⟨g,o,rfl⟩:=nC hA (Nat.zero_lt_of_lt hil)
  refine o_ (eA i rfl hil) ?_
  refine dm (nD hA hil) ?_
  generalize l[i]=f at hb hv ⊢
  unfold uh
  refine aS fun b7=>?_
  refine aG .here (by rfl) (by rfl) (by intro u hu;simp at hu;rcases hu with rfl|rfl <;> rfl) ?_
  refine o_ aK (a_ (fun k y=>pu (∃j:Nat,k+j=N.length/\y= .int .i64 (j:Int)/\lw (N.take j) f=true)::pt b7 (.cells #[az f.1,az f.2] 192)::Sl 2 192 sa sc (cX (l.take i) N).length ((cX (l.take i) N).flatMap cT)::A::NA::F) N.length ?_ ?_)
  ·refine .pu ⟨0,rfl,rfl,by simp[lw]⟩ ?_
   exact aA
  intro k ds2 y
  refine aX .here fun hj=>?_
  obtain⟨j,hkj,rfl,hno⟩:=hj
  refine bj bD .nil (fun h2=>?_) (fun h2=>?_)
  ·have hjl:j<N.length:=by omega
   have hnl:=hn _ (List.getElem_mem hjl)
   have hnt:=yY (f:=f) hjl
   refine ai ?_
   obtain⟨ng,no,rfl,_⟩:=hN.at_ (by omega)
   refine o_ (br j rfl hjl) ?_
   refine dm (lR hN hjl) ?_
   refine o_ ae (aM ?_)
   refine aj (equal (a:=f.1) (b:=N[j]) (by omega) (by omega)) .nil fun _=>?_
   refine aq ?_
   cases he:gi f.1 N[j]with
   |true=>
    refine ai (bS ?_)
    have hbad:lw N f=false:=by
     unfold lw
     rw[List.any_eq_true.2 ⟨_,List.getElem_mem hjl,he⟩];rfl
    rw[hbad,if_neg (by decide),List.append_nil]at hv
    refine bX (m-1) (by omega) (.ex ((sa,sc),i+1) (.all ?_))
    refine aq ?_
    (try dsimp only)
    rw[hv]
    refine .pu ⟨by omega,rfl,by norm_cast⟩ ?_
    exact aA
   |false=>
    refine af (bS ?_)
    refine bq (k-1) (by omega) (.pu ⟨j+1,by omega,by norm_cast,by rw[hnt,hno,he];rfl⟩ ?_)
    exact aA
  ·have hjl:j=N.length:=by omega
   subst hjl
   rw[List.take_length]at hno
   rw[hno,if_pos rfl]at hv
   refine af (iS ?_)
   refine d7 (n:=1) (vs:=[uh f]) rfl (by omega) rfl (by intro v hv;rw[List.mem_singleton.1 hv];rfl) (by omega) fun gb=>?_
   refine bV (m:=1) (news:=cT f) (by(repeat constructor):Pick _ (Sl 2 192 sa sc (cX (l.take i) N).length ((cX (l.take i) N).flatMap cT)) _) (bR (s:=2) (e':=192) (by kernel_rfl) .here (by rfl) (by intro u hu;simp[uh,Value.cells]at hu;rcases hu with rfl|rfl <;> rfl)) (by omega) (by omega) fun a' c'=>?_
   refine bS ?_
   refine bX (m-1) (by omega) (.ex ((a',c'),i+1) (.all ?_))
   refine aq ?_
   (try dsimp only)
   rw[hv,List.length_append,List.flatMap_append,List.length_singleton,List.flatMap_cons,List.flatMap_nil,List.append_nil]
   refine .pu ⟨by omega,rfl,by norm_cast⟩ ?_
   exact aA
 ·have:i=l.length:=by omega
  subst this
  rw[List.take_length]
  refine af (aO ((sa,sc)) ?_)
  exact aA
theorem Er {W:World}{l:List UInt8}(hl:l.length<=2097152):Cn p_ 107 [az l] W [] (fun r:Option Addr × Nat=> .tuple #[.slice r.1 (sP l).length r.2,.int .i64 (jt (fF l)).2])
  (fun r=>[Sl 1 9 r.1 r.2 (sP l).length ((sP l).map az)]):=by
 have e:∀L:List (List UInt8),L.flatMap jy=L.map az:=fun L=>by
  induction L with
  |nil=>rfl
  |cons x r ih=>rw[List.flatMap_cons,ih];rfl
 (refine Shp.cn (Sg.g_ Tryz.call107 Tryz.func107) fun F=>?_;simp only[ca_,na_])
 refine o_ bM ?_
 refine aj (ow hl fun w hw=>AY (by omega)) .nil fun r=>?_
 refine aq ?_
 refine o_ (bk (vs:=[_,_]) .here) ?_
 refine o_ (bk (vs:=[_,_]) (.there .here)) ?_
 refine aO r ?_
 rw[e]
 exact .refl
theorem uC {T:List (List UInt8)}{p:List UInt8->Bool}{j:Nat}(h:j<T.length):(T.take (j+1)).filter p=(T.take j).filter p++(if p T[j]then [T[j]]else []):=by
 rw[List.take_succ_eq_append_getElem h,List.filter_append]
 congr 1
 cases he:p T[j] <;> simp[he]
theorem yZ {V:List (List UInt8)}{f:List UInt8->List (List UInt8)}{i:Nat}(h:i<V.length):(V.take (i+1)).flatMap f=(V.take i).flatMap f++f V[i]:=by
 rw[List.take_succ_eq_append_getElem h,List.flatMap_append];simp
theorem q6 {V:List (List UInt8)}{f:List UInt8->List (List UInt8)}{i:Nat}:((V.take i).flatMap f).length<=(V.flatMap f).length:=by
 have:V.flatMap f=(V.take i).flatMap f++(V.drop i).flatMap f:=by rw[<- List.flatMap_append,List.take_append_drop]
 rw[this,List.length_append];omega
theorem BB {W:World}{l:List Fd}{a:Option Addr}{c:Nat}{A:HP}(hA:gD W A a l)(hl:zF l<=2097152):
  Cn p_ 111 [.slice a l.length c] W [A] (fun r:Option Addr × Nat=> .slice r.1 (ej l).length r.2)
  (fun r=>[A,Sl 2 192 r.1 r.2 (ej l).length ((ej l).flatMap cT)]):=by
 have hok:=qh hl
 obtain⟨hn1,hn2⟩:=Eq hl
 (refine Shp.cn (Sg.g_ Tryz.call111 Tryz.func111 (an:={loops:=[(3,[3,14]),(7,[3,25])]})) fun F=>?_;simp only[ca_,na_])
 refine et (n:=9) (vs:=q5.map az) rfl rfl (by intro v hv;obtain⟨c,_,rfl⟩:=List.mem_map.1 hv;rfl) (by omega) fun g0=>?_
 refine MC (s:=1) (n:=9) .here rfl (by decide) ?_
 refine aj (f5 (n:=d_) hA hok (by decide)) (.cons (by repeat constructor) .nil) fun r=>?_
 obtain⟨va,vc⟩:=r
 refine aq ?_
 obtain⟨V,hV⟩:∃V,V=bH l d_:=⟨_,rfl⟩
 have hzV:zL V<=zF l:=by rw[hV];exact pb l d_
 have hVn:=nN V
 rw[<- hV]
 have hVl:V.length<=4194304:=by rw[hV];have:=ko l d_;have:=hok.1;omega
 refine o_ aK (aN (by(repeat constructor):Pick _ (Sl 1 9 va vc V.length (V.map az)) _) fun _ _ _ hsV=>?_)
 refine cz (fun m x y=>[ex fun st:(Option Addr × Nat) × Nat=>all [pu (m+st.2=V.length/\x= .slice st.1.1 (q5++(V.take st.2).flatMap er).length st.1.2/\y= .int .i64 (st.2:Int)),Sl 1 9 st.1.1 st.1.2 (q5++(V.take st.2).flatMap er).length ((q5++(V.take st.2).flatMap er).map az),Sl 1 9 va vc V.length (V.map az),A]]++F) V.length ?_ ?_
 ·refine Imp.ex ((some ⟨g0,0,none⟩,9),0) (.all ?_)
  refine aq ?_
  refine .pu ⟨rfl,rfl,rfl⟩ ?_
  (try dsimp only)
  exact aA
 intro m ds x y
 refine aq ?_
 refine bt Pick.here fun st=>aE Pick.here ?_
 obtain⟨⟨sa,sc⟩,i⟩:=st
 refine aq ?_
 refine aX Pick.here fun hi=>?_
 (try dsimp only at hi)
 obtain⟨hmi,rfl,rfl⟩:=hi
 (try dsimp only)
 refine bj bD .nil (fun h=>?_) (fun h=>?_)
 ·have hil:i<V.length:=by omega
  obtain⟨gv,rfl⟩:=hsV (by omega)
  have hft:=yZ (f:=er) hil
  have hzi:=BA (List.getElem_mem hil)
  have hfl:=q6 (V:=V) (f:=er) (i:=i)
  refine ai (o_ (br i rfl hil) ?_)
  rw[Nat.zero_add]
  have hld:(V.map az)[i]? =some (az V[i]):=by rw[List.getElem?_map,List.getElem?_eq_getElem hil];rfl
  refine dm (bF hld) ?_
  generalize V[i]=v at hft hzi ⊢
  refine aj (Er (l:=v) (by omega)) .nil fun r=>?_
  obtain⟨ta,tc⟩:=r
  refine aq ?_
  (try dsimp only)
  refine o_ (bk (vs:=[_,_]) .here) ?_
  refine o_ (bk (vs:=[_,_]) (.there .here)) ?_
  refine o_ aK ?_
  obtain⟨T,hT⟩:∃T,T=sP v:=⟨_,rfl⟩
  have hTl:=(qi v).1
  rw[<- hT]at hTl ⊢
  obtain⟨P,hP⟩:∃P,P=q5++(V.take i).flatMap er:=⟨_,rfl⟩
  have hPl:P.length<=9+(V.flatMap er).length:=by rw[hP,List.length_append,show q5.length=9 from rfl];omega
  rw[<- hP]
  refine aN .here fun _ _ _ hsT=>?_
  refine cz (fun k x y=>[ex fun st:(Option Addr × Nat) × Nat=>all [pu (k+st.2=T.length/\x= .slice st.1.1 (P++(T.take st.2).filter fun n=>decide (n≠kA)).length st.1.2/\y= .int .i64 (st.2:Int)),Sl 1 9 st.1.1 st.1.2 (P++(T.take st.2).filter fun n=>decide (n≠kA)).length ((P++(T.take st.2).filter fun n=>decide (n≠kA)).map az),Sl 1 9 ta tc T.length (T.map az),Sl 1 9 (some ⟨gv,0,none⟩) vc V.length (V.map az),A]]++F) T.length ?_ ?_
  ·refine Imp.ex ((sa,sc),0) (.all ?_)
   refine aq ?_
   refine .pu ⟨rfl,by rw[List.take_zero,List.filter_nil,List.append_nil],rfl⟩ ?_
   rw[List.take_zero,List.filter_nil,List.append_nil]
   exact aA
  intro k ds2 x y
  refine aq ?_
  refine bt Pick.here fun st=>aE Pick.here ?_
  obtain⟨⟨ua,uc⟩,j⟩:=st
  refine aq ?_
  refine aX Pick.here fun hj=>?_
  (try dsimp only at hj)
  obtain⟨hkj,rfl,rfl⟩:=hj
  (try dsimp only)
  refine bj bD .nil (fun h2=>?_) (fun h2=>?_)
  ·have hjl:j<T.length:=by omega
   obtain⟨gt,rfl⟩:=hsT (by omega)
   have hfj:=uC (p:=fun n=>decide (n≠kA)) hjl
   have hfjl:((T.take j).filter fun n=>decide (n≠kA)).length<=T.length:=Nat.le_trans (List.length_filter_le _ _) (by rw[List.length_take];omega)
   refine ai (o_ (br j rfl hjl) ?_)
   rw[Nat.zero_add]
   have hlt:(T.map az)[j]? =some (az T[j]):=by rw[List.getElem?_map,List.getElem?_eq_getElem hjl];rfl
   refine dm (bF hlt) ?_
   generalize T[j]=t at hfj ⊢
   refine o_ (ee (l:=t) (m:=kA)) ?_
   by_cases hh:t=kA
   ·rw[if_neg (by simpa using hh),List.append_nil]at hfj
    rw[dF_ (fun c=>c hh)]
    refine af (bS ?_)
    refine bX (k-1) (by omega) (.ex ((ua,uc),j+1) (.all ?_))
    refine aq ?_
    (try dsimp only)
    rw[hfj]
    refine .pu ⟨by omega,rfl,by norm_cast⟩ ?_
    exact aA
   ·rw[if_pos (by simpa using hh)]at hfj
    rw[dT_ hh]
    refine ai (et (n:=1) (vs:=[az t]) rfl rfl (by intro v hv;rw[List.mem_singleton.1 hv];rfl) (by omega) fun gb=>?_)
    refine bV (m:=1) (news:=[az t]) (by(repeat constructor):Pick _ (Sl 1 9 ua uc (P++(T.take j).filter fun n=>decide (n≠kA)).length ((P++(T.take j).filter fun n=>decide (n≠kA)).map az)) _) (bR (s:=1) (e':=9) (by kernel_rfl) .here (by rfl) (by intro u hu;rw[List.mem_singleton.1 hu];rfl)) (by rw[List.length_append];omega) (by rw[List.length_append];omega) fun a' c'=>?_
    refine bS ?_
    refine bX (k-1) (by omega) (.ex ((a',c'),j+1) (.all ?_))
    refine aq ?_
    (try dsimp only)
    rw[hfj,<- List.append_assoc,List.length_append (bs:=[t]),List.map_append (l₂:=[t])]
    refine .pu ⟨by omega,rfl,by norm_cast⟩ ?_
    exact aA
  ·have hjl:j=T.length:=by omega
   subst hjl
   rw[List.take_length]
   refine af (bS ?_)
   refine bX (m-1) (by omega) (.ex ((ua,uc),i+1) (.all ?_))
   refine aq ?_
   (try dsimp only)
   rw[hft,<- List.append_assoc,<- hP,show er v=T.filter fun n=>decide (n≠kA) by rw[hT];rfl]
   refine .pu ⟨by omega,rfl,by norm_cast⟩ ?_
   exact aA
 ·have:i=V.length:=by omega
  subst this
  rw[List.take_length]
  refine af ?_
  have hN:q5++V.flatMap er=uy l:=by unfold uy;rw[hV]
  rw[hN]
  refine aN .here fun _ _ _ hs=>?_
  refine aj (iJ (N:=uy l) hA hok (fD (e:=9) (a:=sa) (cap:=sc) (by rw[List.length_map]) hs) hn2 (by omega)) (.cons (by repeat constructor) (.cons (by repeat constructor) .nil)) fun r=>?_
  refine aq ?_
  refine aO r ?_
  unfold ej
  exact aA
theorem Ih (c:UInt8):tX c=((decide ((c.toNat:Int)<32)&&decide (c≠9))||decide (c=127)):=by
 have e:decide ((c.toNat:Int)<32)=decide (c<32):=by
  rw[decide_eq_decide,UInt8.lt_iff_toNat_lt]
  simp only[show(32:UInt8).toNat=32 from rfl]
  omega
 rw[e]
 unfold tX
 by_cases h1:c<32 <;> by_cases h2:c=9 <;> by_cases h3:c=127 <;> simp[h1,h2,h3]
theorem sV:∀(n:Nat) (r:List UInt8),r.length<=n->∀acc,(j7 acc r).1.length<=acc.length+r.length
 |_,[],_,acc=>by simp[j7]
 |n+1,c::r,hn,acc=>by
  have hr:r.length<=n:=by simpa using hn
  rw[rz]
  split
  ·simp
  ·split
   ·cases r with
    |nil=>simp
    |cons d r'=>
     simp only
     split
     ·simp
     ·have:=sV n r' (by simp at hr;omega) (acc++[d])
      simp at this ⊢;omega
   ·split
    ·simp
    ·have:=sV n r hr (acc++[c])
     simp at this ⊢;omega
theorem Es {a:Option Addr}{n:Nat}(h:0<n->∃g,a=some ⟨g,0,none⟩):a=none->n=0:=fun e=>by
 rcases Nat.eq_zero_or_pos n with c|c
 ·exact c
 ·obtain⟨g,hg⟩:=h c
  rw[e]at hg;cases hg
theorem xI {l:List UInt8}(h:0<l.length):nq l=if l[0]=34 then j7 [] (l.drop 1)else([],false):=by
 cases l with
 |nil=>simp at h
 |cons c r=>rfl
theorem Et {W:World}{l:List UInt8}(hl:l.length<=4194304):Cn p_ 497 [az l] W [] (fun _:Unit=> .tuple #[az (nq l).1,.bool (nq l).2]) (fun _=>[]):=by
 (refine Shp.cn (Sg.g_ Tryz.call497 Tryz.func497 (an:={cuts:=[(15,[5,6])],loops:=[(5,[4,5])]})) fun F=>?_;simp only[ca_,na_])
 refine o_ bC (o_ bD ?_)
 have e0:(Value.string ⟨#[]⟩)=az []:=rfl
 rw[e0]
 by_cases h2:l.length<2
 ·have hno:nq l=([],false):=by
   match l,h2 with
   |[],_=>rfl
   |[c],_=>
    show(if c=34 then j7 [] []else([],false))=([],false)
    split <;> rfl
   |_::_::_,h=>exact absurd h (by simp)
  rw[hno,dT_ (by omega)]
  refine aC (aC (aC (o_ av (ai (aO () ?_)))))
  exact aA
 ·rw[dF_ (by omega)]
  refine OZ (fun _=>eP (l:=l) 0 rfl (by omega)) (fun _=>OR 34 rfl) ?_
  rw[Bool.false_or]
  by_cases h3:l[0]'(by omega)=34
  ·rw[dF_ (fun c=>c h3)]
   have hu:nq l=j7 [] (l.drop 1):=by rw[xI (by omega),if_pos h3]
   rw[hu]
   refine af (cz (fun m x y=>[ex fun st:(List UInt8 × Option Addr × Nat) × Nat=>all [pu (m+st.2=l.length+1/\st.2<=l.length/\x= .slice st.1.2.1 st.1.1.length st.1.2.2/\y= .int .i64 (st.2:Int)/\st.1.1.length<=st.2/\j7 [] (l.drop 1)=j7 st.1.1 (l.drop st.2)),Sl 1 5 st.1.2.1 st.1.2.2 st.1.1.length (st.1.1.map B)]]++F) l.length ?_ ?_)
   ·refine Imp.ex (([],none,0),1) (.all ?_)
    refine aq ?_
    refine .pu ⟨rfl,by(try dsimp only);omega,rfl,rfl,by simp,rfl⟩ ?_
    exact bO .refl
   intro m ds x y
   refine aq ?_
   refine bt Pick.here fun st=>aE Pick.here ?_
   obtain⟨⟨acc,sa,sc⟩,i⟩:=st
   refine aq ?_
   refine aX Pick.here fun hi=>?_
   (try dsimp only at hi)
   obtain⟨hmi,hil,rfl,rfl,hac,hun⟩:=hi
   refine o_ bC (bj bD .nil (fun h=>?_) (fun h=>?_))
   rotate_left
   ·have hie:i=l.length:=by omega
    rw[show l.drop i=[]from List.drop_of_length_le (by omega)]at hun
    have hun:j7 [] (l.drop 1)=([],false):=by rw[hun];rfl
    rw[hun]
    refine af (aO () ?_)
    exact aA
   have hlt:i<l.length:=by omega
   rw[dr hlt,rz]at hun
   refine ai (o_ (eP i rfl hlt) ?_)
   refine fW (fun z5 z6=>(ex fun st:Nat × UInt8=>pu (z5= .int .i64 (st.1:Int)/\z6=B st.2/\i<=st.1/\st.1<l.length/\j7 [] (l.drop 1)=if tX st.2 then([],false)else j7 (acc++[st.2]) (l.drop (st.1+1))))::Sl 1 5 sa sc acc.length (acc.map B)::F) ?_ ?_
   ·intro ds2 z5 z6
    refine bt .here fun st=>aX .here fun hz=>?_
    obtain⟨j,d⟩:=st
    (try dsimp only at hz)
    obtain⟨rfl,rfl,hij,hjl,hun2⟩:=hz
    refine o_ (bD (q:= .u8) (a:=(d.toNat:Int)) (b:=32)) ?_
    refine ue (fun _=>OR 9 rfl) ?_
    refine OY (fun _=>sH 127 rfl) ?_
    rw[<- Ih]
    cases hb:tX d with
    |true=>
     rw[hb,if_pos rfl]at hun2
     rw[hun2]
     refine ai (aO () ?_)
     exact aA
    |false=>
     rw[hb,if_neg (by decide)]at hun2
     refine af (cZ fun gb=>?_)
     refine bV (m:=1) (news:=[B d]) (by repeat constructor) (bR (e':=5) (by kernel_rfl) .here (by rfl) (by intro u hu;rw[List.mem_singleton.1 hu];rfl)) (by omega) (by omega) fun a' c'=>?_
     refine bS ?_
     refine bX (m-(j+1-i)) (by omega) (.ex ((acc++[d],a',c'),j+1) (.all ?_))
     refine aq ?_
     refine .pu ⟨by(try dsimp only);omega,by(try dsimp only);omega,by simp,rfl,by simp;omega,hun2⟩ ?_
     rw[List.length_append,List.map_append]
     simp only[List.length_singleton,List.map_cons,List.map_nil]
     exact aA
   ·refine o_ (sH 34 rfl) ?_
    by_cases h34:l[i]=34
    ·rw[dT_ h34]
     rw[if_pos h34]at hun
     rw[hun]
     refine ai (aN .here fun f1 f2 f3 f4=>?_)
     refine aB (ry (l:=acc) (fD (by simp) f4) (Es f4)) (.pick .here .nil) ?_
     refine bS ?_
     refine o_ bC (o_ cJ ?_)
     have e:decide ((i:Int)+1=(l.length:Int))=(l.drop (i+1)).isEmpty:=by
      rw[Bool.eq_iff_iff]
      simp only[decide_eq_true_iff,List.isEmpty_iff,List.drop_eq_nil_iff]
      omega
     rw[e]
     refine aO () ?_
     exact aA
    ·rw[dF_ h34]
     rw[if_neg h34]at hun
     refine af (o_ (sH 92 rfl) ?_)
     by_cases h92:l[i]=92
     ·rw[dT_ h92]
      rw[if_pos h92]at hun
      refine ai (bS ?_)
      refine o_ bC (bj cJ .nil (fun h5=>?_) (fun h5=>?_))
      ·rw[show l.drop (i+1)=[]from List.drop_of_length_le (by omega)]at hun
       simp only at hun
       rw[hun]
       refine ai (aO () ?_)
       exact aA
      ·have hi1:i+1<l.length:=by omega
       rw[dr hi1]at hun
       simp only at hun
       refine af (o_ (eP (i+1) rfl hi1) ?_)
       refine aI (.ex (i+1,l[i+1]) (.pu ⟨rfl,rfl,by(try dsimp only);omega,hi1,hun⟩ .refl))
     ·rw[dF_ h92]
      rw[if_neg h92]at hun
      refine af (aI (.ex (i,l[i]) (.pu ⟨rfl,rfl,Nat.le_refl _,hlt,hun⟩ .refl)))
  ·rw[dT_ h3]
   have hno:nq l=([],false):=by rw[xI (by omega),if_neg h3]
   rw[hno]
   refine ai (aO () ?_)
   exact aA
theorem y_ {W:World}{l:List UInt8}(hl:l.length<=4194304):Cn p_ 443 [az l] W [] (fun _:Unit=> .tuple #[qZ (nr l).1,.bool (nr l).2]) (fun _=>[]):=by
 have hA:=ik (c:=61) l
 have hB:=gj (c:=61) l
 (refine Shp.cn (Sg.g_ Tryz.call443 Tryz.func443) fun F=>?_;simp only[ca_,na_])
 refine aS fun b2=>?_
 refine c_ (AR (c:=61) (l:=l) (by omega)) fun _=>?_
 refine o_ (bk (vs:=[_,_,_]) .here) ?_
 refine o_ (bk (vs:=[_,_,_]) (.there .here)) ?_
 refine o_ (bk (vs:=[_,_,_]) (.there (.there .here))) ?_
 refine o_ ae (bU ?_);refine o_ ae (bU ?_);refine o_ ae (bU ?_);refine o_ ae (aM ?_)
 refine c_ (ov (l:=cy 61 l) (by omega)) fun _=>?_
 refine o_ ae (aM ?_)
 refine c_ (pT (l:=cy 61 l) (by omega)) fun _=>?_
 refine o_ ae (bU ?_);refine o_ ae (aM ?_)
 cases hs:gg 61 l with
 |false=>
  have e:nr l=(⟨fX (cy 61 l),bW 61 l,false⟩,kZ (cy 61 l)):=by unfold nr;rw[hs];rfl
  rw[e]
  refine ao (ao (ao (ao (o_ am (af (iS ?_))))));(((refine' aG ?hp ?hn ?hv ?h1 ?_);(case hp=>(repeat constructor));(case hn=>rfl);(case hv=>rfl);(case h1=>simp[Value.oneCell',az])));(((refine' aP (cB ?hn) ?hi ?_);(case hi=>exact aA);(case hn=>rfl)))
  refine aO () ?_
  exact aA
 |true=>
  refine ab (o_ ae (ab (aM ?_)));refine ab (c_ (ov (l:=bW 61 l) (by omega)) fun _=>?_)
  refine ab (o_ eU (o_ av ?_))
  cases ht:kZ (bW 61 l)with
  |true=>
   have e:nr l=(⟨fX (cy 61 l),bW 61 l,true⟩,kZ (cy 61 l)):=by unfold nr;rw[hs,ht];rfl
   rw[e,show(!true)=false from rfl]
   refine af (iS ?_);(((refine' aG ?hp ?hn ?hv ?h1 ?_);(case hp=>(repeat constructor));(case hn=>rfl);(case hv=>rfl);(case h1=>simp[Value.oneCell',az])));(((refine' aP (cB ?hn) ?hi ?_);(case hi=>exact aA);(case hn=>rfl)))
   refine aO () ?_
   exact aA
  |false=>
   have e:nr l=(⟨fX (cy 61 l),(nq (bW 61 l)).1,true⟩,kZ (cy 61 l)&&(nq (bW 61 l)).2):=by unfold nr;rw[hs,ht];rfl
   rw[e,show(!false)=true from rfl]
   refine ai (o_ ae (aM ?_))
   refine c_ (Et (l:=bW 61 l) (by omega)) fun _=>?_
   refine bI ?_;refine bI ?_;refine o_ ae (bU ?_)
   refine vV ?_
   refine iS ?_;(((refine' aG ?hp ?hn ?hv ?h1 ?_);(case hp=>(repeat constructor));(case hn=>rfl);(case hv=>rfl);(case h1=>simp[Value.oneCell',az])));(((refine' aP (cB ?hn) ?hi ?_);(case hi=>exact aA);(case hn=>rfl)))
   refine aO () ?_
   exact aA
theorem qj {W:World}{l:List UInt8}(hl:l.length<=2097152):Cn p_ 381 [az l] W [] (fun r:Option Addr × Nat=> .tuple #[.slice r.1 (jt (lr l)).1.length r.2,.int .i64 (jt (lr l)).2])
  (fun r=>[Sl 3 524 r.1 r.2 (jt (lr l)).1.length ((jt (lr l)).1.flatMap eM)]):=by
 (refine Shp.cn (Sg.g_ Tryz.call381 Tryz.func381) fun F=>?_;simp only[ca_,na_])
 refine o_ bM ?_
 refine aj (AV hl fun w hw=>y_ (by omega)) .nil fun r=>?_
 refine aq ?_
 refine o_ (bk (vs:=[_,_]) .here) ?_
 refine o_ (bk (vs:=[_,_]) (.there .here)) ?_
 refine aO r ?_
 exact .refl
theorem Ii {W:World}{xs:List Dir}{i n g c:Nat}(h:i<xs.length)(hn:n=xs.length):aT p_ W [Sl 3 524 (some ⟨g,0,none⟩) c n (xs.flatMap eM)] (aL 524 (.pointer (some ⟨g,0+i * 3,none⟩))) (qZ xs[i]):=by
 subst hn
 exact dp (vs:=eM xs[i]) (ef (j_ (f:=eM) (s:=3) (fun _=>rfl) xs) (fun _=>⟨g,rfl⟩)) rfl (fun j hj=>i6 (f:=eM) (s:=3) (fun _=>rfl) xs i j h hj)
def qk (c:UInt8):Nat->List UInt8->List (List UInt8)
 |0,_=>[]
 |f+1,l=>if l=[]then []else if de (cy c l)=[]then qk c f (bW c l)else de (cy c l)::qk c f (bW c l)
def xJ (c:UInt8)(l:List UInt8):List (List UInt8):=qk c (l.length+1) l
theorem gY (c:UInt8):∀l:List UInt8,(cy c l).length<=l.length/\(l≠[]->(bW c l).length<l.length)
 |[]=>⟨Nat.le_refl _,fun h=>absurd rfl h⟩
 |x::l=>by
  obtain⟨h1,h2⟩:=gY c l
  constructor
  ·unfold cy;split <;> simp;omega
  ·intro _
   unfold bW
   split
   ·simp
   ·by_cases hl:l=[]
    ·subst hl;simp[bW]
    ·have:=h2 hl;simp;omega
theorem BC (c:UInt8){l:List UInt8}(h:l≠[]):∀f,l.length<f->qk c f l=if de (cy c l)=[]then qk c (f-1) (bW c l)else de (cy c l)::qk c (f-1) (bW c l)
 |0,hf=>by omega
 |f+1,hf=>by rw[qk,if_neg h,Nat.add_sub_cancel]
theorem uD (c:UInt8):∀(n:Nat) (l:List UInt8),l.length<=n->∀f g,l.length<f->l.length<g->qk c f l=qk c g l
 |n,l,hn,0,g,hf,hg=>by omega
 |n,l,hn,f+1,0,hf,hg=>by omega
 |n,l,hn,f+1,g+1,hf,hg=>by
  rw[qk,qk]
  by_cases h:l=[]
  ·rw[if_pos h,if_pos h]
  ·rw[if_neg h,if_neg h]
   have hl:=(gY c l).2 h
   cases n with
   |zero=>have:l=[]:=List.eq_nil_of_length_eq_zero (by omega);exact absurd this h
   |succ n=>rw[uD c n (bW c l) (by omega) f g (by omega) (by omega)]
theorem sW (c:UInt8):xJ c []=[]:=rfl
theorem uE (c:UInt8){l:List UInt8}(h:l≠[]):xJ c l=(if de (cy c l)=[]then []else [de (cy c l)])++xJ c (bW c l):=by
 have hl:=(gY c l).2 h
 unfold xJ
 rw[BC c h _ (by omega),Nat.add_sub_cancel,uD c _ (bW c l) (Nat.le_refl _) l.length ((bW c l).length+1) hl (by omega)]
 split <;> rfl
theorem pd (c:UInt8):∀(n:Nat) (l:List UInt8),l.length<=n->(xJ c l).length<=l.length/\∀w∈xJ c l,w.length<=l.length
 |0,l,h=>by
  have:l=[]:=List.eq_nil_of_length_eq_zero (by omega)
  subst this
  exact⟨Nat.le_refl _,fun w hw=>by simp[sW]at hw⟩
 |n+1,l,h=>by
  by_cases hl:l=[]
  ·subst hl;exact⟨Nat.le_refl _,fun w hw=>by simp[sW]at hw⟩
  ·have h1:=(gY c l).2 hl
   obtain⟨i1,i2⟩:=pd c n (bW c l) (by omega)
   rw[uE c hl]
   constructor
   ·rw[List.length_append]
    split <;> simp <;> omega
   ·intro w hw
    rcases List.mem_append.1 hw with hw|hw
    ·split at hw
     ·cases hw
     ·rw[List.mem_singleton.1 hw]
      exact Nat.le_trans (pM _) (gY c l).1
    ·exact Nat.le_trans (i2 w hw) (by omega)
theorem split {W:World}{l:List UInt8}{c:UInt8}(hl:l.length<=4194304):Cn p_ 305 [az l,Sl.B c] W [] (fun r:Option Addr × Nat=> .slice r.1 (xJ c l).length r.2) (fun r=>[Sl 1 9 r.1 r.2 (xJ c l).length ((xJ c l).map az)]):=by
 have hnum:=(pd c _ l (Nat.le_refl _)).1
 (refine Shp.cn (Sg.g_ Tryz.call305 Tryz.func305 (an:={cuts:=[(8,[0,6])],loops:=[(2,[0,5])],drs:=[(6,.ofL [(0,1),(1,1),(2,1),(3,1),(4,1),(5,1),(6,1),(7,1),(8,1)])]})) fun F=>?_;simp only[ca_,na_])
 refine cz (fun m x y=>(ex fun st:(Option Addr × Nat) × (List UInt8 × List (List UInt8))=>all [pu (m=st.2.1.length/\x=az st.2.1/\y= .slice st.1.1 st.2.2.length st.1.2/\xJ c l=st.2.2++xJ c st.2.1/\st.2.1.length<=l.length),Sl 1 9 st.1.1 st.1.2 st.2.2.length (st.2.2.map az)])::F) l.length ?_ ?_
 ·refine .ex ((none,0),(l,[])) (.all ?_)
  refine aq ?_
  refine .pu ⟨rfl,rfl,rfl,rfl,Nat.le_refl _⟩ ?_
  exact bO .refl
 intro m ds x y
 refine bt .here fun st=>aE .here ?_
 obtain⟨⟨sa,sc⟩,⟨r,out⟩⟩:=st
 refine aq ?_
 refine aX .here fun hi=>?_
 (try dsimp only at hi)
 obtain⟨rfl,rfl,rfl,hsp,hrl⟩:=hi
 (try dsimp only)
 have hol:=congrArg List.length hsp
 rw[List.length_append]at hol
 refine o_ bC (o_ eu ?_)
 by_cases hr:r=[]
 ·subst hr
  rw[dF_ (by decide)]
  refine af ?_
  rw[sW,List.append_nil]at hsp
  rw[hsp]
  refine aO ((sa,sc)) ?_
  exact aA
 have hr0:0<r.length:=List.length_pos_iff.2 hr
 rw[dT_ (by omega)]
 refine ai (fW (fun x y=>pu (x=az (bW c r)/\y=az (cy c r))::Sl 1 9 sa sc out.length (out.map az)::F) ?_ ?_)
 rotate_left
 ·refine c_ (indexByte (l:=r) (c:=c)) fun _=>?_
  obtain⟨k1,k2⟩:=jv (c:=c) (l:=r)
  refine bj dy .nil (fun h=>?_) (fun h=>?_)
  ·have hm:=e5.1 h
   obtain⟨_,q1,q2⟩:=k1 hm
   have hix:lY r c=((r.findIdx (· ==c):Nat):Int):=by unfold lY;rw[if_pos hm]
   have hfl:r.findIdx (· ==c)<r.length:=List.findIdx_lt_length_of_exists ⟨c,hm,by simp⟩
   rw[hix]
   refine ai (aV (t_ (j4 (r.findIdx (· ==c)) rfl (by omega)) ?_))
   refine t_ (ie (by omega) (by omega)) ?_
   refine t_ (i4 (r.findIdx (· ==c)+1) (by norm_cast) (by omega)) ?_
   rw[q1,q2]
   refine aI (.pu ⟨rfl,rfl⟩ ?_)
   exact aA
  ·have hm:c∉r:=fun d=>h (e5.2 d)
   obtain⟨_,q1,q2⟩:=k2 hm
   refine af ?_
   rw[q1,q2]
   refine aI (.pu ⟨rfl,rfl⟩ ?_)
   exact aA
 intro ds2 x y
 refine aX .here fun hi=>?_
 obtain⟨rfl,rfl⟩:=hi
 obtain⟨l1,l2⟩:=gY c r
 have l2:=l2 hr
 have hst:=uE c hr
 refine c_ (uf (l:=cy c r) (by omega)) fun _=>?_
 refine o_ (ee (m:=[])) ?_
 by_cases ht:de (cy c r)=[]
 ·rw[dF_ (fun h=>h ht)]
  rw[if_pos ht,List.nil_append]at hst
  refine af (bX (bW c r).length l2 (.ex ((sa,sc),(bW c r,out)) (.all ?_)))
  refine aq ?_
  refine .pu ⟨rfl,rfl,rfl,by rw[hsp,hst],by(try dsimp only);omega⟩ ?_
  exact aA
 ·rw[dT_ ht]
  rw[if_neg ht]at hst
  refine ai (et (n:=1) (vs:=[az (de (cy c r))]) rfl rfl (by intro v hv;rw[List.mem_singleton.1 hv];rfl) (by omega) fun gb=>?_)
  refine bV (m:=1) (news:=[az (de (cy c r))]) (by(repeat constructor):Pick _ (Sl 1 9 sa sc out.length (out.map az)) _) (bR (s:=1) (e':=9) (by kernel_rfl) .here (by rfl) (by intro u hu;rw[List.mem_singleton.1 hu];rfl)) (by omega) (by omega) fun a' c'=>?_
  refine bX (bW c r).length l2 (.ex ((a',c'),(bW c r,out++[de (cy c r)])) (.all ?_))
  refine aq ?_
  rw[List.length_append,List.map_append]
  refine .pu ⟨rfl,rfl,rfl,by rw[hsp,hst,List.append_assoc],by(try dsimp only);omega⟩ ?_
  exact aA
theorem nO {W:World}{N:List (List UInt8)}{x:List UInt8}{a:Option Addr}{c:Nat}{NA:HP}(hN:RdB W NA a N.length (N.map az))(hn:N.length<=4611686018427387904):Cn p_ 108 [.slice a N.length c,az x] W [NA] (fun _:Unit=> .bool (N.contains x)) (fun _=>[NA]):=by
 have hI:Cn p_ 181 [.slice a N.length c,az x] W [NA] (fun i:{i:Int // decide (0<=i)=N.contains x}=> .int .i64 i.1) (fun _=>[NA]):=by
  (refine Shp.cn (Sg.g_ Tryz.call181 Tryz.func181 (an:={loops:=[(2,[8])]})) fun F=>?_;simp only[ca_,na_])
  refine o_ aK (a_ (fun m y=>pu (∃i:Nat,m+i=N.length/\y= .int .i64 (i:Int)/\x∉N.take i)::NA::F) N.length ?_ ?_)
  ·refine .pu ⟨0,rfl,rfl,by simp⟩ ?_
   exact aA
  intro m ds y
  refine aX .here fun hi=>?_
  obtain⟨i,hmi,rfl,hno⟩:=hi
  refine bj bD .nil (fun h=>?_) (fun h=>?_)
  ·have hin:i<N.length:=by omega
   obtain⟨g,o,rfl,_⟩:=hN.at_ (by omega)
   refine ai (o_ (br i rfl hin) ?_)
   refine dm (lR hN hin) ?_
   refine bj ew .nil (fun h2=>?_) (fun h2=>?_)
   ·refine ai (bG ⟨(i:Int),by rw[dT_ (by omega)];symm;rw[List.contains_iff_mem,h2];exact List.getElem_mem hin⟩ rfl ?_)
    exact aA
   ·refine af (bS ?_)
    refine bq (m-1) (by omega) (.pu ⟨i+1,by omega,by norm_cast,?_⟩ ?_)
    ·rw[List.take_succ_eq_append_getElem hin]
     intro c
     rcases List.mem_append.1 c with c|c
     ·exact hno c
     ·exact h2 (List.mem_singleton.1 c)
    exact aA
  ·have:i=N.length:=by omega
   subst this
   rw[List.take_length]at hno
   refine af (bG ⟨-1,by rw[dF_ (by decide)];symm;rw[Bool.eq_false_iff];intro c;exact hno (List.contains_iff_mem.1 c)⟩ rfl ?_)
   exact aA
 (refine Shp.cn (Sg.g_ Tryz.call108 Tryz.func108) fun F=>?_;simp only[ca_,na_])
 refine c_ hI fun _=>?_
 rename_i i
 refine o_ dy ?_
 rw[i.2]
 refine aO () ?_
 exact aA
end Go.Proofs.YtdjkdjepjahjfaaGreatDoor.FD
namespace Go.Proofs.YtdjkdjepjahjfaaGreatDoor.TP
open Go Go.Proofs Go.RowKit Sh Sl T FD
theorem BD {W:World}[hG:Gl W]{v w:List UInt8}{n:Int}{g c:Nat}(hv:v.length<=4194304)(hs:xJ 44 v=[w])(hd:cS w=(n,0))(hn:n<=1048576):Cn p_ 193 [.slice (some ⟨g,0,none⟩) 1 c] W [Sl 1 9 (some ⟨g,0,none⟩) c 1 [az v]] (fun _:Unit=> .tuple #[.int .i64 n,.int .i64 0]) (fun _=>[]):=by
 have hwl:w.length<=v.length:=(pd 44 _ v (Nat.le_refl _)).2 w (by rw[hs];exact List.mem_singleton.2 rfl)
 have hd1:(cS w).1=n:=by rw[hd]
 have hd2:(cS w).2=0:=by rw[hd]
 (refine Shp.cn (Sg.g_ Tryz.call193 Tryz.func193 (an:={loops:=[(3,[4,16]),(11,[31])]})) fun F=>?_;simp only[ca_,na_])
 refine o_ aK (cz (fun m x y=>[ex fun st:Nat × (Option Addr × Nat)=>all [pu (m+st.1=1/\x= .slice st.2.1 st.1 st.2.2/\y= .int .i64 (st.1:Int)),Sl 1 9 st.2.1 st.2.2 st.1 (List.replicate st.1 (az w)),Sl 1 9 (some ⟨g,0,none⟩) c 1 [az v]]]++F) 1 ?_ ?_)
 ·refine Imp.ex (0,(none,0)) (.all ?_)
  refine aq ?_
  refine .pu ⟨rfl,rfl,rfl⟩ ?_
  exact bO .refl
 intro m ds x y
 refine aq ?_
 refine bt Pick.here fun st=>aE Pick.here ?_
 obtain⟨i,r⟩:=st
 refine aq ?_
 refine aX .here fun hi=>?_
 (try dsimp only at hi)
 obtain⟨hm,rfl,rfl⟩:=hi
 (try dsimp only)
 rcases Nat.lt_or_ge i 1 with hi|hi
 ·obtain rfl:i=0:=by omega
  (((refine o_ (Sl.ce ?hcq) ?_);(case hcq=>(first|omega|(simp only[List.length_nil,List.length_cons];omega)))));refine ai ?_;(((refine' aB (br 0 rfl ?hcq) .nil ?_);(case hcq=>(first|omega|decide|(simp;done)))));(((refine' aB (bF ?hc) ?hi ?_);(case hi=>exact aA);(case hc=>rfl)))
  refine' aj (split (l:=v) (c:=44) hv) ?hp fun r2=>?_
  case hp=>exact .nil
  rw[hs]
  refine aq ?_
  simp only[List.map_cons,List.map_nil,List.length_cons,List.length_nil,Nat.zero_add]
  refine o_ aK ?_;(((refine o_ (Sl.bL ?hcq) ?_);(case hcq=>(first|omega|(simp only[List.length_nil,List.length_cons];omega)))));refine af (bV (m:=1) (news:=[az w]) (by(repeat constructor):Pick _ (Sl 1 9 r.1 r.2 0 (List.replicate 0 (az w))) _) (nj (s:=1) (e':=9) (by kernel_rfl) .here (by intro u hu;rw[List.mem_singleton.1 hu];rfl)) (by omega) (by omega) fun a' c'=>?_)
  refine bS ?_
  refine bX (m-1) ?_ ?_
  ·omega
  refine .ex (1,(a',c')) (.all ?_)
  refine aq ?_
  refine .pu ⟨by omega,rfl,rfl⟩ ?_
  (try dsimp only)
  exact .pick .here aA
 ·obtain rfl:i=1:=by omega
  (((refine o_ (Sl.bJ ?hcq) ?_);(case hcq=>(first|omega|(simp only[List.length_nil,List.length_cons];omega)))));refine af ?_;refine o_ aK ?_
  refine a_ (fun m y=>[ex fun i:Nat=>all [pu (m+i=1/\y= .int .i64 (i:Int)),Sl 1 9 r.1 r.2 1 [az w]]]++F) 1 ?_ ?_
  ·refine Imp.ex 0 (.all ?_)
   refine aq ?_
   refine .pu ⟨rfl,rfl⟩ ?_
   (try dsimp only)
   exact .pick .here aA
  intro m2 ds2 y2
  refine aq ?_
  refine bt Pick.here fun i=>aE Pick.here ?_
  refine aq ?_
  refine aX .here fun hi=>?_
  obtain⟨hm2,rfl⟩:=hi
  refine be .here (by decide) fun gr hgr=>?_
  obtain⟨ra,rc⟩:=r
  (try dsimp only at hgr)
  subst hgr
  rcases Nat.lt_or_ge i 1 with hi|hi
  ·obtain rfl:i=0:=by omega
   (((refine o_ (Sl.ce ?hcq) ?_);(case hcq=>(first|omega|(simp only[List.length_nil,List.length_cons];omega)))));refine ai ?_;(((refine' aB (br 0 rfl ?hcq) .nil ?_);(case hcq=>(first|omega|decide|(simp;done)))));(((refine' aB (bF ?hc) ?hi ?_);(case hi=>exact aA);(case hc=>rfl)))
   refine c_ (jx (l:=w) (by omega)) fun _=>?_
   rw[hd1,hd2]
   refine bI ?_;refine bI ?_;(((refine o_ (Sl.bL ?hcq) ?_);(case hcq=>(first|omega|(simp only[List.length_nil,List.length_cons];omega)))));refine ab (ab (ab ?_));(((refine' aB (br 0 rfl ?hcq) .nil ?_);(case hcq=>(first|omega|decide|(simp;done)))));refine ab ?_;(((refine' aB (bF ?hc) ?hi ?_);(case hi=>exact aA);(case hc=>rfl)));refine ab ?_;(((refine' aB (Sl.pW ?hcq) .nil ?_);(case hcq=>(intro hh;exact hh (by first|rfl|assumption)))));refine o_ am (af (bS ?_))
   refine bq (m2-1) ?_ ?_
   ·omega
   refine aq ?_
   refine .ex 1 (.all ?_)
   refine aq ?_
   refine .pu ⟨by omega,rfl⟩ ?_
   exact aA
  ·obtain rfl:i=1:=by omega
   (((refine o_ (Sl.bJ ?hcq) ?_);(case hcq=>(first|omega|(simp only[List.length_nil,List.length_cons];omega)))));refine af ?_;(((refine' aB (br 0 rfl ?hcq) .nil ?_);(case hcq=>(first|omega|decide|(simp;done)))));(((refine' aB (bF ?hc) ?hi ?_);(case hi=>exact aA);(case hc=>rfl)))
   refine c_ (jx (l:=w) (by omega)) fun _=>?_
   rw[hd1,hd2]
   refine bI ?_;refine bI ?_;(((refine o_ (Sl.cE ?hcq) ?_);(case hcq=>(first|omega|(simp only[List.length_nil,List.length_cons];omega)))));refine ab (ab ?_);(((refine o_ (Sl.bZ ?hcq) ?_);(case hcq=>(first|omega|(simp only[List.length_nil,List.length_cons];omega)))));refine o_ am (af (aO () ?_))
   exact aA
def qm:List UInt8:=[67,111,110,116,101,110,116,45,76,101,110,103,116,104]
def Eu:List UInt8:=[84,114,97,110,115,102,101,114,45,69,110,99,111,100,105,110,103]
def za (fs:List FD.Fd):Option (Int × Int):=
 if bH fs Eu=[]then match bH fs qm with
  |[]=>some (0,0)
  |[v]=>match xJ 44 v with
   |[w]=>if(cS w).2=0/\(cS w).1<=1048576/\v.length<=4194304 then some (1,(cS w).1)else none
   |_=>none
  |_=>none
 else none
theorem qn {W:World}[hG:Gl W]{m tg:Value}{mi:Int}{fs:List FD.Fd}{a:Option Addr}{c:Nat}{A:HP}{r:Int × Int}(hA:gD W A a fs)(hl:oz fs)(h:za fs=some r):Cn p_ 118 [.agg #[m,tg,.int .i64 mi,.slice a fs.length c]] W [A] (fun _:Unit=> .tuple #[.agg #[.int .i64 r.1,.int .i64 r.2],.int .i64 0]) (fun _=>[A]):=by
 unfold za at h
 split at h
 rotate_left
 ·cases h
 rename_i hte
 (refine Shp.cn (Sg.g_ Tryz.call118 Tryz.func118 (an:={drs:=[(1,.ofL [(0,1),(1,1),(3,3),(4,3),(2,0),(5,0),(6,1),(7,1)])]}) (os:=[(1,[(2,[4,3])])])) fun F=>?_;simp only[ca_,na_])
 refine aU fun g=>?_;refine aS fun g=>?_;refine aV (t_ ae (cu ?_));refine ay ae .nil ?_;(((refine' ay (aQ ?hc) ?hi ?_);(case hi=>exact .pick (by repeat constructor) .nil);(case hc=>repeat constructor)))
 refine' aj (f5 (a:=a) (c:=c) (n:=qm) hA hl (by decide)) ?hp fun r1=>?_
 case hp=>(repeat(first|exact Picks.nil|(apply Picks.cons;(focus repeat constructor))))
 refine aq ?_
 refine aY ?_;refine aY ?_
 refine' aj (f5 (a:=a) (c:=c) (n:=Eu) hA hl (by decide)) ?hp fun r2=>?_
 case hp=>(repeat(first|exact Picks.nil|(apply Picks.cons;(focus repeat constructor))))
 rw[hte]
 refine aq ?_
 split at h
 ·rename_i hcl
  cases h
  rw[hcl]
  refine o_ aK ?_;(((refine o_ (Sl.bZ ?hcq) ?_);(case hcq=>(first|omega|(simp only[List.length_nil,List.length_cons];omega)))));refine ao (ao (ao (ao (cV (cV (cV (ao (o_ am (af (o_ aK ?_))))))))));(((refine o_ (Sl.bZ ?hcq) ?_);(case hcq=>(first|omega|(simp only[List.length_nil,List.length_cons];omega)))));refine af (o_ aK ?_);(((refine o_ (Sl.bZ ?hcq) ?_);(case hcq=>(first|omega|(simp only[List.length_nil,List.length_cons];omega)))));refine af (o_ bM ?_);(((refine' aG ?hp ?hn ?hv ?h1 ?_);(case hp=>(repeat constructor));(case hn=>rfl);(case hv=>rfl);(case h1=>simp[Value.oneCell',az])));(((refine' aP (cB ?hn) ?hi ?_);(case hi=>exact aA);(case hn=>rfl)))
  refine aO () ?_
  exact aA
 ·rename_i v hcl
  split at h
  rotate_left
  ·cases h
  rename_i w hw
  split at h
  rotate_left
  ·cases h
  rename_i hd
  cases h
  rw[hcl]
  refine be (by(repeat constructor):Pick _ (Sl 1 9 r1.1 r1.2 [v].length ([v].map az)) _) (by simp) fun gr hgr=>?_
  obtain⟨ra,rc⟩:=r1
  (try dsimp only at hgr)
  subst hgr
  simp only[List.map_cons,List.map_nil,List.length_cons,List.length_nil,Nat.zero_add]
  refine o_ aK ?_;(((refine o_ (Sl.bZ ?hcq) ?_);(case hcq=>(first|omega|(simp only[List.length_nil,List.length_cons];omega)))));refine ao (ao (ao (ao (cV (cV (cV (ao (o_ am (af (o_ aK ?_))))))))));(((refine o_ (Sl.bZ ?hcq) ?_);(case hcq=>(first|omega|(simp only[List.length_nil,List.length_cons];omega)))));refine af (o_ aK ?_);(((refine o_ (Sl.gO ?hcq) ?_);(case hcq=>(first|omega|(simp only[List.length_nil,List.length_cons];omega)))));refine ai ?_
  refine' aj (BD (g:=gr) (c:=rc) (v:=v) (w:=w) (n:=(cS w).1) hd.2.2 hw (by rw[<- hd.1]) hd.2.1) ?hp fun _=>?_
  case hp=>(repeat(first|exact Picks.nil|(apply Picks.cons;(focus repeat constructor))))
  refine aq ?_
  refine bI ?_;refine bI ?_;(((refine o_ (Sl.cE ?hcq) ?_);(case hcq=>(first|omega|(simp only[List.length_nil,List.length_cons];omega)))));refine af (o_ bM ?_);(((refine' aG ?hp ?hn ?hv ?h1 ?_);(case hp=>(repeat constructor));(case hn=>rfl);(case hv=>rfl);(case h1=>simp[Value.oneCell',az])));(((refine' aP (cB ?hn) ?hi ?_);(case hi=>exact aA);(case hn=>rfl)))
  refine aO () ?_
  exact aA
 ·cases h
end Go.Proofs.YtdjkdjepjahjfaaGreatDoor.TP
namespace Go.Proofs.YtdjkdjepjahjfaaGreatDoor.FD
open Go Go.Proofs Go.RowKit Sh Sl T
theorem pf {L:List Fd}:∀u∈L.flatMap cT,u.oneCell'=true:=fun u hu=>by
 obtain⟨f,_,hf⟩:=List.mem_flatMap.1 hu
 simp[cT]at hf
 rcases hf with rfl|rfl <;> rfl
theorem cg {W:World}{a:Option Addr}{c:Nat}{l:List Fd}(h:0<l.length->∃g,a=some ⟨g,0,none⟩):gD W (Sl 2 192 a c l.length (l.flatMap cT)) a l:=ef (j_ (f:=cT) (s:=2) (fun _=>rfl) l) h
theorem Ij {W:World}{L:List HP}{A B:WP}(h1:aR W L A)(h2:aR W L B):aR W L (zZ A B):=fun w hw=>⟨h1 w hw,h2 w hw⟩
theorem Ik {W:World}{g:Nat}{x0 x1 x2:Value}{q:Option Addr × Nat}{fs:List Fd}{n v:List UInt8}(hl:fs.length<=1099511627776):
  Cn p_ 204 ([az n,az v]++[.pointer (some ⟨g,0,none⟩)]) W [pt g (.cells #[x0,x1,x2,.slice q.1 fs.length q.2] 94),Sl 2 192 q.1 q.2 fs.length (fs.flatMap cT)]
   (fun _:Option Addr × Nat=> .tuple #[]) (fun r=>[pt g (.cells #[x0,x1,x2,.slice r.1 (fs++[(n,v)]).length r.2] 94),Sl 2 192 r.1 r.2 (fs++[(n,v)]).length ((fs++[(n,v)]).flatMap cT)]):=by
 (refine Shp.cn (Sg.g_ Tryz.call204 Tryz.func204) fun F=>?_;simp only[ca_,na_])
 refine o_ ae (aM ?_);refine o_ bM ?_
 refine d7 (n:=1) (vs:=[uh (n,v)]) rfl (by omega) rfl (by intro v hv;rw[List.mem_singleton.1 hv];rfl) (by omega) fun gb=>?_
 refine bV (m:=1) (news:=cT (n,v)) (by(repeat constructor):Pick _ (Sl 2 192 q.1 q.2 fs.length (fs.flatMap cT)) _) (bR (s:=2) (e':=192) (by kernel_rfl) .here (by rfl) (by intro u hu;simp[uh,Value.cells]at hu;rcases hu with rfl|rfl <;> rfl)) (by omega) (by omega) fun a' c'=>?_
 rw[show fs.length+1=(fs++[(n,v)]).length by simp,show fs.flatMap cT++cT (n,v)=(fs++[(n,v)]).flatMap cT by simp[List.flatMap_append]]
 refine o_ ae (bU ?_)
 refine jW (a',c') ?_
 exact aA
def Mj (pa qu:List UInt8)(asked:Bool):List UInt8:=if asked then pa++(63::qu)else pa
def Gq (l:List Fd)(fo:Int)(ho:List UInt8)(po:Int):List UInt8:=if fo=2 then(if 0<=po then ho++(58::ei po)else ho)else(cL l fg).1
theorem rM (sep:List UInt8):∀V:List (List UInt8),(iI sep V).length<=zL V+sep.length * V.length
 |[]=>Nat.zero_le _
 |v::r=>by
  have h:=qg sep r
  have h2:iP r<=zL r:=by
   clear h
   induction r with
   |nil=>exact Nat.le_refl _
   |cons w r ih=>rw[mL];unfold iP;omega
  unfold iI
  rw[List.length_append,h,mL,List.length_cons,Nat.mul_add,Nat.mul_one]
  omega
theorem Ev {l:List Fd}{minor:Int}(hl:zF l<=1048576):(uz l minor).length<=4194304/\(bH l nL).length<=1048576:=by
 have h1:=pb l nL
 have h2:=ko l nL
 have h3:=kB l
 have h4:=rM [44,32] (bH l nL++[if minor=0 then sR else sS])
 rw[Ig,List.length_append]at h4
 have h5:zL [if minor=0 then sR else sS]=14:=by split <;> rfl
 rw[h5]at h4
 simp only[List.length_cons,List.length_nil]at h4
 unfold uz
 omega
theorem Ew {W : World} [hG : Gp W] {m tg ho pa qu : List UInt8} {mi fo po sz : Int} {l : List Fd} {asked sized : Bool} {a : Option Addr} {c : Nat} {A : HP} (hA : gD W A a l) (hl : zF l <= 1048576) (hpq : pa.length + qu.length <= 1048576) (hho : ho.length <= 1048576)
  (hp1 : -9223372036854775808 <= po) (hp2 : po <= 9223372036854775807) (hz1 : -9223372036854775808 <= sz) (hz2 : sz <= 9223372036854775807) :
  Cn p_ 129 [.agg #[az m, az tg, .int .i64 mi, .slice a l.length c], .agg #[.int .i64 fo, az ho, .int .i64 po, az pa, az qu, .bool asked], .int .i64 sz, .bool sized] W [A]
   (fun r : Option Addr × Nat => .agg #[az m, az (Mj pa qu asked), .int .i64 1, .slice r.1 (sU l (Gq l fo ho po) mi (if sized then some (ei sz) else none)).length r.2])
   (fun r => [A, Sl 2 192 r.1 r.2 (sU l (Gq l fo ho po) mi (if sized then some (ei sz) else none)).length ((sU l (Gq l fo ho po) mi (if sized then some (ei sz) else none)).flatMap cT)]) := by
 have hok := qh (l := l) (by omega)
 have hzl := kB l
 (refine Shp.cn (Sg.g_ Tryz.call129 Tryz.func129 (an := { cuts := [(4, []), (10, [11]), (15, [13])], drs := [(11, (.op 0 3 (.op 1 3 (.op 2 3 (.op 3 3 (.alt (.ofL [(4, 0), (5, 0), (6, 0), (7, 0), (8, 1), (9, 0)]) (.ofL [(5, 0), (4, 0), (6, 0), (7, 0), (8, 1), (9, 0)])))))))], rcuts := [(12, [])] }) (os := [(11, [(4, [1, 0]), (5, [3, 2, 1, 0]), (6, [1, 0])])])) fun F => ?_; simp only [ca_, na_])
 refine aU fun b4 => ?_
 refine aU fun b5 => ?_
 refine aS fun b8 => ?_
 refine o_ ae (aM ?_); refine o_ ae (aM ?_); refine o_ bM ?_; refine aS fun g => ?_; (((refine' aG ?hp ?hn ?hv ?h1 ?_); (case hp => (repeat constructor)); (case hn => rfl); (case hv => rfl); (case h1 => simp [Value.oneCell', az])))
 rename Nat => b9
 refine jn ([pt b9 (.cells #[az m, az (Mj pa qu asked), .int .i64 1, .slice none 0 0] 94), pt b8 (.cells #[.string .empty, .string .empty, .int .i64 0, .slice none 0 0] 94), pt b5 (.cells #[.int .i64 fo, az ho, .int .i64 po, az pa, az qu, .bool asked] 99), pt b4 (.cells #[az m, az tg, .int .i64 mi, .slice a l.length c] 94), A] ++ F) ?_ ?_
 rotate_left
 ·cases asked with
  | true =>
   refine o_ ae (aM ?_); refine ai (o_ ae (aM ?_)); refine o_ ae (aM ?_)
   refine o_ (bE (a := [63]) (by simp; omega)) ?_
   refine o_ (bE (by simp; omega)) ?_
   refine o_ ae (bU ?_)
   refine aI ?_
   exact aA
  | false =>
   refine o_ ae (aM ?_); refine af (aI ?_)
   exact aA
 intro ds
 refine aq ?_
 refine o_ bP (o_ ae (aM ?_))
 refine aj (first (n := fg) hA hok (by decide)) (.cons (by repeat constructor) .nil) fun _ => ?_
 refine aq ?_
 refine o_ (bk (vs := [_, _]) .here) ?_
 refine o_ (bk (vs := [_, _]) (.there .here)) ?_
 obtain ⟨H, hH⟩ : ∃ H, H = Gq l fo ho po := ⟨_, rfl⟩
 refine dt (fun z => [pu (z = az H), A, pt b9 (.cells #[az m, az (Mj pa qu asked), .int .i64 1, .slice none 0 0] 94), pt b8 (.cells #[.string .empty, .string .empty, .int .i64 0, .slice none 0 0] 94), pt b5 (.cells #[.int .i64 fo, az ho, .int .i64 po, az pa, az qu, .bool asked] 99), pt b4 (.cells #[az m, az tg, .int .i64 mi, .slice a l.length c] 94)] ++ F) ?_ ?_
 rotate_left
 ·(refine o_ ae ?_); refine aM ?_
  refine bj cJ .nil (fun h => ?_) (fun h => ?_)
  ·rw [show H = if 0 <= po then ho ++ (58 :: ei po) else ho by rw [hH]; unfold Gq; rw [if_pos h]]
   refine ai (o_ ae (aM ?_)); refine o_ ae (aM ?_)
   refine bj dy .nil (fun h2 => ?_) (fun h2 => ?_)
   ·rw [if_pos h2]
    have hdl := eN hp1 hp2
    refine ai (o_ ae (aM ?_))
    refine c_ (eI hp1 hp2) fun _ => ?_
    refine o_ (bE (a := [58]) (by simp; omega)) ?_
    refine o_ (bE (by simp; omega)) ?_
    refine aI (.pu rfl ?_)
    exact aA
   ·rw [if_neg h2]
    refine af (aI (.pu rfl ?_))
    exact aA
  ·rw [show H = (cL l fg).1 by rw [hH]; unfold Gq; rw [if_neg h]]
   refine af (aI (.pu rfl ?_))
   exact aA
 intro ds2 z
 refine aq ?_
 refine aX .here fun hz => ?_
 subst hz
 refine iZ (s := 2) (e := 192) ?_
 refine bB (cap := [.pointer (some ⟨b9, 0, none⟩)]) (Ik (g := b9) (q := (none, 0)) (fs := []) (n := fg) (v := H) (by decide)) (by (repeat (first | exact Picks.nil | (apply Picks.cons; (focus repeat constructor))))) fun r => ?_
 obtain ⟨ra, rc⟩ := r
 refine aq ?_
 (try dsimp only)
 have hsl : (ej l).length <= l.length := ky l _
 have hsz : oz (ej l) := qh (Nat.le_trans (uB _ l) (by omega))
 have hwl : (cX (ej l) sQ).length <= l.length := Nat.le_trans (ky _ _) hsl
 obtain ⟨M, hM⟩ : ∃ M, M = cX (ej l) sQ := ⟨_, rfl⟩
 rw [<- hM] at hwl
 refine jn ([ex fun q : Option Addr × Nat => all [pt b9 (.cells #[az m, az (Mj pa qu asked), .int .i64 1, .slice q.1 ([(fg, H)] ++ M).length q.2] 94), Sl 2 192 q.1 q.2 ([(fg, H)] ++ M).length (([(fg, H)] ++ M).flatMap cT)], A, pt b8 (.cells #[.string .empty, .string .empty, .int .i64 0, .slice none 0 0] 94), pt b5 (.cells #[.int .i64 fo, az ho, .int .i64 po, az pa, az qu, .bool asked] 99), pt b4 (.cells #[az m, az tg, .int .i64 mi, .slice a l.length c] 94)] ++ F) ?_ ?_
 rotate_left
 ·refine aV (ay ae .nil ?_); (((refine' ay (aQ ?hc) ?hi ?_); (case hi => exact .pick (by repeat constructor) .nil); (case hc => repeat constructor))); refine ay ae .nil ?_; (((refine' ay (aQ ?hc) ?hi ?_); (case hi => exact .pick (by repeat constructor) .nil); (case hc => repeat constructor)))
  refine Ij ?_ ?_
  ·refine aj (BB hA (by omega)) (.cons (by repeat constructor) .nil) fun s => ?_
   obtain ⟨s1, s2⟩ := s
   refine aq ?_
   (try dsimp only)
   refine aY ?_; refine aY ?_
   refine et (n := 4) (vs := sQ.map az) rfl rfl (by intro v hv; obtain ⟨c, _, rfl⟩ := List.mem_map.1 hv; rfl) (by omega) fun g4 => ?_
   refine aY ?_; refine aY ?_; refine aY ?_; refine aY ?_
   refine aN (by (repeat constructor) : Pick _ (Sl 2 192 s1 s2 (ej l).length ((ej l).flatMap cT)) _) fun _ _ _ hs => ?_
   refine aj (iJ (l := ej l) (c := s2) (N := sQ) (nc := 4) (NA := pt g4 (.cells (sQ.map az).toArray 9)) (cg hs) hsz (fE (by rfl)) (by decide) (by decide)) (.cons (by repeat constructor) (.cons (by repeat constructor) .nil)) fun w => ?_
   obtain ⟨w1, w2⟩ := w
   refine aq ?_
   (try dsimp only)
   rw [<- hM]
   refine aY ?_; refine aY ?_
   refine bV (m := M.length) (news := M.flatMap cT) (by (repeat constructor) : Pick _ (Sl 2 192 ra rc [(fg, H)].length ([(fg, H)].flatMap cT)) _) (nj (s := 2) (e' := 192) (by kernel_rfl) (by (repeat constructor) : Pick _ (Sl 2 192 w1 w2 M.length (M.flatMap cT)) _) pf) (by simp; omega) (by simp; omega) fun a' c' => ?_
   rw [<- List.length_append, <- List.flatMap_append]
   refine t_ ae (bU ?_)
   refine aI (.ex (a', c') (.all ?_))
   refine aq ?_
   exact aA
  ·refine et (n := 4) (vs := sQ.map az) rfl rfl (by intro v hv; obtain ⟨c, _, rfl⟩ := List.mem_map.1 hv; rfl) (by omega) fun g4 => ?_
   refine aY ?_; refine aY ?_; refine aY ?_; refine aY ?_
   refine aj (BB hA (by omega)) (.cons (by repeat constructor) .nil) fun s => ?_
   obtain ⟨s1, s2⟩ := s
   refine aq ?_
   (try dsimp only)
   refine aY ?_; refine aY ?_
   refine aN (by (repeat constructor) : Pick _ (Sl 2 192 s1 s2 (ej l).length ((ej l).flatMap cT)) _) fun _ _ _ hs => ?_
   refine aj (iJ (l := ej l) (c := s2) (N := sQ) (nc := 4) (NA := pt g4 (.cells (sQ.map az).toArray 9)) (cg hs) hsz (fE (by rfl)) (by decide) (by decide)) (.cons (by repeat constructor) (.cons (by repeat constructor) .nil)) fun w => ?_
   obtain ⟨w1, w2⟩ := w
   refine aq ?_
   (try dsimp only)
   rw [<- hM]
   refine aY ?_; refine aY ?_
   refine bV (m := M.length) (news := M.flatMap cT) (by (repeat constructor) : Pick _ (Sl 2 192 ra rc [(fg, H)].length ([(fg, H)].flatMap cT)) _) (nj (s := 2) (e' := 192) (by kernel_rfl) (by (repeat constructor) : Pick _ (Sl 2 192 w1 w2 M.length (M.flatMap cT)) _) pf) (by simp; omega) (by simp; omega) fun a' c' => ?_
   rw [<- List.length_append, <- List.flatMap_append]
   refine t_ ae (bU ?_)
   refine aI (.ex (a', c') (.all ?_))
   refine aq ?_
   exact aA
 intro ds3
 refine aq ?_
 refine bt .here fun q => aE .here ?_
 obtain ⟨ma, mc⟩ := q
 refine aq ?_
 obtain ⟨mk, hmk⟩ : ∃ mk, mk = if mi = 0 then sR else sS := ⟨_, rfl⟩
 refine dt (fun z => pu (z = az mk) :: pt b9 (.cells #[az m, az (Mj pa qu asked), .int .i64 1, .slice ma ((fg, H) :: M).length mc] 94) :: Sl 2 192 ma mc ((fg, H) :: M).length (((fg, H) :: M).flatMap cT) :: A :: pt b8 (.cells #[.string .empty, .string .empty, .int .i64 0, .slice none 0 0] 94) :: pt b4 (.cells #[az m, az tg, .int .i64 mi, .slice a l.length c] 94) :: F) ?_ ?_
 rotate_left
 ·(refine o_ ae ?_); refine aM ?_
  refine bj cJ .nil (fun h => ?_) (fun h => ?_)
  ·rw [hmk, if_pos h]
   refine ai (aI (.pu rfl ?_))
   exact aA
  ·rw [hmk, if_neg h]
   refine af (aI (.pu rfl ?_))
   exact aA
 intro ds4 z
 refine aX .here fun hz => ?_
 subst hz
 refine o_ ae (aM ?_)
 refine aj (f5 (n := nL) hA hok (by decide)) (.cons (by repeat constructor) .nil) fun r => ?_
 obtain ⟨va, vc⟩ := r
 refine aq ?_
 (try dsimp only)
 obtain ⟨hvl, hvn⟩ := Ev (minor := mi) hl
 obtain ⟨V, hV⟩ : ∃ V, V = bH l nL := ⟨_, rfl⟩
 have hvia : uz l mi = iI [44, 32] (V ++ [mk]) := by rw [hV, hmk]; rfl
 rw [<- hV] at hvn ⊢
 rw [hvia] at hvl
 refine et (n := 1) (vs := [az mk]) rfl rfl (by intro v hv; rw [List.mem_singleton.1 hv]; rfl) (by omega) fun gm => ?_
 refine bV (m := 1) (news := [az mk]) (by (repeat constructor) : Pick _ (Sl 1 9 va vc V.length (V.map az)) _) (bR (s := 1) (e' := 9) (by kernel_rfl) .here (by rfl) (by intro u hu; rw [List.mem_singleton.1 hu]; rfl)) (by omega) (by omega) fun ja jc => ?_
 rw [show V.map az ++ [az mk] = (V ++ [mk]).map az by simp, show V.length + 1 = (V ++ [mk]).length by simp]
 refine aj (join (sep := [44, 32]) (V := V ++ [mk]) (by decide) (by decide) hvl (by simp; omega)) (.cons (by repeat constructor) .nil) fun _ => ?_
 refine aq ?_
 rw [<- hvia]
 refine bB (cap := [.pointer (some ⟨b9, 0, none⟩)]) (Ik (g := b9) (q := (ma, mc)) (fs := (fg, H) :: M) (n := nL) (v := uz l mi) (by rw [List.length_cons]; omega)) (by (repeat (first | exact Picks.nil | (apply Picks.cons; (focus repeat constructor))))) fun r => ?_
 obtain ⟨na, nc⟩ := r
 refine aq ?_
 (try dsimp only)
 cases sized with
 | false =>
  have hfw : (fg, H) :: M ++ [(nL, uz l mi)] = sU l H mi none := by unfold sU; rw [hM]
  simp only [Bool.false_eq_true, if_false]
  rw [<- hH, <- hfw]
  refine af (iS ?_); (((refine' aG ?hp ?hn ?hv ?h1 ?_); (case hp => (repeat constructor)); (case hn => rfl); (case hv => rfl); (case h1 => simp [Value.oneCell', az]))); (((refine' aP (cB ?hn) ?hi ?_); (case hi => exact aA); (case hn => rfl)))
  refine aO ((na, nc)) ?_
  exact aA
 | true =>
  have hfw : (fg, H) :: M ++ [(nL, uz l mi)] ++ [(S3, ei sz)] = sU l H mi (some (ei sz)) := by unfold sU; rw [hM]; simp
  simp only [if_true]
  rw [<- hH, <- hfw]
  refine ai (c_ (eI hz1 hz2) fun _ => ?_)
  refine bB (cap := [.pointer (some ⟨b9, 0, none⟩)]) (Ik (g := b9) (q := (na, nc)) (fs := (fg, H) :: M ++ [(nL, uz l mi)]) (n := S3) (v := ei sz) (by simp; omega)) (by (repeat (first | exact Picks.nil | (apply Picks.cons; (focus repeat constructor))))) fun r => ?_
  obtain ⟨oa, oc⟩ := r
  refine aq ?_
  (try dsimp only)
  refine iS ?_; (((refine' aG ?hp ?hn ?hv ?h1 ?_); (case hp => (repeat constructor)); (case hn => rfl); (case hv => rfl); (case h1 => simp [Value.oneCell', az]))); (((refine' aP (cB ?hn) ?hi ?_); (case hi => exact aA); (case hn => rfl)))
  refine aO ((oa, oc)) ?_
  exact aA
end Go.Proofs.YtdjkdjepjahjfaaGreatDoor.FD
namespace Go.Proofs.YtdjkdjepjahjfaaGreatDoor.TP
open Go Go.Proofs Go.RowKit Sh Sl T FD
theorem Ex {W:World}{l:List UInt8}(hl:l.length<=1048576)(h:l.contains 37=false):Cn p_ 162 [az l] W [] (fun _:Unit=> .tuple #[az l,.int .i64 0]) (fun _=>[]):=by
 have hn:37∉l:=by simpa using h
 (refine Shp.cn (Sg.g_ Tryz.call162 Tryz.func162 (an:={loops:=[(2,[0,4])],drs:=[(11,.ofL [(0,1),(1,1),(2,1),(3,1),(4,1),(5,1)])]})) fun F=>?_;simp only[ca_,na_])
 refine cz (fun m x y=>(ex fun st:Nat × (Option Addr × Nat)=>all [pu (m+st.1=l.length/\x=az (l.drop st.1)/\y= .slice st.2.1 st.1 st.2.2),Sl 1 5 st.2.1 st.2.2 st.1 ((l.take st.1).map Sl.B)])::F) l.length ?_ ?_
 ·refine .ex (0,(none,0)) (.all ?_)
  refine aq ?_
  exact .pu ⟨by omega,rfl,rfl⟩ (bO .refl)
 intro m ds x y
 refine bt .here fun st=>aE .here ?_
 obtain⟨i,r⟩:=st
 refine aq ?_
 refine aX .here fun hi=>?_
 (try dsimp only at hi)
 obtain⟨hm,rfl,rfl⟩:=hi
 (try dsimp only)
 refine o_ (ee (m:=[])) ?_
 by_cases hlt:i<l.length
 ·rw[dT_ (show l.drop i≠[]from fun e=>by have:=congrArg List.length e;simp at this;omega)]
  have hg:(l.drop i)[0]'(by simp;omega)=l[i]:=by simp
  have hc:¬((l[i].toNat:Nat):Int)=37:=fun e=>hn (by rw[show(37:UInt8)=l[i]from UInt8.toNat_inj.1 (by show 37=l[i].toNat;omega)];exact List.getElem_mem hlt)
  refine ai (o_ (eP 0 rfl (by simp;omega)) ?_)
  rw[hg,show Sl.B l[i]= .int .u8 (l[i].toNat:Int)from rfl]
  refine o_ (i4 1 rfl (by simp;omega)) ?_
  rw[List.drop_drop]
  (((refine o_ (Sl.bL ?hcq) ?_);(case hcq=>(first|omega|(simp only[List.length_nil,List.length_cons];omega)))));refine af ?_;refine cZ fun g=>?_
  refine bV (m:=1) (news:=[.int .u8 (l[i].toNat:Int)]) (by(repeat constructor):Pick _ (Sl 1 5 r.1 r.2 i ((l.take i).map Sl.B)) _) (bR (s:=1) (e':=5) (by kernel_rfl) .here (by rfl) (by intro u hu;rw[List.mem_singleton.1 hu];rfl)) (by omega) (by omega) fun a' c'=>?_
  refine bX (m-1) ?_ ?_
  ·omega
  refine .ex (i+1,(a',c')) (.all ?_)
  refine aq ?_
  refine .pu ⟨by omega,rfl,rfl⟩ ?_
  (try dsimp only)
  rw[List.take_succ_eq_append_getElem hlt,List.map_append]
  exact .pick .here aA
 ·have he:i=l.length:=by omega
  subst he
  rw[dF_ (by simp)]
  refine af ?_
  rw[List.take_length]
  refine aB sL aA ?_
  refine aO () ?_
  exact aA
def dX (r:List UInt8):List (List UInt8):=cF 47 (r.length+1) r
def Il (ws:List (List UInt8)):List (List Value):=(List.range ws.length).map fun k=>[az (ws.getD k []),.bool (decide (k+1=ws.length))]
theorem sY {ws:List (List UInt8)}{k:Nat}(h:k<ws.length):(Il ws)[k]? =some [az (ws.getD k []),.bool (decide (k+1=ws.length))]:=by simp[Il,h]
theorem sZ {ws:List (List UInt8)}:(Il ws).length=ws.length:=by simp[Il]
theorem qo {c:UInt8}{l:List UInt8}:∀n,0<n->cF c n l≠[]
 |1,_=>by simp[cF]
 |n+2,_=>by rw[cF];split <;> simp
theorem UE {W:World}{p:List UInt8}:Cn p_ 206 [az p] W [] (fun b:Nat=> .func (.func 312) #[] [.pointer (some ⟨b,0,none⟩)].toArray) (fun b=>[pt b (.cells #[az p] 9)]):=by
 (refine Shp.cn (Sg.g_ Tryz.call206 Tryz.func206) fun F=>?_;simp only[ca_,na_])
 refine cA fun g=>?_;refine o_ bP (aO g ?_)
 exact .refl
theorem Pq {W:World} {c l:Nat} {p r:List UInt8} {G:Nat->HP} {Gx T T':HP} (hp:p=47::r) (hl:p.length<=1048576)
  (hy:j3 p_ l (Il (dX r)) (fun k=>all [T,all [pt c (.cells #[az p] 9),G k]]) (all [T',Gx]) W):
  Cn p_ 312 [yv l,.pointer (some ⟨c,0,none⟩)] W [all [T,all [pt c (.cells #[az p] 9),G 0]]] (fun _:Bool=> .tuple #[]) (fun b=>[if b then all [T,all [pt c (.cells #[az p] 9),G (dX r).length]]else all [T',Gx]]):=by
 subst hp
 simp only[List.length_cons]at hl
 (refine Shp.cn (Sg.g_ Tryz.call312 Tryz.func312 (an:={loops:=[(1,[3])]})) fun F=>?_;simp only[ca_,na_])
 refine aE .here ?_
 refine aq ?_
 refine aE (.there .here) ?_
 refine aq ?_
 refine aM ?_
 refine o_ (i4 1 rfl (by simp)) ?_
 rw[show(47::r).drop 1=r from rfl]
 refine a_ (fun m y=>[ex fun st:Nat × List UInt8=>all [pu (m+st.1=(dX r).length/\y=az st.2/\(dX r).drop st.1=cF 47 (r.length+1-st.1) st.2/\st.2.length+st.1<=r.length),all [T,all [pt c (.cells #[az (47::r)] 9),G st.1]]]]++F) (dX r).length ?_ ?_
 ·refine .ex (0,r) (.all ?_)
  refine aq ?_
  refine .pu ⟨rfl,rfl,rfl,by simp⟩ (.all ?_)
  refine aq ?_
  refine .pick (by repeat constructor) (.all ?_)
  refine aq ?_
  exact aA
 intro m ds y
 refine aq ?_
 refine bt Pick.here fun st=>aE Pick.here ?_
 obtain⟨k,s⟩:=st
 refine aq ?_
 refine aX Pick.here fun hi=>?_
 (try dsimp only at hi)
 obtain⟨hmi,rfl,hd,hle⟩:=hi
 (try dsimp only)
 have hne:cF 47 (r.length+1-k) s≠[]:=qo _ (by omega)
 have hkl:k<(dX r).length:=by
  rcases Nat.lt_or_ge k (dX r).length with h|h
  ·exact h
  ·rw[List.drop_eq_nil_of_le h]at hd;exact absurd hd.symm hne
 have hk0:(dX r).getD k []=(cF 47 (r.length+1-k) s).headD []:=by
  rw[<- hd,List.headD_eq_head?_getD,List.head?_drop,List.getD_eq_getElem?_getD]
 have hdl:=congrArg List.length hd
 rw[List.length_drop]at hdl
 refine' aj (AR (l:=s) (c:=47) (by omega)) ?hp fun _=>?_
 case hp=>exact .nil
 refine aq ?_
 cases hc:gg 47 s with
 |false=>
  rw[lM hc (by omega)]at hk0 hd hdl
  simp only[List.length_cons,List.length_nil]at hdl
  have hca:cy 47 s=s:=((jv (c:=47) (l:=s)).2 (fun hm=>by rw[((jv (c:=47) (l:=s)).1 hm).1]at hc;cases hc)).2.1
  refine bI ?_;refine bI ?_;refine bI ?_;refine o_ cP ?_
  rw[hca]
  refine iB hy k (by rw[sY hkl,hk0,dT_ (by omega)];rfl) .here ?_ ?_
  ·(refine o_ bA ?_);refine ab ?_;refine ab ?_;refine o_ cP ?_;refine o_ am ?_;refine ai ?_
   refine aO true ?_
   rw[show(dX r).length=k+1 by omega]
   exact .refl
  ·(refine o_ cP ?_);refine aC ?_;refine aC ?_;refine o_ av ?_;refine ai ?_
   refine aO false ?_
   exact .refl
 |true=>
  have hbl:=xz hc
  obtain⟨q,hq⟩:∃q,r.length+1-k=q+2:=⟨r.length+1-k-2,by omega⟩
  rw[hq,jz hc]at hk0 hd hdl
  have hn2:=qo (c:=47) (l:=bW 47 s) (q+1) (by omega)
  have:=List.length_pos_iff.2 hn2
  simp only[List.length_cons]at hdl
  refine bI ?_;refine bI ?_;refine bI ?_;refine o_ bA (iB hy k (by rw[sY hkl,hk0,dF_ (by omega)];rfl) .here ?_ ?_)
  ·(refine o_ bA ?_);refine ab ?_;refine ab ?_;refine o_ bA ?_;refine o_ am ?_;refine af ?_
   refine bq (m-1) ?_ ?_
   ·omega
   refine .ex (k+1,bW 47 s) (.all ?_)
   refine aq ?_
   refine .pu ⟨by omega,rfl,?_,by(try dsimp only);omega⟩ .refl
   (try dsimp only)
   rw[<- List.drop_drop,hd,show r.length+1-(k+1)=q+1 by omega]
   rfl
  ·(refine o_ cP ?_);refine aC ?_;refine aC ?_;refine o_ av ?_;refine ai ?_
   refine aO false ?_
   exact .refl
def iK (r:List UInt8):Bool:=decide (r.length<=4000)&&!r.contains 0&&(decide (r=[])||(dX r).all fun w=>decide (w≠[]/\w≠[46]/\w≠[46,46]))&&decide (iI [47] ((dX r).filter nb)=r)
theorem ip {W:World}{L:List HP}{rest:List Value->WP}(h:∀ds,aR W L (rest ds)):aR W L (fun w=>∀ds,rest ds w):=fun w hw ds=>h ds w hw
theorem zc {ws:List (List UInt8)}{k:Nat}(h:k<ws.length):(ws.take (k+1)).filter nb=(ws.take k).filter nb++(if nb (ws.getD k [])then [ws.getD k []]else []):=by
 rw[List.take_succ_eq_append_getElem h,List.filter_append,List.getD_eq_getElem?_getD,List.getElem?_eq_getElem h]
 cases hb:nb ws[k] <;> simp[hb]
theorem rN {c:UInt8}:∀(n:Nat) (l:List UInt8),(cF c n l).length<=n
 |0,l=>by simp[cF]
 |1,l=>by simp[cF]
 |n+2,l=>by
  rw[cF]
  split
  ·have:=rN (c:=c) (n+1) (bW c l)
   simp;omega
  ·simp
theorem BF {W:World}{p r:List UInt8}(hp:p=47::r)(h:iK r=true):Cn p_ 130 [az p] W [] (fun _:Unit=> .tuple #[az p,.int .i64 0]) (fun _=>[]):=by
 subst hp
 simp only[iK,Bool.and_eq_true,Bool.or_eq_true,decide_eq_true_eq,Bool.not_eq_true',List.contains_eq_mem,decide_eq_false_iff_not]at h
 obtain⟨⟨⟨h1,h2⟩,h3⟩,h4⟩:=h
 have hlen:(47::r).length=r.length+1:=rfl
 have hpre:iw [47] (47::r)=true:=by simp[iw]
 have hnul:lY (47::r) 0<0:=by
  have:(0:UInt8)∉(47::r):=by simp[h2]
  have:=mt e5.1 this
  omega
 have hsl:(dX r).length<=r.length+1:=rN _ _
 have hsn:0<(dX r).length:=List.length_pos_iff.2 (qo _ (by omega))
 have hgood:∀k,k<(dX r).length->nb ((dX r).getD k [])=decide (r≠[])/\(dX r).getD k []≠[46]/\(dX r).getD k []≠[46,46]:=by
  intro k hk
  by_cases h0:r=[]
  ·subst h0
   have:k=0:=by have:(dX []).length=1:=rfl;omega
   subst this
   decide
  ·have:=List.all_eq_true.1 (h3.resolve_left h0) _ (List.getElem_mem hk)
   have hk2:(dX r).getD k []=(dX r)[k]:=by rw[List.getD_eq_getElem?_getD,List.getElem?_eq_getElem hk];rfl
   rw[hk2,dT_ h0]
   obtain⟨e1,e2,e3⟩:=of_decide_eq_true this
   exact⟨by unfold nb;cases hx:(dX r)[k] <;> simp_all,e2,e3⟩
 have hfl:∀k,((dX r).take k |>.filter nb).length<=r.length+1:=fun k=>Nat.le_trans (List.length_filter_le _ _) (by simp;omega)
 (refine S.ub.cn fun F=>?_;unfold S.rG;simp only[ca_,na_])
 refine dH fun g=>?_;refine dH fun g=>?_
 rename_i b2
 refine' aj (o0 (l:=47::r) (p:=[47]) (by simp;omega) (by decide)) ?hp fun _=>?_
 case hp=>exact .nil
 rw[hpre]
 refine aq ?_
 refine o_ bA (ab (ab (o_ bC (ab ?_))));(((refine o_ (Sl.bZ ?hcq) ?_);(case hcq=>(first|omega|(simp only[List.length_nil,List.length_cons];omega)))));refine o_ am (ab (ab ?_))
 refine' aj (indexByte (l:=47::r) (c:=0)) ?hp fun _=>?_
 case hp=>exact .nil
 refine aq ?_
 rename Nat=>b3
 refine ab ?_;(((refine o_ (Sl.eW ?hcq) ?_);(case hcq=>(first|omega|(simp only[List.length_nil,List.length_cons];omega)))));refine o_ am (af (dH fun g=>?_));refine dH fun g=>?_;refine bU ?_
 rename_i b4
 refine' aj (UE (p:=47::r)) ?hp fun bc=>?_
 case hp=>exact .nil
 refine aq ?_
 refine Ao (f:=312) (cap:=[.pointer (some ⟨bc,0,none⟩)]) (Il (dX r))
  (fun k=>all [pt bc (.cells #[az (47::r)] 9),all [ex fun q:Option Addr × Nat=>all [pt b4 (.cells #[.slice q.1 ((dX r).take k |>.filter nb).length q.2] 33),Sl 1 9 q.1 q.2 ((dX r).take k |>.filter nb).length (((dX r).take k |>.filter nb).map az)],pt g (.cells #[.bool (decide (k=(dX r).length)&&decide (r=[]))] 4),pt b2 (.cells #[az []] 9),pt b3 (.cells #[.int .i64 0] 29),all F]])
  (pu False) rfl ?_ ?_ ?_ ?_ ?_ ?_
 ·intro x hx
  obtain⟨k,_,rfl⟩:=List.mem_map.1 hx
  rfl
 ·refine .all ?_
  refine aq ?_
  refine .pick (by repeat constructor) (.all ?_)
  refine aq ?_
  refine .ex (none,0) (.all ?_)
  rw[dF_ (by omega)]
  refine aq ?_
  refine .pick (by repeat constructor) (bO ?_)
  refine .pick (by repeat constructor) (.pick (by repeat constructor) (.pick (by repeat constructor) (.all ?_)))
  rw[List.append_nil]
  exact .refl
 ·intro l T T' hy
  rw[sZ]
  exact Pq rfl (by simp;omega) hy
 ·intro k hk F2 T0 T1 B N J hB hN hJ
  rw[sZ]at hk
  have e0:∀h,(Il (dX r))[k]'h=[az ((dX r).getD k []),.bool (decide (k+1=(dX r).length))]:=fun h=>by
   have:=sY hk
   rw[List.getElem?_eq_getElem h]at this
   exact Option.some.inj this
  rw[e0]
  simp only[ji,List.headD_cons,List.tail_cons]
  have hft:=zc hk
  have hk1:=hfl k
  have hk2:=hfl (k+1)
  obtain⟨g1,g2,g3⟩:=hgood k hk
  refine aE (.there .here) ?_
  refine aq ?_
  refine aE (.there .here) ?_
  refine aq ?_
  refine bt .here fun q=>aE .here ?_
  obtain⟨qa,qc⟩:=q
  refine aq ?_
  (try dsimp only)
  refine hB _ _ _ (by repeat constructor) ?_
  obtain⟨w,hw⟩:∃w,w=(dX r).getD k []:=⟨_,rfl⟩
  obtain⟨V,hV⟩:∃V,V=((dX r).take k).filter nb:=⟨_,rfl⟩
  rw[<- hw]at hft g1 g2 g3 ⊢
  rw[<- hV]at hft hk1 ⊢
  obtain⟨V2,hV2⟩:∃V2,V2=((dX r).take (k+1)).filter nb:=⟨_,rfl⟩
  rw[<- hV2]at hft hk2
  have tail:∀q:Option Addr × Nat,Imp W (pt b4 (.cells #[.slice q.1 V2.length q.2] 33)::Sl 1 9 q.1 q.2 V2.length (V2.map az)::pt g (.cells #[.bool (decide (k+1=(dX r).length)&&decide (r=[]))] 4)::pt b2 (.cells #[az []] 9)::pt b3 (.cells #[.int .i64 0] 29)::all F::pt bc (.cells #[az (47::r)] 9)::T1::F2) (T1::all [pt bc (.cells #[az (47::r)] 9),all [ex fun q:Option Addr × Nat=>all [pt b4 (.cells #[.slice q.1 ((dX r).take (k+1) |>.filter nb).length q.2] 33),Sl 1 9 q.1 q.2 ((dX r).take (k+1) |>.filter nb).length (((dX r).take (k+1) |>.filter nb).map az)],pt g (.cells #[.bool (decide (k+1=(dX r).length)&&decide (r=[]))] 4),pt b2 (.cells #[az []] 9),pt b3 (.cells #[.int .i64 0] 29),all F]]::F2):=fun q=>by
   rw[<- hV2]
   refine .pick (by repeat constructor) (.all ?_)
   refine aq ?_
   refine .pick (by repeat constructor) (.all ?_)
   refine aq ?_
   refine .ex q (.all ?_)
   refine aq ?_
   exact aA
  by_cases hr:r=[]
  ·rw[dF_ (by simpa using hr)]at g1
   have hw0:w=[]:=by cases w with|nil=>rfl|cons=>simp[nb]at g1
   rw[if_neg (by rw[g1];simp),List.append_nil]at hft
   subst hw0
   refine o_ (Sl.kr (m:=[]) rfl) ?_
   refine aC (aC (o_ av ?_));(((refine' aB (Sl.fK ?hcq) .nil ?_);(case hcq=>(first|assumption|simp_all;done))))
   refine eb ?_
   refine ao (ao (ao (o_ am (af (af (o_ bA (af (ip fun ds=>?_))))))))
   by_cases hlast:k+1=(dX r).length
   ·rw[dT_ hlast]
    refine ab (ab (aC (ab (o_ av (o_ av (bU ?_))))))
    refine bu ?_ (hN _ (tail (qa,qc)))
    rw[hft,dT_ hlast,dT_ hr]
    exact aA
   ·rw[dF_ hlast]
    refine ao (ao (cV (ao (o_ am (bU ?_)))))
    refine bu ?_ (hN _ (tail (qa,qc)))
    rw[hft,dF_ hlast]
    exact aA
  ·rw[dT_ hr]at g1
   have hw0:w≠[]:=by rintro rfl;simp[nb]at g1
   rw[if_pos g1]at hft
   (((refine' aB (Sl.fK ?hcq) .nil ?_);(case hcq=>(first|assumption|simp_all;done))));refine ab ?_;refine ab ?_;(((refine' aB (Sl.fK ?hcq) .nil ?_);(case hcq=>(first|assumption|simp_all;done))));refine o_ am ?_;(((refine' aB (Sl.fK ?hcq) .nil ?_);(case hcq=>(first|assumption|simp_all;done))))
   refine eb ?_
   refine ao (ao (ao (o_ am (af (af (o_ cP (ai (aM ?_))))))));refine cZ fun g=>?_
   refine bV (m:=1) (news:=[az w]) (by(repeat constructor):Pick _ (Sl 1 9 qa qc V.length (V.map az)) _) (bR (s:=1) (e':=9) (by kernel_rfl) .here (by rfl) (by intro u hu;rw[List.mem_singleton.1 hu];rfl)) (by omega) (by omega) fun a' c'=>?_
   refine bU ?_
   refine ip fun ds=>?_
   by_cases hlast:k+1=(dX r).length
   ·rw[dT_ hlast]
    refine ab (ab (ab (ab (o_ am (o_ av (bU ?_))))))
    refine bu ?_ (hN _ (tail (a',c')))
    rw[hft,dF_ hr,Bool.and_false,List.length_append,List.map_append]
    exact aA
   ·rw[dF_ hlast]
    refine ao (ao (cV (ao (o_ am (bU ?_)))))
    refine bu ?_ (hN _ (tail (a',c')))
    rw[hft,dF_ hr,Bool.and_false,List.length_append,List.map_append]
    exact aA
 ·intro d
  refine aE (.there .here) ?_
  refine aq ?_
  refine aE (.there .here) ?_
  refine aq ?_
  refine bt .here fun q=>aE .here ?_
  obtain⟨qa,qc⟩:=q
  refine aq ?_
  (try dsimp only)
  rw[sZ,List.take_length,dT_ rfl,Bool.true_and]
  have hfl':=hfl (dX r).length
  rw[List.take_length]at hfl'
  refine aM ?_
  refine' aj (join (sep:=[47]) (V:=(dX r).filter nb) (a:=qa) (c:=qc) (by decide) (by decide) (by rw[h4];omega) (by omega)) ?hp fun _=>?_
  case hp=>(repeat(first|exact Picks.nil|(apply Picks.cons;(focus repeat constructor))))
  rw[h4]
  refine aq ?_
  refine o_ (bE (a:=[47]) (by simp;omega)) ?_
  refine aM ?_
  by_cases hr:r=[]
  ·rw[dT_ hr]
   have hz:((dX r).filter nb).length=0:=by subst hr;decide
   refine ab (aM ?_);refine ab (o_ aK (ab ?_));(((refine o_ (Sl.bZ ?hcq) ?_);(case hcq=>(first|omega|(simp only[List.length_nil,List.length_cons];omega)))));refine o_ av (af (bU ?_));refine bU ?_
   refine su (by repeat constructor) ?_
   (((refine' aP (dh ?hc) ?hi ?_);(case hi=>exact aA);(case hc=>repeat constructor)));(((refine' aP (dh ?hc) ?hi ?_);(case hi=>exact aA);(case hc=>repeat constructor)))
   refine jp (M:=[]) (F:=F) aA ?_
   refine aq ?_
   refine aO () ?_
   exact .refl
  ·rw[dF_ hr]
   refine ao (ao (ao (o_ am (af (bU ?_)))));refine bU ?_
   refine su (by repeat constructor) ?_
   (((refine' aP (dh ?hc) ?hi ?_);(case hi=>exact aA);(case hc=>repeat constructor)));(((refine' aP (dh ?hc) ?hi ?_);(case hi=>exact aA);(case hc=>repeat constructor)))
   refine jp (M:=[]) (F:=F) aA ?_
   refine aq ?_
   refine aO () ?_
   exact .refl
 ·intro d
  refine aX (.there .here) fun hp=>hp.elim
theorem BG {W:World}{p r:List UInt8}(hp:p=47::r)(h:iK r=true)(h37:p.contains 37=false):Cn p_ 89 [az p] W [] (fun _:Unit=> .tuple #[az p,.int .i64 0]) (fun _=>[]):=by
 have hl:p.length<=1048576:=by
  subst hp
  simp only[iK,Bool.and_eq_true,decide_eq_true_eq]at h
  simp;omega
 (refine Shp.cn (Sg.g_ Tryz.call89 Tryz.func89) fun F=>?_;simp only[ca_,na_])
 refine c_ (Ex hl h37) fun _=>?_
 refine bI ?_;refine bI ?_;(((refine o_ (Sl.cE ?hcq) ?_);(case hcq=>(first|omega|(simp only[List.length_nil,List.length_cons];omega)))));refine af (c_ (BF hp h) fun _=>?_)
 refine bI ?_;refine bI ?_
 refine aO () ?_
 exact aA
def fH:List FD.Fd:=[(rL,[97])]
def Pt:List UInt8:=[69,120,112,101,99,116]
theorem oB:oz fH:=⟨by decide,by decide⟩
theorem Ey:bH fH rL=[[97]]:=by decide+kernel
theorem Im:bH fH nK=[]:=by decide+kernel
theorem In:cL fH Pt=([],false):=by decide+kernel
theorem BI:za fH=some (0,0):=by decide+kernel
def S4 (t:List UInt8):Prop:=(∃r,t=47::r)/\t.all ur=true/\t.length<=1000
def Pu (p:Ps)(t:List UInt8):Prop:=p.done=true/\p.reply=false/\p.meth=db/\p.targ=t/\p.minor=1/\p.fs=fH
def Io (g:Nat)(bo:Int):HP:=pt g (.cells (nI 0 0 bo 0 (none,0) 0 false).toArray 234)
theorem Ip {W : World} [hG : Gl W] {c H : Nat} {s : CnS} {p : Ps} {t : List UInt8} (ht : S4 t) (hp : Pu p t) (hh : s.hd = pC H) (hb0 : 0 <= s.bo) (hb : s.bo <= 1048576) :
  Cn p_ 143 [pC c] W [bQ c s, dJ H p] (fun _ : Nat × Nat × (Option Addr × Nat) => .tuple #[])
   (fun x => [bQ c { s with hd := pC x.1, rr := pC x.2.1, ln := 0, q0 := az db, q1 := az t, q2 := .int .i64 1, q3 := .slice x.2.2.1 1 x.2.2.2, got := .slice none 0 0, nx := VH c }, dJ x.1 (fq false), Io x.2.1 s.bo, Sl 2 192 x.2.2.1 x.2.2.2 1 (fH.flatMap cT)]) := by
 (refine Shp.cn (Sg.g_ Tryz.call143 Tryz.func143 (an := { cuts := [(5, []), (13, []), (22, [])], drs := [(1, .ofL [(0, 2), (1, 2), (2, 2), (3, 2), (4, 3), (5, 0), (6, 1), (7, 1), (8, 0), (9, 1), (10, 1), (11, 0), (12, 1), (13, 1), (14, 0), (15, 1), (16, 1), (17, 0)]), (17, .ofL [(0, 1), (1, 1), (2, 1), (3, 1), (4, 1), (5, 1), (6, 1), (7, 1), (8, 1), (9, 1), (10, 1), (11, 1), (12, 1), (13, 1)]), (22, .ofL [(0, 2), (1, 1), (2, 1), (3, 1), (4, 1), (5, 1), (6, 1), (7, 0), (8, 1), (9, 1), (10, 3), (11, 1), (12, 1), (13, 0)])] }) (os := [(1, [(5, [4])]), (22, [(13, [10])])])) fun F => ?_; simp only [ca_, na_])
 cases s
 rename_i bo ke ck si rd bg nx hd rr ln q0 q1 q2 q3 got ev row nu out
 (try dsimp only at *)
 subst hh
 obtain ⟨hd, hr, hm, hg, hi, hf⟩ := hp
 (unfold bQ nJ; (try dsimp only))
 refine o_ ah (o_ ae (aM ?_))
 refine' aj (A8 (g := H) (p := p) hd hr (by rw [hf]; decide)) ?hp fun q => ?_
 case hp => (repeat (first | exact Picks.nil | (apply Picks.cons; (focus repeat constructor))))
 obtain ⟨qa, qc⟩ := q
 rw [hm, hg, hi, hf, show fH.length = 1 from rfl]
 refine aq ?_
 (try dsimp only)
 refine aS fun g => ?_; (((refine' aG ?hp ?hn ?hv ?h1 ?_); (case hp => (repeat constructor)); (case hn => rfl); (case hv => rfl); (case h1 => simp [Value.oneCell', az]))); refine aV ?_; (((refine' ay (bK ?hn) ?hi ?_); (case hi => exact .pick (by repeat constructor) .nil); (case hn => rfl)))
 refine' aj (Ed (r := false)) ?hp fun H2 => ?_
 case hp => (repeat (first | exact Picks.nil | (apply Picks.cons; (focus repeat constructor))))
 refine aq ?_
 refine cU (aI aA) ?_
 refine t_ ah (t_ ae (mI (n := 4) (vs := [az db, az t, .int .i64 1, .slice qa 1 qc]) (cs' := [.int .i64 bo, .int .i64 ke, .int .i64 ck, .int .i64 si, .bool rd, .bool bg, nx, pC H, rr, .int .i64 ln, az db, az t, .int .i64 1, .slice qa 1 qc, got, ev, row, .int .i64 nu, out]) (by repeat constructor) rfl (by simp) (by simp [Value.oneCell', az]) rfl ?_))
 refine t_ ah (t_ ae (bU ?_)); refine t_ ah (t_ ae (bU ?_)); refine t_ ah (t_ ae (bU ?_))
 refine aN (by (repeat constructor) : Pick _ (Sl 2 192 qa qc 1 (fH.flatMap cT)) _) fun _ _ _ hs => ?_
 have hA : gD W (Sl 2 192 qa qc 1 (fH.flatMap cT)) qa fH := cg (l := fH) hs
 obtain ⟨⟨r, hr⟩, ht2, ht3⟩ := ht
 refine eb ?_
 refine o_ ae (aM ?_); refine o_ ae (aM ?_)
 refine c_ (Bt (m := db) (p := t) (r := r) rfl hr ht2 (by omega)) fun _ => ?_
 unfold Id
 refine bI ?_; refine bI ?_; refine aS fun g => ?_; (((refine' aG ?hp ?hn ?hv ?h1 ?_); (case hp => (repeat constructor)); (case hn => rfl); (case hv => rfl); (case h1 => simp [Value.oneCell', az]))); (((refine o_ (Sl.cE ?hcq) ?_); (case hcq => (first | omega | (simp only [List.length_nil, List.length_cons]; omega))))); refine ab (o_ ae (ab (aM ?_))); refine ab ?_; (((refine o_ (Sl.gO ?hcq) ?_); (case hcq => (first | omega | (simp only [List.length_nil, List.length_cons]; omega))))); refine ab (ab (iS ?_)); refine ab ?_
 refine' aj (Em (l := [97]) hA oB Ey (by decide) (by decide) (by decide +kernel)) ?hp fun _ => ?_
 case hp => (repeat (first | exact Picks.nil | (apply Picks.cons; (focus repeat constructor))))
 refine aq ?_
 refine ab (o_ bA (ab (o_ av (o_ am (af (ip fun ds => ?_))))))
 refine iS ?_
 refine' aj (qn hA oB BI) ?hp fun _ => ?_
 case hp => (repeat (first | exact Picks.nil | (apply Picks.cons; (focus repeat constructor))))
 refine aq ?_
 refine bI ?_; refine bI ?_; refine aS fun g => ?_; (((refine' aG ?hp ?hn ?hv ?h1 ?_); (case hp => (repeat constructor)); (case hn => rfl); (case hv => rfl); (case h1 => simp [Value.oneCell', az])))
 refine eb ?_
 (((refine o_ (Sl.cv ?hcq) ?_); (case hcq => (first | omega | (simp only [List.length_nil, List.length_cons]; omega))))); refine ai ?_
 refine ip fun ds => ?_
 refine o_ ae (aM ?_)
 refine' aj (first (n := Pt) hA oB (by decide)) ?hp fun _ => ?_
 case hp => (repeat (first | exact Picks.nil | (apply Picks.cons; (focus repeat constructor))))
 rw [In]
 refine aq ?_
 refine bI ?_; refine bI ?_; refine ao (ao (ao (o_ am (eb ?_))))
 refine ao (ao (ao (o_ am (af (aV (t_ ae (cu ?_))))))); (((refine t_ (Sl.bL ?hcq) ?_); (case hcq => (first | omega | (simp only [List.length_nil, List.length_cons]; omega))))); refine ao (ao (ao (ao (ao (ao (ao (ao (t_ am (af (ao (ao (ao (ao (ao (ao (o_ am (ao (ao (ao (ao (cV (cV (cV (ao (o_ am (af (ip fun ds => ?_)))))))))))))))))))))))))))
 refine aV ?_; (((refine' aP (bK ?hn) ?hi ?_); (case hi => exact .pick (by repeat constructor) .nil); (case hn => rfl))); refine t_ ah (t_ ae (t_ ae (cu ?_)))
 refine' aj (H8 (k := 0) (n := 0) (most := bo) (.inl ⟨rfl, rfl⟩) hb0 hb) ?hp fun G => ?_
 case hp => (repeat (first | exact Picks.nil | (apply Picks.cons; (focus repeat constructor))))
 refine aq ?_
 refine zR ?_; (((refine' ay (bk ?hc) .nil ?_); (case hc => repeat constructor))); refine t_ ah (t_ ae (bU ?_)); refine aY ?_; refine o_ bP (o_ ah (o_ ae (bU ?_)))
 refine aO ((H2, G, (qa, qc))) ?_
 unfold Io
 (try dsimp only)
 exact aA
def Pv (b t:List UInt8):Prop:=b.length<=2000/\0<b.length/\S4 t/\∃p,fJ (fq false) b=some (p,[])/\Pu p t
theorem Iq {P:Program}{W:World}{t e:TypeId}{s b n cap g o:Nat}{r:IntKind}{j:Int}(h:Nat)[ht:SlT P t e s b](hj:j=(h:Int))(h2:h<=cap):
  aT P W [] (oR t (.slice (some ⟨g,o,none⟩) n cap) none (some (.int r j)) none) (.slice (some ⟨g,o,none⟩) h cap):=by
 have:=Aq (P:=P) (W:=W) (t:=t) (n:=n) (a:=some ⟨g,o,none⟩) (r:=r) h hj h2
 have e:(if cap=0 then some (⟨g,o,none⟩:Addr)else(some (⟨g,o,none⟩:Addr)).map (·.add (0 * s)))=some ⟨g,o,none⟩:=by
  split
  ·rfl
  ·simp[dQ]
 rw[e]at this
 exact this
theorem Ir {W:World}[hG:Gl W]{c H:Nat}{s:CnS}{b t:List UInt8}{a:Option Addr}{cap:Nat}{A:HP}(hA:RdB W A a b.length (b.map Sl.B))(hr:Pv b t)(hcap:b.length<=cap)(hh:s.hd=pC H)(hb0:0<=s.bo)(hb:s.bo<=1048576):
  Cn p_ 75 [pC c,.slice a b.length cap] W [bQ c s,dJ H (fq false),A] (fun x:(Option Addr × Nat) × Bool × Int × Nat × Nat × (Option Addr × Nat)=> .slice x.1.1 0 x.1.2)
   (fun x=>[bQ c {s with bg:=x.2.1,si:=x.2.2.1,hd:=pC x.2.2.2.1,rr:=pC x.2.2.2.2.1,ln:=0,q0:=az db,q1:=az t,q2:= .int .i64 1,q3:= .slice x.2.2.2.2.2.1 1 x.2.2.2.2.2.2,got:= .slice none 0 0,nx:=VH c},dJ x.2.2.2.1 (fq false),Io x.2.2.2.2.1 s.bo,Sl 2 192 x.2.2.2.2.2.1 x.2.2.2.2.2.2 1 (fH.flatMap cT),A]):=by
 (refine Shp.cn (Sg.g_ Tryz.call75 Tryz.func75) fun F=>?_;simp only[ca_,na_])
 obtain⟨hl,h0,ht,p,hf,hp⟩:=hr
 cases s
 rename_i bo ke ck si rd bg nx hd rr ln q0 q1 q2 q3 got ev row nu out
 (try dsimp only at *)
 subst hh
 have hA':=hA
 obtain⟨ga,oa,ha,_⟩:=hA'.at_ h0
 subst ha
 (unfold bQ nJ;(try dsimp only))
 refine o_ ah (o_ ae (aM ?_))
 refine' aj (A9 (G:=H) (cap:=cap) hA hf rfl (by omega)) ?hp fun _=>?_
 case hp=>(repeat(first|exact Picks.nil|(apply Picks.cons;(focus repeat constructor))))
 rw[hp.1]
 refine aq ?_
 rw[show((b.length:Int)-(([]:List UInt8).length:Int))=(b.length:Int) by simp]
 refine bI ?_;refine bI ?_;refine bI ?_
 refine o_ (Iq b.length rfl hcap) ?_
 refine iO (by repeat constructor) ?_
 refine' aj (If (c:=c) hA (by omega)) ?hp fun y=>?_
 case hp=>(repeat(first|exact Picks.nil|(apply Picks.cons;(focus repeat constructor))))
 obtain⟨y1,y2,y3⟩:=y
 refine aq ?_
 (try dsimp only)
 (((refine o_ (Sl.bL ?hcq) ?_);(case hcq=>(first|omega|(simp only[List.length_nil,List.length_cons];omega)))));refine ao ?_;refine ao ?_;refine ao ?_;refine ao ?_;refine ao ?_;refine o_ am ?_;refine af ?_;(((refine o_ (Sl.bL ?hcq) ?_);(case hcq=>(first|omega|(simp only[List.length_nil,List.length_cons];omega)))));refine af ?_;(((refine o_ (Sl.cE ?hcq) ?_);(case hcq=>(first|omega|(simp only[List.length_nil,List.length_cons];omega)))));refine af ?_;refine ai ?_
 refine' aj (Ip (c:=c) (H:=H) (t:=t) ht hp ?hc1 ?hc2 ?hc3) ?hp fun x=>?_
 case hp=>(repeat(first|exact Picks.nil|(apply Picks.cons;(focus repeat constructor))))
 case hc1=>rfl
 case hc2=>exact hb0
 case hc3=>exact hb
 obtain⟨x1,x2,x3⟩:=x
 refine aq ?_
 (try dsimp only)
 refine o_ (lj b.length rfl (Nat.le_refl _)) ?_
 rw[Nat.sub_self]
 refine aO (((_,_),y2,y3,x1,x2,x3)) ?_
 exact aA
end Go.Proofs.YtdjkdjepjahjfaaGreatDoor.TP
namespace Go.Proofs.YtdjkdjepjahjfaaGreatDoor.FD
open Go Go.Proofs Go.RowKit Sh Sl T
theorem uF {p:Nat->Bool}{i:Nat}:(List.range (i+1)).any p=((List.range i).any p||p i):=by rw[List.range_succ,List.any_append];simp
theorem BJ {p:Nat->Bool}{n i:Nat}(hi:i<n)(h:p i=true):(List.range n).any p=true:=List.any_eq_true.2 ⟨i,List.mem_range.2 hi,h⟩
theorem s4 {α:Type}{l:List α}{p:Nat->Bool}{q:α->Bool}(h:∀(i:Nat) (hi:i<l.length),p i=q l[i]):(List.range l.length).any p=l.any q:=by
 apply Bool.eq_iff_iff.2
 rw[List.any_eq_true,List.any_eq_true]
 constructor
 ·rintro⟨i,hi,hp⟩
  have hi:=List.mem_range.1 hi
  exact⟨l[i],List.getElem_mem hi,by rw[<- h i hi];exact hp⟩
 ·rintro⟨x,hx,hq⟩
  obtain⟨i,hi,rfl⟩:=List.mem_iff_getElem.1 hx
  exact⟨i,List.mem_range.2 hi,by rw[h i hi];exact hq⟩
theorem Ez {W:World} {n c:Nat} {a:Option Addr} {v:Nat->Value} {p:Nat->Bool} {NA C:HP} {k:FuncId} {cap:List Value} (hn:n<=4611686018427387904) (ha:0<n->∃g o,a=some ⟨g,o,none⟩)
  (hld:∀i g o,i<n->a=some ⟨g,o,none⟩->aT p_ W [NA] (aL 9 (.pointer (some ⟨g,o+i * 1,none⟩))) (v i))
  (hf:∀i,i<n->Cn p_ k ([v i]++cap) W [C] (fun _:Unit=> .bool (p i)) (fun _=>[C])):
  Cn p_ 177 [.slice a n c,.func (.func k) #[] cap.toArray] W [NA,C] (fun i:{i:Int // decide (0<=i)=(List.range n).any p}=> .int .i64 i.1) (fun _=>[NA,C]):=by
 (refine Shp.cn (Sg.g_ Tryz.call177 Tryz.func177 (an:={loops:=[(2,[8])]})) fun F=>?_;simp only[ca_,na_])
 refine o_ aK (a_ (fun m y=>pu (∃i:Nat,m+i=n/\y= .int .i64 (i:Int)/\(List.range i).any p=false)::NA::C::F) n ?_ ?_)
 ·refine .pu ⟨0,rfl,rfl,rfl⟩ ?_
  exact aA
 intro m ds y
 refine aX .here fun hi=>?_
 obtain⟨i,hmi,rfl,hno⟩:=hi
 refine bj bD .nil (fun h=>?_) (fun h=>?_)
 ·have hin:i<n:=by omega
  obtain⟨g,o,rfl⟩:=ha (by omega)
  have hany:=uF (p:=p) (i:=i)
  refine ai (o_ (eA i rfl hin) ?_)
  refine dm (hld i g o hin rfl) ?_
  refine bB (hf i hin) (by(repeat(first|exact Picks.nil|(apply Picks.cons;(focus repeat constructor))))) fun _=>?_
  refine aq ?_
  cases hp:p i with
  |true=>
   refine ai (bG ⟨(i:Int),by rw[BJ hin hp];exact dT_ (by omega)⟩ rfl ?_)
   exact aA
  |false=>
   refine af (bS ?_)
   refine bq (m-1) (by omega) (.pu ⟨i+1,by omega,by norm_cast,by rw[hany,hno,hp];rfl⟩ ?_)
   exact aA
 ·have:i=n:=by omega
  subst this
  refine af (bG ⟨-1,by rw[hno];rfl⟩ rfl ?_)
  exact aA
theorem xK {W:World} {n c:Nat} {a:Option Addr} {v:Nat->Value} {p:Nat->Bool} {NA C:HP} {k:FuncId} {cap:List Value} (hn:n<=4611686018427387904) (ha:0<n->∃g o,a=some ⟨g,o,none⟩)
  (hld:∀i g o,i<n->a=some ⟨g,o,none⟩->aT p_ W [NA] (aL 9 (.pointer (some ⟨g,o+i * 1,none⟩))) (v i))
  (hf:∀i,i<n->Cn p_ k ([v i]++cap) W [C] (fun _:Unit=> .bool (p i)) (fun _=>[C])):
  Cn p_ 104 [.slice a n c,.func (.func k) #[] cap.toArray] W [NA,C] (fun _:Unit=> .bool ((List.range n).any p)) (fun _=>[NA,C]):=by
 (refine Shp.cn (Sg.g_ Tryz.call104 Tryz.func104) fun F=>?_;simp only[ca_,na_])
 refine aj (Ez hn ha hld hf) (by(repeat(first|exact Picks.nil|(apply Picks.cons;(focus repeat constructor))))) fun i=>?_
 obtain⟨i,hi⟩:=i
 refine aq ?_
 refine o_ dy ?_
 rw[hi]
 refine aO () ?_
 exact aA
theorem EA {W:World} {n c:Nat} {a:Option Addr} {v:Nat->Value} {p:Nat->Bool} {NA C:HP} {k:FuncId} {cap:List Value} (hn:n<=4611686018427387904) (ha:0<n->∃g o,a=some ⟨g,o,none⟩)
  (hld:∀i g o,i<n->a=some ⟨g,o,none⟩->aT p_ W [NA] (aL 524 (.pointer (some ⟨g,o+i * 3,none⟩))) (v i))
  (hf:∀i,i<n->Cn p_ k ([v i]++cap) W [C] (fun _:Unit=> .bool (p i)) (fun _=>[C])):
  Cn p_ 506 [.slice a n c,.func (.func k) #[] cap.toArray] W [NA,C] (fun i:{i:Int // decide (0<=i)=(List.range n).any p}=> .int .i64 i.1) (fun _=>[NA,C]):=by
 (refine Shp.cn (Sg.g_ Tryz.call506 Tryz.func506 (an:={loops:=[(2,[8])]})) fun F=>?_;simp only[ca_,na_])
 refine o_ aK (a_ (fun m y=>pu (∃i:Nat,m+i=n/\y= .int .i64 (i:Int)/\(List.range i).any p=false)::NA::C::F) n ?_ ?_)
 ·refine .pu ⟨0,rfl,rfl,rfl⟩ ?_
  exact aA
 intro m ds y
 refine aX .here fun hi=>?_
 obtain⟨i,hmi,rfl,hno⟩:=hi
 refine bj bD .nil (fun h=>?_) (fun h=>?_)
 ·have hin:i<n:=by omega
  obtain⟨g,o,rfl⟩:=ha (by omega)
  have hany:=uF (p:=p) (i:=i)
  refine ai (o_ (eA i rfl hin) ?_)
  refine dm (hld i g o hin rfl) ?_
  refine bB (hf i hin) (by(repeat(first|exact Picks.nil|(apply Picks.cons;(focus repeat constructor))))) fun _=>?_
  refine aq ?_
  cases hp:p i with
  |true=>
   refine ai (bG ⟨(i:Int),by rw[BJ hin hp];exact dT_ (by omega)⟩ rfl ?_)
   exact aA
  |false=>
   refine af (bS ?_)
   refine bq (m-1) (by omega) (.pu ⟨i+1,by omega,by norm_cast,by rw[hany,hno,hp];rfl⟩ ?_)
   exact aA
 ·have:i=n:=by omega
  subst this
  refine af (bG ⟨-1,by rw[hno];rfl⟩ rfl ?_)
  exact aA
theorem xL {W:World} {n c:Nat} {a:Option Addr} {v:Nat->Value} {p:Nat->Bool} {NA C:HP} {k:FuncId} {cap:List Value} (hn:n<=4611686018427387904) (ha:0<n->∃g o,a=some ⟨g,o,none⟩)
  (hld:∀i g o,i<n->a=some ⟨g,o,none⟩->aT p_ W [NA] (aL 524 (.pointer (some ⟨g,o+i * 3,none⟩))) (v i))
  (hf:∀i,i<n->Cn p_ k ([v i]++cap) W [C] (fun _:Unit=> .bool (p i)) (fun _=>[C])):
  Cn p_ 454 [.slice a n c,.func (.func k) #[] cap.toArray] W [NA,C] (fun _:Unit=> .bool ((List.range n).any p)) (fun _=>[NA,C]):=by
 (refine Shp.cn (Sg.g_ Tryz.call454 Tryz.func454) fun F=>?_;simp only[ca_,na_])
 refine aj (EA hn ha hld hf) (by(repeat(first|exact Picks.nil|(apply Picks.cons;(focus repeat constructor))))) fun i=>?_
 obtain⟨i,hi⟩:=i
 refine aq ?_
 refine o_ dy ?_
 rw[hi]
 refine aO () ?_
 exact aA
def UF (x:Dir):Prop:=x.value.length<=4194304/\(x.has=false->x.value=[])
theorem EB {l:List UInt8}(hl:l.length<=2097152):∀x∈(jt (lr l)).1,UF x:=by
 intro x hx
 unfold lr eH at hx
 split at hx
 ·obtain⟨w,hw,rfl⟩:=List.mem_map.1 hx
  have hwl:=kP hw
  refine⟨?_,DQ⟩
  have hB:=gj (c:=61) w
  unfold nr
  split
  ·show(nq (bW 61 w)).1.length<=_
   have:(nq (bW 61 w)).1.length<=(bW 61 w).length:=by
    cases bW 61 w with
    |nil=>simp[nq]
    |cons c r=>
     show(if c=34 then j7 [] r else([],false)).1.length<=_
     split
     ·have:=sV r.length r (Nat.le_refl _) []
      simp at this ⊢;omega
     ·simp
   omega
  ·show(bW 61 w).length<=_
   omega
 ·simp[jt]at hx
theorem BK {l:List UInt8}:(jt (lr l)).1.length<=l.length+1:=by
 have hn:=i_ (q:=true) (e:=true) (l:=l)
 unfold lr eH
 split
 ·show(List.map _ _).length<=_
  rw[List.length_map];omega
 ·simp[jt]
theorem BM {xs:List Dir}{i:Nat}{s:List UInt8}(h:i<xs.length):fp (xs.drop i) s=if xs[i].name=s then(vP xs[i],true)else fp (xs.drop (i+1)) s:=by
 rw[List.drop_eq_getElem_cons h]
 unfold fp
 rw[List.find?_cons]
 by_cases c:xs[i].name=s
 ·rw[if_pos c,show(xs[i].name==s)=true by simp[c]]
 ·rw[if_neg c,show(xs[i].name==s)=false by simp[c]]
theorem s5 {W:World}[hG:Gl W]{xs:List Dir}{s:List UInt8}{a:Option Addr}{c:Nat}(hn:xs.length<=4194304)(hx:∀x∈xs,UF x):Cn p_ 605 [.slice a xs.length c,az s] W [Sl 3 524 a c xs.length (xs.flatMap eM)] (fun _:Unit=> .tuple #[.int .i64 (fp xs s).1,.bool (fp xs s).2]) (fun _=>[Sl 3 524 a c xs.length (xs.flatMap eM)]):=by
 (refine Shp.cn (Sg.g_ Tryz.call605 Tryz.func605 (an:={cuts:=[(11,[8])],loops:=[(2,[12])]})) fun F=>?_;simp only[ca_,na_])
 refine o_ aK (a_ (fun m y=>[ex fun i:Nat=>all [pu (m+i=xs.length/\y= .int .i64 (i:Int)/\fp xs s=fp (xs.drop i) s),Sl 3 524 a c xs.length (xs.flatMap eM)]]++F) xs.length ?_ ?_)
 ·refine Imp.ex 0 (.all ?_)
  refine aq ?_
  exact .pu ⟨rfl,rfl,rfl⟩ .refl
 intro m ds y
 refine aq ?_
 refine bt Pick.here fun i=>aE Pick.here ?_
 refine aq ?_
 refine aX Pick.here fun hi=>?_
 obtain⟨hmi,rfl,hse⟩:=hi
 refine bj bD .nil (fun h=>?_) (fun h=>?_)
 ·have hil:i<xs.length:=by omega
  have hok:=hx _ (List.getElem_mem hil)
  rw[BM hil]at hse
  refine ai (be (a:=a) .here (Nat.zero_lt_of_lt hil) fun g hg=>?_)
  subst hg
  refine o_ (eA i rfl hil) ?_
  refine dm (Ii hil rfl) ?_
  generalize xs[i]=x at hok hse ⊢
  unfold qZ
  refine aS fun b7=>?_
  refine aG .here (by rfl) (by rfl) (by intro u hu;simp at hu;rcases hu with rfl|rfl|rfl <;> rfl) ?_
  refine o_ ae (aM ?_)
  refine o_ ee ?_
  by_cases hxn:x.name=s
  ·rw[dF_ (fun c=>c hxn)]
   rw[if_pos hxn]at hse
   refine af (o_ ae (aM ?_))
   refine aj (jx (l:=x.value) (by have:=hok.1;omega)) .nil fun _=>?_
   refine aq ?_
   refine o_ (bk (vs:=[_,_]) .here) ?_
   refine o_ (bk (vs:=[_,_]) (.there .here)) ?_
   refine dt (fun z=>(ex fun n:Int=>pu (z= .int .i64 n/\vP x=if 2147483648<n then 2147483648 else n))::pt b7 (.cells #[az x.name,az x.value,.bool x.has] 524 (0,0))::Sl 3 524 (some ⟨g,0,none⟩) c xs.length (xs.flatMap eM)::F) ?_ ?_
   ·intro ds2 z
    refine bt .here fun n=>aX .here fun hz=>?_
    obtain⟨rfl,hsv⟩:=hz
    refine o_ mu (bG () (by rw[hse,hsv]) ?_)
    exact aA
   ·refine bj cJ .nil (fun h1=>?_) (fun h1=>?_)
    ·refine ai (aI (.ex 2147483648 (.pu ⟨rfl,?_⟩ ?_)))
     ·unfold vP;rw[if_pos h1];rfl
     ·exact aA
    ·refine af (bj jY .nil (fun h2=>?_) (fun h2=>?_))
     ·refine ai (ai (aI (.ex 0 (.pu ⟨rfl,?_⟩ ?_))))
      ·unfold vP;rw[if_neg h1,if_pos (.inl h2)];rfl
      ·exact aA
     ·refine af (o_ ae (aM ?_));refine o_ eU ?_
      cases hh:x.has with
      |false=>
       refine ai (aI (.ex 0 (.pu ⟨rfl,?_⟩ ?_)))
       ·unfold vP;rw[if_neg h1,if_pos (.inr hh)];rfl
       ·exact aA
      |true=>
       refine af (aI (.ex (cS x.value).1 (.pu ⟨rfl,?_⟩ ?_)))
       ·unfold vP;rw[if_neg h1,if_neg (by rw[hh];rintro(c|c);exact h2 c;cases c)]
        split <;> omega
       ·exact aA
  ·rw[dT_ hxn]
   rw[if_neg hxn]at hse
   refine ai (bS ?_)
   refine bq (m-1) (by omega) (.ex (i+1) (.all ?_))
   refine aq ?_
   refine .pu ⟨by omega,rfl,hse⟩ ?_
   exact aA
 ·rw[List.drop_of_length_le (by omega)]at hse
  refine af ?_
  rw[hse]
  refine aO () ?_
  exact aA
end Go.Proofs.YtdjkdjepjahjfaaGreatDoor.FD
namespace Go.Proofs.YtdjkdjepjahjfaaGreatDoor.D
open Go Go.Proofs Go.RowKit Sh Sl T
def dE (n:Int):Int:=(n+719468)%146097
def dY (e:Int):Int:=(e-e / 1460+e / 36524-e / 146096) / 365
def dD (e:Int):Int:=e-(365 * dY e+dY e / 4-dY e / 100)
def dM (e:Int):Int:=(5 * dD e+2) / 153
def cM (n:Int):Int:=(dM (dE n)+2)%12+1
def cY (n:Int):Int:=(n+719468) / 146097 * 400+dY (dE n)+(if cM n<=2 then 1 else 0)
def cD (n:Int):Int:=dD (dE n)-(153 * dM (dE n)+2) / 5+1
theorem Is (n:Int):0<=dE n/\dE n<=146096:=by unfold dE;omega
theorem Pw {e:Int}(h:0<=e/\e<=146096):0<=dY e/\dY e<=399:=by unfold dY;omega
theorem Gr {c r:Int}(hc:0<=c/\c<=3)(hr:0<=r/\r<=36523):dY (36524 * c+r)=100 * c+(r-(24 * c+r) / 1460) / 365:=by
 unfold dY
 have e1:(36524 * c+r) / 1460=25 * c+(24 * c+r) / 1460:=by omega
 have e2:(36524 * c+r) / 36524=c:=by omega
 have e3:(36524 * c+r) / 146096=0:=by omega
 rw[e1,e2,e3]
 omega
theorem Gs {c r q y z:Int}(hc:0<=c/\c<=3)(hr:0<=r/\r<=36523)(hq:1460 * q<=24 * c+r/\24 * c+r<1460 * q+1460)(hy:365 * y<=r-q/\r-q<365 * y+365)(hz:4 * z<=y/\y<4 * z+4):0<=r-365 * y-z/\r-365 * y-z<=365/\0<=y/\y<=99:=by omega
theorem UG {e:Int}(h:0<=e/\e<=146096):e=146096\/∃c r:Int,(0<=c/\c<=3)/\(0<=r/\r<=36523)/\e=36524 * c+r:=by
 by_cases he:e=146096
 ·exact .inl he
 ·exact .inr ⟨e / 36524,e%36524,by omega,by omega,by omega⟩
theorem Px {c r:Int}(hc:0<=c/\c<=3)(hr:0<=r/\r<=36523):∃q y z:Int,(1460 * q<=24 * c+r/\24 * c+r<1460 * q+1460)/\(365 * y<=r-q/\r-q<365 * y+365)/\(4 * z<=y/\y<4 * z+4)/\dY (36524 * c+r)=100 * c+y/\dD (36524 * c+r)=r-365 * y-z:=by
 refine⟨(24 * c+r) / 1460,(r-(24 * c+r) / 1460) / 365,(r-(24 * c+r) / 1460) / 365 / 4,by omega,by omega,by omega,Gr hc hr,?_⟩
 have hb:=Gs (q:=(24 * c+r) / 1460) (y:=(r-(24 * c+r) / 1460) / 365) (z:=(r-(24 * c+r) / 1460) / 365 / 4) hc hr (by omega) (by omega) (by omega)
 unfold dD
 rw[Gr hc hr]
 generalize (r-(24 * c+r) / 1460) / 365=y at hb ⊢
 have g1:(100 * c+y) / 4=25 * c+y / 4:=by omega
 have g2:(100 * c+y) / 100=c:=by omega
 rw[g1,g2]
 omega
theorem EC {e:Int}(h:0<=e/\e<=146096):0<=dD e/\dD e<=365:=by
 rcases UG h with rfl|⟨c,r,hc,hr,rfl⟩
 ·decide
 ·obtain⟨q,y,z,h1,h2,h3,_,h5⟩:=Px hc hr
  have:=Gs hc hr h1 h2 h3
  rw[h5];omega
theorem UH {e:Int}(h:0<=e/\e<=146096):0<=dM e/\dM e<=11:=by have:=EC h;unfold dM;omega
theorem Gt {W:World}{n:Int}(h0:0<=n)(h1:n<=3000000):Cn p_ 482 [.int .i64 n] W [] (fun _:Unit=> .tuple #[.int .i64 (cY n),.int .i64 (cM n),.int .i64 (cD n)]) (fun _=>[]):=by
 (refine Shp.cn (Sg.g_ Tryz.call482 Tryz.func482 (an:={cuts:=[(9,[2])]})) fun F=>?_;simp only[ca_,na_])
 have hb:=Is n
 have y1:=Pw hb
 have d1:=EC hb
 have m1:=UH hb
 refine bS ?_
 refine o_ (fB (by omega) (by omega) (by omega)) ?_
 refine o_ (gK (by omega) (by omega)) ?_
 rw[show(n+719468)%146097=dE n from rfl]
 obtain⟨e,he⟩:∃x,x=dE n:=⟨_,rfl⟩
 rw[<- he]at hb y1 d1 m1 ⊢
 refine o_ (fB (by omega) (by omega) (by omega)) ?_
 refine kN ?_
 refine o_ (fB (by omega) (by omega) (by omega)) ?_
 refine bS ?_
 refine o_ (fB (by omega) (by omega) (by omega)) ?_
 refine kN ?_
 refine o_ (fB (by omega) (by omega) (by omega)) ?_
 rw[show(e-e / 1460+e / 36524-e / 146096) / 365=dY e from rfl]
 have hd:dD e=e-(365 * dY e+dY e / 4-dY e / 100):=rfl
 have hm:dM e=(5 * dD e+2) / 153:=rfl
 have hcM:cM n=(dM e+2)%12+1:=by unfold cM;rw[he]
 have hcY:cY n=(n+719468) / 146097 * 400+dY e+(if cM n<=2 then 1 else 0):=by unfold cY;rw[he]
 have hcD:cD n=dD e-(153 * dM e+2) / 5+1:=by unfold cD;rw[he]
 generalize dY e=y at *
 generalize dD e=d at *
 generalize dM e=mp at *
 refine o_ (gJ (by omega) (by omega)) ?_
 refine o_ (fB (by omega) (by omega) (by omega)) ?_
 refine bS ?_
 refine o_ (fB (by omega) (by omega) (by omega)) ?_
 refine kN ?_
 refine kN ?_
 rw[<- hd]
 refine o_ (gJ (by omega) (by omega)) ?_
 refine bS ?_
 refine o_ (fB (by omega) (by omega) (by omega)) ?_
 rw[<- hm]
 (refine o_ (gJ (by omega) (by omega)) ?_);refine bS ?_;refine bS ?_;(((refine o_ (gK ?h1 ?h2) ?_);(case h1=>omega);(case h2=>omega)));refine bS ?_;(refine o_ (gJ (by omega) (by omega)) ?_);refine bS ?_;(((refine o_ (fB ?h1 ?h2 ?h3) ?_);(case h1=>omega);(case h2=>omega);(case h3=>omega)));refine kN ?_;refine bS ?_
 rw[<- hcM,<- hcD]
 refine dt (fun z=>pu (z= .int .i64 (cY n))::F) ?_ ?_
 rotate_left
 ·(refine bj gL .nil (fun h=>?_) (fun h=>?_))
  ·(refine ai ?_);refine bS ?_
   refine aI (.pu ?_ .refl)
   rw[hcY,if_pos h]
  ·(refine af ?_)
   refine aI (.pu ?_ .refl)
   rw[hcY,if_neg h,Int.add_zero]
 intro ds z
 refine aq ?_
 refine aX .here fun h=>?_
 subst h
 refine aO () ?_
 exact aA
def ze (y m:Int):Int:=if m<=2 then y-1 else y
def mM (y m d:Int):Int:=ze y m / 400 * 146097+ze y m%400 * 365+ze y m%400 / 4-ze y m%400 / 100+((153 * ((m+9)%12)+2) / 5+d-1)-719468
theorem UI {W:World}{y m d:Int}(hy:1970<=y/\y<=9999)(hm:1<=m/\m<=12)(hd:1<=d/\d<=31):Cn p_ 515 [.int .i64 y,.int .i64 m,.int .i64 d] W [] (fun _:Unit=> .int .i64 (mM y m d)) (fun _=>[]):=by
 (refine Shp.cn (Sg.g_ Tryz.call515 Tryz.func515 (an:={cuts:=[(3,[0])]})) fun F=>?_;simp only[ca_,na_])
 have ha:1969<=ze y m/\ze y m<=9999:=by unfold ze;split <;> omega
 refine dt (fun z=>pu (z= .int .i64 (ze y m))::F) ?_ ?_
 rotate_left
 ·(refine bj gL .nil (fun h=>?_) (fun h=>?_))
  ·(refine ai ?_);refine kN ?_
   refine aI (.pu ?_ .refl)
   unfold ze;rw[if_pos h]
  ·(refine af ?_)
   refine aI (.pu ?_ .refl)
   unfold ze;rw[if_neg h]
 intro ds z
 refine aq ?_
 refine aX .here fun h=>?_
 subst h
 unfold mM
 generalize ze y m=a at ha ⊢
 (((refine o_ (fB ?h1 ?h2 ?h3) ?_);(case h1=>omega);(case h2=>omega);(case h3=>omega)));(((refine o_ (gK ?h1 ?h2) ?_);(case h1=>omega);(case h2=>omega)));refine bS ?_;(((refine o_ (gK ?h1 ?h2) ?_);(case h1=>omega);(case h2=>omega)));(refine o_ (gJ (by omega) (by omega)) ?_);refine bS ?_;(((refine o_ (fB ?h1 ?h2 ?h3) ?_);(case h1=>omega);(case h2=>omega);(case h3=>omega)));refine bS ?_;refine kN ?_;(refine o_ (gJ (by omega) (by omega)) ?_);(refine o_ (gJ (by omega) (by omega)) ?_);refine bS ?_;(((refine o_ (fB ?h1 ?h2 ?h3) ?_);(case h1=>omega);(case h2=>omega);(case h3=>omega)));refine bS ?_;(((refine o_ (fB ?h1 ?h2 ?h3) ?_);(case h1=>omega);(case h2=>omega);(case h3=>omega)));refine kN ?_;refine bS ?_;refine kN ?_
 refine aO () ?_
 exact aA
structure Dt where
 y:Int
 m:Int
 d:Int
 h:Int
 mi:Int
 s:Int
 w:Int
 deriving DecidableEq
def xM (x:Dt):Array Value:=#[.int .i64 x.y,.int .i64 x.m,.int .i64 x.d,.int .i64 x.h,.int .i64 x.mi,.int .i64 x.s,.int .i64 x.w]
def VI:Dt:=⟨0,0,0,0,0,0,0⟩
def gA (n:Int):Prop:=0<=n/\n<=253402300799
instance (n:Int):Decidable (gA n):=by unfold gA;infer_instance
def oH (n:Int):Dt:=if gA n then⟨cY (n / 86400),cM (n / 86400),cD (n / 86400),n%86400 / 3600,n%3600 / 60,n%60,(n / 86400+4)%7⟩else VI
def S5 (n:Int):Int:=if gA n then 0 else 11
theorem split {W:World}{n:Int}:Cn p_ 428 [.int .i64 n] W [] (fun _:Unit=> .tuple #[.agg (xM (oH n)),.int .i64 (S5 n)]) (fun _=>[]):=by
 have bad:¬gA n->oH n=VI/\S5 n=11:=fun h=>⟨if_neg h,if_neg h⟩
 (refine Shp.cn (Sg.g_ Tryz.call428 Tryz.func428) fun F=>?_;simp only[ca_,na_])
 refine aS fun g=>?_
 refine bj bD .nil (fun h=>?_) (fun h=>?_)
 ·have hb:=bad (fun c=>by unfold gA at c;omega)
  rw[hb.1,hb.2]
  refine aC (aC (o_ av (ai (o_ bM ?_))));(((refine' aG ?hp ?hn ?hv ?h1 ?_);(case hp=>(repeat constructor));(case hn=>rfl);(case hv=>rfl);(case h1=>simp[Value.oneCell',az])));(((refine' aP (cB ?hn) ?hi ?_);(case hi=>exact aA);(case hn=>rfl)))
  refine aO () ?_
  exact aA
 ·(refine ab ?_);refine ab ?_
  refine bj eu .nil (fun h=>?_) (fun h=>?_)
  ·have hb:=bad (fun c=>by unfold gA at c;omega)
   rw[hb.1,hb.2]
   refine o_ am (ai (o_ bM ?_));(((refine' aG ?hp ?hn ?hv ?h1 ?_);(case hp=>(repeat constructor));(case hn=>rfl);(case hv=>rfl);(case h1=>simp[Value.oneCell',az])));(((refine' aP (cB ?hn) ?hi ?_);(case hi=>exact aA);(case hn=>rfl)))
   refine aO () ?_
   exact aA
  ·have ok:gA n:=⟨by omega,by omega⟩
   rw[show oH n=⟨cY (n / 86400),cM (n / 86400),cD (n / 86400),n%86400 / 3600,n%3600 / 60,n%60,(n / 86400+4)%7⟩from if_pos ok,show S5 n=0 from if_pos ok]
   refine o_ am (af ?_);(((refine o_ (fB ?h1 ?h2 ?h3) ?_);(case h1=>omega);(case h2=>omega);(case h3=>omega)));refine bS ?_;(((refine o_ (gK ?h1 ?h2) ?_);(case h1=>omega);(case h2=>omega)));(((refine o_ (gK ?h1 ?h2) ?_);(case h1=>omega);(case h2=>omega)));(((refine o_ (fB ?h1 ?h2 ?h3) ?_);(case h1=>omega);(case h2=>omega);(case h3=>omega)));(((refine o_ (gK ?h1 ?h2) ?_);(case h1=>omega);(case h2=>omega)));(((refine o_ (fB ?h1 ?h2 ?h3) ?_);(case h1=>omega);(case h2=>omega);(case h3=>omega)));(((refine o_ (gK ?h1 ?h2) ?_);(case h1=>omega);(case h2=>omega)));refine o_ bM ?_;refine aS fun g=>?_;(((refine' aG ?hp ?hn ?hv ?h1 ?_);(case hp=>(repeat constructor));(case hn=>rfl);(case hv=>rfl);(case h1=>simp[Value.oneCell',az])));(((refine o_ (fB ?h1 ?h2 ?h3) ?_);(case h1=>omega);(case h2=>omega);(case h3=>omega)))
   refine c_ (Gt (n:=n / 86400) (by omega) (by omega)) fun _=>?_
   refine bI ?_;refine bI ?_;refine bI ?_;refine o_ ae (bU ?_);refine o_ ae (bU ?_);refine o_ ae (bU ?_);refine iS ?_;(((refine' aG ?hp ?hn ?hv ?h1 ?_);(case hp=>(repeat constructor));(case hn=>rfl);(case hv=>rfl);(case h1=>simp[Value.oneCell',az])));(((refine' aP (cB ?hn) ?hi ?_);(case hi=>exact aA);(case hn=>rfl)))
   refine aO () ?_
   exact aA
theorem Mk {W:World}{n a b:Int}:Cn p_ 514 [.int .i64 n,.int .i64 a,.int .i64 b] W [] (fun _:Unit=> .bool (decide (a<=n/\n<=b))) (fun _=>[]):=by
 (refine Shp.cn (Sg.g_ Tryz.call514 Tryz.func514) fun F=>?_;simp only[ca_,na_])
 refine bj dy .nil (fun h=>?_) (fun h=>?_)
 ·(refine ab ?_);refine ab ?_;refine ab ?_
  refine bj gL .nil (fun h=>?_) (fun h=>?_)
  ·(refine o_ av ?_)
   rw[dT_ ⟨by omega,by omega⟩]
   refine aO () ?_
   exact aA
  ·(refine o_ av ?_)
   rw[dF_ (fun c=>by omega)]
   refine aO () ?_
   exact aA
 ·(refine ao ?_);refine ao ?_;refine ao ?_;refine o_ am ?_
  rw[dF_ (fun c=>by omega)]
  refine aO () ?_
  exact aA
theorem BN {y m d:Int}(hy:1970<=y/\y<=9999)(hm:1<=m/\m<=12)(hd:1<=d/\d<=31):0<=mM y m d/\mM y m d<=3000000:=by
 unfold mM ze
 by_cases c:m<=2
 ·rw[if_pos c]
  have e:(m+9)%12=m+9:=by omega
  rw[e]
  obtain⟨a,ha⟩:∃a,a=y-1:=⟨_,rfl⟩
  rw[<- ha]
  have h1:4<=a / 400/\a / 400<=24:=by omega
  have h2:a / 400=4->369<=a%400:=by omega
  have h3:0<=a%400/\a%400<=399:=by omega
  generalize a / 400=q at *
  generalize a%400=t at *
  omega
 ·rw[if_neg c]
  have e:(m+9)%12=m-3:=by omega
  rw[e]
  have h1:4<=y / 400/\y / 400<=24:=by omega
  have h2:y / 400=4->370<=y%400:=by omega
  have h3:0<=y%400/\y%400<=399:=by omega
  generalize y / 400=q at *
  generalize y%400=t at *
  omega
def s6 (x:Dt):Prop:=(1970<=x.y/\x.y<=9999)/\(1<=x.m/\x.m<=12)/\(1<=x.d/\x.d<=31)/\(0<=x.h/\x.h<=23)/\(0<=x.mi/\x.mi<=59)/\(0<=x.s/\x.s<=59)/\cM (mM x.y x.m x.d)=x.m
instance (x:Dt):Decidable (s6 x):=by unfold s6;infer_instance
def jN (x:Dt):Int:=if s6 x then mM x.y x.m x.d * 86400+x.h * 3600+x.mi * 60+x.s else 0
def jE (x:Dt):Int:=if s6 x then 0 else 41
theorem join {W:World}{x:Dt}:Cn p_ 492 [.agg (xM x)] W [] (fun _:Unit=> .tuple #[.int .i64 (jN x),.int .i64 (jE x)]) (fun _=>[]):=by
 have bad:¬s6 x->jN x=0/\jE x=41:=fun h=>⟨if_neg h,if_neg h⟩
 (refine Shp.cn (Sg.g_ Tryz.call492 Tryz.func492) fun F=>?_;simp only[ca_,na_])
 unfold xM
 refine aU fun g=>?_;refine o_ ae (aM ?_)
 refine c_ (Mk (n:=x.y) (a:=1970) (b:=9999)) fun _=>?_
 by_cases h0:1970<=x.y/\x.y<=9999
 rotate_left
 ·rw[dF_ h0]
  obtain⟨b1,b2⟩:=bad (fun c=>h0 (by unfold s6 at c;exact c.1))
  rw[b1,b2]
  refine o_ cP (aC (aC (aC (aC (aC (o_ av (aC (aC (aC (aC (aC (o_ av (aC (aC (aC (aC (aC (o_ av (aC (aC (aC (aC (aC (o_ av (aC (aC (aC (aC (aC (o_ av (ai (aO () ?_))))))))))))))))))))))))))))))))
  exact aA
 rw[dT_ h0]
 refine o_ bA (ab (ab (o_ ae (ab (aM ?_)))));refine ab (c_ (Mk (n:=x.m) (a:=1) (b:=12)) fun _=>?_)
 by_cases h1:1<=x.m/\x.m<=12
 rotate_left
 ·rw[dF_ h1]
  obtain⟨b1,b2⟩:=bad (fun c=>h1 (by unfold s6 at c;exact c.2.1))
  rw[b1,b2]
  refine ab (o_ cP (o_ am (aC (aC (aC (aC (aC (o_ av (aC (aC (aC (aC (aC (o_ av (aC (aC (aC (aC (aC (o_ av (aC (aC (aC (aC (aC (o_ av (ai (aO () ?_))))))))))))))))))))))))))))
  exact aA
 rw[dT_ h1]
 refine ab (o_ bA (o_ am (ab (ab (o_ ae (ab (aM ?_)))))));refine ab (c_ (Mk (n:=x.d) (a:=1) (b:=31)) fun _=>?_)
 by_cases h2:1<=x.d/\x.d<=31
 rotate_left
 ·rw[dF_ h2]
  obtain⟨b1,b2⟩:=bad (fun c=>h2 (by unfold s6 at c;exact c.2.2.1))
  rw[b1,b2]
  refine ab (o_ cP (o_ am (aC (aC (aC (aC (aC (o_ av (aC (aC (aC (aC (aC (o_ av (aC (aC (aC (aC (aC (o_ av (ai (aO () ?_))))))))))))))))))))))
  exact aA
 rw[dT_ h2]
 refine ab (o_ bA (o_ am (ab (ab (o_ ae (ab (aM ?_)))))));refine ab (c_ (Mk (n:=x.h) (a:=0) (b:=23)) fun _=>?_)
 by_cases h3:0<=x.h/\x.h<=23
 rotate_left
 ·rw[dF_ h3]
  obtain⟨b1,b2⟩:=bad (fun c=>h3 (by unfold s6 at c;exact c.2.2.2.1))
  rw[b1,b2]
  refine ab (o_ cP (o_ am (aC (aC (aC (aC (aC (o_ av (aC (aC (aC (aC (aC (o_ av (ai (aO () ?_))))))))))))))))
  exact aA
 rw[dT_ h3]
 refine ab (o_ bA (o_ am (ab (ab (o_ ae (ab (aM ?_)))))));refine ab (c_ (Mk (n:=x.mi) (a:=0) (b:=59)) fun _=>?_)
 by_cases h4:0<=x.mi/\x.mi<=59
 rotate_left
 ·rw[dF_ h4]
  obtain⟨b1,b2⟩:=bad (fun c=>h4 (by unfold s6 at c;exact c.2.2.2.2.1))
  rw[b1,b2]
  refine ab (o_ cP (o_ am (aC (aC (aC (aC (aC (o_ av (ai (aO () ?_))))))))))
  exact aA
 rw[dT_ h4]
 refine ab (o_ bA (o_ am (ab (ab (o_ ae (ab (aM ?_)))))));refine ab (c_ (Mk (n:=x.s) (a:=0) (b:=59)) fun _=>?_)
 by_cases h5:0<=x.s/\x.s<=59
 rotate_left
 ·rw[dF_ h5]
  obtain⟨b1,b2⟩:=bad (fun c=>h5 (by unfold s6 at c;exact c.2.2.2.2.2.1))
  rw[b1,b2]
  refine ab (o_ cP (o_ am (ai (aO () ?_))))
  exact aA
 rw[dT_ h5]
 refine ab (o_ bA (o_ am (af (o_ ae (aM ?_)))));refine o_ ae (aM ?_);refine o_ ae (aM ?_)
 have hb:=BN h0 h1 h2
 refine c_ (UI h0 h1 h2) fun _=>?_
 refine c_ (Gt (n:=mM x.y x.m x.d) (by omega) (by omega)) fun _=>?_
 refine bI ?_;refine bI ?_;refine bI ?_;refine o_ ae (aM ?_)
 by_cases h6:cM (mM x.y x.m x.d)=x.m
 rotate_left
 ·refine o_ jY ?_
  rw[dT_ h6]
  obtain⟨b1,b2⟩:=bad (fun c=>h6 (by unfold s6 at c;exact c.2.2.2.2.2.2))
  rw[b1,b2]
  refine ai (aO () ?_)
  exact aA
 refine o_ jY ?_
 rw[dF_ (fun c=>c h6)]
 have ok:s6 x:=⟨h0,h1,h2,h3,h4,h5,h6⟩
 rw[show jN x=mM x.y x.m x.d * 86400+x.h * 3600+x.mi * 60+x.s from if_pos ok,show jE x=0 from if_pos ok]
 refine af ?_;(refine o_ (gJ (by omega) (by omega)) ?_);refine o_ ae (aM ?_);(refine o_ (gJ (by omega) (by omega)) ?_);refine bS ?_;refine o_ ae (aM ?_);(refine o_ (gJ (by omega) (by omega)) ?_);refine bS ?_;refine o_ ae (aM ?_);refine bS ?_
 refine aO () ?_
 exact aA
def gV (f:Nat->UInt8)(n:Nat):List Value:=(List.range n).map fun j=>Sl.B (f j)
theorem nP (f:Nat->UInt8)(n:Nat):(gV f n).length=n:=by simp[gV]
theorem wl {f:Nat->UInt8}{n k:Nat}(h:k<n):(gV f n)[k]? =some (Sl.B (f k)):=by simp[gV,h]
theorem BP {f:Nat->UInt8}{n k:Nat}{c:UInt8}:(gV f n).set k (Sl.B c)=gV (fun q=>if q=k then c else f q) n:=by
 apply List.ext_getElem?
 intro j
 rw[List.getElem?_set,nP]
 by_cases hj:j<n
 ·rw[wl hj,wl hj]
  by_cases c:k=j
  ·subst c;rw[if_pos rfl,if_pos hj,if_pos rfl]
  ·rw[if_neg c,if_neg (fun e=>c e.symm)]
 ·rw[List.getElem?_eq_none (by rw[nP];omega),List.getElem?_eq_none (by rw[nP];omega)]
  split
  ·split
   ·omega
   ·rfl
  ·rfl
def nQ (n size:Nat)(fill:UInt8)(j:Nat):UInt8:=if n / 10^(size-1-j)=0/\j<size-1 then fill else UInt8.ofNat (48+n / 10^(size-1-j)%10)
def dg (n size:Nat)(fill:UInt8):List UInt8:=(List.range size).map (nQ n size fill)
theorem cN (n size:Nat)(fill:UInt8):(dg n size fill).length=size:=by simp[dg]
theorem Py (n:Nat)(h:n<256):(UInt8.ofNat n).toNat=n:=by rw[UInt8.toNat_ofNat'];exact Nat.mod_eq_of_lt h
theorem eI {W:World}{n size:Nat}{fill:UInt8}(hn:n<=9223372036854775807)(hs:1<=size/\size<=16):Cn p_ 485 [.int .i64 (n:Int),.int .i64 (size:Int),Sl.B fill] W [] (fun _:Unit=>az (dg n size fill)) (fun _=>[]):=by
 (refine Shp.cn (Sg.g_ Tryz.call485 Tryz.func485 (an:={cuts:=[(8,[])],loops:=[(3,[0,8])]})) fun F=>?_;simp only[ca_,na_])
 refine pO size size rfl rfl (by omega) (by omega) (by unfold maxLen;omega) fun g=>?_
 have e0:List.replicate size (Value.int .u8 0)=gV (fun _=>0) size:=by
  apply List.ext_getElem?
  intro j
  by_cases hj:j<size
  ·rw[wl hj];simp[hj,Sl.B]
  ·rw[List.getElem?_eq_none (by simp;omega),List.getElem?_eq_none (by rw[nP];omega)]
 rw[e0]
 refine kN ?_
 refine cz (fun m y0 y8=>[ex fun st:Nat × (Nat->UInt8)=>all [pu (m+st.1=size/\y0= .int .i64 ((n / 10^st.1:Nat):Int)/\y8= .int .i64 ((size:Int)-1-st.1)/\∀j,j<size->size<=j+st.1->st.2 j=nQ n size fill j),Sl 1 5 (some ⟨g,0,none⟩) size size (gV st.2 size)]]++F) size ?_ ?_
 ·refine .ex (0,fun _=>0) (.all ?_)
  refine aq ?_
  refine .pu ⟨by omega,by simp,by simp,fun j h1 h2=>by omega⟩ ?_
  exact aA
 intro m ds y0 y8
 refine aq ?_
 refine bt Pick.here fun st=>aE Pick.here ?_
 obtain⟨k,f⟩:=st
 refine aq ?_
 refine aX Pick.here fun hi=>?_
 (try dsimp only at hi)
 obtain⟨hmk,rfl,rfl,hf⟩:=hi
 (try dsimp only)
 refine bj dy .nil (fun h=>?_) (fun h=>?_)
 ·obtain⟨i,hik⟩:∃i:Nat,i=size-1-k:=⟨_,rfl⟩
  have hi:(size:Int)-1-(k:Int)=(i:Int):=by omega
  have hdg:nQ n size fill i=if n / 10^k=0/\i<size-1 then fill else UInt8.ofNat (48+n / 10^k%10):=by unfold nQ;rw[show size-1-i=k by omega]
  have hq:n / 10^k<=n:=Nat.div_le_self _ _
  have hsu:n / 10^(k+1)=n / 10^k / 10:=by rw[Nat.pow_succ,Nat.div_div_eq_div_mul]
  rw[hi]
  generalize n / 10^k=q at hdg hq hsu ⊢
  refine ai ?_;(((refine o_ (gK ?h1 ?h2) ?_);(case h1=>omega);(case h2=>omega)));refine bS ?_
  rw[show(48:Int)+(q:Int)%10=((48+q%10:Nat):Int) by omega]
  refine o_ eG ?_
  rw[show IntKind.u8.wrap ((48+q%10:Nat):Int)=((48+q%10:Nat):Int) by simp only[IntKind.wrap,IntKind.bits,IntKind.signed];simp;omega,show Value.int .u8 ((48+q%10:Nat):Int)=Sl.B (UInt8.ofNat (48+q%10)) by unfold Sl.B;rw[Py _ (by omega)]]
  refine o_ (br i (by rfl) (by omega)) ?_
  refine dN (by repeat constructor) (by rw[nP];omega) ?_
  rw[Nat.zero_add,BP]
  refine jn ([Sl 1 5 (some ⟨g,0,none⟩) size size (gV (fun x=>if x=i then nQ n size fill i else f x) size)]++F) ?_ ?_
  rotate_left
  ·refine bj cJ .nil (fun hq0=>?_) (fun hq0=>?_)
   ·(refine ab ?_);refine ab ?_;refine ab ?_;refine kN ?_;refine ab ?_
    refine bj bD .nil (fun hi0=>?_) (fun hi0=>?_)
    ·(refine o_ av ?_);refine ai ?_
     refine o_ (br i (by rfl) (by omega)) ?_
     refine dN (by repeat constructor) (by rw[nP];omega) ?_
     rw[Nat.zero_add,BP]
     have e2:(fun x=>if x=i then fill else(fun y=>if y=i then UInt8.ofNat (48+q%10)else f y) x)=fun x=>if x=i then nQ n size fill i else f x:=funext fun x=>by
      have hd1:nQ n size fill i=fill:=by rw[hdg];exact if_pos ⟨by omega,by omega⟩
      rw[hd1]
      by_cases c:x=i
      ·rw[if_pos c,if_pos c]
      ·simp only[if_neg c]
     rw[e2]
     refine aI ?_
     exact aA
    ·(refine o_ av ?_);refine af ?_
     have e2:(fun x=>if x=i then UInt8.ofNat (48+q%10)else f x)=fun x=>if x=i then nQ n size fill i else f x:=funext fun x=>by
      have hd1:nQ n size fill i=UInt8.ofNat (48+q%10):=by rw[hdg];exact if_neg (fun c=>hi0 (by omega))
      rw[hd1]
     rw[e2]
     refine aI ?_
     exact aA
   ·(refine ao ?_);refine ao ?_;refine ao ?_;refine ao ?_;refine o_ am ?_;refine af ?_
    have e2:(fun x=>if x=i then UInt8.ofNat (48+q%10)else f x)=fun x=>if x=i then nQ n size fill i else f x:=funext fun x=>by
     have hd1:nQ n size fill i=UInt8.ofNat (48+q%10):=by rw[hdg];exact if_neg (fun c=>hq0 (by omega))
     rw[hd1]
    rw[e2]
    refine aI ?_
    exact aA
  intro ds2
  refine aq ?_
  (((refine o_ (fB ?h1 ?h2 ?h3) ?_);(case h1=>omega);(case h2=>omega);(case h3=>omega)));refine kN ?_
  refine bX (m-1) (by omega) (.ex (k+1,fun x=>if x=i then nQ n size fill i else f x) (.all ?_))
  refine aq ?_
  refine .pu ⟨by omega,?_,?_,fun j h1 h2=>?_⟩ ?_
  ·rw[hsu];simp
  ·congr 1;push_cast;omega
  ·by_cases c:j=i
   ·rw[if_pos c,c]
   ·simp only[if_neg c];exact hf j h1 (by omega)
  ·exact aA
 ·refine af ?_
  have hk:k=size:=by omega
  have e3:gV f size=(dg n size fill).map Sl.B:=by
   unfold gV dg
   rw[List.map_map]
   refine List.map_congr_left fun j hj=>?_
   have:=List.mem_range.1 hj
   show Sl.B (f j)=Sl.B (nQ n size fill j)
   rw[hf j (by omega) (by omega)]
  rw[e3]
  refine dm (ry (l:=dg n size fill) (n:=size) (fD (by rw[List.length_map,cN]) (fun _=>⟨g,rfl⟩)) (fun c=>by cases c)) ?_
  refine aO () ?_
  exact aA
def S6:List (List UInt8):=[[83,117,110,100,97,121],[77,111,110,100,97,121],[84,117,101,115,100,97,121],[87,101,100,110,101,115,100,97,121],[84,104,117,114,115,100,97,121],[70,114,105,100,97,121],[83,97,116,117,114,100,97,121]]
def It:List (List UInt8):=[[74,97,110],[70,101,98],[77,97,114],[65,112,114],[77,97,121],[74,117,110],[74,117,108],[65,117,103],[83,101,112],[79,99,116],[78,111,118],[68,101,99]]
theorem BQ {W:World}:Cn p_ 483 [] W [] (fun _:Unit=> .agg (S6.map az).toArray) (fun _=>[]):=by
 (refine Shp.cn (Sg.g_ Tryz.call483 Tryz.func483) fun F=>?_;simp only[ca_,na_])
 refine aS fun g=>?_;refine o_ bM ?_;(((refine' aG ?hp ?hn ?hv ?h1 ?_);(case hp=>(repeat constructor));(case hn=>rfl);(case hv=>rfl);(case h1=>simp[Value.oneCell',az])));(((refine' aP (cB ?hn) ?hi ?_);(case hi=>exact aA);(case hn=>rfl)))
 refine aO () ?_
 exact aA
theorem BR {W:World}:Cn p_ 484 [] W [] (fun _:Unit=> .agg (It.map az).toArray) (fun _=>[]):=by
 (refine Shp.cn (Sg.g_ Tryz.call484 Tryz.func484) fun F=>?_;simp only[ca_,na_])
 refine aS fun g=>?_;refine o_ bM ?_;(((refine' aG ?hp ?hn ?hv ?h1 ?_);(case hp=>(repeat constructor));(case hn=>rfl);(case hv=>rfl);(case h1=>simp[Value.oneCell',az])));(((refine' aP (cB ?hn) ?hi ?_);(case hi=>exact aA);(case hn=>rfl)))
 refine aO () ?_
 exact aA
theorem ei {W:World}{n z c:Int}{fill:UInt8}(size:Nat)(hn:0<=n/\n<=9223372036854775807)(hz:z=(size:Int))(hs:1<=size/\size<=16)(hc:c=(fill.toNat:Int)):Cn p_ 485 [.int .i64 n,.int .i64 z,.int .u8 c] W [] (fun _:Unit=>az (dg n.toNat size fill)) (fun _=>[]):=by
 obtain⟨k,rfl⟩:=Int.eq_ofNat_of_zero_le hn.1
 subst hz;subst hc
 exact eI (by omega) hs
def zW (x:Dt):List UInt8:=dg x.h.toNat 2 48++[58]++dg x.mi.toNat 2 48++[58]++dg x.s.toNat 2 48
theorem ci (x:Dt):(zW x).length=8:=by simp[zW,cN]
structure okX (x:Dt):Prop where
 y:0<=x.y/\x.y<=9999
 m:1<=x.m/\x.m<=12
 d:1<=x.d/\x.d<=31
 h:0<=x.h/\x.h<=23
 mi:0<=x.mi/\x.mi<=59
 s:0<=x.s/\x.s<=59
 w:0<=x.w/\x.w<=6
theorem uG {W:World}{x:Dt}(ok:okX x):Cn p_ 486 [.agg (xM x)] W [] (fun _:Unit=>az (zW x)) (fun _=>[]):=by
 obtain⟨o1,o2,o3,o4,o5,o6,o7⟩:=ok
 (refine Shp.cn (Sg.g_ Tryz.call486 Tryz.func486 (an:={drs:=[(1,.ofL [(0,1),(1,1),(4,3),(5,3),(9,3),(10,3),(2,0),(3,3),(6,0),(7,3),(8,3),(11,0),(12,1),(13,1)])]}) (os:=[(1,[(2,[10,9,5,4]),(6,[3,10,9]),(11,[8,7,3])])])) fun F=>?_;simp only[ca_,na_])
 unfold xM
 refine aU fun g=>?_;refine aV (t_ ae (cu ?_));refine ay ae .nil ?_;(((refine' ay (aQ ?hc) ?hi ?_);(case hi=>exact .pick (by repeat constructor) .nil);(case hc=>repeat constructor)));refine ay ae .nil ?_;(((refine' ay (aQ ?hc) ?hi ?_);(case hi=>exact .pick (by repeat constructor) .nil);(case hc=>repeat constructor)))
 refine c_ (ei (n:=x.h) (fill:=48) 2 (by omega) (by rfl) (by omega) (by rfl)) fun _=>?_
 refine aY ?_;refine aY ?_;refine aY ?_;refine aY ?_
 refine ay (bE (by simp only[List.length_append,List.length_take,cN,ci,List.length_cons,List.length_nil];omega)) .nil ?_
 refine c_ (ei (n:=x.mi) (fill:=48) 2 (by omega) (by rfl) (by omega) (by rfl)) fun _=>?_
 refine aY ?_;refine aY ?_;refine aY ?_
 refine ay (bE (by simp only[List.length_append,List.length_take,cN,ci,List.length_cons,List.length_nil];omega)) .nil ?_
 refine ay (bE (by simp only[List.length_append,List.length_take,cN,ci,List.length_cons,List.length_nil];omega)) .nil ?_
 refine c_ (ei (n:=x.s) (fill:=48) 2 (by omega) (by rfl) (by omega) (by rfl)) fun _=>?_
 refine aY ?_;refine aY ?_;refine aY ?_
 refine t_ (bE (by simp only[List.length_append,List.length_take,cN,ci,List.length_cons,List.length_nil];omega)) ?_
 refine aO () ?_
 exact aA
def ED (x:Dt):List UInt8:=S6.getD x.w.toNat []
def EE (x:Dt):List UInt8:=It.getD (x.m-1).toNat []
theorem qq {l:List (List UInt8)}{i:Nat}(h:i<l.length):(l.map az).toArray[i]? =some (az (l.getD i [])):=by
 simp[List.getD_eq_getElem?_getD,h]
def fm (k:Int)(x:Dt):List UInt8:=
 if k=0 then(ED x).take 3++[44,32]++dg x.d.toNat 2 48++[32]++EE x++[32]++dg x.y.toNat 4 48++[32]++zW x++[32,71,77,84]
 else if k=1 then ED x++[44,32]++dg x.d.toNat 2 48++[45]++EE x++[45]++dg (x.y%100).toNat 2 48++[32]++zW x++[32,71,77,84]
 else(ED x).take 3++[32]++EE x++[32]++dg x.d.toNat 2 32++[32]++zW x++[32]++dg x.y.toNat 4 48
theorem BT {l:List (List UInt8)}(h:∀a∈l,3<=a.length/\a.length<=9){i:Nat}(hi:i<l.length):3<=(l.getD i []).length/\(l.getD i []).length<=9:=by
 rw[List.getD_eq_getElem?_getD,List.getElem?_eq_getElem hi]
 exact h _ (List.getElem_mem hi)
theorem UJ {W:World}{x:Dt}{k:Int}(ok:okX x):Cn p_ 429 [.agg (xM x),.int .i64 k] W [] (fun _:Unit=>az (fm k x)) (fun _=>[]):=by
 have okx:=ok
 obtain⟨o1,o2,o3,o4,o5,o6,o7⟩:=ok
 have hwl:3<=(ED x).length/\(ED x).length<=9:=BT (l:=S6) (by decide) (by show _<7;omega)
 have hml:3<=(EE x).length/\(EE x).length<=9:=BT (l:=It) (by decide) (by show _<12;omega)
 (refine Shp.cn (Sg.g_ Tryz.call429 Tryz.func429 (an:={drs:=[(1,.ofL [(1,3),(2,3),(5,3),(6,3),(7,3),(0,0),(3,3),(4,0),(8,1),(9,1),(10,1)]),(4,.ofL [(0,2),(1,3),(2,3),(3,1),(4,1),(8,2),(11,3),(12,3),(16,3),(5,0),(6,3),(7,3),(9,3),(10,3),(13,0),(14,3),(15,3),(17,0),(18,1),(19,1),(20,1)]),(6,.ofL [(0,2),(1,3),(2,1),(3,1),(7,2),(10,3),(11,3),(12,3),(16,3),(4,0),(5,3),(6,3),(8,3),(9,3),(13,0),(14,3),(15,3),(17,0),(18,1),(19,1),(20,1)]),(7,.ofL [(0,2),(1,3),(2,3),(3,2),(4,3),(5,3),(6,1),(7,1),(11,3),(15,3),(16,3),(8,0),(9,3),(10,3),(12,0),(13,3),(14,3),(17,0),(18,1),(19,1)])]}) (os:=[(1,[(0,[7,6,5,2,1]),(4,[3,7,6,5,2,1])]),(4,[(5,[16,12,11,2,1]),(13,[10,9,7,6,16,2,1]),(17,[15,14,10,9,7,6,2,1])]),(6,[(4,[16,12,11,10,1]),(13,[9,8,6,5,16,1]),(17,[15,14,9,8,6,5,1])]),(7,[(8,[16,15,11,5,4,2,1]),(12,[10,9,16,15,5,4,2,1]),(17,[14,13,10,9,5,4,2,1])])])) fun F=>?_;simp only[ca_,na_])
 rw[show(Value.agg (xM x))= .agg #[.int .i64 x.y,.int .i64 x.m,.int .i64 x.d,.int .i64 x.h,.int .i64 x.mi,.int .i64 x.s,.int .i64 x.w]from rfl]
 refine aU fun g=>?_;refine aV (ay ae .nil ?_);(((refine' ay (aQ ?hc) ?hi ?_);(case hi=>exact .pick (by repeat constructor) .nil);(case hc=>repeat constructor)));refine ay ae .nil ?_;(((refine' ay (aQ ?hc) ?hi ?_);(case hi=>exact .pick (by repeat constructor) .nil);(case hc=>repeat constructor)));(refine ay (gI (by omega) (by omega)) .nil ?_)
 refine c_ BQ fun _=>?_
 refine aY ?_;refine aY ?_;refine aY ?_;refine aY ?_;refine aY ?_
 refine ay (iC (v:=az (ED x)) x.w.toNat (by omega) (by omega) (qq (l:=S6) (by show _<7;omega))) .nil ?_
 refine c_ BR fun _=>?_
 refine aY ?_;refine aY ?_;refine aY ?_;refine aY ?_;refine aY ?_;refine aY ?_
 refine t_ (iC (v:=az (EE x)) (x.m-1).toNat (by omega) (by omega) (qq (l:=It) (by show _<12;omega))) ?_
 refine bj cJ .nil (fun hk=>?_) (fun hk=>?_)
 ·unfold fm
  rw[if_pos hk]
  generalize ED x=wn at hwl ⊢
  generalize EE x=mn at hml ⊢
  refine ai (aV (ay (j4 3 (by rfl) (by omega)) .nil ?_))
  refine ay (bE (by simp only[List.length_append,List.length_take,cN,ci,List.length_cons,List.length_nil];omega)) .nil ?_
  refine t_ ae (cu ?_);refine ay ae .nil ?_;(((refine' ay (aQ ?hc) ?hi ?_);(case hi=>exact .pick (by repeat constructor) .nil);(case hc=>repeat constructor)));(((refine' ay (bK ?hn) ?hi ?_);(case hi=>exact .pick (by repeat constructor) .nil);(case hn=>rfl)))
  refine c_ (ei (n:=x.d) (fill:=48) 2 (by omega) (by rfl) (by omega) (by rfl)) fun _=>?_
  refine aY ?_;refine aY ?_;refine aY ?_;refine aY ?_;refine aY ?_
  refine ay (bE (by simp only[List.length_append,List.length_take,cN,ci,List.length_cons,List.length_nil];omega)) .nil ?_
  refine ay (bE (by simp only[List.length_append,List.length_take,cN,ci,List.length_cons,List.length_nil];omega)) .nil ?_
  refine ay (bE (by simp only[List.length_append,List.length_take,cN,ci,List.length_cons,List.length_nil];omega)) .nil ?_
  refine ay (bE (by simp only[List.length_append,List.length_take,cN,ci,List.length_cons,List.length_nil];omega)) .nil ?_
  refine c_ (ei (n:=x.y) (fill:=48) 4 (by omega) (by rfl) (by omega) (by rfl)) fun _=>?_
  refine aY ?_;refine aY ?_;refine aY ?_;refine aY ?_;refine aY ?_;refine aY ?_;refine aY ?_
  refine ay (bE (by simp only[List.length_append,List.length_take,cN,ci,List.length_cons,List.length_nil];omega)) .nil ?_
  refine ay (bE (by simp only[List.length_append,List.length_take,cN,ci,List.length_cons,List.length_nil];omega)) .nil ?_
  refine c_ (uG okx) fun _=>?_
  refine aY ?_;refine aY ?_;refine aY ?_;refine aY ?_;refine aY ?_;refine aY ?_;refine aY ?_;refine aY ?_
  refine t_ (bE (by simp only[List.length_append,List.length_take,cN,ci,List.length_cons,List.length_nil];omega)) ?_
  refine t_ (bE (by simp only[List.length_append,List.length_take,cN,ci,List.length_cons,List.length_nil];omega)) ?_
  refine aO () ?_
  exact aA
 refine af (bj cJ .nil (fun hk1=>?_) (fun hk1=>?_))
 ·unfold fm
  rw[if_neg hk,if_pos hk1]
  generalize ED x=wn at hwl ⊢
  generalize EE x=mn at hml ⊢
  refine ai (aV (ay (bE (by simp only[List.length_append,List.length_take,cN,ci,List.length_cons,List.length_nil];omega)) .nil ?_))
  refine t_ ae (cu ?_);refine ay ae .nil ?_;(((refine' ay (aQ ?hc) ?hi ?_);(case hi=>exact .pick (by repeat constructor) .nil);(case hc=>repeat constructor)));(((refine ay (gK ?h1 ?h2) .nil ?_);(case h1=>omega);(case h2=>omega)));(((refine' ay (bK ?hn) ?hi ?_);(case hi=>exact .pick (by repeat constructor) .nil);(case hn=>rfl)))
  refine c_ (ei (n:=x.d) (fill:=48) 2 (by omega) (by rfl) (by omega) (by rfl)) fun _=>?_
  refine aY ?_;refine aY ?_;refine aY ?_;refine aY ?_;refine aY ?_
  refine ay (bE (by simp only[List.length_append,List.length_take,cN,ci,List.length_cons,List.length_nil];omega)) .nil ?_
  refine ay (bE (by simp only[List.length_append,List.length_take,cN,ci,List.length_cons,List.length_nil];omega)) .nil ?_
  refine ay (bE (by simp only[List.length_append,List.length_take,cN,ci,List.length_cons,List.length_nil];omega)) .nil ?_
  refine ay (bE (by simp only[List.length_append,List.length_take,cN,ci,List.length_cons,List.length_nil];omega)) .nil ?_
  refine c_ (ei (n:=x.y%100) (fill:=48) 2 (by omega) (by rfl) (by omega) (by rfl)) fun _=>?_
  refine aY ?_;refine aY ?_;refine aY ?_;refine aY ?_;refine aY ?_;refine aY ?_
  refine ay (bE (by simp only[List.length_append,List.length_take,cN,ci,List.length_cons,List.length_nil];omega)) .nil ?_
  refine ay (bE (by simp only[List.length_append,List.length_take,cN,ci,List.length_cons,List.length_nil];omega)) .nil ?_
  refine c_ (uG okx) fun _=>?_
  refine aY ?_;refine aY ?_;refine aY ?_;refine aY ?_;refine aY ?_;refine aY ?_;refine aY ?_
  refine t_ (bE (by simp only[List.length_append,List.length_take,cN,ci,List.length_cons,List.length_nil];omega)) ?_
  refine t_ (bE (by simp only[List.length_append,List.length_take,cN,ci,List.length_cons,List.length_nil];omega)) ?_
  refine aO () ?_
  exact aA
 ·unfold fm
  rw[if_neg hk,if_neg hk1]
  generalize ED x=wn at hwl ⊢
  generalize EE x=mn at hml ⊢
  refine af (aV (ay (j4 3 (by rfl) (by omega)) .nil ?_))
  refine ay (bE (by simp only[List.length_append,List.length_take,cN,ci,List.length_cons,List.length_nil];omega)) .nil ?_
  refine ay (bE (by simp only[List.length_append,List.length_take,cN,ci,List.length_cons,List.length_nil];omega)) .nil ?_
  refine ay (bE (by simp only[List.length_append,List.length_take,cN,ci,List.length_cons,List.length_nil];omega)) .nil ?_
  refine t_ ae (cu ?_);(((refine' ay (bK ?hn) ?hi ?_);(case hi=>exact .pick (by repeat constructor) .nil);(case hn=>rfl)));refine ay ae .nil ?_;(((refine' ay (aQ ?hc) ?hi ?_);(case hi=>exact .pick (by repeat constructor) .nil);(case hc=>repeat constructor)))
  refine c_ (ei (n:=x.d) (fill:=32) 2 (by omega) (by rfl) (by omega) (by rfl)) fun _=>?_
  refine aY ?_;refine aY ?_;refine aY ?_;refine aY ?_;refine aY ?_;refine aY ?_;refine aY ?_
  refine ay (bE (by simp only[List.length_append,List.length_take,cN,ci,List.length_cons,List.length_nil];omega)) .nil ?_
  refine ay (bE (by simp only[List.length_append,List.length_take,cN,ci,List.length_cons,List.length_nil];omega)) .nil ?_
  refine c_ (uG okx) fun _=>?_
  refine aY ?_;refine aY ?_;refine aY ?_;refine aY ?_;refine aY ?_;refine aY ?_;refine aY ?_;refine aY ?_
  refine ay (bE (by simp only[List.length_append,List.length_take,cN,ci,List.length_cons,List.length_nil];omega)) .nil ?_
  refine ay (bE (by simp only[List.length_append,List.length_take,cN,ci,List.length_cons,List.length_nil];omega)) .nil ?_
  refine c_ (ei (n:=x.y) (fill:=48) 4 (by omega) (by rfl) (by omega) (by rfl)) fun _=>?_
  refine aY ?_;refine aY ?_;refine aY ?_;refine aY ?_;refine aY ?_;refine aY ?_;refine aY ?_;refine aY ?_
  refine t_ (bE (by simp only[List.length_append,List.length_take,cN,ci,List.length_cons,List.length_nil];omega)) ?_
  refine aO () ?_
  exact aA
theorem UK (n:Int):1<=cM n/\cM n<=12:=by unfold cM;omega
theorem UL (n:Int):1<=cD n/\cD n<=31:=by
 have h:=EC (Is n)
 unfold cD dM
 generalize dD (dE n)=d at h ⊢
 omega
theorem UM {n:Int}(h:0<=n/\n<=2932896):0<=cY n/\cY n<=9999:=by
 have he:=Is n
 have hy:=Pw he
 unfold cY
 have hq:4<=(n+719468) / 146097/\(n+719468) / 146097<=24:=by omega
 have h24:(n+719468) / 146097=24->dE n<=146036:=by unfold dE;omega
 by_cases c:(n+719468) / 146097=24
 ·have h5:=h24 c
  by_cases c2:dY (dE n)=399
  ·have hd:dD (dE n)<=305:=by unfold dD;rw[c2];omega
   have hd0:=(EC he).1
   have hm:¬cM n<=2:=by
    unfold cM dM
    generalize dD (dE n)=d at hd hd0 ⊢
    have q1:(5 * d+2) / 153<=9:=by omega
    have q2:0<=(5 * d+2) / 153:=by omega
    rw[Int.emod_eq_of_lt (by omega) (by omega)]
    omega
   rw[if_neg hm];omega
  ·split <;> omega
 ·split <;> omega
theorem Gu {n:Int}(h:gA n):okX (oH n):=by
 unfold gA at h
 have hN:0<=n / 86400/\n / 86400<=2932896:=by omega
 rw[show oH n=⟨cY (n / 86400),cM (n / 86400),cD (n / 86400),n%86400 / 3600,n%3600 / 60,n%60,(n / 86400+4)%7⟩from if_pos h]
 exact⟨UM hN,UK _,UL _,by simp only;omega,by simp only;omega,by simp only;omega,by simp only;omega⟩
abbrev Sm {α:Type}(m:Option α):={x:α // m=some x}
abbrev Nn {α:Type}(m:Option α):={_u:Unit // m=none}
def BU:List PanicEntry:=pe (.iface 29 (.int .i64 41))
def gU (p:Nat)(l:List UInt8):HP:=pt p (.cells #[az l] 623)
def qr (k:Nat)(l:List UInt8):Option (List UInt8 × List UInt8):=if k<=l.length then some (l.take k,l.drop k)else none
theorem take {W:World}{p k:Nat}{l:List UInt8}:CnP p_ 487 [.pointer (some ⟨p,0,none⟩),.int .i64 (k:Int)] W [gU p l]
  (fun x:Sm (qr k l)=>az x.1.1) (fun x=>[gU p x.1.2]) (fun _:Nn (qr k l)=>BU) (fun _=>[]):=by
 (refine Shp.cnP (Sg.g_ Tryz.call487 Tryz.func487 (an:={cuts:=[(3,[])]})) fun F=>?_;simp only[ca_,na_,-eq_self])
 refine jn (pu (k<=l.length)::gU p l::F) ?_ ?_
 rotate_left
 ·unfold gU
  refine o_ ah (o_ ae (aM ?_))
  refine o_ bC (bj eu .nil (fun h=>?_) (fun h=>?_))
  ·(refine ai ?_)
   refine o_ pJ (oU ?_)
   refine du ⟨(),?_⟩ rfl ?_
   ·unfold qr;rw[if_neg (by omega)]
   ·exact aA
  ·(refine af ?_)
   refine aI (.pu (by omega) ?_)
   exact aA
 intro ds
 refine aq ?_
 refine aX .here fun hk=>?_
 unfold gU
 refine o_ ah (o_ ae (aM ?_))
 refine o_ (j4 k (by rfl) hk) ?_
 refine o_ ah (o_ ae (aM ?_))
 refine o_ (i4 k (by rfl) hk) ?_
 refine o_ ah (o_ ae (bU ?_))
 refine aO (⟨(l.take k,l.drop k),by unfold qr;rw[if_pos hk]⟩) ?_
 exact aA
def s7:List UInt8->List UInt8
 |[]=>[]
 |c::r=>(if c=32 then 48 else c)::r
def zf (acc:Nat):List UInt8->Option Nat
 |[]=>some acc
 |c::r=>if c.toNat<48\/57<c.toNat then none else zf (10 * acc+(c.toNat-48)) r
def BV (w:List UInt8):Option Nat:=zf 0 (s7 w)
def kC (k:Nat)(l:List UInt8):Option (Nat × List UInt8):=match qr k l with
 |none=>none
 |some x=>match BV x.1 with
  |none=>none
  |some v=>some (v,x.2)
theorem mN (w:List UInt8):(s7 w).length=w.length:=by cases w <;> rfl
theorem BW (w:List UInt8)(i:Nat)(h:i<w.length):(s7 w)[i]'(by rw[mN];exact h)=if w[i]=32/\i=0 then 48 else w[i]:=by
 cases w with
 |nil=>simp at h
 |cons c r=>
  cases i with
  |zero=>simp[s7]
  |succ i=>simp[s7]
theorem BX {k:Nat}{l:List UInt8}{x:List UInt8 × List UInt8}(h:qr k l=some x):x.1.length=k:=by
 unfold qr at h
 split at h
 ·injection h with h;subst h;simp;omega
 ·cases h
theorem io {W:World}{p k:Nat}{l:List UInt8}(hk:k<=8):CnP p_ 488 [.pointer (some ⟨p,0,none⟩),.int .i64 (k:Int)] W [gU p l]
  (fun x:Sm (kC k l)=> .int .i64 (x.1.1:Int)) (fun x=>[gU p x.1.2]) (fun _:Nn (kC k l)=>BU) (fun _=>[]):=by
 (refine Shp.cnP (Sg.g_ Tryz.call488 Tryz.func488 (an:={cuts:=[(7,[7]),(9,[])],loops:=[(3,[5,13])]})) fun F=>?_;simp only[ca_,na_,-eq_self])
 (refine' bY (take (k:=k)) ?hp (fun _=>?_) (fun _=>?_);(case hp=>(repeat(first|exact Picks.nil|(apply Picks.cons;(focus repeat constructor)))));(all_goals (try simp only[ca_,na_,Bool.not_true,Bool.not_false,-eq_self])))
 rotate_left
 ·rename_i y
  refine du ⟨(),by unfold kC;rw[y.2]⟩ rfl ?_
  exact aA
 rename_i x
 obtain⟨⟨w,r⟩,hx⟩:=x
 have hwl:w.length=k:=BX hx
 (try dsimp only)
 refine mA (e:=5) (by kernel_rfl) (by kernel_rfl) fun g c rest fz=>?_
 refine o_ aK (cz (fun m y5 y13=>(ex fun st:Nat × Nat=>pu (m+st.2=k/\y5= .int .i64 (st.1:Int)/\y13= .int .i64 (st.2:Int)/\st.1<10^st.2/\zf st.1 ((s7 w).drop st.2)=BV w))::pt g (.cells (w.map Sl.B++rest).toArray 5 fz)::gU p r::F) k ?_ ?_)
 ·refine .ex (0,0) (.pu ⟨by omega,rfl,rfl,by simp,by simp[BV]⟩ ?_)
  exact aA
 intro m ds y5 y13
 refine aq ?_
 refine bt Pick.here fun st=>aX Pick.here fun hi=>?_
 obtain⟨acc,i⟩:=st
 (try dsimp only at hi)
 obtain⟨hmk,rfl,rfl,hacc,hnum⟩:=hi
 have hp8:10^i<=10^8:=Nat.pow_le_pow_right (by omega) (by omega)
 refine bj bD .nil (fun h=>?_) (fun h=>?_)
 ·have hil:i<w.length:=by omega
  have hil2:i<(s7 w).length:=by rw[mN];exact hil
  refine ai (o_ (br i (by rfl) (by omega)) ?_)
  refine dm (dI (j:=i) sA (ME hil)) ?_
  have hfg:=BW w i hil
  refine dt (fun z=>pu (z=Sl.B ((s7 w)[i]))::pt g (.cells (w.map Sl.B++rest).toArray 5 fz)::gU p r::F) ?_ ?_
  rotate_left
  ·unfold Sl.B
   refine bj cJ .nil (fun h5=>?_) (fun h5=>?_)
   ·have hc:w[i]=32:=by
     apply UInt8.toNat_inj.1
     exact Int.ofNat.inj h5
    refine ab (ab (bj cJ .nil (fun h6=>?_) (fun h6=>?_)))
    ·(refine o_ av ?_);refine ai ?_
     refine aI (.pu ?_ ?_)
     ·rw[hfg,if_pos ⟨hc,by omega⟩];rfl
     ·exact aA
    ·(refine o_ av ?_);refine af ?_
     refine aI (.pu ?_ ?_)
     ·rw[hfg,if_neg (fun c=>h6 (by omega))]
     ·exact aA
   ·have hc:¬w[i]=32:=fun c=>h5 (by rw[c];rfl)
    refine ao (ao (o_ am (af (aI (.pu ?_ ?_)))))
    ·rw[hfg,if_neg (fun c=>hc c.1)]
    ·exact aA
  intro ds2 z
  refine aq ?_
  refine aX .here fun h=>?_
  subst h
  rw[List.drop_eq_getElem_cons hil2]at hnum
  generalize (s7 w)[i]=ch at hnum ⊢
  have hch:=ch.toNat_lt
  unfold zf at hnum
  unfold Sl.B
  refine jn (pu (48<=ch.toNat/\ch.toNat<=57)::pt g (.cells (w.map (fun c=>Value.int .u8 (c.toNat:Int))++rest).toArray 5 fz)::gU p r::F) ?_ ?_
  rotate_left
  ·refine bj bD .nil (fun h5=>?_) (fun h5=>?_)
   ·(refine aC ?_);refine aC ?_;refine o_ av ?_;refine ai ?_
    refine o_ pJ (oU ?_)
    refine du ⟨(),?_⟩ rfl ?_
    ·rw[if_pos (.inl (by omega))]at hnum
     unfold kC;rw[hx];simp only;rw[<- hnum]
    ·exact aA
   ·(refine ab ?_);refine ab ?_
    refine bj eu .nil (fun h6=>?_) (fun h6=>?_)
    ·(refine o_ am ?_);refine ai ?_
     refine o_ pJ (oU ?_)
     refine du ⟨(),?_⟩ rfl ?_
     ·rw[if_pos (.inr (by omega))]at hnum
      unfold kC;rw[hx];simp only;rw[<- hnum]
     ·exact aA
    ·(refine o_ am ?_);refine af ?_
     refine aI (.pu (by omega) ?_)
     exact aA
  intro ds3
  refine aq ?_
  refine aX .here fun hr=>?_
  rw[if_neg (by omega)]at hnum
  have hacc2:acc<100000000:=by omega
  (refine o_ (gJ (by omega) (by omega)) ?_)
  refine o_ lI ?_
  rw[show(ch.toNat:Int)-48=((ch.toNat-48:Nat):Int) by omega,show IntKind.u8.wrap ((ch.toNat-48:Nat):Int)=((ch.toNat-48:Nat):Int) by simp only[IntKind.wrap,IntKind.bits,IntKind.signed];simp;omega]
  refine o_ eG ?_
  rw[FP (by omega) (by omega)]
  refine bS ?_;refine bS ?_
  refine bX (m-1) (by omega) (.ex (10 * acc+(ch.toNat-48),i+1) (.pu ⟨by omega,?_,?_,?_,?_⟩ ?_))
  ·congr 1
  ·congr 1
  ·simp only[Nat.pow_succ];omega
  ·exact hnum
  ·exact aA
 ·refine af ?_
  have hik:i=k:=by omega
  have hv:BV w=some acc:=by
   rw[<- hnum,List.drop_of_length_le (by rw[mN];omega)];rfl
  refine aO (⟨(acc,r),by unfold kC;rw[hx];simp only;rw[hv]⟩) ?_
  exact aA
def mF (w:List UInt8)(i:Nat):Nat->Option Int
 |0=>none
 |m+1=>if It.getD i []=w then some ((i:Int)+1)else mF w (i+1) m
def Pz (w:List UInt8):Option Int:=mF w 0 12
def uH (l:List UInt8):Option (Int × List UInt8):=match qr 3 l with
 |none=>none
 |some x=>match Pz x.1 with
  |none=>none
  |some v=>some (v,x.2)
theorem BY {W:World}{p:Nat}{l:List UInt8}:CnP p_ 489 [.pointer (some ⟨p,0,none⟩)] W [gU p l]
  (fun x:Sm (uH l)=> .int .i64 x.1.1) (fun x=>[gU p x.1.2]) (fun _:Nn (uH l)=>BU) (fun _=>[]):=by
 (refine Shp.cnP (Sg.g_ Tryz.call489 Tryz.func489 (an:={loops:=[(3,[2,9])]})) fun F=>?_;simp only[ca_,na_,-eq_self])
 (refine' bY (take (k:=3)) ?hp (fun _=>?_) (fun _=>?_);(case hp=>(repeat(first|exact Picks.nil|(apply Picks.cons;(focus repeat constructor)))));(all_goals (try simp only[ca_,na_,Bool.not_true,Bool.not_false,-eq_self])))
 rotate_left
 ·rename_i y
  refine du ⟨(),by unfold uH;rw[y.2]⟩ rfl ?_
  exact aA
 rename_i x
 obtain⟨⟨w,r⟩,hx⟩:=x
 (try dsimp only)
 refine c_ BR fun _=>?_
 refine cz (fun m y2 y9=>(ex fun i:Nat=>pu (m+i=12/\y2= .int .i64 0/\y9= .int .i64 (i:Int)/\mF w i m=Pz w))::gU p r::F) 12 ?_ ?_
 ·refine .ex 0 (.pu ⟨by omega,rfl,rfl,rfl⟩ ?_)
  exact aA
 intro m ds y2 y9
 refine aq ?_
 refine bt Pick.here fun i=>aX Pick.here fun hi=>?_
 obtain⟨hmi,rfl,rfl,hmon⟩:=hi
 refine bj bD .nil (fun h=>?_) (fun h=>?_)
 ·refine ai ?_
  obtain⟨m',rfl⟩:∃m',m=m'+1:=⟨m-1,by omega⟩
  refine o_ (iC (v:=az (It.getD i [])) i (by rfl) (by omega) (qq (l:=It) (by show _<12;omega))) ?_
  unfold mF at hmon
  refine bj ew .nil (fun hq=>?_) (fun hq=>?_)
  ·rw[if_pos hq]at hmon
   refine ai (bS ?_)
   refine aO (⟨((i:Int)+1,r),by unfold uH;rw[hx];simp only;rw[<- hmon]⟩) ?_
   exact aA
  ·rw[if_neg hq]at hmon
   refine af (bS ?_)
   refine bX m' (by omega) (.ex (i+1) (.pu ⟨by omega,rfl,rfl,hmon⟩ ?_))
   exact aA
 ·refine af ?_
  have hm0:m=0:=by omega
  subst hm0
  refine o_ pJ (oU ?_)
  refine du ⟨(),?_⟩ rfl ?_
  ·unfold uH;rw[hx];simp only;rw[<- hmon];rfl
  ·exact aA
theorem kn {l:List UInt8}{c:UInt8}(h:c∈l):firstIdx ⟨l.toArray⟩ c=((l.findIdx (· ==c):Nat):Int):=by
 have hlt:l.findIdx (· ==c)<l.length:=List.findIdx_lt_length_of_exists ⟨c,h,by simp⟩
 have hf:(List.range (⟨l.toArray⟩:ByteArray).size).find? (fun i=>(⟨l.toArray⟩:ByteArray)[i]! ==c)=some (l.findIdx (· ==c)):=by
  have e:∀i,i<l.length->((⟨l.toArray⟩:ByteArray)[i]! ==c)=(l.getD i 0==c):=fun i hi=>by
   have h2:i<(⟨l.toArray⟩:ByteArray).size:=hi
   rw[getElem!_pos _ i h2]
   simp[ByteArray.getElem_eq_getElem_data,List.getD_eq_getElem?_getD,hi]
  rw[List.find?_eq_some_iff_getElem]
  refine⟨?_,l.findIdx (· ==c),by simpa [ByteArray.size]using hlt,by simp,fun j hj=>?_⟩
  ·rw[e _ hlt]
   have:=List.findIdx_getElem (w:=hlt)
   simpa [List.getD_eq_getElem?_getD,hlt]using this
  ·have hjl:j<l.length:=by omega
   simp only[List.getElem_range]
   rw[e _ hjl]
   have:=List.not_of_lt_findIdx hj
   simpa [List.getD_eq_getElem?_getD,hjl]using this
 unfold firstIdx
 rw[hf]
theorem indexByte {W:World}{l:List UInt8}{c:UInt8}(h:c∈l):Cn p_ 150 [az l,Sl.B c] W [] (fun _:Unit=> .int .i64 ((l.findIdx (· ==c):Nat):Int)) (fun _=>[]):=by
 have ext:aT p_ W [] (bT (fn 353) [az l,Sl.B c]) (.int .i64 ((l.findIdx (· ==c):Nat):Int)):=fun w _=>by
  have hr:(callFunc 353 #[az l,Sl.B c]).run p_ w= .ok (.value (.int .i64 ((l.findIdx (· ==c):Nat):Int))) w:=by
   rw[run_callFunc_extern Tryz.func353 (by kernel_rfl) (by kernel_rfl) (by kernel_rfl) (e:=Extern.BytealgIndexByte.indexByte) (by kernel_rfl)]
   have:=run_indexByte_string (P:=p_) ⟨l.toArray⟩ (c.toNat:Int) w
   unfold az Sl.B
   rw[this]
   have hc:((c.toNat:Int).toNat).toUInt8=c:=by simp
   simp only[Result.andThen_ok]
   rw[show(↑c.toNat:Int).toNat.toUInt8=c from hc,kn h]
  simp[bT,Deferred.ofValue,invoke,fn,hr]
 have inner:Cn p_ 244 [az l,Sl.B c] W [] (fun _:Unit=> .int .i64 ((l.findIdx (· ==c):Nat):Int)) (fun _=>[]):=by
  (refine Shp.cn (Sg.g_ Tryz.call244 Tryz.func244) fun F=>?_;simp only[ca_,na_])
  refine o_ ext ?_
  refine aO () ?_
  exact aA
 (refine Shp.cn (Sg.g_ Tryz.call150 Tryz.func150) fun F=>?_;simp only[ca_,na_])
 refine c_ inner fun _=>?_
 refine aO () ?_
 exact aA
theorem xN:∀(w:List UInt8) (acc v:Nat),zf acc w=some v->v<(acc+1) * 10^w.length
 |[],acc,v,h=>by
  have:=Option.some.inj h
  simp;omega
 |c::r,acc,v,h=>by
  unfold zf at h
  split at h
  ·cases h
  ·have hc:=xN r _ v h
   have h9:(10 * acc+(c.toNat-48)+1)<=(acc+1) * 10:=by omega
   have:=Nat.mul_le_mul_right (10^r.length) h9
   rw[List.length_cons,Nat.pow_succ,Nat.mul_comm (10^r.length) 10,<- Nat.mul_assoc]
   omega
theorem Iu {k:Nat}{l:List UInt8}{x:Nat × List UInt8}(h:kC k l=some x):x.1<10^k:=by
 unfold kC at h
 cases ht:qr k l with
 |none=>rw[ht]at h;cases h
 |some y=>
  rw[ht]at h
  simp only at h
  cases hv:BV y.1 with
  |none=>rw[hv]at h;cases h
  |some v=>
   rw[hv]at h
   have:=Option.some.inj h
   subst this
   have:=xN _ _ _ hv
   rw[mN,BX ht]at this
   simpa using this
abbrev Tm:=Nat × Nat × Nat
def qt (l:List UInt8):Option (Tm × List UInt8):=
 (kC 2 l).bind fun a=>(qr 1 a.2).bind fun b=>(kC 2 b.2).bind fun c=>(qr 1 c.2).bind fun d=>(kC 2 d.2).bind fun e=>some ((a.1,c.1,e.1),e.2)
theorem wm {W:World}{p q:Nat}{l:List UInt8}{y m d h mi s w:Value}:CnP p_ 490 [.pointer (some ⟨p,0,none⟩),.pointer (some ⟨q,0,none⟩)] W [gU p l,pt q (.cells #[y,m,d,h,mi,s,w] 558)]
  (fun x:Sm (qt l)=> .tuple #[]) (fun x=>[gU p x.1.2,pt q (.cells #[y,m,d,.int .i64 (x.1.1.1:Int),.int .i64 (x.1.1.2.1:Int),.int .i64 (x.1.1.2.2:Int),w] 558)]) (fun _:Nn (qt l)=>BU) (fun _=>[]):=by
 (refine Shp.cnP (Sg.g_ Tryz.call490 Tryz.func490) fun F=>?_;simp only[ca_,na_,-eq_self])
 (refine' bY (io (k:=2) (by omega)) ?hp (fun _=>?_) (fun _=>?_);(case hp=>(repeat(first|exact Picks.nil|(apply Picks.cons;(focus repeat constructor)))));(all_goals (try simp only[ca_,na_,Bool.not_true,Bool.not_false,-eq_self])))
 rotate_left
 ·rename_i y
  refine du ⟨(),by simp[qt,y.2]⟩ rfl ?_
  exact aA
 rename_i x1
 obtain⟨x1,h1⟩:=x1
 refine o_ ah (o_ ae (bU ?_))
 (refine' bY (take (k:=1)) ?hp (fun _=>?_) (fun _=>?_);(case hp=>(repeat(first|exact Picks.nil|(apply Picks.cons;(focus repeat constructor)))));(all_goals (try simp only[ca_,na_,Bool.not_true,Bool.not_false,-eq_self])))
 rotate_left
 ·rename_i y
  refine du ⟨(),by simp[qt,h1,y.2]⟩ rfl ?_
  exact aA
 rename_i x2
 obtain⟨x2,h2⟩:=x2
 (refine' bY (io (k:=2) (by omega)) ?hp (fun _=>?_) (fun _=>?_);(case hp=>(repeat(first|exact Picks.nil|(apply Picks.cons;(focus repeat constructor)))));(all_goals (try simp only[ca_,na_,Bool.not_true,Bool.not_false,-eq_self])))
 rotate_left
 ·rename_i y
  refine du ⟨(),by simp[qt,h1,h2,y.2]⟩ rfl ?_
  exact aA
 rename_i x3
 obtain⟨x3,h3⟩:=x3
 refine o_ ah (o_ ae (bU ?_))
 (refine' bY (take (k:=1)) ?hp (fun _=>?_) (fun _=>?_);(case hp=>(repeat(first|exact Picks.nil|(apply Picks.cons;(focus repeat constructor)))));(all_goals (try simp only[ca_,na_,Bool.not_true,Bool.not_false,-eq_self])))
 rotate_left
 ·rename_i y
  refine du ⟨(),by simp[qt,h1,h2,h3,y.2]⟩ rfl ?_
  exact aA
 rename_i x4
 obtain⟨x4,h4⟩:=x4
 (refine' bY (io (k:=2) (by omega)) ?hp (fun _=>?_) (fun _=>?_);(case hp=>(repeat(first|exact Picks.nil|(apply Picks.cons;(focus repeat constructor)))));(all_goals (try simp only[ca_,na_,Bool.not_true,Bool.not_false,-eq_self])))
 rotate_left
 ·rename_i y
  refine du ⟨(),by simp[qt,h1,h2,h3,h4,y.2]⟩ rfl ?_
  exact aA
 rename_i x5
 obtain⟨x5,h5⟩:=x5
 refine o_ ah (o_ ae (bU ?_))
 refine aO (⟨((x1.1,x3.1,x5.1),x5.2),by simp[qt,h1,h2,h3,h4,h5]⟩) ?_
 exact aA
def gE (l:List UInt8):Option Dt:=(qr 5 l).bind fun a=>(kC 2 a.2).bind fun b=>(qr 1 b.2).bind fun c=>(uH c.2).bind fun d=>(qr 1 d.2).bind fun e=>(kC 4 e.2).bind fun f=>(qr 1 f.2).bind fun g=>(qt g.2).bind fun h=>some ⟨(f.1:Int),d.1,(b.1:Int),(h.1.1:Int),(h.1.2.1:Int),(h.1.2.2:Int),0⟩
theorem first {W:World}{p:Nat}{l:List UInt8}{now:Int}:CnP p_ 430 [.pointer (some ⟨p,0,none⟩),.int .i64 now] W [gU p l]
  (fun x:Sm (gE l)=> .agg (xM x.1)) (fun _=>[]) (fun _:Nn (gE l)=>BU) (fun _=>[]):=by
 (refine Shp.cnP (Sg.g_ Tryz.call430 Tryz.func430) fun F=>?_;simp only[ca_,na_,-eq_self])
 refine aS fun g=>?_
 (refine' bY (take (k:=5)) ?hp (fun _=>?_) (fun _=>?_);(case hp=>(repeat(first|exact Picks.nil|(apply Picks.cons;(focus repeat constructor)))));(all_goals (try simp only[ca_,na_,Bool.not_true,Bool.not_false,-eq_self])))
 rotate_left
 ·rename_i y
  refine du ⟨(),by simp[gE,y.2]⟩ rfl ?_
  exact aA
 rename_i x1
 obtain⟨x1,h1⟩:=x1
 (refine' bY (io (k:=2) (by omega)) ?hp (fun _=>?_) (fun _=>?_);(case hp=>(repeat(first|exact Picks.nil|(apply Picks.cons;(focus repeat constructor)))));(all_goals (try simp only[ca_,na_,Bool.not_true,Bool.not_false,-eq_self])))
 rotate_left
 ·rename_i y
  refine du ⟨(),by simp[gE,h1,y.2]⟩ rfl ?_
  exact aA
 rename_i x2
 obtain⟨x2,h2⟩:=x2
 refine o_ ae (bU ?_)
 (refine' bY (take (k:=1)) ?hp (fun _=>?_) (fun _=>?_);(case hp=>(repeat(first|exact Picks.nil|(apply Picks.cons;(focus repeat constructor)))));(all_goals (try simp only[ca_,na_,Bool.not_true,Bool.not_false,-eq_self])))
 rotate_left
 ·rename_i y
  refine du ⟨(),by simp[gE,h1,h2,y.2]⟩ rfl ?_
  exact aA
 rename_i x3
 obtain⟨x3,h3⟩:=x3
 (refine' bY (BY) ?hp (fun _=>?_) (fun _=>?_);(case hp=>(repeat(first|exact Picks.nil|(apply Picks.cons;(focus repeat constructor)))));(all_goals (try simp only[ca_,na_,Bool.not_true,Bool.not_false,-eq_self])))
 rotate_left
 ·rename_i y
  refine du ⟨(),by simp[gE,h1,h2,h3,y.2]⟩ rfl ?_
  exact aA
 rename_i x4
 obtain⟨x4,h4⟩:=x4
 refine o_ ae (bU ?_)
 (refine' bY (take (k:=1)) ?hp (fun _=>?_) (fun _=>?_);(case hp=>(repeat(first|exact Picks.nil|(apply Picks.cons;(focus repeat constructor)))));(all_goals (try simp only[ca_,na_,Bool.not_true,Bool.not_false,-eq_self])))
 rotate_left
 ·rename_i y
  refine du ⟨(),by simp[gE,h1,h2,h3,h4,y.2]⟩ rfl ?_
  exact aA
 rename_i x5
 obtain⟨x5,h5⟩:=x5
 (refine' bY (io (k:=4) (by omega)) ?hp (fun _=>?_) (fun _=>?_);(case hp=>(repeat(first|exact Picks.nil|(apply Picks.cons;(focus repeat constructor)))));(all_goals (try simp only[ca_,na_,Bool.not_true,Bool.not_false,-eq_self])))
 rotate_left
 ·rename_i y
  refine du ⟨(),by simp[gE,h1,h2,h3,h4,h5,y.2]⟩ rfl ?_
  exact aA
 rename_i x6
 obtain⟨x6,h6⟩:=x6
 refine o_ ae (bU ?_)
 (refine' bY (take (k:=1)) ?hp (fun _=>?_) (fun _=>?_);(case hp=>(repeat(first|exact Picks.nil|(apply Picks.cons;(focus repeat constructor)))));(all_goals (try simp only[ca_,na_,Bool.not_true,Bool.not_false,-eq_self])))
 rotate_left
 ·rename_i y
  refine du ⟨(),by simp[gE,h1,h2,h3,h4,h5,h6,y.2]⟩ rfl ?_
  exact aA
 rename_i x7
 obtain⟨x7,h7⟩:=x7
 (refine' bY (wm) ?hp (fun _=>?_) (fun _=>?_);(case hp=>(repeat(first|exact Picks.nil|(apply Picks.cons;(focus repeat constructor)))));(all_goals (try simp only[ca_,na_,Bool.not_true,Bool.not_false,-eq_self])))
 rotate_left
 ·rename_i y
  refine du ⟨(),by simp[gE,h1,h2,h3,h4,h5,h6,h7,y.2]⟩ rfl ?_
  exact aA
 rename_i x8
 obtain⟨x8,h8⟩:=x8
 refine iS ?_;(((refine' aG ?hp ?hn ?hv ?h1 ?_);(case hp=>(repeat constructor));(case hn=>rfl);(case hv=>rfl);(case h1=>simp[Value.oneCell',az])));(((refine' aP (cB ?hn) ?hi ?_);(case hi=>exact aA);(case hn=>rfl)))
 refine aO (⟨⟨(x6.1:Int),x4.1,(x2.1:Int),(x8.1.1:Int),(x8.1.2.1:Int),(x8.1.2.2:Int),0⟩,by simp[gE,h1,h2,h3,h4,h5,h6,h7,h8]⟩) ?_
 exact aA
def gF (l:List UInt8):Option Dt:=(qr 4 l).bind fun a=>(uH a.2).bind fun b=>(qr 1 b.2).bind fun c=>(kC 2 c.2).bind fun d=>(qr 1 d.2).bind fun e=>(qt e.2).bind fun f=>(qr 1 f.2).bind fun g=>(kC 4 g.2).bind fun h=>some ⟨(h.1:Int),b.1,(d.1:Int),(f.1.1:Int),(f.1.2.1:Int),(f.1.2.2:Int),0⟩
theorem PB {W:World}{p:Nat}{l:List UInt8}{now:Int}:CnP p_ 432 [.pointer (some ⟨p,0,none⟩),.int .i64 now] W [gU p l]
  (fun x:Sm (gF l)=> .agg (xM x.1)) (fun _=>[]) (fun _:Nn (gF l)=>BU) (fun _=>[]):=by
 (refine Shp.cnP (Sg.g_ Tryz.call432 Tryz.func432) fun F=>?_;simp only[ca_,na_,-eq_self])
 refine aS fun g=>?_
 (refine' bY (take (k:=4)) ?hp (fun _=>?_) (fun _=>?_);(case hp=>(repeat(first|exact Picks.nil|(apply Picks.cons;(focus repeat constructor)))));(all_goals (try simp only[ca_,na_,Bool.not_true,Bool.not_false,-eq_self])))
 rotate_left
 ·rename_i y
  refine du ⟨(),by simp[gF,y.2]⟩ rfl ?_
  exact aA
 rename_i x1
 obtain⟨x1,h1⟩:=x1
 (refine' bY (BY) ?hp (fun _=>?_) (fun _=>?_);(case hp=>(repeat(first|exact Picks.nil|(apply Picks.cons;(focus repeat constructor)))));(all_goals (try simp only[ca_,na_,Bool.not_true,Bool.not_false,-eq_self])))
 rotate_left
 ·rename_i y
  refine du ⟨(),by simp[gF,h1,y.2]⟩ rfl ?_
  exact aA
 rename_i x2
 obtain⟨x2,h2⟩:=x2
 refine o_ ae (bU ?_)
 (refine' bY (take (k:=1)) ?hp (fun _=>?_) (fun _=>?_);(case hp=>(repeat(first|exact Picks.nil|(apply Picks.cons;(focus repeat constructor)))));(all_goals (try simp only[ca_,na_,Bool.not_true,Bool.not_false,-eq_self])))
 rotate_left
 ·rename_i y
  refine du ⟨(),by simp[gF,h1,h2,y.2]⟩ rfl ?_
  exact aA
 rename_i x3
 obtain⟨x3,h3⟩:=x3
 (refine' bY (io (k:=2) (by omega)) ?hp (fun _=>?_) (fun _=>?_);(case hp=>(repeat(first|exact Picks.nil|(apply Picks.cons;(focus repeat constructor)))));(all_goals (try simp only[ca_,na_,Bool.not_true,Bool.not_false,-eq_self])))
 rotate_left
 ·rename_i y
  refine du ⟨(),by simp[gF,h1,h2,h3,y.2]⟩ rfl ?_
  exact aA
 rename_i x4
 obtain⟨x4,h4⟩:=x4
 refine o_ ae (bU ?_)
 (refine' bY (take (k:=1)) ?hp (fun _=>?_) (fun _=>?_);(case hp=>(repeat(first|exact Picks.nil|(apply Picks.cons;(focus repeat constructor)))));(all_goals (try simp only[ca_,na_,Bool.not_true,Bool.not_false,-eq_self])))
 rotate_left
 ·rename_i y
  refine du ⟨(),by simp[gF,h1,h2,h3,h4,y.2]⟩ rfl ?_
  exact aA
 rename_i x5
 obtain⟨x5,h5⟩:=x5
 (refine' bY (wm) ?hp (fun _=>?_) (fun _=>?_);(case hp=>(repeat(first|exact Picks.nil|(apply Picks.cons;(focus repeat constructor)))));(all_goals (try simp only[ca_,na_,Bool.not_true,Bool.not_false,-eq_self])))
 rotate_left
 ·rename_i y
  refine du ⟨(),by simp[gF,h1,h2,h3,h4,h5,y.2]⟩ rfl ?_
  exact aA
 rename_i x6
 obtain⟨x6,h6⟩:=x6
 (refine' bY (take (k:=1)) ?hp (fun _=>?_) (fun _=>?_);(case hp=>(repeat(first|exact Picks.nil|(apply Picks.cons;(focus repeat constructor)))));(all_goals (try simp only[ca_,na_,Bool.not_true,Bool.not_false,-eq_self])))
 rotate_left
 ·rename_i y
  refine du ⟨(),by simp[gF,h1,h2,h3,h4,h5,h6,y.2]⟩ rfl ?_
  exact aA
 rename_i x7
 obtain⟨x7,h7⟩:=x7
 (refine' bY (io (k:=4) (by omega)) ?hp (fun _=>?_) (fun _=>?_);(case hp=>(repeat(first|exact Picks.nil|(apply Picks.cons;(focus repeat constructor)))));(all_goals (try simp only[ca_,na_,Bool.not_true,Bool.not_false,-eq_self])))
 rotate_left
 ·rename_i y
  refine du ⟨(),by simp[gF,h1,h2,h3,h4,h5,h6,h7,y.2]⟩ rfl ?_
  exact aA
 rename_i x8
 obtain⟨x8,h8⟩:=x8
 refine o_ ae (bU ?_);refine iS ?_;(((refine' aG ?hp ?hn ?hv ?h1 ?_);(case hp=>(repeat constructor));(case hn=>rfl);(case hv=>rfl);(case h1=>simp[Value.oneCell',az])));(((refine' aP (cB ?hn) ?hi ?_);(case hi=>exact aA);(case hn=>rfl)))
 refine aO (⟨⟨(x8.1:Int),x2.1,(x4.1:Int),(x6.1.1:Int),(x6.1.2.1:Int),(x6.1.2.2:Int),0⟩,by simp[gF,h1,h2,h3,h4,h5,h6,h7,h8]⟩) ?_
 exact aA
def cI (l:List UInt8):Nat:=(l++[44]).findIdx (· ==44)
theorem PC (l:List UInt8):cI l<=l.length:=by
 have:(l++[44]).findIdx (· ==44)<(l++[44]).length:=List.findIdx_lt_length_of_exists ⟨44,by simp,by simp⟩
 rw[List.length_append,List.length_singleton]at this
 unfold cI;omega
def yN (now:Int):Int:=if gA now then(oH now).y else 1970
def uI (now:Int):Int:=if 9999<yN now+50 then 9999 else yN now+50
def Iv (now:Int)(two:Nat):Int:=uI now-(uI now-(two:Int)+10000)%100
theorem UN (now:Int):0<=yN now/\yN now<=9999:=by
 unfold yN
 split
 ·rename_i h;exact(Gu h).y
 ·omega
def eZ (now:Int)(l:List UInt8):Option Dt:=(qr (cI l+2) l).bind fun a=>(kC 2 a.2).bind fun b=>(qr 1 b.2).bind fun c=>(uH c.2).bind fun d=>(qr 1 d.2).bind fun e=>(kC 2 e.2).bind fun f=>(qr 1 f.2).bind fun g=>(qt g.2).bind fun h=>some ⟨Iv now f.1,d.1,(b.1:Int),(h.1.1:Int),(h.1.2.1:Int),(h.1.2.2:Int),0⟩
theorem Iw {W:World}{p:Nat}{l:List UInt8}{now:Int}(hl:l.length<=4611686018427387904):CnP p_ 431 [.pointer (some ⟨p,0,none⟩),.int .i64 now] W [gU p l]
  (fun x:Sm (eZ now l)=> .agg (xM x.1)) (fun _=>[]) (fun _:Nn (eZ now l)=>BU) (fun _=>[]):=by
 (refine Shp.cnP (Sg.g_ Tryz.call431 Tryz.func431 (an:={cuts:=[(13,[6])]})) fun F=>?_;simp only[ca_,na_,-eq_self])
 unfold gU
 refine aS fun g=>?_;refine o_ ah (o_ ae (aM ?_))
 rename Nat=>b4
 refine o_ (bE (b:=[44]) (by simp only[List.length_singleton];omega)) ?_
 refine c_ (indexByte (l:=l++[44]) (c:=44) (by simp)) fun _=>?_
 have hci:=PC l
 have eci:List.findIdx (fun x:UInt8=>x==44) (l++[44])=cI l:=rfl
 rw[eci]
 refine bS ?_
 rw[show((cI l:Nat):Int)+2=((cI l+2:Nat):Int) by omega]
 (refine' bY (take (k:=cI l+2)) ?hp (fun _=>?_) (fun _=>?_);(case hp=>(repeat(first|exact Picks.nil|(apply Picks.cons;(focus repeat constructor)))));(all_goals (try simp only[ca_,na_,Bool.not_true,Bool.not_false,-eq_self])))
 rotate_left
 ·rename_i y
  refine du ⟨(),by simp[eZ,y.2]⟩ rfl ?_
  exact aA
 rename_i x1
 obtain⟨x1,h1⟩:=x1
 (refine' bY (io (k:=2) (by omega)) ?hp (fun _=>?_) (fun _=>?_);(case hp=>(repeat(first|exact Picks.nil|(apply Picks.cons;(focus repeat constructor)))));(all_goals (try simp only[ca_,na_,Bool.not_true,Bool.not_false,-eq_self])))
 rotate_left
 ·rename_i y
  refine du ⟨(),by simp[eZ,h1,y.2]⟩ rfl ?_
  exact aA
 rename_i x2
 obtain⟨x2,h2⟩:=x2
 refine o_ ae (bU ?_)
 (refine' bY (take (k:=1)) ?hp (fun _=>?_) (fun _=>?_);(case hp=>(repeat(first|exact Picks.nil|(apply Picks.cons;(focus repeat constructor)))));(all_goals (try simp only[ca_,na_,Bool.not_true,Bool.not_false,-eq_self])))
 rotate_left
 ·rename_i y
  refine du ⟨(),by simp[eZ,h1,h2,y.2]⟩ rfl ?_
  exact aA
 rename_i x3
 obtain⟨x3,h3⟩:=x3
 (refine' bY (BY) ?hp (fun _=>?_) (fun _=>?_);(case hp=>(repeat(first|exact Picks.nil|(apply Picks.cons;(focus repeat constructor)))));(all_goals (try simp only[ca_,na_,Bool.not_true,Bool.not_false,-eq_self])))
 rotate_left
 ·rename_i y
  refine du ⟨(),by simp[eZ,h1,h2,h3,y.2]⟩ rfl ?_
  exact aA
 rename_i x4
 obtain⟨x4,h4⟩:=x4
 refine o_ ae (bU ?_)
 (refine' bY (take (k:=1)) ?hp (fun _=>?_) (fun _=>?_);(case hp=>(repeat(first|exact Picks.nil|(apply Picks.cons;(focus repeat constructor)))));(all_goals (try simp only[ca_,na_,Bool.not_true,Bool.not_false,-eq_self])))
 rotate_left
 ·rename_i y
  refine du ⟨(),by simp[eZ,h1,h2,h3,h4,y.2]⟩ rfl ?_
  exact aA
 rename_i x5
 obtain⟨x5,h5⟩:=x5
 (refine' bY (io (k:=2) (by omega)) ?hp (fun _=>?_) (fun _=>?_);(case hp=>(repeat(first|exact Picks.nil|(apply Picks.cons;(focus repeat constructor)))));(all_goals (try simp only[ca_,na_,Bool.not_true,Bool.not_false,-eq_self])))
 rotate_left
 ·rename_i y
  refine du ⟨(),by simp[eZ,h1,h2,h3,h4,h5,y.2]⟩ rfl ?_
  exact aA
 rename_i x6
 obtain⟨x6,h6⟩:=x6
 (refine' bY (take (k:=1)) ?hp (fun _=>?_) (fun _=>?_);(case hp=>(repeat(first|exact Picks.nil|(apply Picks.cons;(focus repeat constructor)))));(all_goals (try simp only[ca_,na_,Bool.not_true,Bool.not_false,-eq_self])))
 rotate_left
 ·rename_i y
  refine du ⟨(),by simp[eZ,h1,h2,h3,h4,h5,h6,y.2]⟩ rfl ?_
  exact aA
 rename_i x7
 obtain⟨x7,h7⟩:=x7
 (refine' bY (wm) ?hp (fun _=>?_) (fun _=>?_);(case hp=>(repeat(first|exact Picks.nil|(apply Picks.cons;(focus repeat constructor)))));(all_goals (try simp only[ca_,na_,Bool.not_true,Bool.not_false,-eq_self])))
 rotate_left
 ·rename_i y
  refine du ⟨(),by simp[eZ,h1,h2,h3,h4,h5,h6,h7,y.2]⟩ rfl ?_
  exact aA
 rename_i x8
 obtain⟨x8,h8⟩:=x8
 have hy:=UN now
 have h2b:=Iu h6
 (try dsimp only)
 refine dt (fun z=>pu (z= .int .i64 (yN now))::gU p x8.2::pt b4 (.cells #[.int .i64 0,.int .i64 x4.1,.int .i64 (x2.1:Int),.int .i64 (x8.1.1:Int),.int .i64 (x8.1.2.1:Int),.int .i64 (x8.1.2.2:Int),.int .i64 0] 558)::F) ?_ ?_
 rotate_left
 ·refine c_ (split (n:=now)) fun _=>?_
  rw[show(Value.agg (xM (oH now)))= .agg #[.int .i64 (oH now).y,.int .i64 (oH now).m,.int .i64 (oH now).d,.int .i64 (oH now).h,.int .i64 (oH now).mi,.int .i64 (oH now).s,.int .i64 (oH now).w]from rfl]
  refine bI ?_;refine bI ?_;refine aS fun g=>?_;(((refine' aG ?hp ?hn ?hv ?h1 ?_);(case hp=>(repeat constructor));(case hn=>rfl);(case hv=>rfl);(case h1=>simp[Value.oneCell',az])))
  refine bj cJ .nil (fun h=>?_) (fun h=>?_)
  ·have ok:gA now:=Decidable.byContradiction fun c=>absurd (show S5 now=11 from if_neg c) (by rw[h];decide)
   refine ai (o_ ae (aM ?_))
   refine aI (.pu ?_ ?_)
   ·unfold yN;rw[if_pos ok]
   ·exact aA
  ·have ok:¬gA now:=fun c=>h (if_pos c)
   refine af (aI (.pu ?_ ?_))
   ·unfold yN;rw[if_neg ok]
   ·exact aA
 intro ds z
 refine aq ?_
 refine aX .here fun h=>?_
 subst h
 refine bS ?_
 refine o_ mu ?_
 rw[show(if 9999<yN now+50 then 9999 else yN now+50)=uI now from rfl]
 have ht:0<=uI now/\uI now<=9999:=by unfold uI;split <;> omega
 refine kN ?_;refine bS ?_;(((refine o_ (gK ?h1 ?h2) ?_);(case h1=>omega);(case h2=>omega)));refine kN ?_;refine o_ ae (bU ?_);refine iS ?_;(((refine' aG ?hp ?hn ?hv ?h1 ?_);(case hp=>(repeat constructor));(case hn=>rfl);(case hv=>rfl);(case h1=>simp[Value.oneCell',az])));(((refine' aP (cB ?hn) ?hi ?_);(case hi=>exact aA);(case hn=>rfl)))
 rw[show uI now-(uI now-(x6.1:Int)+10000)%100=Iv now x6.1 from rfl]
 refine aO (⟨⟨Iv now x6.1,x4.1,(x2.1:Int),(x8.1.1:Int),(x8.1.2.1:Int),(x8.1.2.2:Int),0⟩,by simp[eZ,h1,h2,h3,h4,h5,h6,h7,h8]⟩) ?_
 exact aA
def qv (k now:Int)(l:List UInt8)(rd:List UInt8->Option Dt):Option Int:=match rd l with
 |none=>none
 |some x=>if s6 x/\fm k (oH (jN x))=l then some (jN x)else none
theorem BZ {W:World} {F:List HP} {g8 g9:Nat} {v8 v9:Value} {K:Value->WP} {Kq:PK}
  (h:aR W (pt g8 (.cells #[.int .i64 0] 3)::pt g9 (.cells #[.bool false] 4)::F) (K (.tuple #[.int .i64 0,.bool false]))):
  aR W (pt g8 (.cells #[v8] 3)::pt g9 (.cells #[v9] 4)::F)
   (ez p_ {target:= .fn (.func 491) ([.pointer (some ⟨g8,0,none⟩),.pointer (some ⟨g9,0,none⟩)]:List Value).toArray,args:=([]:List Value).toArray} (S.aZ (.pointer (some ⟨g8,0,none⟩)) (.pointer (some ⟨g9,0,none⟩)) K) Kq BU):=by
 unfold ez
 refine rx (f:=491) (A:=[.pointer (some ⟨g8,0,none⟩),.pointer (some ⟨g9,0,none⟩)]) (shape:=fun rv=>S.ff (.pointer (some ⟨g8,0,none⟩)) (.pointer (some ⟨g9,0,none⟩)) rv) (fun c=>by cases c) ⟨_,_,rfl⟩ (fe (cs:=[.pointer (some ⟨g8,0,none⟩),.pointer (some ⟨g9,0,none⟩)]) (bs:=[]) Tryz.call491) (fun h=>S.lu h) ?_
 unfold S.ff BU
 rw[DI,He]
 refine t_ (vW (by kernel_rfl)) ?_
 refine ai (bU ?_);refine bU ?_
 unfold S.aZ
 (((refine' aP (dh ?hc) ?hi ?_);(case hi=>exact aA);(case hc=>repeat constructor)));(((refine' aP (dh ?hc) ?hi ?_);(case hi=>exact aA);(case hc=>repeat constructor)))
 exact bu aA h
theorem s8 {W:World} {F:List HP} {g8 g9:Nat} {n:Int} {b:Bool} {K:Value->WP} {Kq:PK}
  (h:aR W (pt g8 (.cells #[.int .i64 n] 3)::pt g9 (.cells #[.bool b] 4)::F) (K (.tuple #[.int .i64 n,.bool b]))):
  aR W (pt g8 (.cells #[.int .i64 n] 3)::pt g9 (.cells #[.bool b] 4)::F)
   (dfS p_ {target:= .fn (.func 491) ([.pointer (some ⟨g8,0,none⟩),.pointer (some ⟨g9,0,none⟩)]:List Value).toArray,args:=([]:List Value).toArray} .returning (S.aZ (.pointer (some ⟨g8,0,none⟩)) (.pointer (some ⟨g9,0,none⟩)) K) Kq):=by
 refine rx (f:=491) (A:=[.pointer (some ⟨g8,0,none⟩),.pointer (some ⟨g9,0,none⟩)]) (shape:=fun rv=>S.ff (.pointer (some ⟨g8,0,none⟩)) (.pointer (some ⟨g9,0,none⟩)) rv) (fun c=>by cases c) ⟨_,_,rfl⟩ (fe (cs:=[.pointer (some ⟨g8,0,none⟩),.pointer (some ⟨g9,0,none⟩)]) (bs:=[]) Tryz.call491) (fun h=>S.lu h) ?_
 unfold S.ff
 rw[mx,pK]
 refine t_ (jw (by kernel_rfl)) ?_
 refine af ?_
 unfold S.aZ
 (((refine' aP (dh ?hc) ?hi ?_);(case hi=>exact aA);(case hc=>repeat constructor)));(((refine' aP (dh ?hc) ?hi ?_);(case hi=>exact aA);(case hc=>repeat constructor)))
 exact bu aA h
theorem PD {x:Dt}(h:s6 x):gA (jN x):=by
 have hj:jN x=mM x.y x.m x.d * 86400+x.h * 3600+x.mi * 60+x.s:=if_pos h
 unfold s6 at h
 obtain⟨h1,h2,h3,h4,h5,h6,_⟩:=h
 have hb:0<=mM x.y x.m x.d:=(BN h1 h2 h3).1
 have ht:mM x.y x.m x.d<=2932896:=by
  unfold mM ze
  by_cases c:x.m<=2
  ·rw[if_pos c]
   have e:(x.m+9)%12=x.m+9:=by omega
   rw[e]
   obtain⟨a,ha⟩:∃a,a=x.y-1:=⟨_,rfl⟩
   rw[<- ha]
   have h1:a / 400<=24:=by omega
   have h2:a / 400=24->a%400<=398:=by omega
   have h3:0<=a%400/\a%400<=399:=by omega
   generalize a / 400=q at *
   generalize a%400=t at *
   omega
  ·rw[if_neg c]
   have e:(x.m+9)%12=x.m-3:=by omega
   rw[e]
   have h1:x.y / 400<=24:=by omega
   have h3:0<=x.y%400/\x.y%400<=399:=by omega
   generalize x.y / 400=q at *
   generalize x.y%400=t at *
   omega
 unfold gA
 rw[hj]
 omega
theorem UO {W:World} {f:FuncId} {k now:Int} {l:List UInt8} {rd:List UInt8->Option Dt}
  (hf:∀p,CnP p_ f [.pointer (some ⟨p,0,none⟩),.int .i64 now] W [gU p l] (fun x:Sm (rd l)=> .agg (xM x.1)) (fun _=>[]) (fun _:Nn (rd l)=>BU) (fun _=>[])):
  Cn p_ 433 [az l,.int .i64 k,.int .i64 now,fn f] W [] (fun _:Unit=> .tuple #[.int .i64 ((qv k now l rd).getD 0),.bool (qv k now l rd).isSome]) (fun _=>[]):=by
 (refine S.ud.cn fun F=>?_;unfold S.rH;simp only[ca_,na_])
 refine dH fun g8=>?_
 refine dH fun g9=>?_
 refine o_ bP (ni ?_)
 simp only[List.nil_append,Array.append_empty,List.append_toArray]
 refine o_ bM ?_
 refine aU fun gr=>?_
 refine bu (M:=gU gr l::pt g8 (.cells #[.int .i64 0] 3)::pt g9 (.cells #[.bool false] 4)::F) (by unfold gU;(repeat(first|exact .refl|exact .nil|(apply Imp.pick;(focus ((repeat constructor);done)))|refine .drop ?_))) ?_
 (refine' bY (hf gr) ?hp (fun _=>?_) (fun _=>?_);(case hp=>(repeat(first|exact Picks.nil|(apply Picks.cons;(focus repeat constructor)))));(all_goals (try simp only[ca_,na_,Bool.not_true,Bool.not_false,-eq_self])))
 rotate_left
 ·rename_i y
  refine bu aA (BZ (F:=F) ?_)
  rw[show qv k now l rd=none by unfold qv;rw[y.2]]
  refine aO () ?_
  exact aA
 rename_i x
 obtain⟨x,hx⟩:=x
 (try dsimp only)
 have htr:qv k now l rd=if s6 x/\fm k (oH (jN x))=l then some (jN x)else none:=by unfold qv;rw[hx]
 refine c_ (join (x:=x)) fun _=>?_
 refine bI ?_;refine bI ?_;refine bU ?_;refine aM ?_
 refine c_ (split (n:=jN x)) fun _=>?_
 rw[show(Value.agg (xM (oH (jN x))))= .agg #[.int .i64 (oH (jN x)).y,.int .i64 (oH (jN x)).m,.int .i64 (oH (jN x)).d,.int .i64 (oH (jN x)).h,.int .i64 (oH (jN x)).mi,.int .i64 (oH (jN x)).s,.int .i64 (oH (jN x)).w]from rfl]
 refine bI ?_;refine bI ?_;refine aS fun g=>?_;(((refine' aG ?hp ?hn ?hv ?h1 ?_);(case hp=>(repeat constructor));(case hn=>rfl);(case hv=>rfl);(case h1=>simp[Value.oneCell',az])))
 refine bj jY .nil (fun h=>?_) (fun h=>?_)
 ·have nok:¬s6 x:=fun c=>h (if_pos c)
  rw[show qv k now l rd=none by rw[htr];exact if_neg fun c=>nok c.1]
  refine aC (aC (aC (aC (aC (o_ av (ai (bU ?_)))))));refine bU ?_
  refine bu aA (s8 (F:=F) ?_)
  refine aO () ?_
  exact aA
 have ok:s6 x:=Decidable.byContradiction fun c=>h (by rw[show jE x=41 from if_neg c];decide)
 refine ab (iS ?_);refine ab (ab (c_ (UJ (x:=oH (jN x)) (k:=k) (Gu (PD ok))) fun _=>?_))
 refine ab (ab (bj ee .nil (fun h=>?_) (fun h=>?_)))
 ·rw[show qv k now l rd=none by rw[htr];exact if_neg fun c=>h c.2]
  refine o_ am (ai (bU ?_));refine bU ?_
  refine bu aA (s8 (F:=F) ?_)
  refine aO () ?_
  exact aA
 ·rw[show qv k now l rd=some (jN x) by rw[htr];exact if_pos ⟨ok,Decidable.not_not.1 h⟩]
  refine o_ am (af (aM ?_));refine bU ?_;refine bU ?_
  refine bu aA (s8 (F:=F) ?_)
  refine aO () ?_
  exact aA
def PE (now:Int)(k:Nat):List UInt8->Option Dt:=if k=0 then gE else if k=1 then eZ now else gF
def S7 (k:Nat):FuncId:=if k=0 then 430 else if k=1 then 431 else 432
def S8 (now:Int)(l:List UInt8)(k:Nat):Nat->Option Int
 |0=>none
 |m+1=>match qv (k:Int) now l (PE now k)with
  |some n=>some n
  |none=>S8 now l (k+1) m
def S9 (now:Int)(l:List UInt8):Option Int:=S8 now l 0 3
def Ml (now:Int)(l:List UInt8):Int:=(S9 now l).getD 0
def Mm (now:Int)(l:List UInt8):Int:=if(S9 now l).isSome then 0 else 41
theorem Iy {W:World}{now:Int}{l:List UInt8}(hl:l.length<=4611686018427387904){k:Nat}(hk:k<3)(p:Nat):CnP p_ (S7 k) [.pointer (some ⟨p,0,none⟩),.int .i64 now] W [gU p l] (fun x:Sm (PE now k l)=> .agg (xM x.1)) (fun _=>[]) (fun _:Nn (PE now k l)=>BU) (fun _=>[]):=by
 match k,hk with
 |0,_=>exact first
 |1,_=>exact Iw hl
 |2,_=>exact PB
theorem EF {k:Nat}(hk:k<3):(#[fn 430,fn 431,fn 432]:Array Value)[k]? =some (fn (S7 k)):=by
 match k,hk with
 |0,_=>rfl
 |1,_=>rfl
 |2,_=>rfl
theorem PF {W:World}{now:Int}{l:List UInt8}(hl:l.length<=4611686018427387904):Cn p_ 374 [az l,.int .i64 now] W [] (fun _:Unit=> .tuple #[.int .i64 (Ml now l),.int .i64 (Mm now l)]) (fun _=>[]):=by
 (refine Shp.cn (Sg.g_ Tryz.call374 Tryz.func374 (an:={loops:=[(3,[6,7,13])]})) fun F=>?_;simp only[ca_,na_])
 refine o_ bM ?_
 refine f7 (fun m y6 y7 y13=>(ex fun k:Nat=>pu (m+k=3/\y6= .int .i64 0/\y7= .int .i64 41/\y13= .int .i64 (k:Int)/\S8 now l k m=S9 now l))::F) 3 ?_ ?_
 ·refine .ex 0 (.pu ⟨by omega,rfl,rfl,rfl,rfl⟩ ?_)
  exact aA
 intro m ds y6 y7 y13
 refine aq ?_
 refine bt Pick.here fun k=>aX Pick.here fun hi=>?_
 obtain⟨hmk,rfl,rfl,rfl,hpa⟩:=hi
 refine bj bD .nil (fun h=>?_) (fun h=>?_)
 ·refine ai ?_
  obtain⟨m',rfl⟩:∃m',m=m'+1:=⟨m-1,by omega⟩
  refine o_ (iC (v:=fn (S7 k)) k (by rfl) (by omega) (EF (by omega))) ?_
  refine c_ (UO (f:=S7 k) (k:=(k:Int)) (now:=now) (l:=l) (rd:=PE now k) (Iy hl (by omega))) fun _=>?_
  unfold S8 at hpa
  refine bI ?_;refine bI ?_
  cases ht:qv (k:Int) now l (PE now k)with
  |some n=>
   rw[ht]at hpa
   simp only at hpa
   simp only[Option.isSome_some,Option.getD_some]
   refine ai ?_
   rw[show Ml now l=n by unfold Ml;rw[<- hpa];rfl,show Mm now l=0 by unfold Mm;rw[<- hpa];rfl]
   refine aO () ?_
   exact aA
  |none=>
   rw[ht]at hpa
   simp only at hpa
   simp only[Option.isSome_none,Option.getD_none]
   refine af (bS ?_)
   refine cH m' (by omega) (.ex (k+1) (.pu ⟨by omega,rfl,rfl,rfl,hpa⟩ ?_))
   exact aA
 ·refine af ?_
  have hm0:m=0:=by omega
  subst hm0
  have hpn:S9 now l=none:=by rw[<- hpa];rfl
  rw[show Ml now l=0 by unfold Ml;rw[hpn];rfl,show Mm now l=41 by unfold Mm;rw[hpn];rfl]
  refine aO () ?_
  exact aA
end Go.Proofs.YtdjkdjepjahjfaaGreatDoor.D
namespace Go.Proofs.YtdjkdjepjahjfaaGreatDoor.FD
open Go Go.Proofs Go.RowKit Sh Sl T
def mO (l:List Fd)(n:List UInt8):List UInt8:=iI [44] (bH l n)
theorem gy {l:List Fd}(n:List UInt8)(hl:zF l<=1048576):(mO l n).length<=1500000/\(bH l n).length<=1048576:=by
 have h1:=pb l n
 have h2:=ko l n
 have h3:=kB l
 have h4:=rM [44] (bH l n)
 simp only[List.length_cons,List.length_nil]at h4
 unfold mO
 omega
theorem Iz {W:World}{l:List Fd}{n:List UInt8}{a:Option Addr}{c:Nat}{A:HP}(hA:gD W A a l)(hl:zF l<=1048576)(hn:n.length<=4194304):Cn p_ 456 [.slice a l.length c,az n] W [A] (fun _:Unit=>az (mO l n)) (fun _=>[A]):=by
 obtain⟨h1,h2⟩:=gy n hl
 (refine Shp.cn (Sg.g_ Tryz.call456 Tryz.func456) fun F=>?_;simp only[ca_,na_])
 refine aj (f5 (n:=n) hA (qh (by omega)) hn) (.cons (by repeat constructor) .nil) fun r=>?_
 obtain⟨va,vc⟩:=r
 refine aq ?_
 (try dsimp only)
 unfold mO at *
 refine aj (join (sep:=[44]) (by decide) (by decide) (by omega) (by omega)) (.cons (by repeat constructor) .nil) fun _=>?_
 refine aq ?_
 refine aO () ?_
 exact aA
def wo:List UInt8:=[67,97,99,104,101,45,67,111,110,116,114,111,108]
def qw:List UInt8:=[86,97,114,121]
def cQ (l:List Fd):List Dir:=(jt (lr (mO l wo))).1
theorem mP {l:List Fd}(hl:zF l<=1048576):(cQ l).length<=1500001/\∀x∈cQ l,UF x:=by
 obtain⟨h1,_⟩:=gy wo hl
 have h2:=BK (l:=mO l wo)
 exact⟨by unfold cQ;omega,EB (by omega)⟩
theorem uJ {W:World}{l:List Fd}{a:Option Addr}{c:Nat}{A:HP}(hA:gD W A a l)(hl:zF l<=1048576):Cn p_ 392 [.slice a l.length c] W [A] (fun r:Option Addr × Nat=> .slice r.1 (cQ l).length r.2) (fun r=>[A,Sl 3 524 r.1 r.2 (cQ l).length ((cQ l).flatMap eM)]):=by
 obtain⟨h1,h2⟩:=gy wo hl
 (refine Shp.cn (Sg.g_ Tryz.call392 Tryz.func392) fun F=>?_;simp only[ca_,na_])
 refine aj (Iz (n:=wo) hA hl (by decide)) (.cons (by repeat constructor) .nil) fun _=>?_
 refine aq ?_
 refine aj (qj (l:=mO l wo) (by omega)) .nil fun r=>?_
 refine aq ?_
 refine o_ (bk (vs:=[_,_]) .here) ?_
 refine o_ (bk (vs:=[_,_]) (.there .here)) ?_
 unfold cQ
 refine aO r ?_
 exact aA
def cq (l:List Fd):List (List UInt8):=xJ 44 (mO l qw)
theorem nR {l:List Fd}(hl:zF l<=1048576):(cq l).length<=1500000/\∀n∈cq l,n.length<=1500000:=by
 obtain⟨h1,_⟩:=gy qw hl
 obtain⟨h2,h3⟩:=pd 44 _ (mO l qw) (Nat.le_refl _)
 exact⟨by unfold cq;omega,fun n hn=>by have:=h3 n hn;omega⟩
theorem s9 {W:World}{l:List Fd}{a:Option Addr}{c:Nat}{A:HP}(hA:gD W A a l)(hl:zF l<=1048576):Cn p_ 395 [.slice a l.length c] W [A] (fun r:Option Addr × Nat=> .slice r.1 (cq l).length r.2) (fun r=>[A,Sl 1 9 r.1 r.2 (cq l).length ((cq l).map az)]):=by
 obtain⟨h1,h2⟩:=gy qw hl
 (refine Shp.cn (Sg.g_ Tryz.call395 Tryz.func395) fun F=>?_;simp only[ca_,na_])
 refine aj (Iz (n:=qw) hA hl (by decide)) (.cons (by repeat constructor) .nil) fun _=>?_
 refine aq ?_
 refine aj (split (l:=mO l qw) (c:=44) (by omega)) .nil fun r=>?_
 refine aq ?_
 unfold cq
 refine aO r ?_
 exact aA
def uK (l:List Fd)(N:List (List UInt8)):Bool:=N.any fun n=>decide (0<(bH l n).length)
theorem EG {W:World}{l:List Fd}{N:List (List UInt8)}{a na:Option Addr}{c nc:Nat}{A NA:HP}(hA:gD W A a l)(hl:zF l<=1048576)(hN:RdB W NA na N.length (N.map az))(hn:∀n∈N,n.length<=4194304)(hNl:N.length<=4194304):
  Cn p_ 394 [.slice a l.length c,.slice na N.length nc] W [A,NA] (fun _:Unit=> .bool (uK l N)) (fun _=>[A,NA]):=by
 obtain⟨_,h2⟩:=gy qw hl
 have hok:=qh (l:=l) (by omega)
 have hcl:∀(g:Nat) (n:List UInt8),n.length<=4194304->Cn p_ 458 ([az n]++[.pointer (some ⟨g,0,none⟩)]) W [all [pt g (.cells #[.slice a l.length c] 535),A]] (fun _:Unit=> .bool (decide (0<(bH l n).length))) (fun _=>[all [pt g (.cells #[.slice a l.length c] 535),A]]):=fun g n hnl=>by
  (refine Shp.cn (Sg.g_ Tryz.call458 Tryz.func458) fun F=>?_;simp only[ca_,na_])
  refine aE .here ?_
  refine aq ?_
  refine aM ?_
  refine aj (f5 (n:=n) hA hok hnl) (.cons (by repeat constructor) .nil) fun r=>?_
  refine aq ?_
  refine o_ aK (o_ eu (bG () (by congr 1;exact decide_eq_decide.2 (by omega)) ?_))
  refine .all ?_
  refine aq ?_
  exact aA
 (refine Shp.cn (Sg.g_ Tryz.call394 Tryz.func394) fun F=>?_;simp only[ca_,na_])
 refine cA fun g=>?_
 refine o_ bP ?_
 rename Nat=>g
 refine bu (M:=all [pt g (.cells #[.slice a l.length c] 535),A]::NA::F) (.all aA) ?_
 refine aj (xK (v:=fun i=>az (N.getD i [])) (p:=fun i=>decide (0<(bH l (N.getD i [])).length)) (NA:=NA) (k:=458) (cap:=[.pointer (some ⟨g,0,none⟩)]) (by omega) (fun h=>by obtain⟨g,o,e,_⟩:=hN.at_ h;exact⟨g,o,e⟩)
  (fun i g o hi e=>by subst e;rw[Nat.mul_one,show N.getD i []=N[i] by simp[List.getD,hi]];exact lR hN hi)
  (fun i hi=>hcl g _ (by rw[show N.getD i []=N[i] by simp[List.getD,hi]];exact hn _ (List.getElem_mem hi)))) (.cons (by repeat constructor) (.cons (by repeat constructor) .nil)) fun _=>?_
 refine aq ?_
 rw[s4 (q:=fun n=>decide (0<(bH l n).length)) (fun i hi=>by simp[List.getD,hi])]
 refine aE (.there .here) ?_
 refine aq ?_
 refine aO () ?_
 exact aA
def fh (D:List Dir)(N:List (List UInt8)):Bool:=D.any fun x=>N.contains x.name
theorem IA {W : World} {D : List Dir} {N : List (List UInt8)} {da na : Option Addr} {gd dc nc : Nat} {NA : HP} (hN : RdB W NA na N.length (N.map az)) (hNl : N.length ≤ 4194304) (hDl : D.length ≤ 4194304) :
  Cn p_ 453 ([.slice na N.length nc] ++ [.pointer (some ⟨gd, 0, none⟩)]) W [all [pt gd (.cells #[.slice da D.length dc] 520), Sl 3 524 da dc D.length (D.flatMap eM)], NA] (fun _ : Unit => .bool (fh D N))
   (fun _ => [all [pt gd (.cells #[.slice da D.length dc] 520), Sl 3 524 da dc D.length (D.flatMap eM)], NA]) := by
 have hcl : ∀ (g : Nat) (x : Dir), Cn p_ 455 ([qZ x] ++ [.pointer (some ⟨g, 0, none⟩)]) W [all [pt g (.cells #[.slice na N.length nc] 33), NA]] (fun _ : Unit => .bool (N.contains x.name)) (fun _ => [all [pt g (.cells #[.slice na N.length nc] 33), NA]]) := fun g x => by
  unfold qZ
  (refine Shp.cn (Sg.g_ Tryz.call455 Tryz.func455) fun F => ?_; simp only [ca_, na_])
  refine aE .here ?_
  refine aq ?_
  refine aU fun g => ?_; refine aM ?_; refine o_ ae (aM ?_)
  refine aj (nO (x := x.name) hN (by omega)) (.cons (by repeat constructor) .nil) fun _ => ?_
  refine aq ?_
  refine bG () rfl ?_
  refine .all ?_
  refine aq ?_
  exact aA
 (refine Shp.cn (Sg.g_ Tryz.call453 Tryz.func453) fun F => ?_; simp only [ca_, na_])
 refine aE .here ?_
 refine aq ?_
 refine cA fun g => ?_; refine aM ?_
 refine o_ bP ?_
 rename Nat => g
 refine aN (by (repeat constructor) : Pick _ (Sl 3 524 da dc D.length (D.flatMap eM)) _) fun _ _ _ hsome => ?_
 refine bu (M := all [pt g (.cells #[.slice na N.length nc] 33), NA] :: Sl 3 524 da dc D.length (D.flatMap eM) :: pt gd (.cells #[.slice da D.length dc] 520) :: F) (.all aA) ?_
 refine aj (xL (v := fun i => match D[i]? with | some d => qZ d | none => undef) (p := fun i => match D[i]? with | some d => N.contains d.name | none => false) (NA := Sl 3 524 da dc D.length (D.flatMap eM)) (k := 455) (cap := [.pointer (some ⟨g, 0, none⟩)]) (by omega) (fun h => by obtain ⟨g, e⟩ := hsome h; exact ⟨g, 0, e⟩)
  (fun i g o hi e => by
   obtain ⟨g', e'⟩ := hsome (by omega)
   have he := e.symm.trans e'
   injection he with he
   injection he with h1 h2 h3
   subst h1; subst h2; subst e
   rw [List.getElem?_eq_getElem hi]
   exact dp (vs := eM D[i]) (ef (j_ (f := eM) (s := 3) (fun _ => rfl) D) (fun _ => ⟨_, rfl⟩)) rfl (fun j hj => i6 (f := eM) (s := 3) (fun _ => rfl) D i j hi hj))
  (fun i hi => by rw [List.getElem?_eq_getElem hi]; exact hcl g _)) (.cons (by repeat constructor) (.cons (by repeat constructor) .nil)) fun _ => ?_
 refine aq ?_
 rw [s4 (q := fun x => N.contains x.name) (fun i hi => by rw [List.getElem?_eq_getElem hi])]
 refine aE (.there .here) ?_
 refine aq ?_
 refine bG () rfl ?_
 refine .all ?_
 refine aq ?_
 exact aA
def q7 (l:List Fd)(n:List UInt8)(now:Int):Int × Bool:=(D.Ml now (cL l n).1,(cL l n).2&&decide (D.Mm now (cL l n).1=0))
theorem B0 {W : World} {l : List Fd} {n : List UInt8} {now : Int} {a : Option Addr} {c : Nat} {A : HP} (hA : gD W A a l) (hl : zF l <= 1048576) (hn : n.length <= 4194304) : Cn p_ 606 [.slice a l.length c, az n, .int .i64 now] W [A] (fun _ : Unit => .tuple #[.int .i64 (q7 l n now).1, .bool (q7 l n now).2]) (fun _ => [A]) := by
 have hok := qh (l := l) (by omega)
 have hfl : (cL l n).1.length <= 4194304 := by
  unfold cL
  split
  ·simp
  ·rename_i v r hv
   obtain ⟨f, hf, rfl⟩ := ui (show v ∈ bH l n by rw [hv]; exact List.mem_cons_self)
   exact (hok.2 f hf).2
 (refine Shp.cn (Sg.g_ Tryz.call606 Tryz.func606) fun F => ?_; simp only [ca_, na_])
 refine aj (first (n := n) hA hok hn) (.cons (by repeat constructor) .nil) fun _ => ?_
 refine aq ?_
 refine o_ (bk (vs := [_, _]) .here) ?_
 refine o_ (bk (vs := [_, _]) (.there .here)) ?_
 refine aj (D.PF (l := (cL l n).1) (now := now) (by omega)) .nil fun _ => ?_
 refine aq ?_
 refine o_ (bk (vs := [_, _]) .here) ?_
 refine o_ (bk (vs := [_, _]) (.there .here)) ?_
 unfold q7
 cases hf : (cL l n).2 with
 | true =>
  refine ab (ab (o_ cJ (o_ av (bG () (by rw [Bool.true_and]) ?_))))
  exact aA
 | false =>
  refine ao (ao (o_ am (bG () (by rw [Bool.false_and]) ?_)))
  exact aA
theorem kD {W:World}{n:Int}:Cn p_ 297 [.int .i64 n] W [] (fun _:Unit=> .int .i64 (max 0 (min n 1099511627776))) (fun _=>[]):=by
 (refine Shp.cn (Sg.g_ Tryz.call297 Tryz.func297) fun F=>?_;simp only[ca_,na_])
 refine o_ mu (o_ pI (bG () (by congr 1;split <;> split <;> omega) ?_))
 exact .refl
end Go.Proofs.YtdjkdjepjahjfaaGreatDoor.FD
