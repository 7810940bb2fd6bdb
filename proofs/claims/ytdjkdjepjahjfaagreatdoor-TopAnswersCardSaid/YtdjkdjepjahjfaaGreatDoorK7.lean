/- A client's connection: an answer's bytes, of any status but 204 and 304. (39 texts made one; each says below what it is.) -/
import Derived.Test.YtdjkdjepjahjfaaGreatDoorK6
import Derived.Test.YtdjkdjepjahjfaaGreatDoorChecked
import Derived.KernelRfl
set_option linter.unusedVariables false
set_option linter.unusedSimpArgs false
set_option linter.unusedSectionVars false
set_option maxRecDepth 9999
namespace Go.Proofs.YtdjkdjepjahjfaaGreatDoor.TP
open Go Go.Proofs Go.RowKit Sh Sl T FD
structure An where
 st:Int
 fl:List UInt8
 X:List FD.Fd
 D:List UInt8
structure AnOk (a:An):Prop where
 hk:qS a.X
 hh:kI a.fl (EA a.X a.D)=true
 dl:a.D.length<=1048576
 s1:200<=a.st
 s2:a.st<=599
 s3:a.st≠204
 s4:a.st≠304
 rs:∃j m,vN a.st j m=true/\m.length<=100/\a.fl=[72,84,84,80,47,49,46,49,32]++eg a.st++[32]++m
def jj (a:An):List UInt8:=mQ a.fl (EA a.X a.D)++a.D
theorem UQ {W : World} [hG : Gp W] {st : Int} {j : Nat} {m fl : List UInt8} {fs : List FD.Fd} {a : Option Addr} {c : Nat} {A : HP} (hr : vN st j m = true) (hm : m.length <= 100) (h1 : 200 <= st) (h2 : st <= 599) (hf : fl = [72, 84, 84, 80, 47, 49, 46, 49, 32] ++ eg st ++ [32] ++ m) (hA : gX W A a fs) (h : kI fl fs = true) : Cn p_ 237 [.int .i64 st, .slice a fs.length c] W [A] (fun r : Option Addr × Nat => .tuple #[.slice r.1 (mQ fl fs).length r.2, .int .i64 0]) (fun r => [A, jr 1 5 r.1 r.2 (mQ fl fs).length ((mQ fl fs).map Sl.B)]) := by
 have d := eL (i := st) (by omega) (by omega)
 (refine Shp.cn (Sg.g_ Tryz.call237 Tryz.func237) fun F => ?_; simp only [ca_, na_])
 (((refine aE (Sl.bF ?hcq) .nil ?_); (case hcq => (first | omega | (simp only [List.length_nil, List.length_cons]; omega))))); refine ab ?_; refine ab ?_; (((refine aE (Sl.cf ?hcq) .nil ?_); (case hcq => (first | omega | (simp only [List.length_nil, List.length_cons]; omega))))); refine aE ak .nil ?_; refine af ?_
 (refine' ah (fP (i := st) (by omega) (by omega)) ?hp fun _ => ?_; (case hp => (repeat (first | exact Picks.nil | (apply Picks.cons; (focus repeat constructor))))); (try simp only [ca_, na_, Bool.not_true, Bool.not_false]))
 refine aE (cA (a := [72, 84, 84, 80, 47, 49, 46, 49, 32]) (b := eg st) (by simp; omega)) .nil ?_
 refine aE (cA (b := [32]) (by simp; omega)) .nil ?_
 (refine' ah (oz (j := j) hr (by omega) (by omega)) ?hp fun _ => ?_; (case hp => (repeat (first | exact Picks.nil | (apply Picks.cons; (focus repeat constructor))))); (try simp only [ca_, na_, Bool.not_true, Bool.not_false]))
 refine aE (cA (b := m) (by simp; omega)) .nil ?_
 rw [show (72 :: 84 :: 84 :: 80 :: 47 :: 49 :: 46 :: 49 :: 32 :: (eg st ++ [32]) ++ m : List UInt8) = fl from by rw [hf]; simp]
 refine' ah (A4 (first := fl) hA h) ?hp fun r => ?_
 case hp => (repeat (first | exact Picks.nil | (apply Picks.cons; (focus repeat constructor))))
 (try simp only [ca_, na_, -eq_self])
 (((refine' aE (bU ?hc) .nil ?_); (case hc => repeat constructor))); (((refine' aE (bU ?hc) .nil ?_); (case hc => repeat constructor)))
 (first | refine bK (r) rfl ?_ | refine ip (r) ?_)
 (repeat (first | exact .refl | exact .nil | (apply Imp.pick; (focus ((repeat constructor); done))) | refine .drop ?_))
def Do (a:An)(x d:AC):List Value:=[.int .i64 a.st,.slice x.1 a.X.length x.2,.slice d.1 a.D.length d.2]
def nJ (g:Nat)(a:An)(x d:AC):HP:=pt g (.cells (Do a x d).toArray 48)
theorem zl {W:World}[hG:Gp W]{c p ra n:Nat}{s:CnS}{nu:Int}{t:List UInt8}{f r xx dd:AC}{a:An}{AX AD:HP}(hrow:s.row= .slice r.1 n r.2)(hrd:s.rd=true)(ha:AnOk a)(hX:gX W AX xx.1 a.X)(hD:RdB W AD dd.1 a.D.length (a.D.map Sl.B))(hd0:dd.1=none->a.D.length=0):
  Cn p_ 146 [pC c,pC p] W [cD c s,ed p nu t f (pC ra),nJ ra a xx dd,AX,AD] (fun q:AC=> .tuple #[.slice q.1 (jj a).length q.2,.int .i64 0])
   (fun q=>[cD c s,ed p nu t f (pC ra),nJ ra a xx dd,AX,AD,jr 1 5 q.1 q.2 (jj a).length ((jj a).map Sl.B)]):=by
 obtain⟨st,fl,X,D⟩:=a
 obtain⟨hXk,hh,hDl,hs1,hs2,hs3,hs4,j,m,hr,hm,hf⟩:=ha
 (try dsimp only at *)
 (refine Shp.cn (Sg.g_ Tryz.call146 Tryz.func146 (an:={cuts:=[(7,[9]),(9,[9]),(11,[67]),(14,[9])]})) fun F=>?_;simp only[ca_,na_])
 cases s
 rename_i bo ke ck si rd bg nx hd rr ln q0 q1 q2 q3 got ev row nu2 out
 (try dsimp only at *)
 subst hrow hrd
 obtain⟨xa,xc⟩:=xx
 obtain⟨da,dc⟩:=dd
 unfold ed um nJ Do
 (unfold cD oB;(try dsimp only))
 refine o_ ag (o_ ae (aH ?_));refine o_ ag (o_ ae (o_ dm (aH ?_)))
 refine o_ (Sl.fB (m:=[72,69,65,68]) (by decide)) ?_
 refine o_ cL (ab (ab (o_ ag (ab (o_ ae (ab (aH ?_)))))));refine ab ?_;(((refine o_ (Sl.eI ?hcq) ?_);(case hcq=>(first|omega|(simp only[List.length_nil,List.length_cons];omega)))));refine o_ av (ab (ab (o_ ag (ab (o_ ae (ab (aH ?_)))))));refine ab ?_;(((refine o_ (Sl.eI ?hcq) ?_);(case hcq=>(first|omega|(simp only[List.length_nil,List.length_cons];omega)))));refine o_ av (o_ ag (o_ ae (aH ?_)))
 refine II [mS,Ep,IH] rfl rfl (by decide) fun gb=>?_
 refine' ah (ky (l:=X) (N:=[mS,Ep,IH]) hX hXk (gP (by rfl)) (by decide) (by decide)) ?hp fun q=>?_
 case hp=>(repeat(first|exact Picks.nil|(apply Picks.cons;(focus repeat constructor))))
 obtain⟨qa,qc⟩:=q
 refine am ?_
 (try dsimp only)
 refine aP (by(repeat constructor):Pick _ (Sl 2 192 qa qc _ _) _) fun _ _ _ hs=>?_
 have hk1:=pH [mS,Ep,IH] hXk
 have hQ:=cJ (W:=W) (a:=qa) (c:=qc) (l:=dx X [mS,Ep,IH]) hs
 obtain⟨X1,hX1⟩:∃X1,X1=dx X [mS,Ep,IH]:=⟨_,rfl⟩
 unfold EA at hh
 rw[<- hX1]at hk1 hQ hh ⊢
 refine fS ?_
 refine o_ cL (ab (ab (o_ ag (ab (o_ ae (ab (aH ?_)))))));refine ab ?_;(((refine o_ (Sl.eI ?hcq) ?_);(case hcq=>(first|omega|(simp only[List.length_nil,List.length_cons];omega)))));refine o_ av (ai (cI fun g=>?_))
 rename Nat=>gc
 refine' ah (ky (l:=X1) (N:=[pz]) hQ hk1 (gP (by rfl)) (by decide) (by decide)) ?hp fun q=>?_
 case hp=>(repeat(first|exact Picks.nil|(apply Picks.cons;(focus repeat constructor))))
 obtain⟨pa,pc⟩:=q
 refine am ?_
 (try dsimp only)
 refine gZ fun ds=>?_
 have hk2:=(pH [pz] hk1).1
 obtain⟨X2,hX2⟩:∃X2,X2=dx X1 [pz]:=⟨_,rfl⟩
 rw[<- hX2]at hk2 hh ⊢
 refine fS ?_
 refine ai (o_ ag (o_ ae (aH ?_)));refine o_ aI (c_ (fP (i:=(D.length:Int)) (by omega) (by omega)) fun _=>?_)
 refine o_ bO ?_
 refine BD (n:=pz) (v:=eg D.length) (by(repeat constructor):Pick _ (Sl 2 192 pa pc _ _) _) hk2 fun wa wc=>?_
 refine gZ fun ds=>?_
 refine fS ?_
 refine' sR (fun z=>[pu (z= .bool false)]) ?hb ?hr
 case hb=>
  refine o_ ag (o_ ae (aH ?_));refine o_ bB (af (o_ ag (o_ ae (aH ?_))));refine o_ aI (o_ cH ?_)
  cases decide ((n:Int)=1)with
  |true=>
   refine ab (ab (o_ ag (ab (o_ ae (ab (aH ?_))))));exact ab (o_ bB (o_ av (aN (.pu rfl .refl))))
  |false=>
   exact aj (aj (aj (aj (aj (o_ ak (aN (.pu rfl .refl)))))))
 case hr=>
 intro ds z
 refine am ?_
 refine aT .here fun hz=>?_
 subst hz
 refine af (o_ ag (o_ ae (o_ dm (aH ?_))));(((refine o_ (Sl.bA ?hcq) ?_);(case hcq=>(first|omega|(simp only[List.length_nil,List.length_cons];omega)))));refine af (gZ fun ds=>?_)
 refine o_ ag (o_ ae (aH ?_))
 refine aP (by(repeat constructor):Pick _ (Sl 2 192 wa wc _ _) _) fun _ _ _ hs=>?_
 have hW:=cJ (W:=W) (a:=wa) (c:=wc) (l:=X2++[(pz,eg D.length)]) hs
 refine' ah (UQ (j:=j) hr hm hs1 hs2 hf hW hh) ?hp fun q=>?_
 case hp=>(repeat(first|exact Picks.nil|(apply Picks.cons;(focus repeat constructor))))
 obtain⟨ba,bc⟩:=q
 refine am ?_
 (try dsimp only)
 refine bE ?_;refine bE ?_;refine ai (o_ ag (o_ ae (aH ?_)))
 have hwb:jj ⟨st,fl,X,D⟩=mQ fl (X2++[(pz,eg D.length)])++D:=by unfold jj EA;rw[<- hX1,<- hX2]
 simp only[kI,Bool.and_eq_true,decide_eq_true_eq]at hh
 have hl:=hh.2
 obtain⟨Hd,hHd⟩:∃Hd,Hd=mQ fl (X2++[(pz,eg D.length)]):=⟨_,rfl⟩
 rw[<- hHd]at hwb hl ⊢
 rw[hwb]
 have e1:(Hd++D).length=Hd.length+D.length:=List.length_append
 rw[e1,List.map_append]
 refine pj (m:=D.length) (news:=D.map Sl.B) (by(repeat constructor):Pick _ (jr 1 5 ba bc _ _) _) (k8 (e':=5) (by kernel_rfl) (by(repeat constructor):Pick _ AD _) hD hd0 (by intro u hu;obtain⟨c,_,rfl⟩:=List.mem_map.1 hu;rfl)) (by omega) (by omega) fun a' c'=>?_
 refine aR ((a',c')) ?_
 exact az
abbrev Sa:=Nat->Option (Option An)
def fu (A:Nat->Nat)(T:Nat->List UInt8)(sa:Sa)(i:Nat):HP:=match sa i with
 |none=>pu True
 |some none=>ex fun f:AC=>ed (A i) (i:Int) (T i) f (.pointer none)
 |some (some a)=>ex fun x:AC × Nat × AC × AC=>all [ed (A i) (i:Int) (T i) x.1 (pC x.2.1),nJ x.2.1 a x.2.2.1 x.2.2.2,Sl 2 192 x.2.2.1.1 x.2.2.1.2 a.X.length (a.X.flatMap cS),Sl 1 5 x.2.2.2.1 x.2.2.2.2 a.D.length (a.D.map Sl.B)]
def jD (A:Nat->Nat)(T:Nat->List UInt8)(n:Nat)(sa:Sa):HP:=BS n (fu A T sa)
def jk (lo:Nat)(sa:Sa):Sa:=fun i=>if i<lo then none else sa i
def cY (sa:Sa):Nat->Nat->Nat × List UInt8
 |0,lo=>(lo,[])
 |k+1,lo=>match sa lo with
  |some (some a)=>((cY sa k (lo+1)).1,jj a++(cY sa k (lo+1)).2)
  |_=>(lo,[])
def kf (A:Nat->Nat)(r:AC)(lo n:Nat):HP:=nQ r ((List.range' lo (n-lo)).map A)
theorem fT {lo i:Nat}{sa:Sa}(h:i<lo):jk lo sa i=none:=if_pos h
theorem ee {lo i:Nat}{sa:Sa}(h:¬i<lo):jk lo sa i=sa i:=if_neg h
theorem pZ {A:Nat->Nat}{T:Nat->List UInt8}{sa sb:Sa}{i:Nat}(h:sa i=sb i):fu A T sa i=fu A T sb i:=by unfold fu;rw[h]
theorem Fe {a:An}(h:AnOk a):0<(jj a).length:=by
 obtain⟨j,m,_,_,hf⟩:=h.rs
 unfold jj mQ
 rw[hf];simp
theorem Cv {a:An}(h:AnOk a):(jj a).length<=2000000:=by
 have hh:=h.hh
 simp only[kI,Bool.and_eq_true,decide_eq_true_eq]at hh
 have:=h.dl
 unfold jj
 rw[List.length_append]
 omega
def CnS.wroteG (s:CnS)(n q:Nat)(x:AC × AC)(b:Bool):CnS:={s with out:= .slice x.1.1 n x.1.2,row:= .slice x.2.1 q x.2.2,si:=if b then s.ck else s.si}
theorem Cw {lo n:Nat}(h:lo<n):List.range' lo (n-lo)=lo::List.range' (lo+1) (n-(lo+1)):=by
 rw[show n-lo=(n-(lo+1))+1 by omega,List.range'_succ]
theorem Cx {W:World}{L:List HP}{M:List HP}{A:Nat->Nat}{T:Nat->List UInt8}{sa sb:Sa}{n i:Nat}(hi:i<n)(hF:∀j,j<n->j≠i->sa j=sb j)(h0:sb i=none)(h:Imp W L (BH n (fu A T sa) i::M)):Imp W L (jD A T n sb::M):=
 eb (F:=fu A T sa) i hi (fun j hj hne=>pZ (hF j hj hne)) (by
  have e:fu A T sb i=pu True:=by unfold fu;rw[h0]
  rw[e]
  exact .pu trivial h)
theorem Ju {W:World}{L L':List HP}{A:Nat->Nat}{T:Nat->List UInt8}{sa:Sa}{n i:Nat}{S:WP}(p:Pick L (BH n (fu A T sa) i) L')(hi:i<n)(hp:∀j,j<i->sa j=none)(h:aJ W (jD A T n (jk (i+1) sa)::L') S):aJ W L S:=
 bf (Cx (sa:=sa) hi (fun j hj hne=>by
  by_cases c:j<i+1
  ·rw[fT c,hp j (by omega)]
  ·rw[ee c]) (fT (by omega)) (.pick p .refl)) h
theorem sS {W:World}[hG:Gp W]{c lo n:Nat}{s:CnS}{A:Nat->Nat}{T:Nat->List UInt8}{sa:Sa}{O:List UInt8}{r o:AC}(hln:lo<=n)(hn:n<=100)(hrow:s.row= .slice r.1 (n-lo) r.2)(hrd:s.rd=true)(hbg:s.bg=false)(ho:s.out= .slice o.1 O.length o.2)(hsa:∀i a,sa i=some (some a)->AnOk a)(hlo:∀i,i<lo->sa i=none)(hhi:∀i,lo<=i->i<n->sa i≠none)(hOl:O.length<=1000000000):
  Cn p_ 79 [pC c] W [cD c s,kf A r lo n,q4 o O,jD A T n sa] (fun _:(AC × AC) × Bool=> .tuple #[])
   (fun x=>[cD c (s.wroteG (O++(cY sa (n-lo) lo).2).length (n-(cY sa (n-lo) lo).1) x.1 x.2),q4 x.1.1 (O++(cY sa (n-lo) lo).2),kf A x.1.2 (cY sa (n-lo) lo).1 n,jD A T n (jk (cY sa (n-lo) lo).1 sa)]):=by
 (refine Shp.cn (Sg.g_ Tryz.call79 Tryz.func79 (an:={cuts:=[(13,[5]),(14,[])],loops:=[(1,[])],drs:=[(5,.ofL [(0,2),(1,2),(2,3),(3,3),(4,3),(5,1),(6,0),(7,0),(8,1),(9,1),(10,0)])]}) (os:=[(5,[(6,[4,3,2])])])) fun F=>?_;simp only[ca_,na_])
 cases s
 rename_i bo ke ck si rd bg nx hd rr ln q0 q1 q2 q3 got ev row nu2 out
 (try dsimp only at *)
 subst hrow hrd hbg ho
 obtain⟨LO,hLO⟩:∃x,x=(cY sa (n-lo) lo).1:=⟨_,rfl⟩
 obtain⟨OO,hOO⟩:∃x,x=O++(cY sa (n-lo) lo).2:=⟨_,rfl⟩
 rw[<- hLO,<- hOO]
 (unfold cD oB;(try dsimp only))
 refine o_ ag (o_ ae (aH ?_));refine o_ aI (lJ (fun m=>[ex fun x:(Nat × List UInt8) × (AC × AC)=>all [pu (m+x.1.1=n/\lo<=x.1.1/\(cY sa (n-x.1.1) x.1.1).1=LO/\x.1.2++(cY sa (n-x.1.1) x.1.1).2=OO/\x.1.2.length<=1000000000+2000000 * x.1.1),cD c ⟨bo,ke,ck,si,true,false,nx,hd,rr,ln,q0,q1,q2,q3,got,ev,.slice x.2.2.1 (n-x.1.1) x.2.2.2,nu2,.slice x.2.1.1 x.1.2.length x.2.1.2⟩,q4 x.2.1 x.1.2,kf A x.2.2 x.1.1 n,jD A T n (jk x.1.1 sa)]]++F) (n-lo) ?_ ?_)
 ·refine .ex ((lo,O),(o,r)) (.all ?_)
  refine am ?_
  refine .pu ⟨by omega,Nat.le_refl _,hLO.symm,hOO.symm,by omega⟩ ?_
  have e:jk lo sa=sa:=by funext i;by_cases c:i<lo;{rw[fT c,hlo i c]};{rw[ee c]}
  rw[e]
  exact az
 intro m ds
 refine am ?_
 refine a8 .here fun x=>aB .here ?_
 obtain⟨⟨l,Q⟩,⟨oa,oc⟩,ra,rc⟩:=x
 refine am ?_
 refine aT .here fun hx=>?_
 obtain⟨hm,hll,hx1,hx2,hQ⟩:=hx
 (try dsimp only at hm hll hx1 hx2 hQ ⊢)
 (unfold cD oB;(try dsimp only))
 by_cases hl:l<n
 ·rw[show n-l=(n-(l+1))+1 by omega]at hx1 hx2
  have hrg:=Cw hl
  unfold kf nQ
  rw[hrg,List.map_cons,List.map_cons,List.length_cons]
  rw[show n-l=((List.range' (l+1) (n-(l+1))).map A).length+1 by simp;omega]
  obtain⟨ps,hps⟩:∃ps,ps=(List.range' (l+1) (n-(l+1))).map A:=⟨_,rfl⟩
  rw[<- hps]
  have hpl:ps.length=n-(l+1):=by rw[hps];simp
  refine Sl.eP (by(repeat constructor):Pick _ (jr 1 279 ra rc _ _) _) fun _ _ _ hs=>?_
  obtain⟨G,oG,rfl⟩:=hs (by omega)
  refine fY (by(repeat constructor):Pick _ (BS n _) _) l hl ?_
  have hne:=hhi l hll hl
  refine o_ ag (o_ ae (aH ?_));refine o_ aI ?_;(((refine o_ (Sl.gi ?hcq) ?_);(case hcq=>(first|omega|(simp only[List.length_nil,List.length_cons];omega)))));refine ab (ab (o_ ag (ab (o_ ae (ab (aH ?_))))));refine ab ?_;(((refine' aE (bq 0 rfl ?hcq) .nil ?_);(case hcq=>(first|omega|decide|(simp;done)))));refine ab (aE (sr (j:=0) (v:=sL (A l)) rfl) az ?_)
  cases hsl:sa l with
  |none=>exact absurd hsl hne
  |some z=>
   cases z with
   |none=>
    have e1:fu A T (jk l sa) l=ex fun f:AC=>ed (A l) (l:Int) (T l) f (.pointer none):=by unfold fu;rw[ee (by omega),hsl]
    rw[e1]
    refine a8 (by(repeat constructor):Pick _ (ex fun f:AC=>ed (A l) (l:Int) (T l) f (.pointer none)) _) fun f=>?_
    refine ab (xo (p:=none) (by repeat constructor) ?_)
    simp only[cY,hsl,List.append_nil]at hx1 hx2
    subst hx1 hx2
    refine ab (o_ bB (o_ av (af ?_)));(((refine o_ (Sl.gi ?hcq) ?_);(case hcq=>(first|omega|(simp only[List.length_nil,List.length_cons];omega)))));refine ab (ab (o_ ag (ab (o_ ae (ab (aH ?_))))));refine ab (o_ aI (ab ?_));(((refine o_ (Sl.bA ?hcq) ?_);(case hcq=>(first|omega|(simp only[List.length_nil,List.length_cons];omega)))));refine o_ av (aj (aj (aj (aj (aj (o_ ak (af ?_)))))))
    have hsi:si=(if false=true then ck else si):=rfl
    refine aR ((((oa,oc),(some ⟨G,oG,none⟩,rc)),false)) ?_
    unfold CnS.wroteG
    (try dsimp only)
    simp only[hrg,List.map_cons,List.length_cons,<- hps,-eq_self]
    rw[show n-l=ps.length+1 by omega]
    refine .pick (by repeat constructor) (.pick (by repeat constructor) (.pick (by repeat constructor) ?_))
    refine eb (F:=fu A T (jk l sa)) l hl (fun j hj hne=>rfl) ?_
    rw[e1]
    refine .ex f (.pick (by repeat constructor) (.pick (by repeat constructor) ?_))
    exact az
   |some a=>
    have haa:=hsa l a hsl
    have e1:fu A T (jk l sa) l=ex fun x:AC × Nat × AC × AC=>all [ed (A l) (l:Int) (T l) x.1 (pC x.2.1),nJ x.2.1 a x.2.2.1 x.2.2.2,Sl 2 192 x.2.2.1.1 x.2.2.1.2 a.X.length (a.X.flatMap cS),Sl 1 5 x.2.2.2.1 x.2.2.2.2 a.D.length (a.D.map Sl.B)]:=by unfold fu;rw[ee (by omega),hsl]
    rw[e1]
    refine a8 (by(repeat constructor):Pick _ (ex fun x:AC × Nat × AC × AC=>all _) _) fun y=>aB .here ?_
    obtain⟨f,g2,⟨xa,xc⟩,da,dc⟩:=y
    refine am ?_
    (try dsimp only)
    simp only[cY,hsl]at hx1 hx2
    refine aP (by(repeat constructor):Pick _ (Sl 2 192 xa xc _ _) _) fun _ _ _ hs1=>?_
    refine aP (by(repeat constructor):Pick _ (Sl 1 5 da dc _ _) _) fun _ _ _ hs2=>?_
    refine ab (xo (p:=some ⟨g2,0,none⟩) (by repeat constructor) ?_)
    refine ab (o_ cL (o_ av (ai (dP ?_))))
    refine o_ ag (o_ ae (aH ?_));(((refine' aE (bq 0 rfl ?hcq) .nil ?_);(case hcq=>(first|omega|decide|(simp;done)))))
    refine aE (sr (j:=0) (v:=sL (A l)) rfl) az ?_
    refine o_ (PN (a:=242) (k:= .i64) (by kernel_rfl) (by decide)) ?_
    refine bE ?_;refine bE ?_;refine af (o_ (Gu (a:=281)) ?_)
    refine bE ?_;refine bE ?_;refine ai (iv (by repeat constructor) ?_)
    refine' ah (zl (c:=c) (p:=A l) (ra:=g2) (r:=(some ⟨G,oG,none⟩,rc)) (xx:=(xa,xc)) (dd:=(da,dc)) (t:=T l) (f:=f) ?h1 ?h2 haa (cJ hs1) (gO (e:=5) (a:=da) (cap:=dc) (by rw[List.length_map]) hs2) ?h0) ?hp fun q=>?_
    case hp=>(repeat(first|exact Picks.nil|(apply Picks.cons;(focus repeat constructor))))
    case h1=>rfl
    case h2=>rfl
    case h0=>
     rintro rfl
     rcases Nat.eq_zero_or_pos a.D.length with z|z
     ·exact z
     ·obtain⟨_,h⟩:=hs2 z;cases h
    obtain⟨ba,bc⟩:=q
    refine am ?_
    (try dsimp only)
    refine bE ?_;refine bE ?_
    refine fS ?_
    (((refine o_ (Sl.cq ?hcq) ?_);(case hcq=>(first|omega|(simp only[List.length_nil,List.length_cons];omega)))));refine af ?_
    refine gZ fun ds=>?_
    (unfold cD oB;(try dsimp only))
    refine o_ ag (o_ ae (aH ?_))
    have hpos:=Fe haa
    have hble:=Cv haa
    refine Sl.eP (by(repeat constructor):Pick _ (jr 1 5 ba bc _ _) _) fun _ _ _ hb=>?_
    obtain⟨G2,o2,rfl⟩:=hb hpos
    unfold q4
    have hR:RdB W (jr 1 5 (some ⟨G2,o2,none⟩) bc (jj a).length ((jj a).map Sl.B)) (some ⟨G2,o2,none⟩) (jj a).length ((jj a).map Sl.B):=by
     have:=vK (W:=W) (e:=5) (g:=G2) (o:=o2) (cap:=bc) (n:=(jj a).length) (s:=1) (cs:=(jj a).map Sl.B) (by simp)
     rwa [Nat.mul_one]at this
    refine pj (m:=(jj a).length) (news:=(jj a).map Sl.B) (by(repeat constructor):Pick _ (jr 1 5 oa oc _ _) _) (k8 (e':=5) (by kernel_rfl) (by(repeat constructor):Pick _ (jr 1 5 (some ⟨G2,o2,none⟩) bc _ _) _) hR (fun h=>by cases h) (by intro u hu;obtain⟨c,_,rfl⟩:=List.mem_map.1 hu;rfl)) (by omega) (by omega) fun a' c'=>?_
    refine o_ ag (o_ ae (bR ?_))
    refine gZ fun ds=>?_
    refine o_ ag (o_ ae (aH ?_))
    refine o_ (jK 1 rfl (by omega)) ?_
    refine Sl.tY (l:=1) (by(repeat constructor):Pick _ (jr 1 279 _ rc _ _) _) (by omega) ?_
    refine o_ ag (o_ ae (bR ?_))
    refine Ju (by(repeat constructor):Pick _ (BH n _ l) _) hl (fun j hj=>fT hj) ?_
    have e2:jk (l+1) (jk l sa)=jk (l+1) sa:=by
     funext i
     by_cases c:i<l+1
     ·rw[fT c,fT c]
     ·rw[ee c,ee c,ee (by omega)]
    rw[e2]
    refine n9 (n-(l+1)) (by omega) (.ex ((l+1,Q++jj a),((a',c'),(if rc=1 then some ⟨G,oG,none⟩else(some (⟨G,oG,none⟩:Addr)).map (·.add (1 * 1)),rc-1))) (.all ?_))
    (try dsimp only)
    rw[List.length_append,List.map_append]
    refine am ?_
    refine .pu ⟨by omega,by omega,hx1,by rw[List.append_assoc];exact hx2,by omega⟩ ?_
    rw[<- hps,<- hpl,Nat.add_sub_cancel]
    simp only[List.drop_succ_cons,List.drop_zero,Nat.mul_one,-eq_self]
    exact az
 ·have:l=n:=by omega
  subst this
  simp only[Nat.sub_self,cY,List.append_nil]at hx1 hx2
  subst hx1 hx2
  rw[Nat.sub_self]
  refine o_ ag (o_ ae (aH ?_));refine o_ aI ?_;(((refine o_ (Sl.cf ?hcq) ?_);(case hcq=>(first|omega|(simp only[List.length_nil,List.length_cons];omega)))));refine aj (aj (aj (aj (aj (aj (aj (aj (o_ ak (af (o_ eu ?_))))))))))
  cases decide ((0:Int)<((l-lo:Nat):Int))with
  |true=>
   refine ab (ab (o_ ag (ab (o_ ae (ab (aH ?_))))));refine ab (o_ aI (ab ?_));(((refine o_ (Sl.ce ?hcq) ?_);(case hcq=>(first|omega|(simp only[List.length_nil,List.length_cons];omega)))));refine o_ av (ab (ab (o_ ag (ab (o_ ae (ab (aH ?_)))))));refine ab (o_ cL (o_ av (ai (o_ ag (o_ ae (aH ?_))))));refine o_ ag (o_ ae (bR ?_))
   refine aR ((((oa,oc),(ra,rc)),true)) ?_
   unfold CnS.wroteG
   (try dsimp only)
   exact az
  |false=>
   refine aj (aj (aj (aj (aj (aj (o_ ak (aj (aj (aj (aj (aj (o_ ak (af (aR ((((oa,oc),(ra,rc)),false)) ?_))))))))))))))
   unfold CnS.wroteG
   (try dsimp only)
   exact az
theorem Ff {W:World}{A:Nat->Nat}{T:Nat->List UInt8}{sa:Sa}{n j:Nat}(hj:j<n)(hs:sa j≠none):aQ p_ W [jD A T n sa] (aG 3 (.pointer (some ⟨A j,0,none⟩))) (.int .i64 (j:Int)):=fun w hw=>by
 refine(fY (S:=fun w=>(aG 3 (.pointer (some ⟨A j,0,none⟩))).run p_ w= .ok (.value (.int .i64 (j:Int))) w) .here j hj ?_:aJ W [BS n (fu A T sa)] _) w hw
 unfold fu
 cases h:sa j with
 |none=>exact absurd h hs
 |some z=>
  cases z with
  |none=>
   refine a8 .here fun f=>?_
   unfold ed um
   exact fun w hw=>aS (by repeat constructor) w ((Imp.pick .here .nil).sat hw)
  |some a=>
   refine a8 .here fun f=>aB .here ?_
   unfold ed um
   exact fun w hw=>aS (by repeat constructor) w ((Imp.pick .here .nil).sat hw)
def g8 (sa:Sa)(i:Nat)(a:An):Sa:=fun j=>if j=i then some (some a)else sa j
theorem fR {sa:Sa}{i:Nat}{a:An}:g8 sa i a i=some (some a):=if_pos rfl
theorem fU {sa:Sa}{i j:Nat}{a:An}(h:j≠i):g8 sa i a j=sa j:=if_neg h
theorem Fg {W:World}{L L1 L2:List HP}{A:Nat->Nat}{T:Nat->List UInt8}{sa sb:Sa}{n i:Nat}{S:WP}(hi:i<n)(hF:∀j,j≠i->sa j=sb j)(p:Pick L (fu A T sb i) L1)(q:Pick L1 (BH n (fu A T sa) i) L2)(h:aJ W (jD A T n sb::L2) S):aJ W L S:=
 bf (eb (F:=fu A T sa) i hi (fun j _ hne=>pZ (hF j hne)) (.pick p (.pick q .refl))) h
theorem Fh {W:World}{L L1 L2 L3 L4:List HP}{A:Nat->Nat}{T:Nat->List UInt8}{sb:Sa}{i g:Nat}{a:An}{f x d:AC}{S:WP}(hb:sb i=some (some a))(p1:Pick L (ed (A i) (i:Int) (T i) f (pC g)) L1)(p2:Pick L1 (nJ g a x d) L2)(p3:Pick L2 (Sl 2 192 x.1 x.2 a.X.length (a.X.flatMap cS)) L3)(p4:Pick L3 (Sl 1 5 d.1 d.2 a.D.length (a.D.map Sl.B)) L4)(h:aJ W (fu A T sb i::L4) S):aJ W L S:=by
 have e:fu A T sb i=ex fun x:AC × Nat × AC × AC=>all [ed (A i) (i:Int) (T i) x.1 (pC x.2.1),nJ x.2.1 a x.2.2.1 x.2.2.2,Sl 2 192 x.2.2.1.1 x.2.2.1.2 a.X.length (a.X.flatMap cS),Sl 1 5 x.2.2.2.1 x.2.2.2.2 a.D.length (a.D.map Sl.B)]:=by unfold fu;rw[hb]
 rw[e]at h
 exact bf (.ex (f,g,x,d) (.all (.pick p1 (.pick p2 (.pick p3 (.pick p4 .refl)))))) h
theorem Cy {W:World} [hG:Gp W] {c lo n i:Nat} {s:CnS} {A:Nat->Nat} {T:Nat->List UInt8} {sa:Sa} {O:List UInt8} {r o xx dd:AC} {a:An} {fn:Fn} {fa fb:Array Value} {AX AD:HP} (hnx:s.nx= .func fn fa fb) (hln:lo<=i) (hi:i<n) (hn:n<=100) (hrow:s.row= .slice r.1 (n-lo) r.2) (hrd:s.rd=true) (hbg:s.bg=false) (ho:s.out= .slice o.1 O.length o.2) (hsa:∀i a,sa i=some (some a)->AnOk a) (hlo:∀i,i<lo->sa i=none) (hhi:∀i,lo<=i->i<n->sa i≠none) (hsi:sa i=some none) (hOl:O.length<=1000000000) (ha:AnOk a)
  (hX:gX W AX xx.1 a.X) (hx0:xx.1=none->a.X=[]) (hD:RdB W AD dd.1 a.D.length (a.D.map Sl.B)) (hd0:dd.1=none->a.D=[]):
  Cn p_ 92 [pC c,.int .i64 (i:Int),.agg (Do a xx dd).toArray] W [cD c s,kf A r lo n,q4 o O,jD A T n sa,AX,AD] (fun _:(AC × AC) × Bool=> .int .i64 0)
   (fun x=>[cD c (s.wroteG (O++(cY (g8 sa i a) (n-lo) lo).2).length (n-(cY (g8 sa i a) (n-lo) lo).1) x.1 x.2),q4 x.1.1 (O++(cY (g8 sa i a) (n-lo) lo).2),kf A x.1.2 (cY (g8 sa i a) (n-lo) lo).1 n,jD A T n (jk (cY (g8 sa i a) (n-lo) lo).1 (g8 sa i a)),AX,AD]):=by
 obtain⟨st,fl,X,D⟩:=a
 have hXk:qS X:=ha.hk
 have hDl:D.length<=1048576:=ha.dl
 have hs1:200<=st:=ha.s1
 have hs2:st<=599:=ha.s2
 (try dsimp only at *)
 obtain⟨an,han⟩:∃x:An,x=⟨st,fl,X,D⟩:=⟨_,rfl⟩
 (refine Shp.cn (Sg.g_ Tryz.call92 Tryz.func92 (an:={loops:=[(4,[18])],drs:=[(8,.ofL [(0,2),(1,3),(2,3),(3,1),(4,1),(6,3),(7,3),(5,0),(8,0),(9,1),(10,0),(11,1),(12,1),(13,0)])]}) (os:=[(8,[(5,[7,6,2,1]),(8,[2,1])])])) fun F=>?_;simp only[ca_,na_])
 refine aX fun b5=>?_
 refine' ah (t6 (c:=c) hnx) ?hp fun _=>?_
 case hp=>(repeat(first|exact Picks.nil|(apply Picks.cons;(focus repeat constructor))))
 refine am ?_
 cases s
 rename_i bo ke ck si rd bg nx hd rr ln q0 q1 q2 q3 got ev row nu2 out
 (try dsimp only at *)
 subst hrow
 obtain⟨ra_,rc⟩:=r
 obtain⟨xa,xc⟩:=xx
 obtain⟨da,dc⟩:=dd
 unfold Do
 have hq:((List.range' lo (n-lo)).map A).length=n-lo:=by simp
 obtain⟨R,hR⟩:∃R,R=(List.range' lo (n-lo)).map A:=⟨_,rfl⟩
 rw[<- hR]at hq
 have hget:∀q,q<n-lo->R[q]? =some (A (lo+q)):=fun q h=>by rw[hR];simp[List.getElem?_map,h]
 unfold kf nQ
 rw[<- hR,hq]
 refine Sl.eP (by(repeat constructor):Pick _ (jr 1 279 ra_ rc _ _) _) fun _ _ _ hs=>?_
 obtain⟨G,oG,rfl⟩:=hs (by omega)
 (unfold cD oB;(try dsimp only))
 refine af (o_ ag (o_ ae (aH ?_)));refine o_ aI (aY (fun m y=>pu (∃q:Nat,m+q=i-lo/\y= .int .i64 (q:Int))::_) (i-lo) (.pu ⟨0,rfl,rfl⟩ .refl) ?_)
 intro m ds y
 refine aT .here fun hz=>?_
 obtain⟨q,hm,rfl⟩:=hz
 have hv:(R.map sL)[q]? =some (sL (A (lo+q))):=by rw[List.getElem?_map,hget q (by omega)];rfl
 refine o_ (Sl.bY (by omega)) ?_
 refine ai (o_ (bq q rfl (by omega)) ?_)
 refine aE (sr (j:=q) (v:=sL (A (lo+q))) hv) az ?_
 refine o_ (Gu (a:=281)) ?_
 refine bE ?_;refine bE ?_;refine o_ bB (ab (ab (o_ ag (ab (o_ ae (ab (aE (Ff (n:=n) (T:=T) (j:=lo+q) (by omega) (hhi (lo+q) (by omega) (by omega))) az ?_)))))))
 refine ab (ab ?_)
 by_cases hqi:lo+q=i
 ·rw[hqi]
  refine fY (by(repeat constructor):Pick _ (BS n _) _) i hi ?_
  have e1:fu A T sa i=ex fun f:AC=>ed (A i) (i:Int) (T i) f (.pointer none):=by unfold fu;rw[hsi]
  rw[e1]
  refine a8 .here fun f=>?_
  unfold ed um
  (((refine o_ (Sl.cq ?hcq) ?_);(case hcq=>(first|omega|(simp only[List.length_nil,List.length_cons];omega)))));refine o_ ak ?_;refine ab ?_;refine ab ?_;refine o_ ag ?_;refine ab ?_;refine o_ ae ?_;refine ab ?_;refine aH ?_;refine ab ?_;refine o_ iH ?_;refine o_ ak ?_;refine ab ?_;refine o_ ae ?_;refine ab ?_;refine aH ?_;refine ab ?_;(((refine o_ (Sl.bF ?hcq) ?_);(case hcq=>(first|omega|(simp only[List.length_nil,List.length_cons];omega)))));refine o_ ak ?_;refine ab ?_;refine o_ ae ?_;refine ab ?_;refine aH ?_;refine ab ?_;(((refine o_ (Sl.cf ?hcq) ?_);(case hcq=>(first|omega|(simp only[List.length_nil,List.length_cons];omega)))));refine o_ ak ?_;refine af ?_;refine aW ?_;refine aq ae .nil ?_;(((refine' aq (aS ?hc) ?hi ?_);(case hi=>exact .pick (by repeat constructor) .nil);(case hc=>repeat constructor)));refine t_ ae ?_;refine cm ?_;refine aq ae .nil ?_;(((refine' aq (aS ?hc) ?hi ?_);(case hi=>exact .pick (by repeat constructor) .nil);(case hc=>repeat constructor)))
  refine' ah (sK (c:=xc) hX hx0 (by have:=hXk.1;omega)) ?hp fun q=>?_
  case hp=>(repeat(first|exact Picks.nil|(apply Picks.cons;(focus repeat constructor))))
  obtain⟨qa,qc⟩:=q
  refine am ?_
  (try dsimp only)
  (repeat((refine' cB (aN ?hcs) ?_);(case hcs=>(repeat(first|exact .refl|exact .nil|(apply Imp.pick;(focus ((repeat constructor);done)))|refine .drop ?_)))))
  refine' ah (Bu (c:=dc) hD hd0 (by omega)) ?hp fun q=>?_
  case hp=>(repeat(first|exact Picks.nil|(apply Picks.cons;(focus repeat constructor))))
  obtain⟨pa,pc⟩:=q
  refine am ?_
  (try dsimp only)
  (repeat((refine' cB (aN ?hcs) ?_);(case hcs=>(repeat(first|exact .refl|exact .nil|(apply Imp.pick;(focus ((repeat constructor);done)))|refine .drop ?_)))))
  refine t_ bO ?_;refine aX fun g=>?_;refine t_ ag (t_ ae (bR ?_))
  rename Nat=>g
  subst han
  refine Fh (sb:=g8 sa i ⟨st,fl,X,D⟩) (A:=A) (T:=T) (i:=i) (g:=g) (f:=f) (x:=(qa,qc)) (d:=(pa,pc)) fR (by unfold ed um;(repeat constructor)) (by unfold nJ Do;(repeat constructor)) (by repeat constructor) (by repeat constructor) ?_
  refine Fg (sa:=sa) hi (fun j hne=>(fU hne).symm) .here (by repeat constructor) ?_
  refine iv (by repeat constructor) ?_
  refine' ah (sS (c:=c) (lo:=lo) (n:=n) (A:=A) (T:=T) (sa:=g8 sa i ⟨st,fl,X,D⟩) (O:=O) (r:=(some ⟨G,oG,none⟩,rc)) (o:=o) ?h1 ?h2 ?h3 ?h4 ?h5 ?h6 ?h7 ?h8 ?h9 hOl) ?hp fun x=>?_
  case hp=>
   unfold kf nQ
   rw[<- hR,hq]
   (repeat(first|exact Picks.nil|(apply Picks.cons;(focus repeat constructor))))
  case h1=>omega
  case h2=>exact hn
  case h3=>rfl
  case h4=>exact hrd
  case h5=>exact hbg
  case h6=>exact ho
  case h7=>
   intro j b hb
   by_cases c:j=i
   ·subst c
    rw[fR]at hb
    obtain rfl:=Option.some.inj (Option.some.inj hb)
    exact ha
   ·rw[fU c]at hb;exact hsa j b hb
  case h8=>
   intro j hj
   rw[fU (by omega)];exact hlo j hj
  case h9=>
   intro j h1 h2
   by_cases c:j=i
   ·subst c;rw[fR];exact fun h=>by cases h
   ·rw[fU c];exact hhi j h1 h2
  refine am ?_
  refine aR x ?_
  exact az
 ·refine o_ (Sl.eI (by omega)) ?_
  refine o_ ak (aC (aC (aC (aC (aC (o_ av (aC (aC (aC (o_ av (aC (aC (aC (o_ av (ai (bP ?_))))))))))))))))
  refine aZ (m-1) (by omega) (.pu ⟨q+1,by omega,by norm_cast⟩ ?_)
  exact az
def u6:Sa:=fun _=>some none
theorem Jv:∀k lo,cY u6 k lo=(lo,[])
 |0,_=>rfl
 |_+1,_=>rfl
theorem Jw {sa:Sa}:jk 0 sa=sa:=by funext i;exact ee (by omega)
def dH (A:Nat->Nat)(i g:Nat):Nat->Nat:=fun j=>if j=i then g else A j
theorem nj {A:Nat->Nat}{i g:Nat}:dH A i g i=g:=if_pos rfl
theorem kE {A:Nat->Nat}{i j g:Nat}(h:j≠i):dH A i g j=A j:=if_neg h
theorem Qy {A:Nat->Nat}{n g:Nat}:(List.range' 0 (n+1-0)).map (dH A n g)=(List.range' 0 (n-0)).map A++[g]:=by
 rw[Nat.sub_zero,Nat.sub_zero,List.range'_concat,List.map_append]
 congr 1
 ·exact List.map_congr_left fun j hj=>kE (by have:=List.mem_range'.1 hj;omega)
 ·simp[dH]
theorem Cz {W:World}{L L1 L2 L3:List HP}{A:Nat->Nat}{T:Nat->List UInt8}{n g:Nat}{r f:AC}{S:WP}(p:Pick L (nQ r ((List.range' 0 (n-0)).map A++[g])) L1)(q:Pick L1 (jD A T n u6) L2)(u:Pick L2 (ed g (n:Int) (T n) f (.pointer none)) L3)(h:aJ W (kf (dH A n g) r 0 (n+1)::jD (dH A n g) T (n+1) u6::L3) S):aJ W L S:=by
 unfold kf at h
 rw[Qy]at h
 refine bf (.pick p (lK (F:=fu A T u6) (fun j hj=>?_) (.pick q ?_))) h
 ·unfold fu u6
  rw[kE (by omega)]
 ·have e:fu (dH A n g) T u6 n=ex fun f:AC=>ed g (n:Int) (T n) f (.pointer none):=by unfold fu u6;rw[nj]
  rw[e]
  exact .ex f (.pick u .refl)
def CnS.inpN (s:CnS)(c n:Nat)(now:Int)(t:List UInt8)(x:(Nat × Nat × AC × Rq) × ((AC × AC) × Bool))(m:Nat):CnS:={(({s with ck:=now}:CnS).took c n t x.1.1 x.1.2.1 x.1.2.2.1 x.1.2.2.2).wroteG m (n+1) x.2.1 x.2.2 with ev:= .slice none 0 0}
theorem Fi {W:World}[hG:Gl W][hP:Gp W]{c H n:Nat}{s:CnS}{now:Int}{b t O:List UInt8}{r o:AC}{A:Nat->Nat}{T:Nat->List UInt8}{a:Option Addr}{cap:Nat}{AB:HP}(hA:RdB W AB a b.length (b.map Sl.B))(hr:PF b t)(hcap:b.length<=cap)(hT:T n=t)(hn63:n<63)(hn:s.nx=Il c)(hh:s.hd=pC H)(hrd:s.rd=true)(hev:s.ev= .slice none 0 0)(hrow:s.row= .slice r.1 n r.2)(hnu:s.nu=(n:Int))(hb0:0<=s.bo)(hb:s.bo<=1048576)(hck:s.ck<=now)(hnow:now<=1099511627776)(ho:s.out= .slice o.1 O.length o.2)(hOl:O.length<=1000000000):
  Cn p_ 33 [pC c,.slice a b.length cap,.int .i64 now] W [cD c s,BB s.rr,cV H (ef false),AB,kf A r 0 n,jD A T n u6,q4 o O] (fun x:(Nat × Nat × AC × Rq) × ((AC × AC) × Bool)=> .slice x.1.2.2.2.e.1 1 x.1.2.2.2.e.2)
   (fun x=>[cD c (s.inpN c n now t x O.length),cV x.1.1 (ef false),BB (pC x.1.2.1),AB,mX x.1.2.2.2.f,Sl 6 96 x.1.2.2.2.e.1 x.1.2.2.2.e.2 1 (yP (n:Int) t x.1.2.2.2.f x.1.2.2.2.g),kf (dH A n x.1.2.2.2.a) x.2.1.2 0 (n+1),jD (dH A n x.1.2.2.2.a) T (n+1) u6,q4 x.2.1.1 O]):=by
 (refine Shp.cn (Sg.g_ Tryz.call33 Tryz.func33 (an:={loops:=[(4,[1])]})) fun F=>?_;simp only[ca_,na_])
 have hb1:=hr.2.1
 refine' ah (t6 (c:=c) hn) ?hp fun _=>?_
 case hp=>(repeat(first|exact Picks.nil|(apply Picks.cons;(focus repeat constructor))))
 refine am ?_
 refine af ?_
 refine' ah (A9 (c:=c) hck hnow) ?hp fun _=>?_
 case hp=>(repeat(first|exact Picks.nil|(apply Picks.cons;(focus repeat constructor))))
 refine am ?_
 obtain⟨ps,hps⟩:∃ps,ps=(List.range' 0 (n-0)).map A:=⟨_,rfl⟩
 have hpl:ps.length=n:=by rw[hps];simp
 unfold kf
 rw[<- hps]
 refine aY (fun m y=>match m with|0=>[ex fun x:AC × (Nat × Nat × AC × Rq)=>all (pu (y= .slice x.1.1 0 x.1.2)::cD c (({s with ck:=now}:CnS).took c n t x.2.1 x.2.2.1 x.2.2.2.1 x.2.2.2.2)::cV x.2.1 (ef false)::BB (pC x.2.2.1)::AB::jD A T n u6::q4 o O::ME s.nu t x.2.2.2.1 ps x.2.2.2.2)]++F|_=>pu (y= .slice a b.length cap)::cD c {s with ck:=now}::BB s.rr::cV H (ef false)::AB::nQ r ps::jD A T n u6::q4 o O::F) 1 ?_ ?_
 ·exact .pu rfl az
 intro m ds y
 cases m with
 |succ m=>
  refine aT .here fun hy=>?_
  subst hy
  cases s
  rename_i bo ke ck si rd bg nx hd rr ln q0 q1 q2 q3 got ev row nu out
  (try dsimp only at *)
  subst hn hh hrd hev hrow
  (unfold cD oB;(try dsimp only))
  refine o_ ag (o_ ae (aH ?_));refine ab (ab (o_ aI (ab ?_)));(((refine o_ (Sl.gi ?hcq) ?_);(case hcq=>(first|omega|(simp only[List.length_nil,List.length_cons];omega)))));refine o_ av (ai (iv (by repeat constructor) ?_))
  refine' ah (PR (c:=c) (H:=H) (t:=t) (r:=r) (ps:=ps) hA hr hcap ?h1 ?h2 ?h3 ?h4 ?h5 ?h6 ?h7 ?h8 ?h9 ?h10) ?hp fun x=>?_
  case hp=>(repeat(first|exact Picks.nil|(apply Picks.cons;(focus repeat constructor))))
  case h1=>rfl
  case h2=>rfl
  case h3=>rfl
  case h4=>rfl
  case h5=>rw[hpl]
  case h6=>omega
  case h7=>exact hnu▸Int.natCast_nonneg n
  case h8=>show nu<=1000000;omega
  case h9=>exact hb0
  case h10=>exact hb
  rw[hpl]
  refine aZ 0 (by omega) (.ex x (.all ?_))
  refine am ?_
  exact .pu rfl az
 |zero=>
  refine a8 .here fun x=>aB .here ?_
  refine am ?_
  refine aT .here fun hy=>?_
  obtain⟨⟨xa,xc⟩,H2,R,f,x⟩:=x
  (try dsimp only at hy ⊢)
  subst hy
  unfold ME
  rw[hps,hnu,<- hT]
  refine am ?_
  (try dsimp only)
  refine Cz (by repeat constructor) (by repeat constructor) (by repeat constructor) ?_
  cases s
  rename_i bo ke ck si rd bg nx hd rr ln q0 q1 q2 q3 got ev row nu out
  (try dsimp only at *)
  unfold CnS.took
  (try dsimp only)
  (unfold cD oB;(try dsimp only))
  refine o_ ag (o_ ae (aH ?_));refine ab (ab (o_ aI (ab ?_)));(((refine o_ (Sl.cf ?hcq) ?_);(case hcq=>(first|omega|(simp only[List.length_nil,List.length_cons];omega)))));refine o_ av (af (iv (by repeat constructor) ?_))
  refine' ah (sS (c:=c) (lo:=0) (n:=n+1) (A:=dH A n x.a) (T:=T) (sa:=u6) (O:=O) (r:=x.r) (o:=o) ?h1 ?h2 ?h3 ?h4 ?h5 ?h6 ?h7 ?h8 ?h9 hOl) ?hp fun y=>?_
  case hp=>(repeat(first|exact Picks.nil|(apply Picks.cons;(focus repeat constructor))))
  case h1=>omega
  case h2=>omega
  case h3=>rfl
  case h4=>rfl
  case h5=>rfl
  case h6=>exact ho
  case h7=>exact fun i a h=>by cases h
  case h8=>exact fun i h=>absurd h (by omega)
  case h9=>exact fun i _ _ h=>by cases h
  rw[Jv,Jw,List.append_nil]
  refine am ?_
  (try dsimp only)
  unfold CnS.wroteG
  (try dsimp only)
  (unfold cD oB;(try dsimp only))
  refine o_ ag (o_ ae (aH ?_));refine o_ ag (o_ ae (bR ?_))
  have hsi:(if y.2=true then now else now)=now:=by split <;> rfl
  rw[hsi]
  refine bK ((H2,R,f,x),y) rfl ?_
  unfold CnS.inpN CnS.wroteG CnS.took
  (try dsimp only)
  rw[hsi,hnu]
  unfold kf
  exact az
structure SaOk (n lo:Nat)(O:List UInt8)(sa:Sa):Prop where
 c1:lo<=n
 c2:n<=60
 ok:∀i a,sa i=some (some a)->AnOk a
 b:∀i,i<lo->sa i=none
 h:∀i,lo<=i->i<n->sa i≠none
 w:lo<n->sa lo=some none
 ol:O.length<=2000000 * lo
theorem CA {sa:Sa}(ok:∀i a,sa i=some (some a)->AnOk a):∀k lo,lo<=(cY sa k lo).1/\(cY sa k lo).1<=lo+k/\((cY sa k lo).1<lo+k->∀a,sa (cY sa k lo).1≠some (some a))/\(cY sa k lo).2.length+2000000 * lo<=2000000 * (cY sa k lo).1
 |0,lo=>⟨Nat.le_refl _,Nat.le_refl _,fun h=>absurd h (by simp[cY]),by simp[cY]⟩
 |k+1,lo=>by
  cases h:sa lo with
  |none=>
   simp only[cY,h]
   exact⟨Nat.le_refl _,by omega,(fun _ a e=>by cases e),(by simp)⟩
  |some z=>
   cases z with
   |none=>
    simp only[cY,h]
    exact⟨Nat.le_refl _,by omega,(fun _ a e=>by cases e),(by simp)⟩
   |some a=>
    obtain⟨h1,h2,h3,h4⟩:=CA ok k (lo+1)
    have:=Cv (ok lo a h)
    simp only[cY,h,List.length_append]
    exact⟨by omega,by omega,fun hx=>h3 (by omega),by omega⟩
def uO (n lo:Nat)(sa:Sa)(i:Nat)(a:An):Nat:=(cY (g8 sa i a) (n-lo) lo).1
def aO (n lo:Nat)(O:List UInt8)(sa:Sa)(i:Nat)(a:An):List UInt8:=O++(cY (g8 sa i a) (n-lo) lo).2
def Fj (n lo:Nat)(sa:Sa)(i:Nat)(a:An):Sa:=jk (uO n lo sa i a) (g8 sa i a)
theorem Fk {sa:Sa}{i:Nat}{a:An}(ok:∀i a,sa i=some (some a)->AnOk a)(ha:AnOk a):∀j b,g8 sa i a j=some (some b)->AnOk b:=fun j b hb=>by
 by_cases c:j=i
 ·subst c
  rw[fR]at hb
  obtain rfl:=Option.some.inj (Option.some.inj hb)
  exact ha
 ·rw[fU c]at hb;exact ok j b hb
theorem SaOk.adv {n lo i:Nat}{O:List UInt8}{sa:Sa}{a:An}(h:SaOk n lo O sa)(h1:lo<=i)(h2:i<n)(ha:AnOk a):SaOk n (uO n lo sa i a) (aO n lo O sa i a) (Fj n lo sa i a):=by
 have ok:=Fk (i:=i) h.ok ha
 obtain⟨b1,b2,b3,b4⟩:=CA ok (n-lo) lo
 have hlo:=h.c1
 have hol:=h.ol
 have hsome:∀j,lo<=j->j<n->g8 sa i a j≠none:=fun j h1 h2=>by
  by_cases c:j=i
  ·subst c;rw[fR];exact fun h=>by cases h
  ·rw[fU c];exact h.h j h1 h2
 exact{
  c1:=by unfold uO;omega
  c2:=h.c2
  ok:=fun j b hb=>by
   unfold Fj jk at hb
   split at hb
   ·cases hb
   ·exact ok j b hb
  b:=fun j hj=>fT hj
  h:=fun j h1 h2=>by
   unfold Fj
   rw[ee (by omega)]
   exact hsome j (by unfold uO at h1;omega) h2
  w:=fun hl=>by
   unfold Fj
   rw[ee (by omega)]
   have hn:=hsome (uO n lo sa i a) (by unfold uO;omega) hl
   have hs:=b3 (by unfold uO at hl;omega)
   unfold uO at *
   match hz:g8 sa i a (cY (g8 sa i a) (n-lo) lo).1 with
   |none=>exact absurd hz hn
   |some none=>rfl
   |some (some b)=>exact absurd hz (hs b)
  ol:=by unfold aO uO;rw[List.length_append];omega}
structure CnF (c n lo:Nat)(O:List UInt8)(now:Int)(cn:CnS)(r o:AC):Prop where
 nx:cn.nx=Il c
 rd:cn.rd=true
 bg:cn.bg=false
 row:cn.row= .slice r.1 (n-lo) r.2
 out:cn.out= .slice o.1 O.length o.2
 ke:cn.ke=75
 si0:0<=cn.si
 si1:cn.si<=cn.ck
 ck:cn.ck<=now
 sk:now<=784111777->now-cn.si<=60
def xQ (c n:Nat)(A:Nat->Nat)(T:Nat->List UInt8)(lo:Nat)(O:List UInt8)(sa:Sa)(now:Int):HP:=ex fun x:CnS × AC × AC=>all [pu (CnF c n lo O now x.1 x.2.1 x.2.2),cD c x.1,kf A x.2.1 lo n,q4 x.2.2 O,jD A T n sa]
def Jx (k:Nat)(id:Int)(t:List UInt8)(f b:AC)(g:Nat)(tv:List Value)(ho pa ke:List UInt8)(lo se:List Value)(tr:Int):List Value:=[pC k,.int .i64 id,ay cU,ay t,.int .i64 1,.slice f.1 1 f.2,.slice b.1 0 b.2,pC g]++tv++[ay ho,ay pa,ay ke]++lo++se++[.bool false,.int .i64 tr]
def eV (j k:Nat)(id:Int)(t:List UInt8)(f b:AC)(g:Nat)(tv:List Value)(ho pa ke:List UInt8)(lo se:List Value)(tr:Int):HP:=pt j (.cells (Jx k id t f b g tv ho pa ke lo se tr).toArray 103)
def MI (now:Int)(nm ho t:List UInt8)(st:Int)(n:Nat)(wd:List UInt8):En:=⟨now,nm,cU,ho,t,st,(n:Int),wd⟩
theorem uP {W:World} [hG:Gl W] [hP:Gp W] {v w gn j k c lgx m n lq i:Nat} {s:SvS} {now:Int} {nm t wd ho pa ke O:List UInt8} {f b xx dd:AC} {jb:Value} {tv lo se:List Value} {tr:Int} {A:Nat->Nat} {T:Nat->List UInt8} {sa:Sa} {a:An} {AX AD:HP} (htv:tv.length=6) (hsw:s.w=w) (hlg:s.lg=pC lgx) (hs:SaOk n lq O sa) (hln:lq<=i) (hi:i<n) (hsi:sa i=some none) (ha:AnOk a)
  (hX:gX W AX xx.1 a.X) (hx0:xx.1=none->a.X=[]) (hD:RdB W AD dd.1 a.D.length (a.D.map Sl.B)) (hd0:dd.1=none->a.D=[])
  (he:EnOk (MI now nm ho t a.st a.D.length wd)) (hl:(l_ (MI now nm ho t a.st a.D.length wd)).length<=250) (hm:m<=200):
  Cn p_ 38 [pC v,pC j,.agg (Do a xx dd).toArray,ay wd] W [ci v s,eV j k (i:Int) t f b gn tv ho pa ke lo se tr,eF k c nm jb,xQ c n A T lq O sa now,AX,AD,jH w now,m6 lgx m] (fun _:Unit=> .tuple #[])
   (fun _=>[ci v s,eV j k (i:Int) t f b gn tv ho pa ke lo se tr,eF k c nm jb,xQ c n A T (uO n lq sa i a) (aO n lq O sa i a) (Fj n lq sa i a) now,AX,AD,jH w now,m6 lgx (m+1)]):=by
 obtain⟨t0,t1,t2,t3,t4,t5,rfl⟩:∃a b c d e f,tv=[a,b,c,d,e,f]:=by
  match tv,htv with
  |[a,b,c,d,e,f],_=>exact⟨a,b,c,d,e,f,rfl⟩
 have hol:=hs.ol
 have hn:=hs.c2
 have hlo:=hs.c1
 obtain⟨st,fl,X,D⟩:=a
 (refine Shp.cn (Sg.g_ Tryz.call38 Tryz.func38 (an:={drs:=[(1,.ofL [(0,1),(1,1),(2,1),(3,1),(4,1),(5,1),(6,1),(7,1),(8,1),(9,1),(10,1),(11,1),(12,1),(13,0)]),(2,.ofL [(0,2),(1,3),(2,3),(3,3),(4,1),(5,1),(6,1),(7,1),(9,2),(10,3),(11,3),(12,3),(13,3),(14,3),(15,3),(16,2),(17,3),(18,3),(19,3),(20,3),(21,3),(22,2),(23,3),(24,3),(25,3),(26,2),(27,3),(28,3),(29,3),(30,3),(31,3),(32,3),(33,3),(34,3),(35,3),(36,3),(37,2),(8,0),(38,1),(39,0)])]}) (os:=[(2,[(8,[36,35,34,33,32,31,30,29,28,27,25,24,23,21,20,19,18,17,15,14,13,12,11,10,3,2,1])])])) fun F=>?_;simp only[ca_,na_])
 refine aX fun x6=>?_
 subst hsw
 cases s
 (try dsimp only at *)
 subst hlg
 unfold ci nF eV Jx eF
 refine am ?_
 (try dsimp only)
 refine a8 (by(repeat constructor):Pick _ (xQ c n A T lq O sa now) _) fun x=>aB .here ?_
 obtain⟨cn,r,o⟩:=x
 refine am ?_
 refine aT .here fun h=>?_
 obtain⟨hnx,hrd,hbg,hrow,hout,hke,hs0,hs1,hck,hsk⟩:=h
 (try dsimp only at hnx hrd hbg hrow hout hke hs0 hs1 hck hsk ⊢)
 unfold Do
 refine aW (t_ ag (t_ ae (cm ?_)));refine t_ ag (t_ ae (cm ?_));refine t_ ag (t_ ae (t_ dm (cm ?_)));(((refine' be (bN ?hn) ?hi ?_);(case hi=>exact .pick (by repeat constructor) .nil);(case hn=>rfl)))
 refine' ah (Cy (c:=c) (lo:=lq) (n:=n) (i:=i) (s:=cn) (A:=A) (T:=T) (sa:=sa) (O:=O) (r:=r) (o:=o) (xx:=xx) (dd:=dd) (a:=⟨st,fl,X,D⟩) hnx hln hi (by omega) hrow hrd hbg hout hs.ok hs.b hs.h hsi (by omega) ha hX hx0 hD hd0) ?hp fun x=>?_
 case hp=>(repeat(first|exact Picks.nil|(apply Picks.cons;(focus repeat constructor))))
 refine am ?_
 refine bf (M:=xQ c n A T (uO n lq sa i ⟨st,fl,X,D⟩) (aO n lq O sa i ⟨st,fl,X,D⟩) (Fj n lq sa i ⟨st,fl,X,D⟩) now::_) (.ex (cn.wroteG (aO n lq O sa i ⟨st,fl,X,D⟩).length (n-uO n lq sa i ⟨st,fl,X,D⟩) x.1 x.2,x.1.2,x.1.1) (.all (.pu ⟨hnx,hrd,hbg,rfl,rfl,hke,by unfold CnS.wroteG;dsimp only;split <;> omega,by unfold CnS.wroteG;dsimp only;split <;> omega,hck,by unfold CnS.wroteG;dsimp only;split <;> omega⟩ (.pick .here (.pick (.there .here) (.pick .here (.pick .here .refl))))))) ?_
 refine aW (aq ag .nil ?_);refine aq ae .nil ?_;(((refine' aq (aS ?hc) ?hi ?_);(case hi=>exact .pick (by repeat constructor) .nil);(case hc=>repeat constructor)));refine t_ ag (t_ ae (cm ?_));refine aq ag .nil ?_;refine aq ae .nil ?_;(((refine' aq (aS ?hc) ?hi ?_);(case hi=>exact .pick (by repeat constructor) .nil);(case hc=>repeat constructor)));refine aq ag .nil ?_;refine aq ae .nil ?_;(((refine' aq (aS ?hc) ?hi ?_);(case hi=>exact .pick (by repeat constructor) .nil);(case hc=>repeat constructor)));refine aq ag .nil ?_;refine aq ae .nil ?_;refine aq dm .nil ?_;refine aq dm .nil ?_;(((refine' aq (aS ?hc) ?hi ?_);(case hi=>exact .pick (by repeat constructor) .nil);(case hc=>repeat constructor)));refine aq ag .nil ?_;refine aq ae .nil ?_;(((refine' aq (aS ?hc) ?hi ?_);(case hi=>exact .pick (by repeat constructor) .nil);(case hc=>repeat constructor)));refine aq ag .nil ?_;refine aq ae .nil ?_;refine aq dm .nil ?_;refine aq dm .nil ?_;(((refine' aq (aS ?hc) ?hi ?_);(case hi=>exact .pick (by repeat constructor) .nil);(case hc=>repeat constructor)));refine aq ae .nil ?_;(((refine' aq (aS ?hc) ?hi ?_);(case hi=>exact .pick (by repeat constructor) .nil);(case hc=>repeat constructor)));refine aq ae .nil ?_;(((refine' aq (aS ?hc) ?hi ?_);(case hi=>exact .pick (by repeat constructor) .nil);(case hc=>repeat constructor)));refine aq aI .nil ?_
 refine c_ mZ fun _=>?_
 (repeat((refine' cB (aN ?hcs) ?_);(case hcs=>(repeat(first|exact .refl|exact .nil|(apply Imp.pick;(focus ((repeat constructor);done)))|refine .drop ?_)))))
 refine t_ bO ?_
 refine' ah (EH (e:=MI now nm ho t st D.length wd) he hl hm) ?hp fun _=>?_
 case hp=>(repeat(first|exact Picks.nil|(apply Picks.cons;(focus repeat constructor))))
 refine am ?_
 refine aR () ?_
 exact az
theorem UR {W:World}{L L1 L2:List HP}{Kp:PK}{k:Value->WP}{Y:List FD.Fd}{a:Option Addr}{c g:Nat}(hk:qS Y)(p:Pick L (Sl 2 192 a c Y.length (Y.flatMap cS)) L1)(q:Pick L1 (pt g (.cells #[ay pz] 9)) L2)(h:∀r:AC,aJ W (Sl 2 192 a c Y.length (Y.flatMap cS)::pt g (.cells #[ay pz] 9)::Sl 2 192 r.1 r.2 (dx Y [pz]).length ((dx Y [pz]).flatMap cS)::L2) (k (.slice r.1 (dx Y [pz]).length r.2))):
  aJ W L (opN p_ (bG (fn 110) [.slice a Y.length c,.slice (some ⟨g,0,none⟩) 1 1]) Kp k):=by
 refine aP p fun _ _ _ hs=>?_
 refine ah (ky (l:=Y) (N:=[pz]) (c:=c) (nc:=1) (cJ hs) hk (gP (g:=g) (T:=9) (by rfl)) (by decide) (by decide)) (.cons p (.cons q .nil)) fun r=>?_
 refine am ?_
 exact h r
def nX:List UInt8:=[49,46,49,32,103,97,116,101,104,111,117,115,101]
def nY:List UInt8:=[86,105,97]
def VD (g:Nat):HP:=pt g (.cells #[ay nY,ay nX] 192)
theorem US {W:World}{L:List HP}{Kp:PK}{k:Value->WP}(h:∀g,aJ W (VD g::L) (k (.slice (some ⟨g,0,none⟩) 1 1))):aJ W L (opN p_ (co 46 1 [(0,.agg #[ay nY,ay nX])]) Kp k):=
 dS (n:=1) (vs:=[.agg #[ay nY,ay nX]]) rfl (by decide) rfl (by intro v hv;rw[List.mem_singleton.1 hv];rfl) (by decide) h
theorem Qz {W:World}{L L1 L2:List HP}{Kp:PK}{k:Value->WP}{Y:List FD.Fd}{a:Option Addr}{c g:Nat}(hY:Y.length<=4194304)(p:Pick L (Sl 2 192 a c Y.length (Y.flatMap cS)) L1)(q:Pick L (VD g) L2)(h:∀a' c',aJ W (Sl 2 192 a' c' (Y++[(nY,nX)]).length ((Y++[(nY,nX)]).flatMap cS)::L1) (k (.slice a' (Y++[(nY,nX)]).length c'))):
  aJ W L (opN p_ (ju #[46,46] 46 [.slice a Y.length c,.slice (some ⟨g,0,none⟩) 1 1]) Kp k):=by
 refine bQ (m:=1) (news:=[ay nY,ay nX]) p (bL (s:=2) (e':=192) (by kernel_rfl) q (by rfl) (by intro u hu;simp at hu;rcases hu with rfl|rfl <;> rfl)) (by omega) (by omega) fun a' c'=>?_
 have e1:(Y++[(nY,nX)]).length=Y.length+1:=by simp
 have e2:(Y++[(nY,nX)]).flatMap cS=Y.flatMap cS++[ay nY,ay nX]:=by simp[cS]
 rw[<- e1,<- e2]
 exact h a' c'
def kg (X:List FD.Fd):List FD.Fd:=dx (dX X) [pz]++[(nY,nX)]
structure ToOk (T:Nat)(X:List FD.Fd)(D:List UInt8):Prop where
 cc:bW X mS=[]
 zx:zF X<=2097152
 ks:qS (dX X)
 zh:zF fH<=T
 zs:zF (kg X)<=T
 zd:D.length<=T
theorem QA {P:Program}{W:World}{L:List HP}{Kp:PK}{k:Value->WP}{s t:TypeId}{l m:List UInt8}(h:l=m)(hk:aJ W L (opN P (ei s t (ay m)) Kp k)):aJ W L (opN P (ei s t (ay l)) Kp k):=h▸hk
theorem qx {W:World}{e:Int}:Cn p_ 9 [.int .i64 e] W [] (fun _:Unit=> .int .i64 e) (fun _=>[]):=by
 (refine Shp.cn (Sg.g_ Tryz.call9 Tryz.func9) fun F=>?_;simp only[ca_,na_])
 refine aR () ?_
 exact .refl
theorem uQ {W:World}:Cn p_ 23 [] W [] (fun _:Unit=>ay [13,10]) (fun _=>[]):=by
 (refine Shp.cn (Sg.g_ Tryz.call23 Tryz.func23) fun F=>?_;simp only[ca_,na_])
 refine aR () ?_
 exact .refl
def u7 (r:AC)(b:List UInt8):HP:=jr 1 5 r.1 r.2 b.length (b.map Sl.B)
def zm (t:List UInt8):List UInt8:=[71,69,84,32]++t++[32,72,84,84,80,47,49,46,49,13,10,72,111,115,116,58,32,97,13,10,13,10]
theorem QB {W:World}{t:List UInt8}(hl:t.length<=1000):Cn p_ 11 [ay t,ay []] W [] (fun r:AC=> .slice r.1 (zm t).length r.2) (fun r=>[u7 r (zm t)]):=by
 (refine Shp.cn (Sg.g_ Tryz.call11 Tryz.func11) fun F=>?_;simp only[ca_,na_])
 refine o_ (cA (a:=[71,69,84,32]) (b:=t) (by simp;omega)) ?_
 refine o_ (cA (b:=[32,72,84,84,80,47,49,46,49]) (by simp;omega)) ?_
 refine c_ uQ fun _=>?_
 refine o_ (cA (by simp;omega)) ?_
 refine o_ (cA (b:=[72,111,115,116,58,32,97]) (by simp;omega)) ?_
 refine c_ uQ fun _=>?_
 refine o_ (cA (by simp;omega)) ?_
 refine o_ (cA (b:=[]) (by simp;omega)) ?_
 refine c_ uQ fun _=>?_
 refine o_ (cA (by simp;omega)) ?_
 refine QA (m:=zm t) (by simp[zm]) ?_
 refine iQ Tryz.underlying35 Tryz.underlying5 (by simp[zm];omega) fun rr=>?_
 refine aR rr ?_
 exact .refl
def MJ (a:Int)(n:Nat):List UInt8:=zB++[13,10,67,97,99,104,101,45,67,111,110,116,114,111,108,58,32,109,97,120,45,97,103,101,61]++eg a++[13,10,67,111,110,116,101,110,116,45,76,101,110,103,116,104,58,32]++eg n++[13,10,13,10]
def CB (a:Int)(D:List UInt8):List UInt8:=MJ a D.length++D
theorem CC {W:World}[hP:Gp W]{a:Int}{D:List UInt8}(h0:0<=a)(h9:a<=9)(hD:D.length<=1000):Cn p_ 16 [.int .i64 a,ay D] W [] (fun r:AC=> .slice r.1 (CB a D).length r.2) (fun r=>[u7 r (CB a D)]):=by
 have d1:=eL (i:=a) (by omega) (by omega)
 have d2:=eL (i:=(D.length:Int)) (by omega) (by omega)
 (refine Shp.cn (Sg.g_ Tryz.call16 Tryz.func16) fun F=>?_;simp only[ca_,na_])
 refine c_ uQ fun _=>?_
 refine o_ (cA (a:=zB) (by decide)) ?_
 refine o_ (cA (b:=[67,97,99,104,101,45,67,111,110,116,114,111,108,58,32,109,97,120,45,97,103,101,61]) (by decide)) ?_
 refine c_ (fP (i:=a) (by omega) (by omega)) fun _=>?_
 refine o_ (cA (by simp[zB];omega)) ?_
 refine c_ uQ fun _=>?_
 refine o_ (cA (by simp[zB];omega)) ?_
 refine o_ (cA (b:=[67,111,110,116,101,110,116,45,76,101,110,103,116,104,58,32]) (by simp[zB];omega)) ?_
 refine o_ bu (c_ (fP (i:=(D.length:Int)) (by omega) (by omega)) fun _=>?_)
 refine o_ (cA (by simp[zB];omega)) ?_
 refine c_ uQ fun _=>?_
 refine o_ (cA (by simp[zB];omega)) ?_
 refine c_ uQ fun _=>?_
 refine o_ (cA (by simp[zB];omega)) ?_
 refine o_ (cA (by simp[zB];omega)) ?_
 refine QA (m:=CB a D) (by simp[CB,MJ]) ?_
 refine iQ Tryz.underlying35 Tryz.underlying5 (by simp[CB,MJ,zB];omega) fun rr=>?_
 refine aR rr ?_
 exact .refl
def CD:List UInt8:=[59,32,125,32,115,101,114,118,101,114,32,123,32,108,111,99,97,116,105,111,110,32,47,32,123,32,114,101,116,117,114,110,32,50,48,48,32,104,101,114,101,59,32,125,32,108,111,99,97,116,105,111,110,32,47,97,112,105,32,123,32,112,114,111,120,121,32,117,112,59,32,99,97,99,104,101,59,32,125,32,125]
theorem zn (d t r:List UInt8):j6 d t r=[115,116,111,114,101,32]++d++[59,32,117,112,115,116,114,101,97,109,32,117,112,32,123,32,112,101,101,114,32,49,32,54,52,59,32,116,105,109,101,111,117,116,32]++t++[59,32,114,101,116,114,105,101,115,32]++r++CD:=rfl
theorem GS {W : World} [hP : Gp W] {a b c : Int} (ha : 0 <= a) (ha' : a <= 9999) (hb : 0 <= b) (hb' : b <= 9999) (hc : 0 <= c) (hc' : c <= 9999) : Cn p_ 6 [.int .i64 a, .int .i64 b, .int .i64 c] W [] (fun _ : Unit => ay (j6 (eg c) (eg a) (eg b))) (fun _ => []) := by
 have d1 := eL (i := a) (by omega) (by omega)
 have d2 := eL (i := b) (by omega) (by omega)
 have d3 := eL (i := c) (by omega) (by omega)
 (refine Shp.cn (Sg.g_ Tryz.call6 Tryz.func6) fun F => ?_; simp only [ca_, na_])
 (refine' ah (fP (i := c) (by omega) (by omega)) ?hp fun _ => ?_; (case hp => (repeat (first | exact Picks.nil | (apply Picks.cons; (focus repeat constructor))))); (try simp only [ca_, na_, Bool.not_true, Bool.not_false]))
 refine aE (cA (a := [115, 116, 111, 114, 101, 32]) (by simp; omega)) .nil ?_
 refine aE (cA (b := [59, 32, 117, 112, 115, 116, 114, 101, 97, 109, 32, 117, 112, 32, 123, 32, 112, 101, 101, 114, 32, 49, 32, 54, 52, 59, 32, 116, 105, 109, 101, 111, 117, 116, 32]) (by simp; omega)) .nil ?_
 (refine' ah (fP (i := a) (by omega) (by omega)) ?hp fun _ => ?_; (case hp => (repeat (first | exact Picks.nil | (apply Picks.cons; (focus repeat constructor))))); (try simp only [ca_, na_, Bool.not_true, Bool.not_false]))
 refine aE (cA (by simp; omega)) .nil ?_
 refine aE (cA (b := [59, 32, 114, 101, 116, 114, 105, 101, 115, 32]) (by simp; omega)) .nil ?_
 (refine' ah (fP (i := b) (by omega) (by omega)) ?hp fun _ => ?_; (case hp => (repeat (first | exact Picks.nil | (apply Picks.cons; (focus repeat constructor))))); (try simp only [ca_, na_, Bool.not_true, Bool.not_false]))
 refine aE (cA (by simp; omega)) .nil ?_
 refine aE (cA (b := CD) (by simp; show _ <= _; rw [show CD.length = 81 from rfl]; omega)) .nil ?_
 refine bK () (by rw [zn]; simp) ?_
 exact .refl
theorem CE {W:World}{x i gn st:Nat}{jb:Value}{r:Ln}{q:Ca}{pa:AC}{m:Value}{us:Int}(h0: -1000<=us)(h1:us<=1000):Cn p_ 103 [pC x] W [cE x i gn jb r,dB gn st q pa m (us+1)] (fun _:Unit=>jb) (fun _=>[cE x i gn (.pointer none) r,dB gn st q pa m us]):=by
 (refine Shp.cn (Sg.g_ Tryz.call103 Tryz.func103) fun F=>?_;simp only[ca_,na_])
 unfold cE nW dB wk
 refine o_ ag (o_ ae (aH ?_));refine o_ ag (o_ ae (bR ?_));refine o_ ag (o_ ae (aH ?_));refine o_ ag (o_ ae (aH ?_));refine rZ ?_;refine o_ ag (o_ ae (bR ?_))
 rw[show us+1-1=us by omega]
 refine aR () ?_
 exact az
theorem CF {W:World}{x i gn st p:Nat}{jb:Value}{r:Ln}{q:Ca}{pa:AC}{m:Value}{us:Int}:Cn p_ 100 [pC x] W [cE x i gn jb r,dB gn st q pa m us,nH pa p] (fun _:Unit=>pC p) (fun _=>[cE x i gn jb r,dB gn st q pa m us,nH pa p]):=by
 (refine Shp.cn (Sg.g_ Tryz.call100 Tryz.func100 (an:={drs:=[(1,.ofL [(0,1),(1,1),(2,1),(3,1),(4,1),(5,1),(6,1),(7,1),(8,1),(9,1),(10,1),(11,1),(12,1),(13,1)])]})) fun F=>?_;simp only[ca_,na_])
 obtain⟨pa,pc⟩:=pa
 unfold cE nW dB wk nH
 (try dsimp only)
 refine a9 (by(repeat constructor):Pick _ (Sl 1 216 pa pc 1 _) _) (by decide) fun G hG=>?_
 subst hG
 refine aW (t_ ag (t_ ae (cm ?_)));refine t_ ag (t_ ae (cm ?_));refine t_ ag (t_ ae (cm ?_));(((refine' be (bq 0 rfl ?hcq) .nil ?_);(case hcq=>(first|omega|decide|(simp;done)))));(((refine' be (bw ?hc) ?hi ?_);(case hi=>exact az);(case hc=>rfl)))
 refine aR () ?_
 exact az
def fw (ls:Nat->Nat)(i v:Nat):Nat->Nat:=fun j=>if j=i then v else ls j
theorem dC {ls:Nat->Nat}{i v:Nat}:fw ls i v i=v:=if_pos rfl
theorem eM {ls:Nat->Nat}{i j v:Nat}(h:j≠i):fw ls i v j=ls j:=if_neg h
def uR (ls:Nat->Nat)(i:Nat):Nat->Nat:=fw ls i 2
def rA (ls:Nat->Nat)(i:Nat)(L:List Nat):List Nat:=L.filter fun j=>fw ls i 2 j=1
theorem Jy {W:World}{b3 k gn n i j:Nat}{X J:Nat->Nat}{T:Nat->List UInt8}{now:Int}{ls:Nat->Nat}(hi:i<n)(hj:j<n)(hsi:ls i=2)(hsj:ls j=1\/ls j=2):Cn p_ 122 ([pC (X j)]++[.pointer (some ⟨b3,0,none⟩)]) W [all [pt b3 (.cells #[pC (X i)] 115),et X J T k gn now n ls]] (fun _:Unit=> .bool (decide (ls j≠1))) (fun _=>[all [pt b3 (.cells #[pC (X i)] 115),et X J T k gn now n ls]]):=by
 (refine Shp.cn (Sg.g_ Tryz.call122 Tryz.func122 (an:={drs:=[(1,.ofL [(0,1),(1,1),(2,1),(3,1),(4,1),(5,1),(6,1),(7,1),(8,1),(9,1),(10,1),(11,1),(12,1),(13,1),(14,1),(15,1),(16,1),(17,1),(18,1),(19,1),(20,1),(21,1),(22,1),(23,1),(24,1),(25,1),(26,1),(27,1),(28,1),(29,1),(30,1),(31,1),(32,1),(33,1),(34,1),(35,1),(36,1),(37,1),(38,1),(39,1),(40,1),(41,1),(42,1),(43,1),(44,1),(45,1)])]})) fun F=>?_;simp only[ca_,na_])
 refine aB (by repeat constructor) ?_
 refine am ?_
 refine aW (cm ?_)
 refine be (Fc (T:=T) (J:=J) (k:=k) (gn:=gn) (now:=now) (ls:=ls) hi hj (by omega) (by omega)) az ?_
 by_cases hc:j=i
 ·subst hc
  rw[dT_ rfl,hsi]
  refine aC (aC (aC (aC (aC (aC (bT (bT (bT (bT (bT (bT (bT (bT (bT (aC (aC (bT (bT (bT (bT (bT (bT (bT (bT (bT (aC (aC (bT (bT (bT (bT (bT (bT (bT (bT (bT (bT (bT (aC (t_ av (aR () ?_)))))))))))))))))))))))))))))))))))))))))
  refine .all ?_
  refine am ?_
  exact az
 rw[dF_ hc]
 refine ab (ab (t_ ag (ab (t_ ae (ab (be (Cr (T:=T) (J:=J) (n:=n) (k:=k) (gn:=gn) (now:=now) (ls:=ls) hj (by omega)) az ?_))))))
 rcases hsj with hsj|hsj
 ·rw[if_pos hsj,hsj]
  refine ab (t_ bM ?_);refine ab (aj (aj (aj (aj (aj (aj (aj (aj (aj (ab (t_ ak (ab (aj (aj (aj (aj (aj (aj (aj (aj (aj (ab (t_ ak (ab (aj (aj (aj (aj (aj (aj (aj (aj (aj (aj (aj (ab (t_ ak (t_ ak (aR () ?_)))))))))))))))))))))))))))))))))))))))
  refine .all ?_
  refine am ?_
  exact az
 ·rw[if_neg (by omega),hsj]
  refine ab (t_ iG ?_);refine ab (ab (ab (t_ ag (ab (t_ ae (ab (be (nI (n:=n) (T:=T) (J:=J) (k:=k) (gn:=gn) (now:=now) (ls:=ls) (i:=j) (off:=2) (v:=pC gn) hj (by omega) (fun _ _ _ _ _ _ _ _=>by repeat constructor)) az ?_)))))))
  refine ab (cm ?_);refine ab (t_ ag (ab (t_ ae (ab (be (nI (n:=n) (T:=T) (J:=J) (k:=k) (gn:=gn) (now:=now) (ls:=ls) (i:=i) (off:=2) (v:=pC gn) hi (by omega) (fun _ _ _ _ _ _ _ _=>by repeat constructor)) az ?_)))))
  refine ab (t_ (PM (t:=64) (e:=84) (j:=Tryz.t84) (by kernel_rfl) (by kernel_rfl)) ?_)
  refine ab (t_ av (ab (ab (ab (t_ ag (ab (t_ ae (ab (be (nI (n:=n) (T:=T) (J:=J) (k:=k) (gn:=gn) (now:=now) (ls:=ls) (i:=j) (off:=1) (v:= .int .i64 0) hj (by omega) (fun _ _ _ _ _ _ _ _=>by repeat constructor)) az ?_)))))))))
  refine ab (cm ?_);refine ab (t_ ag (ab (t_ ae (ab (be (nI (n:=n) (T:=T) (J:=J) (k:=k) (gn:=gn) (now:=now) (ls:=ls) (i:=i) (off:=1) (v:= .int .i64 0) hi (by omega) (fun _ _ _ _ _ _ _ _=>by repeat constructor)) az ?_)))))
  refine ab ?_;(((refine t_ (Sl.ce ?hcq) ?_);(case hcq=>(first|omega|(simp only[List.length_nil,List.length_cons];omega)))));refine ab (t_ av (ab (ab (ab (t_ ag (ab (t_ ae (ab (t_ dm (ab (be (nI (n:=n) (T:=T) (J:=J) (k:=k) (gn:=gn) (now:=now) (ls:=ls) (i:=j) (off:=3) (v:= .int .i64 1) hj (by omega) (fun _ _ _ _ _ _ _ _=>by repeat constructor)) az ?_)))))))))))
  refine ab (cm ?_);refine ab (t_ ag (ab (t_ ae (ab (t_ dm (ab (be (nI (n:=n) (T:=T) (J:=J) (k:=k) (gn:=gn) (now:=now) (ls:=ls) (i:=i) (off:=3) (v:= .int .i64 1) hi (by omega) (fun _ _ _ _ _ _ _ _=>by repeat constructor)) az ?_)))))))
  refine ab ?_;(((refine t_ (Sl.ce ?hcq) ?_);(case hcq=>(first|omega|(simp only[List.length_nil,List.length_cons];omega)))));refine ab (t_ av (t_ ak (aR () ?_)))
  refine .all ?_
  refine am ?_
  exact az
structure LsOk (n:Nat)(ls:Nat->Nat)(L:List Nat):Prop where
 m:∀j,j∈L->j<n
 s:∀j,j∈L->ls j=1\/ls j=2
 z:∀j,j∉L->ls j≠1
 l:L.length<=60
theorem LsOk.fail {n i:Nat}{ls:Nat->Nat}{L:List Nat}(h:LsOk n ls L)(hi:i∈L):LsOk n (uR ls i) (rA ls i L) where
 m:=fun j hj=>h.m j (List.mem_filter.1 hj).1
 s:=fun j hj=> .inl (by simpa [rA,uR]using (List.mem_filter.1 hj).2)
 z:=fun j hj hc=>by
  unfold uR at hc
  refine hj (List.mem_filter.2 ⟨?_,by simpa using hc⟩)
  by_cases hx:j=i
  ·subst hx;exact hi
  ·rw[eM hx]at hc
   exact Classical.byContradiction fun hn=>h.z j hn hc
 l:=Nat.le_trans (List.length_filter_le _ _) h.l
theorem kh {X:Nat->Nat}{q:Nat->Bool}{p:Nat->Bool}:∀ {L:List Nat},(∀j∈L,p (X j)=q j)->((L.map X).filter p)=(L.filter q).map X
 |[],_=>rfl
 |j::L,h=>by
  rw[List.map_cons,List.filter_cons,List.filter_cons,h j (by simp),kh fun x hx=>h x (by simp[hx])]
  split <;> simp
theorem CG {W:World}{L L':List HP}{X J:Nat->Nat}{T:Nat->List UInt8}{k gn n:Nat}{now:Int}{ls:Nat->Nat}{S:WP}(p:Pick L (et X J T k gn now n ls) L')(h:(∀i j,i<n->j<n->ls i≠0->ls j≠0->X i=X j->i=j)->aJ W L S):aJ W L S:=fun w hw=>by
 refine h (fun i j hi hj hsi hsj e=>Classical.byContradiction fun hne=>?_) w hw
 obtain⟨f,⟨h1,h2,hb,_,_,s1,_⟩,_⟩:=(hw.pick p).heap
 obtain⟨k1,k2,ha,hb,d,_,_⟩:=Ct hi hj hne hb
 obtain⟨ca,ta,e1⟩:=oM hsi ha
 obtain⟨cb,tb,e2⟩:=oM hsj hb
 rcases d (X i)with x|x
 ·rw[e1]at x;cases x
 ·rw[e,e2]at x;cases x
theorem ki {W:World}{L L':List HP}{X J:Nat->Nat}{T:Nat->List UInt8}{k gn n i:Nat}{now:Int}{ls:Nat->Nat}{S:WP}(hi:i<n)(hs:ls i=1)(p:Pick L (et X J T k gn now n ls) L')(h:∀y:Bz,aJ W (j_ (X i) (J i) k gn i (T i) now y++(BH n (fh X J T k gn now ls) i::L')) S):aJ W L S:=by
 refine fY p i hi ?_
 have e:fh X J T k gn now ls i=ex fun y:Bz=>all (j_ (X i) (J i) k gn i (T i) now y):=by unfold fh;rw[hs];rfl
 rw[e]
 exact a8 .here fun y=>aB .here (h y)
theorem rB {W:World}{L L1 L2:List HP}{X J:Nat->Nat}{T:Nat->List UInt8}{k gn n i:Nat}{now:Int}{ls:Nat->Nat}{r:Ln}{S:WP}(hi:i<n)(p:Pick L (cE (X i) i gn (.pointer none) r) L1)(q:Pick L1 (BH n (fh X J T k gn now ls) i) L2)(h:aJ W (et X J T k gn now n (fw ls i 2)::L2) S):aJ W L S:=by
 have e:fh X J T k gn now (fw ls i 2) i=ex fun r:Ln=>all [cE (X i) i gn (.pointer none) r]:=by unfold fh;rw[dC];rfl
 refine bf (eb (F:=fh X J T k gn now ls) i hi (fun j _ hne=>(zk (eM hne)).symm) ?_) h
 rw[e]
 exact .ex r (.all (.pick p (.pick q .refl)))
theorem Jz {W:World}{v w k gn n i p st N:Nat}{s:SvS}{l pa:AC}{X J:Nat->Nat}{T:Nat->List UInt8}{now sn us:Int}{ls:Nat->Nat}{L:List Nat}{q:Ca}{m:Value}{B:Nat->Bool}{fl:Bool}{r:Ln}(hsw:s.w=w)(hl:s.lk= .slice l.1 (L.map X).length l.2)(hL:LsOk n ls L)(hi:i∈L)(hsi:ls i=1)(hN:N<=1000)(hB:B i=true)(h0: -1000<=us)(h1:us<=1000):
  Cn p_ 58 [pC v,pC (X i)] W [ci v s,pY X l L,BH n (fh X J T k gn sn ls) i,cE (X i) i gn (pC (J i)) r,dB gn st q pa m (us+1),nH pa p,uZ p N B fl now,jH w now] (fun _:Unit=>pC (J i))
   (fun _=>[ci v {s with lk:= .slice l.1 ((rA ls i L).map X).length l.2},pY X l (rA ls i L),et X J T k gn sn n (uR ls i),dB gn st q pa m us,nH pa p,uZ p (N+1) (y5 B i) true now,jH w now]):=by
 have hin:=hL.m i hi
 have hll:=hL.l
 (refine Shp.cn (Sg.g_ Tryz.call58 Tryz.func58 (an:={drs:=[(2,.ofL [(0,1),(2,3),(3,3),(4,3),(5,3),(6,3),(7,2),(8,3),(9,3),(10,3),(1,0),(11,0),(12,0)])]}) (os:=[(2,[(1,[10,9,8,6,5,4,3,2]),(11,[6,5,4,3,2])])])) fun F=>?_;simp only[ca_,na_])
 refine b_ fun b3=>?_
 refine aH ?_
 refine' ah (CE (x:=X i) (i:=i) (jb:=pC (J i)) (us:=us) h0 h1) ?hp fun _=>?_
 case hp=>(repeat(first|exact Picks.nil|(apply Picks.cons;(focus repeat constructor))))
 subst hsw
 cases s
 rename_i w_ g_ cl lk nu ca lg out
 (try dsimp only at *)
 subst hl
 unfold ci nF cE nW
 refine am ?_
 (try dsimp only)
 refine aW (cm ?_);(((refine' aq (aS ?hc) ?hi ?_);(case hi=>exact .pick (by repeat constructor) .nil);(case hc=>repeat constructor)));refine aq ag .nil ?_;refine aq ae .nil ?_;refine aq dm .nil ?_;(((refine' aq (aS ?hc) ?hi ?_);(case hi=>exact .pick (by repeat constructor) .nil);(case hc=>repeat constructor)));refine aq ag .nil ?_;refine aq ae .nil ?_;(((refine' aq (aS ?hc) ?hi ?_);(case hi=>exact .pick (by repeat constructor) .nil);(case hc=>repeat constructor)))
 refine' ah (CF (x:=X i) (i:=i) (jb:= .pointer none) (r:=r) (us:=us)) ?hp fun _=>?_
 case hp=>unfold cE nW;(repeat(first|exact Picks.nil|(apply Picks.cons;(focus repeat constructor))))
 unfold cE nW
 refine am ?_
 (try dsimp only)
 (repeat((refine' cB (aN ?hcs) ?_);(case hcs=>(repeat(first|exact .refl|exact .nil|(apply Imp.pick;(focus ((repeat constructor);done)))|refine .drop ?_)))))
 refine c_ mZ fun _=>?_
 (repeat((refine' cB (aN ?hcs) ?_);(case hcs=>(repeat(first|exact .refl|exact .nil|(apply Imp.pick;(focus ((repeat constructor);done)))|refine .drop ?_)))))
 refine I5 hN hB (by repeat constructor) ?_
 refine rB (r:=r) hin (by unfold cE nW;(repeat constructor)) (by repeat constructor) ?_
 refine CG (by(repeat constructor):Pick _ (et X J T k gn sn n (fw ls i 2)) _) fun hinj=>?_
 have hs2:∀j∈L,fw ls i 2 j=1\/fw ls i 2 j=2:=fun j hj=>by
  by_cases c:j=i
  ·subst c;exact .inr dC
  ·rw[eM c];exact hL.s j hj
 obtain⟨P,hP⟩:∃P:Nat->Bool,P=fun g=>L.any fun j=>decide (X j=g)&&decide (fw ls i 2 j≠1):=⟨_,rfl⟩
 have hPX:∀j∈L,P (X j)=decide (fw ls i 2 j≠1):=fun j hj=>by
  rw[hP]
  by_cases c:fw ls i 2 j=1
  ·rw[dF_ (by simpa using c)]
   rw[List.any_eq_false]
   intro a ha
   simp only[Bool.and_eq_true,decide_eq_true_eq,not_and]
   intro e
   have:=hinj a j (hL.m a ha) (hL.m j hj) (by have:=hs2 a ha;omega) (by omega) e
   subst this
   simpa using c
  ·rw[dT_ c]
   exact List.any_eq_true.2 ⟨j,hj,by simp[c]⟩
 refine o_ ag (o_ ae (aH ?_));refine o_ bC ?_
 unfold pY
 refine oL (A:=pt b3 (.cells #[pC (X i)] 115)) (B:=et X J T k gn sn n (fw ls i 2)) (by repeat constructor) (by repeat constructor) ?_
 refine' ah (qt (l:=L.map X) (p:=P) (a:=l.1) (c:=l.2) (cap:=[.pointer (some ⟨b3,0,none⟩)]) (by rw[List.length_map];omega) (fun g hg=>by
  obtain⟨j,hj,rfl⟩:=List.mem_map.1 hg
  rw[hPX j hj]
  exact Jy (T:=T) (J:=J) (k:=k) (gn:=gn) (now:=sn) hin (hL.m j hj) dC (hs2 j hj))) ?hp fun _=>?_
 case hp=>(repeat(first|exact Picks.nil|(apply Picks.cons;(focus repeat constructor))))
 rw[show(L.map X).filter (fun g=>!P g)=(rA ls i L).map X from kh (q:=fun j=>decide (fw ls i 2 j=1)) fun j hj=>by
  rw[hPX j hj]
  by_cases c:fw ls i 2 j=1 <;> simp[c]]
 refine am ?_
 refine aB (by(repeat constructor):Pick _ (all _) _) ?_
 refine am ?_
 refine o_ ag (o_ ae (bR ?_))
 refine aR () ?_
 exact az
structure TF where
 v:Nat
 w:Nat
 g:Nat
 k:Nat
 c:Nat
 q:Ca
 pa:AC
 p:Nat
 mm:Value
 ca:Nat
 lg:Nat
 a:AC
 st:Nat
 tm:Int
 rt:Int
 n:Nat
 X:Nat->Nat
 J:Nat->Nat
 A:Nat->Nat
 T:Nat->List UInt8
 nm:List UInt8
 jb:Value
 nu:Int
 out:Value
 l:AC
 now:Int
 sn:Int
structure TC where
 lq:Nat
 O:List UInt8
 sa:Sa
 ls:Nat->Nat
 L:List Nat
 N:Nat
 B:Nat->Bool
 fl:Bool
 m:Nat
 us:Int
def TF.sv (f:TF)(z:TC):SvS:=⟨f.w,f.g,.slice f.a.1 1 f.a.2,.slice f.l.1 (z.L.map f.X).length f.l.2,f.nu,pE f.ca,pC f.lg,f.out⟩
def eh (f:TF)(z:TC):List HP:=[ci f.v (f.sv z),pY f.X f.l z.L,et f.X f.J f.T f.k f.g f.sn f.n z.ls,dB f.g f.st f.q f.pa f.mm z.us,nH f.pa f.p,uZ f.p z.N z.B z.fl f.now,jH f.w f.now,eF f.k f.c f.nm f.jb,xQ f.c f.n f.A f.T z.lq z.O z.sa f.now,m6 f.lg z.m,eJ f.q f.tm f.rt]
def GT (f:TF)(z:TC):List HP:=[ci f.v (f.sv z),pY f.X f.l z.L,dB f.g f.st f.q f.pa f.mm z.us,nH f.pa f.p,uZ f.p z.N z.B z.fl f.now,jH f.w f.now,eF f.k f.c f.nm f.jb,xQ f.c f.n f.A f.T z.lq z.O z.sa f.now,m6 f.lg z.m,eJ f.q f.tm f.rt]
structure PcOk (f:TF)(z:TC):Prop where
 s:SaOk f.n z.lq z.O z.sa
 l:LsOk f.n z.ls z.L
 b:∀i,z.ls i=1->z.B i=true/\z.sa i=some none
 n:z.N<=500
 m:z.m<=190
 u0: -500<=z.us
 u1:z.us<=500
def evA (f:TF)(z:TC)(i:Nat)(a:An):TC:={z with lq:=uO f.n z.lq z.sa i a,O:=aO f.n z.lq z.O z.sa i a,sa:=Fj f.n z.lq z.sa i a,m:=z.m+1}
def evF (z:TC)(i:Nat):TC:={z with ls:=uR z.ls i,L:=rA z.ls i z.L,N:=z.N+1,B:=y5 z.B i,fl:=true,us:=z.us-1}
theorem PcOk.at_ {f:TF}{z:TC}{i:Nat}(h:PcOk f z)(hi:z.ls i=1):i∈z.L/\i<f.n/\z.lq<=i:=by
 have hm:i∈z.L:=Classical.byContradiction fun c=>h.l.z i c hi
 refine⟨hm,h.l.m i hm,?_⟩
 rcases Nat.lt_or_ge i z.lq with c|c
 ·have:=(h.b i hi).2
  rw[h.s.b i c]at this;cases this
 ·exact c
structure SayOk (f:TF)(i:Nat)(a:An):Prop where
 ok:AnOk a
 en:EnOk (MI f.now f.nm [97] (f.T i) a.st a.D.length kR)
 ln:(l_ (MI f.now f.nm [97] (f.T i) a.st a.D.length kR)).length<=250
theorem xR {sa:Sa}{j:Nat}:∀k lo,lo<=j->j<(cY sa k lo).1->∃b,sa j=some (some b)
 |0,lo,h1,h2=>by simp only[cY]at h2;omega
 |k+1,lo,h1,h2=>by
  match hz:sa lo with
  |none=>simp only[cY,hz]at h2;omega
  |some none=>simp only[cY,hz]at h2;omega
  |some (some b)=>
   simp only[cY,hz]at h2
   by_cases e:lo=j
   ·subst e;exact⟨b,hz⟩
   ·exact xR k (lo+1) (by omega) h2
theorem PcOk.evA {f:TF}{z:TC}{i:Nat}{a:An}(h:PcOk f z)(hl:z.lq<=i)(hi:i<f.n)(hs:z.ls i≠1)(ha:AnOk a)(hm:z.m<190):PcOk f (evA f z i a):=by
 refine⟨h.s.adv hl hi ha,h.l,fun j hj=>⟨(h.b j hj).1,?_⟩,h.n,by show z.m+1<=190;omega,h.u0,h.u1⟩
 have hb:=(h.b j hj).2
 have hne:j≠i:=fun c=>hs (c▸hj)
 show Fj f.n z.lq z.sa i a j=some none
 unfold Fj
 rw[ee,fU hne]
 ·exact hb
 ·intro c
  obtain⟨b,e⟩:=xR _ _ (h.at_ hj).2.2 c
  rw[fU hne,hb]at e
  cases e
theorem PcOk.evF {f:TF}{z:TC}{i:Nat}(h:PcOk f z)(hi:z.ls i=1)(hN:z.N<500)(hu: -500<z.us):PcOk f (evF z i)/\(evF z i).ls i≠1:=by
 refine⟨⟨h.s,h.l.fail (h.at_ hi).1,fun j hj=>?_,by show z.N+1<=500;omega,h.m,by show-500<=z.us-1;omega,by have:=h.u1;show z.us-1<=500;omega⟩,?_⟩
 ·have hj:fw z.ls i 2 j=1:=hj
  by_cases e:j=i
  ·subst e;rw[dC]at hj;cases hj
  ·rw[eM e]at hj
   exact⟨by show y5 z.B i j=true;unfold y5;rw[if_neg e];exact(h.b j hj).1,(h.b j hj).2⟩
 ·show fw z.ls i 2 i≠1
  rw[dC]
  decide
def GU:List UInt8:=[67,111,110,116,101,110,116,45,84,121,112,101]
def GV:List UInt8:=[116,101,120,116,47,112,108,97,105,110]
def mq (st:Int)(fl m:List UInt8):An:=⟨st,fl,[(GU,GV)],m++[10]⟩
theorem xS {W:World}[hP:Gp W]{st:Int}{j:Nat}{m fl:List UInt8}(hr:vN st j m=true)(h0:0<=st)(h1:st<=999)(hm:m.length<=100):Cn p_ 88 [.int .i64 st,.slice none 0 0] W [] (fun x:AC × AC=> .agg (Do (mq st fl m) x.1 x.2).toArray) (fun x=>[Sl 2 192 x.1.1 x.1.2 1 ([(GU,GV)].flatMap cS),u7 x.2 (m++[10])]):=by
 (refine Shp.cn (Sg.g_ Tryz.call88 Tryz.func88) fun F=>?_;simp only[ca_,na_])
 refine aU fun g=>?_;refine o_ bO ?_
 refine e_ (s:=2) (e:=192) ?_
 refine BD (X:=[]) (n:=GU) (v:=GV) .here (by decide) fun a c=>?_
 refine c_ (oz (n:=st) (j:=j) (m:=m) hr h0 h1) fun _=>?_
 refine o_ (cA (a:=m) (b:=[10]) (by simp;omega)) ?_
 refine iQ Tryz.underlying35 Tryz.underlying5 (by simp;omega) fun rr=>?_
 refine o_ bO ?_;(((refine' aK ?hp ?hn ?hv ?h1 ?_);(case hp=>(repeat constructor));(case hn=>rfl);(case hv=>rfl);(case h1=>simp[Value.oneCell',ay])));(((refine' be (cQ ?hn) ?hi ?_);(case hi=>exact az);(case hn=>rfl)))
 refine aR (((a,c),rr)) ?_
 exact az
structure On where
 x:AC
 d:AC
 t:AC
theorem CH {W:World}[hG:Gl W]{d t r:List UInt8}{st:Nat}{tm rt now:Int}(h:CfOk d t r st tm rt)(h0:0<=now)(h1:now<2000000000):Cn p_ 5 [.int .i64 now,.slice none 0 0,ay (j6 d t r)] W [] (fun x:Nat × Wh=> .tuple #[pC x.2.v,pC x.1])
  (fun x=>[ci x.2.v ⟨x.1,x.2.g,.slice none 0 0,.slice none 0 0,0,pE x.2.ca,pC x.2.lg,.slice none 0 0⟩,jH x.1 now,dB x.2.g st x.2.q x.2.pa x.2.m 0,nH x.2.pa x.2.p,uD x.2.p 0,eJ x.2.q tm rt,gf x.2.ca (cv st),m6 x.2.lg 0]):=by
 (refine Shp.cn (Sg.g_ Tryz.call5 Tryz.func5) fun F=>?_;simp only[ca_,na_])
 refine' ah (Uw (now:=now) h0 h1) ?hp fun u=>?_
 case hp=>exact .nil
 obtain⟨w,w2⟩:=u
 refine am ?_
 (try dsimp only)
 refine bE ?_;refine bE ?_;refine bE ?_;refine o_ bB (af ?_)
 refine' ah (UL (w:=w) (now:=now) h) ?hp fun x=>?_
 case hp=>(repeat(first|exact Picks.nil|(apply Picks.cons;(focus repeat constructor))))
 refine am ?_
 refine bE ?_;refine bE ?_;refine bE ?_
 refine aR ((w,x)) ?_
 exact az
theorem p5:∀ {h r:List UInt8} {p q:Ps},dM p h=some (q,[])->p.done=false->q.done=true->dM p (h++r)=some (q,r)
 |[],r,p,q,hf,hp,hq=>by
  rw[dM]at hf
  injection hf with hf;injection hf with h1 h2
  rw[h1]at hp;rw[hp]at hq;cases hq
 |c::h,r,p,q,hf,hp,hq=>by
  rw[List.cons_append,dM]
  rw[dM]at hf
  cases hb:sj p c with
  |none=>rw[hb]at hf;cases hf
  |some s=>
   rw[hb]at hf
   (try dsimp only at hf ⊢)
   cases hs:s.done with
   |true=>
    rw[if_pos hs]at hf
    rw[if_pos rfl]
    injection hf with hf;injection hf with h1 h2
    rw[h1,h2];rfl
   |false=>
    rw[if_neg (by simp[hs])]at hf
    rw[if_neg (by decide)]
    exact p5 hf hs hq
def JA (X:List FD.Fd):Bool:=decide (X.length<=1000)&&X.all fun f=>decide (f.1.length<=1000/\f.2.length<=1000)
theorem p6 {X:List FD.Fd}(h:JA X=true):qS X/\X.length<=1000:=by
 simp only[JA,Bool.and_eq_true,decide_eq_true_eq,List.all_eq_true]at h
 exact⟨⟨by have:=h.1;omega,fun f hf=>by have:=h.2 f hf;omega⟩,h.1⟩
def MK (h:List UInt8)(X:List FD.Fd)(n:Nat):Bool:=match dM (ef true) h with
 |some (P,[])=>P.done&&(P.reply&&(decide (P.status=200)&&(decide (P.minor=1)&&(decide (P.fs=X)&&(decide (uj X=some (1,(n:Int)))&&(JA X&&decide (h.length<=40000)))))))
 |_=>false
theorem CI {h:List UInt8}{X:List FD.Fd}{D:List UInt8}(hc:MK h X D.length=true)(h0:0<D.length)(h1:D.length<=1000):∃P,RpOk (h++D) P X D:=by
 unfold MK at hc
 cases hf:dM (ef true) h with
 |none=>rw[hf]at hc;cases hc
 |some q=>
  obtain⟨P,r⟩:=q
  rw[hf]at hc
  cases r with
  |cons c r=>cases hc
  |nil=>
   simp only[Bool.and_eq_true,decide_eq_true_eq]at hc
   obtain⟨c1,c2,c3,c4,c5,c6,c7,c8⟩:=hc
   obtain⟨k1,k2⟩:=p6 c7
   exact⟨P,p5 hf rfl c1,by rw[List.length_append];omega,⟨h,rfl⟩,c1,c2,c3,c4,c5,k1,c6,h0,k2⟩
def QC (a:Int):List UInt8:=[109,97,120,45,97,103,101,61]++eg a
def wn (a:Int)(n:Nat):List FD.Fd:=[(Dm,QC a),(pz,eg (n:Int))]
def sX (a:Int):List FD.Fd:=[(Dm,QC a),(nY,nX)]
def UT (X:List FD.Fd)(n:Nat):List FD.Fd:=dx (dx X [mS,Ep,IH]) [pz]++[(pz,eg (n:Int))]
def f1 (a n:Nat):Bool:=MK (MJ a (n+5)) (wn a (n+5)) (n+5)&&(decide (kg (wn a (n+5))=sX a)&&(decide (bW (wn a (n+5)) mS=[])&&(JA (dX (wn a (n+5)))&&decide (zF (wn a (n+5))<=2000))))
def f2 (X:List FD.Fd)(n:Nat):Bool:=MK (mQ zB (UT X n)) (UT X n) n&&(kI zB (UT X n)&&(JA X&&decide (zF X<=2000)))
def tK (k:Nat):List UInt8:=[47,97,112,105,47]++eg (k:Int)
def VE (t:List UInt8):Bool:=match dM (ef false) (zm t)with
 |some (p,[])=>p.done&&(!p.reply&&(decide (p.meth=cU)&&(decide (p.targ=t)&&(decide (p.minor=1)&&decide (p.fs=fH)))))
 |_=>false
def UU (t:List UInt8):Bool:=decide (t.head? =some 47)&&(t.all tZ&&(decide (t.length<=7)&&(il t.tail&&(!t.contains 37&&(gY eE t&&(nP t&&(kI (mp t) wl&&(lZ t&&VE t))))))))
theorem CJ:(eE::(List.range 30).map tK).all UU=true:=by decide+kernel
structure TgOk (t:List UInt8):Prop where
 rq:PF (zm t) t
 tg:E9 t
 tf:nP t=true
 wr:kI (mp t) wl=true
 es:lZ t=true
 tl:t.length<=7
theorem CK {t:List UInt8}(h:UU t=true):TgOk t:=by
 simp only[UU,Bool.and_eq_true,decide_eq_true_eq,Bool.not_eq_true']at h
 obtain⟨a,b,c,d,e,f,g,i,j,k⟩:=h
 have hr:∃r,t=47::r:=by
  cases t with
  |nil=>cases a
  |cons x r=>injection a with a;exact⟨r,by rw[a]⟩
 have tok:SU t:=⟨hr,b,by omega⟩
 refine⟨⟨by simp[zm];omega,by simp[zm],tok,?_⟩,⟨tok,d,e,f⟩,g,i,j,c⟩
 unfold VE at k
 cases hf:dM (ef false) (zm t)with
 |none=>rw[hf]at k;cases k
 |some q=>
  obtain⟨p,r⟩:=q
  rw[hf]at k
  cases r with
  |cons c r=>cases k
  |nil=>
   simp only[Bool.and_eq_true,decide_eq_true_eq,Bool.not_eq_true']at k
   exact⟨p,rfl,k.1,k.2.1,k.2.2.1,k.2.2.2.1,k.2.2.2.2.1,k.2.2.2.2.2⟩
theorem SX {k:Nat}(h:k<30):TgOk (tK k):=CK (by
 have:=CJ
 simp only[List.all_cons,Bool.and_eq_true,List.all_eq_true]at this
 exact this.2 _ (List.mem_map.2 ⟨k,List.mem_range.2 h,rfl⟩))
theorem QD:TgOk eE:=CK (by
 have:=CJ
 simp only[List.all_cons,Bool.and_eq_true]at this
 exact this.1)
structure RsP (st:Int)(m:List UInt8)(j:Nat):Prop where
 r:vN st j m=true
 a:200<=st
 b:st<=599
 c:m.length<=100
theorem UV {W:World}{r:AC}{b:List UInt8}{o:Nat}{g:Nat}(h:r.1=some ⟨g,o,none⟩):RdB W (u7 r b) r.1 b.length (b.map Sl.B):=by
 have:=vK (W:=W) (e:=5) (g:=g) (o:=o) (cap:=r.2) (n:=b.length) (s:=1) (cs:=b.map Sl.B) (by simp)
 rw[Nat.mul_one,<- h]at this
 exact this
theorem QE {W:World}{L L':List HP}{S:WP}{r:AC}{b:List UInt8}(p:Pick L (u7 r b) L')(h0:0<b.length)(h:RdB W (u7 r b) r.1 b.length (b.map Sl.B)->(r.1=none->b=[])->aJ W L S):aJ W L S:=by
 refine Sl.eP p fun _ hc _ hs=>?_
 obtain⟨g,o,hg⟩:=hs h0
 exact h (UV hg) (fun e=>by rw[hg]at e;cases e)
theorem xT {W:World}{x:HP}{M:List HP}:∀A:List HP,Imp W (x::(A++M)) (A++x::M)
 |[]=> .refl
 |_::A=> .pick (.there .here) (xT A)
theorem xU {W:World}{x y:HP}{M:List HP}:∀A:List HP,Imp W (x::y::(A++M)) (A++x::y::M)
 |[]=> .refl
 |_::A=> .pick (.there (.there .here)) (xU A)
theorem fj {W:World}{L A M:List HP}{S:WP}(P:Picks L A M)(h:aJ W (A++M) S):aJ W L S:=fun w hw=>h w (P.sat hw)
theorem CL {W:World} [hG:Gl W] [hP:Gp W] {M:List HP} {Kp:PK} {k:Value->WP} {f:TF} {z:TC} {i:Nat} {st:Int} {m fl:List UInt8} {bb:AC} {fr:AC} {lo se:List Value} {tr:Int} {x:AC × AC} (hs:PcOk f z) (hl:z.lq<=i) (hi:i<f.n) (hsi:z.sa i=some none) (hm:z.m<190) (hy:SayOk f i (mq st fl m))
  (h:aJ W (eh f (evA f z i (mq st fl m))++M) (k (.tuple #[]))):
  aJ W ((eh f z++[eV (f.J i) f.k (i:Int) (f.T i) fr bb f.g (fQ (f.T i)) [97] (f.T i) (eY (f.T i)) lo se tr])++(Sl 2 192 x.1.1 x.1.2 1 ([(GU,GV)].flatMap cS)::u7 x.2 (m++[10])::M)) (opN p_ (bG (fn 38) [pC f.v,pC (f.J i),.agg (Do (mq st fl m) x.1 x.2).toArray,ay kR]) Kp k):=by
 obtain⟨⟨xa,xc⟩,rr⟩:=x
 unfold eh at h ⊢
 simp only[ca_,na_,-eq_self]at h ⊢
 (try dsimp only)
 refine aP (by(repeat constructor):Pick _ (Sl 2 192 xa xc _ _) _) fun _ _ _ hs1=>?_
 refine QE (by(repeat constructor):Pick _ (u7 rr _) _) (by simp) fun hD hd0=>?_
 have hX:gX W (Sl 2 192 xa xc 1 ([(GU,GV)].flatMap cS)) xa [(GU,GV)]:=cJ (l:=[(GU,GV)]) hs1
 refine' ah (uP (v:=f.v) (w:=f.w) (gn:=f.g) (j:=f.J i) (k:=f.k) (c:=f.c) (lgx:=f.lg) (m:=z.m) (n:=f.n) (lq:=z.lq) (i:=i) (s:=f.sv z) (now:=f.now) (nm:=f.nm) (t:=f.T i) (wd:=kR) (ho:=[97]) (pa:=f.T i) (ke:=eY (f.T i)) (O:=z.O) (f:=fr) (b:=bb) (xx:=(xa,xc)) (dd:=rr) (tv:=fQ (f.T i)) (lo:=lo) (se:=se) (A:=f.A) (T:=f.T) (sa:=z.sa) (a:=mq st fl m) rfl rfl rfl hs.s hl hi hsi hy.ok hX (fun e=>by obtain⟨g,hg⟩:=hs1 (by decide);rw[hg]at e;cases e) hD hd0 hy.en hy.ln (by omega)) ?hp fun _=>?_
 case hp=>(repeat(first|exact Picks.nil|(apply Picks.cons;(focus repeat constructor))))
 refine bf ?_ h
 refine am ?_
 exact az
theorem xV {W:World} [hG:Gl W] [hP:Gp W] {M:List HP} {Kp:PK} {k:Value->WP} {f:TF} {z:TC} {i j:Nat} {st:Int} {m fl:List UInt8} {bb:AC} {fr:AC} {lo se:List Value} {tr:Int} (hs:PcOk f z) (hl:z.lq<=i) (hi:i<f.n) (hsi:z.sa i=some none) (hm:z.m<190) (hr:RsP st m j) (hy:SayOk f i (mq st fl m))
  (h:aJ W (eh f (evA f z i (mq st fl m))++M) (k (.tuple #[]))):
  aJ W ((eh f z++[eV (f.J i) f.k (i:Int) (f.T i) fr bb f.g (fQ (f.T i)) [97] (f.T i) (eY (f.T i)) lo se tr])++M) (opN p_ (bG (fn 88) [.int .i64 st,.slice none 0 0]) Kp fun x=>opN p_ (bG (fn 38) [pC f.v,pC (f.J i),x,ay kR]) Kp k):=by
 refine' ah (xS (st:=st) (j:=j) (m:=m) (fl:=fl) hr.r (by have:=hr.a;omega) (by have:=hr.b;omega) hr.c) ?hp fun x=>?_
 case hp=>exact .nil
 exact bf (xU (eh f z++[eV (f.J i) f.k (i:Int) (f.T i) fr bb f.g (fQ (f.T i)) [97] (f.T i) (eY (f.T i)) lo se tr])) (CL (x:=x) hs hl hi hsi hm hy h)
theorem UW {j k g:Nat}{id:Int}{t ho pa ke:List UInt8}{f b:AC}{tv lo se:List Value}:d6 j k id t f b g tv ho pa ke lo se=eV j k id t f b g tv ho pa ke lo se 0:=rfl
theorem fV {W:World}{F M:List HP}(h:Imp W M F):∀A:List HP,Imp W (A++M) (A++F)
 |[]=>h
 |_::A=> .pick .here (fV h A)
theorem nk {W:World}{F:List HP}:∀A:List HP,Imp W (A++F) F
 |[]=> .refl
 |_::A=> .drop (nk A)
theorem xW {W:World} {L M:List HP} {Kp:PK} {k:Value->WP} {f:TF} {z:TC} {i:Nat} {r:Ln} {fr bb:AC} (h:PcOk f z) (hi:z.ls i=1) (hN:z.N<500) (hu: -500<z.us) (P:Picks L (GT f z++[BH f.n (fh f.X f.J f.T f.k f.g f.sn z.ls) i,cE (f.X i) i f.g (pC (f.J i)) r,d6 (f.J i) f.k (i:Int) (f.T i) fr bb f.g (fQ (f.T i)) [97] (f.T i) (eY (f.T i)) bX (ni (f.T i) fr)]) M)
  (hk:aJ W ((eh f (evF z i)++[eV (f.J i) f.k (i:Int) (f.T i) fr bb f.g (fQ (f.T i)) [97] (f.T i) (eY (f.T i)) bX (ni (f.T i) fr) 0])++M) (k (pC (f.J i)))):
  aJ W L (opN p_ (bG (fn 58) [pC f.v,pC (f.X i)]) Kp k):=by
 obtain⟨hmem,hlt,hlq⟩:=h.at_ hi
 obtain⟨u,hu1⟩:∃u,z.us=u+1:=⟨z.us-1,by omega⟩
 have h0:=h.u0
 have h1:=h.u1
 refine fj P ?_
 unfold eh at hk
 unfold GT
 simp only[ca_,na_,-eq_self]at hk ⊢
 rw[hu1]
 refine' ah (Jz (v:=f.v) (w:=f.w) (k:=f.k) (gn:=f.g) (n:=f.n) (i:=i) (p:=f.p) (st:=f.st) (N:=z.N) (s:=f.sv z) (l:=f.l) (pa:=f.pa) (X:=f.X) (J:=f.J) (T:=f.T) (now:=f.now) (sn:=f.sn) (us:=u) (ls:=z.ls) (L:=z.L) (q:=f.q) (m:=f.mm) (B:=z.B) (fl:=z.fl) (r:=r) rfl rfl h.l hmem hi (by have:=h.n;omega) (h.b i hi).1 (by omega) (by omega)) ?hp fun _=>?_
 case hp=>(repeat(first|exact Picks.nil|(apply Picks.cons;(focus repeat constructor))))
 refine bf ?_ hk
 rw[UW,show(evF z i).us=u by show z.us-1=u;omega]
 refine am ?_
 exact az
theorem xX {W:World} {M:List HP} {Kp:PK} {k:Value->WP} {f:TF} {z:TC} {i:Nat} (h:PcOk f z) (hi:z.ls i=1) (hN:z.N<500) (hu: -500<z.us)
  (hk:∀(y:Bz) (F:List HP),aJ W ((eh f (evF z i)++[eV (f.J i) f.k (i:Int) (f.T i) y.f y.bb f.g (fQ (f.T i)) [97] (f.T i) (eY (f.T i)) bX (ni (f.T i) y.f) 0])++(F++M)) (k (pC (f.J i)))):
  aJ W (eh f z++M) (opN p_ (bG (fn 58) [pC f.v,pC (f.X i)]) Kp k):=by
 obtain⟨hmem,hlt,hlq⟩:=h.at_ hi
 unfold eh
 simp only[ca_,na_,-eq_self]
 refine ki hlt hi (by(repeat constructor):Pick _ (et f.X f.J f.T f.k f.g f.sn f.n z.ls) _) fun y=>?_
 unfold j_
 refine am ?_
 refine xW (fr:=y.f) (bb:=y.bb) (r:=⟨f.sn,false,pC y.H,.pointer none,y.kd,y.nn,.slice none 0 0⟩) h hi hN hu (by unfold GT;refine am ?_;(repeat(first|exact Picks.nil|(apply Picks.cons;(focus repeat constructor))))) (hk y [cV y.H (ef true),mX y.f])
theorem QF {W:World}[hG:Gl W][hP:Gp W]{f:TF}{z:TC}{i j:Nat}{st:Int}{m fl:List UInt8}{r:Ln}{fr bb:AC}(h:PcOk f z)(hi:z.ls i=1)(hN:z.N<500)(hu: -500<z.us)(hm:z.m<190)(hr:RsP st m j)(hy:SayOk f i (mq st fl m)):
  Cn p_ 44 [pC f.v,pC (f.X i),.int .i64 st] W (GT f z++[BH f.n (fh f.X f.J f.T f.k f.g f.sn z.ls) i,cE (f.X i) i f.g (pC (f.J i)) r,d6 (f.J i) f.k (i:Int) (f.T i) fr bb f.g (fQ (f.T i)) [97] (f.T i) (eY (f.T i)) bX (ni (f.T i) fr)]) (fun _:Unit=> .tuple #[]) (fun _=>eh f (evA f (evF z i) i (mq st fl m))):=by
 (refine Shp.cn (Sg.g_ Tryz.call44 Tryz.func44) fun F=>?_;simp only[ca_,na_])
 obtain⟨hmem,hlt,hlq⟩:=h.at_ hi
 refine xW h hi hN hu (gK _ _) ?_
 refine xV (h.evF hi hN hu).1 hlq hlt (h.b i hi).2 hm hr hy ?_
 refine ip () .refl
theorem GW {W:World}[hG:Gl W][hP:Gp W]{f:TF}{z:TC}{i j:Nat}{st:Int}{m fl:List UInt8}(h:PcOk f z)(hi:z.ls i=1)(hN:z.N<500)(hu: -500<z.us)(hm:z.m<190)(hr:RsP st m j)(hy:SayOk f i (mq st fl m)):
  Cn p_ 44 [pC f.v,pC (f.X i),.int .i64 st] W (eh f z) (fun _:Unit=> .tuple #[]) (fun _=>eh f (evA f (evF z i) i (mq st fl m))):=by
 (refine Shp.cn (Sg.g_ Tryz.call44 Tryz.func44) fun F=>?_;simp only[ca_,na_])
 obtain⟨hmem,hlt,hlq⟩:=h.at_ hi
 refine xX h hi hN hu fun y G=>?_
 refine xV (h.evF hi hN hu).1 hlq hlt (h.b i hi).2 hm hr hy ?_
 refine ip () ?_
 exact fV (nk _) _
theorem JB {W:World}{b3 j k gn:Nat}{id:Int}{t:List UInt8}{f b:AC}{tm rt:Int}{q:Ca}{ho pa ke:List UInt8}{se:List Value}{tr:Int}:Cn p_ 124 ([.agg (iT q tm rt).toArray]++[.pointer (some ⟨b3,0,none⟩)]) W [all [pt b3 (.cells #[pC j] 97),eV j k id t f b gn (fQ t) ho pa ke bX se tr]] (fun _:Unit=> .bool true) (fun _=>[all [pt b3 (.cells #[pC j] 97),eV j k id t f b gn (fQ t) ho pa ke bX se tr]]):=by
 (refine Shp.cn (Sg.g_ Tryz.call124 Tryz.func124 (an:={drs:=[(1,.ofL [(0,1),(1,1),(2,1),(3,1),(4,1),(5,1),(6,1),(7,1),(8,1)])]})) fun F=>?_;simp only[ca_,na_])
 refine aB (by repeat constructor) ?_
 unfold eV Jx fQ bX iT
 refine am ?_
 refine aX fun g=>?_;refine aW (t_ ae (cm ?_));refine cm ?_;refine t_ ag (t_ ae (t_ dm (cm ?_)));(((refine' be (Sl.jq ?hcq) .nil ?_);(case hcq=>(first|rfl|assumption))))
 refine aR () ?_
 refine .all ?_
 refine am ?_
 exact az
theorem sU {W:World}{L A M:List HP}{S:WP}(P:Picks L A M)(h:aJ W (all A::M) S):aJ W L S:=fj P (bf (.all .refl) h)
theorem JC {W:World} [hG:Gl W] [hP:Gp W] {L M:List HP} {Kp:PK} {k:Value->WP} {f:TF} {z:TC} {i:Nat} {st:Int} {m fl:List UInt8} {bb:AC} {fr:AC} {lo se:List Value} {tr:Int} {x:AC × AC} (hs:PcOk f z) (hl:z.lq<=i) (hi:i<f.n) (hsi:z.sa i=some none) (hm:z.m<190) (hy:SayOk f i (mq st fl m))
  (P:Picks L ((eh f z++[eV (f.J i) f.k (i:Int) (f.T i) fr bb f.g (fQ (f.T i)) [97] (f.T i) (eY (f.T i)) lo se tr])++[Sl 2 192 x.1.1 x.1.2 1 ([(GU,GV)].flatMap cS),u7 x.2 (m++[10])]) M)
  (h:aJ W (eh f (evA f z i (mq st fl m))++M) (k (.tuple #[]))):aJ W L (opN p_ (bG (fn 38) [pC f.v,pC (f.J i),.agg (Do (mq st fl m) x.1 x.2).toArray,ay kR]) Kp k):=by
 refine fj P ?_
 rw[List.append_assoc]
 exact CL (x:=x) hs hl hi hsi hm hy h
theorem JD {W:World}[hG:Gl W][hP:Gp W]{f:TF}{z:TC}{i j:Nat}{m fl:List UInt8}{fr bb:AC}{tr:Int}(h:PcOk f z)(hfl:z.fl=true)(hl:z.lq<=i)(hi:i<f.n)(hsi:z.sa i=some none)(hm:z.m<190)(hr:RsP 503 m j)(hy:SayOk f i (mq 503 fl m)):
  Cn p_ 59 [pC f.v,pC (f.J i)] W (eh f z++[eV (f.J i) f.k (i:Int) (f.T i) fr bb f.g (fQ (f.T i)) [97] (f.T i) (eY (f.T i)) bX (ni (f.T i) fr) tr]) (fun _:Unit=> .tuple #[]) (fun _=>eh f (evA f z i (mq 503 fl m))):=by
 have hN:=h.n
 (refine Shp.cn (Sg.g_ Tryz.call59 Tryz.func59 (an:={cuts:=[(12,[8])],drs:=[(2,(.op 0 3 (.op 1 3 (.op 2 3 (.op 3 3 (.op 4 3 (.op 5 3 (.op 6 3 (.op 7 3 (.op 8 3 (.op 9 3 (.op 10 2 (.op 11 3 (.op 12 3 (.op 13 3 (.alt ((.op 14 0 (.alt (.ofL [(15,0),(16,2),(17,3),(18,3),(19,3),(20,0),(21,0),(22,1),(23,1)]) (.ofL [(20,0),(15,0),(16,1),(17,1),(18,3),(19,3),(21,0),(22,1),(23,1)])))) (.ofL [(20,0),(14,0),(15,0),(16,1),(17,1),(18,3),(19,3),(21,0),(22,1),(23,1)]))))))))))))))))),(4,.ofL [(0,2),(1,3),(2,0),(3,0)]),(7,.ofL [(0,1),(1,1),(2,1),(3,1),(4,1),(5,1),(6,1),(7,1),(8,1),(9,1),(10,1),(11,0),(12,1)]),(13,.ofL [(0,1),(1,1),(2,1),(3,1),(4,1),(5,1),(6,1),(7,1),(8,1),(9,1),(10,1),(11,1),(12,1),(13,1),(14,1),(15,1),(16,1),(17,0),(18,0),(19,1),(20,1),(21,1),(22,1),(23,1)]),(15,.ofL [(0,1),(2,3),(3,3),(1,0),(4,0)]),(16,.ofL [(0,2),(1,3),(2,0),(3,0)]),(17,.ofL [(0,2),(1,2),(2,2),(3,2),(4,2),(5,2),(6,3),(7,1),(8,1),(9,1),(10,1),(11,0),(12,0),(13,1),(14,1),(15,0),(16,1),(17,1),(18,0),(19,1),(20,1),(21,0),(22,1),(23,1),(24,0),(25,1),(26,1),(27,0),(28,1),(29,1),(30,0)]),(19,.ofL [(0,2),(1,2),(2,3),(3,3),(4,3),(5,2),(6,3),(7,3),(8,3),(9,3),(10,3),(11,2),(12,1),(13,1),(14,1),(15,1),(16,1),(17,1),(18,0),(19,1),(20,0),(21,0),(22,1),(23,1),(24,0)])],rcuts:=[(3,[5,6,7])]}) (os:=[(2,[(14,[9,8,7,6,5,4,3,2,1,0]),(20,[19,18,17,13,12,11,9,8,7,6,5,4,3,2,1,0]),(21,[19,18])]),(4,[(2,[1])]),(15,[(1,[3,2])]),(16,[(2,[1])]),(17,[(11,[6]),(12,[6])]),(19,[(18,[10,9,8,7,6,4,3,2]),(20,[4,3,2])])])) fun F=>?_;simp only[ca_,na_])
 refine b_ fun b3=>?_
 obtain⟨Q,hQ⟩:∃Q,Q=eh f (evA f z i (mq 503 fl m)):=⟨_,rfl⟩
 rw[<- hQ]
 unfold eh
 refine am ?_
 rw[hfl]
 obtain⟨v,w,g,k,c,q,pa,p,mm,ca,lg,a,st,tm,rt,n,X,J,A,T,nm,jb,nu,out,l,now,sn⟩:=f
 obtain⟨⟨ua,uc⟩,⟨pa_,pc_⟩,⟨sa,sc⟩,la,lc⟩:=q
 obtain⟨pa,pc⟩:=pa
 (try dsimp only at *)
 refine aB (by(repeat constructor):Pick _ (eJ _ tm rt) _) ?_
 unfold iT
 refine am ?_
 (try dsimp only)
 refine a9 (by(repeat constructor):Pick _ (Sl 4 145 ua uc 1 _) _) (by decide) fun G hG=>?_
 subst hG
 unfold ci nF TF.sv eV Jx fQ dB wk
 refine am ?_
 (try dsimp only)
 refine aH ?_;refine o_ ag (o_ ae (aH ?_));refine o_ ag (o_ ae (o_ ae (aH ?_)));refine o_ bC (oL (A:=pt b3 (.cells #[pC (J i)] 97)) (B:=eV (J i) k (i:Int) (T i) fr bb g (fQ (T i)) [97] (T i) (eY (T i)) bX (ni (T i) fr) tr) (by repeat constructor) (by unfold eV Jx fQ;refine am ?_;(repeat constructor)) ?_)
 refine' ah (GR (cap:=[.pointer (some ⟨b3,0,none⟩)]) rfl (JB (tm:=tm) (rt:=rt) (q:=⟨(some ⟨G,0,none⟩,uc),(pa_,pc_),(sa,sc),la,lc⟩))) ?hp fun _=>?_
 case hp=>(repeat(first|exact Picks.nil|(apply Picks.cons;(focus repeat constructor))))
 refine am ?_
 refine aB (by(repeat constructor):Pick _ (all _) _) ?_
 refine am ?_
 refine de fun g=>?_;refine bR ?_
 rename Nat=>b4
 unfold nH
 (try dsimp only)
 refine a9 (by(repeat constructor):Pick _ (Sl 1 216 pa pc 1 _) _) (by decide) fun G2 hG2=>?_
 subst hG2
 refine' xP (fun x y u=>[ex fun o:Nat=>all [pu (x=pC o/\y= .bool false/\u= .int .i64 3),pt o (.cells #[.int .i64 0,.int .i64 0] 118)],uZ p z.N z.B true now]) ?hb ?hr
 case hb=>
  refine aW ?_;(((refine' aq (aS ?hc) ?hi ?_);(case hi=>exact .pick (by repeat constructor) .nil);(case hc=>repeat constructor)));refine aq ag .nil ?_;refine aq ae .nil ?_;(((refine' aq (aS ?hc) ?hi ?_);(case hi=>exact .pick (by repeat constructor) .nil);(case hc=>repeat constructor)));refine aq ag .nil ?_;refine aq ae .nil ?_;(((refine' aq (aS ?hc) ?hi ?_);(case hi=>exact .pick (by repeat constructor) .nil);(case hc=>repeat constructor)));(((refine' aq (aS ?hc) ?hi ?_);(case hi=>exact .pick (by repeat constructor) .nil);(case hc=>repeat constructor)));(((refine' aq (bq 0 rfl ?hcq) .nil ?_);(case hcq=>(first|omega|decide|(simp;done)))));(((refine' aq (bw ?hc) ?hi ?_);(case hi=>exact az);(case hc=>rfl)));refine aq ag .nil ?_;refine aq ae .nil ?_;(((refine' aq (aS ?hc) ?hi ?_);(case hi=>exact .pick (by repeat constructor) .nil);(case hc=>repeat constructor)))
  refine ek ?_ ?_
  ·refine c_ mZ fun _=>?_
   (repeat((refine' cB (aN ?hcs) ?_);(case hcs=>(repeat(first|exact .refl|exact .nil|(apply Imp.pick;(focus ((repeat constructor);done)))|refine .drop ?_)))))
   refine ek ?_ ?_
   ·refine v9 (N:=z.N) (by omega) (by repeat constructor) ?_
    (((refine' aq (bU ?hc) .nil ?_);(case hc=>repeat constructor)));(((refine' aq (bU ?hc) .nil ?_);(case hc=>repeat constructor)));(((refine' aq (bU ?hc) .nil ?_);(case hc=>repeat constructor)));refine aU fun g=>?_;refine bj ?_;refine bj ?_;refine bj ?_;refine bj ?_;refine bj ?_;refine bj ?_;refine bj ?_;refine bj ?_;refine bj ?_;refine bj ?_;refine bj ?_;refine bj ?_;refine bj ?_;refine bj ?_;refine bj ?_;refine bj ?_;(((refine' aK ?hp ?hn ?hv ?h1 ?_);(case hp=>(repeat constructor));(case hn=>rfl);(case hv=>rfl);(case h1=>simp[Value.oneCell',ay])));refine bj ?_;refine bj ?_
    (repeat((refine' cB (aN ?hcs) ?_);(case hcs=>(repeat(first|exact .refl|exact .nil|(apply Imp.pick;(focus ((repeat constructor);done)))|refine .drop ?_)))))
    (repeat((refine' cB (aN ?hcs) ?_);(case hcs=>(repeat(first|exact .refl|exact .nil|(apply Imp.pick;(focus ((repeat constructor);done)))|refine .drop ?_)))))
    rename Nat=>o
    refine aN (.ex o (.all ?_))
    refine am ?_
    exact .pu ⟨rfl,rfl,rfl⟩ (.pick .here (.pick .here .refl))
   ·refine aU fun o=>?_
    (repeat((refine' cB (aN ?hcs) ?_);(case hcs=>(repeat(first|exact .refl|exact .nil|(apply Imp.pick;(focus ((repeat constructor);done)))|refine .drop ?_)))))
    refine v9 (N:=z.N) (by omega) (by repeat constructor) ?_
    refine rY ?_;(((refine' aq (bU ?hc) .nil ?_);(case hc=>repeat constructor)));(((refine' aq (bU ?hc) .nil ?_);(case hc=>repeat constructor)));(((refine' aK ?hp ?hn ?hv ?h1 ?_);(case hp=>(repeat constructor));(case hn=>rfl);(case hv=>rfl);(case h1=>simp[Value.oneCell',ay])));refine bj ?_;refine bj ?_
    (repeat((refine' cB (aN ?hcs) ?_);(case hcs=>(repeat(first|exact .refl|exact .nil|(apply Imp.pick;(focus ((repeat constructor);done)))|refine .drop ?_)))))
    refine aN (.ex o (.all ?_))
    refine am ?_
    exact .pu ⟨rfl,rfl,rfl⟩ az
  ·refine aU fun o=>?_
   (repeat((refine' cB (aN ?hcs) ?_);(case hcs=>(repeat(first|exact .refl|exact .nil|(apply Imp.pick;(focus ((repeat constructor);done)))|refine .drop ?_)))))
   refine c_ mZ fun _=>?_
   (repeat((refine' cB (aN ?hcs) ?_);(case hcs=>(repeat(first|exact .refl|exact .nil|(apply Imp.pick;(focus ((repeat constructor);done)))|refine .drop ?_)))))
   refine v9 (N:=z.N) (by omega) (by repeat constructor) ?_
   refine rY ?_;(((refine' aq (bU ?hc) .nil ?_);(case hc=>repeat constructor)));(((refine' aq (bU ?hc) .nil ?_);(case hc=>repeat constructor)));(((refine' aK ?hp ?hn ?hv ?h1 ?_);(case hp=>(repeat constructor));(case hn=>rfl);(case hv=>rfl);(case h1=>simp[Value.oneCell',ay])));refine bj ?_;refine bj ?_
   (repeat((refine' cB (aN ?hcs) ?_);(case hcs=>(repeat(first|exact .refl|exact .nil|(apply Imp.pick;(focus ((repeat constructor);done)))|refine .drop ?_)))))
   refine aN (.ex o (.all ?_))
   refine am ?_
   exact .pu ⟨rfl,rfl,rfl⟩ az
 case hr=>
 intro ds x y u
 refine am ?_
 refine a8 .here fun o=>aB .here ?_
 refine am ?_
 refine aT .here fun hz=>?_
 obtain⟨rfl,rfl,rfl⟩:=hz
 (((refine o_ (Sl.eI ?hcq) ?_);(case hcq=>(first|omega|(simp only[List.length_nil,List.length_cons];omega)))));refine ai ?_;refine aW ?_;(((refine' aq (aS ?hc) ?hi ?_);(case hi=>exact .pick (by repeat constructor) .nil);(case hc=>repeat constructor)))
 refine c_ (xS (st:=503) (j:=j) (m:=m) (fl:=fl) hr.r (by have:=hr.a;omega) (by have:=hr.b;omega) hr.c) fun _=>?_
 (repeat((refine' cB (aN ?hcs) ?_);(case hcs=>(repeat(first|exact .refl|exact .nil|(apply Imp.pick;(focus ((repeat constructor);done)))|refine .drop ?_)))))
 rename_i x
 refine am ?_
 (try dsimp only)
 refine sU (A:=[Sl 4 145 (some ⟨G,0,none⟩) uc 1 [ay oJ,.slice pa_ 1 pc_,.int .i64 tm,.int .i64 rt],Sl 2 315 pa_ pc_ 1 [.int .i64 1,.int .i64 64],Sl 3 200 sa sc 1 (jy ⟨(some ⟨G,0,none⟩,uc),(pa_,pc_),(sa,sc),la,lc⟩),Sl 12 101 la lc 2 (dy++bX)]) (by(repeat(first|exact Picks.nil|(apply Picks.cons;(focus repeat constructor))))) ?_
 refine' JC (x:=x) (i:=i) (fr:=fr) (bb:=bb) (lo:=bX) (se:=ni (T i) fr) (tr:=tr) h hl hi hsi hm hy ?hp ?_
 case hp=>
  unfold eh ci nF TF.sv nH eV Jx dB wk fQ
  rw[hfl]
  refine am ?_
  (try dsimp only)
  (repeat(first|exact Picks.nil|(apply Picks.cons;(focus repeat constructor))))
 refine ip () ?_
 rw[hQ]
 exact fV az _
theorem zo {W:World}:Cn p_ 57 [ay cU] W [] (fun _:Unit=> .bool true) (fun _=>[]):=by
 (refine Shp.cn (Sg.g_ Tryz.call57 Tryz.func57) fun F=>?_;simp only[ca_,na_])
 refine ej (vs:=([cU,[72,69,65,68],[79,80,84,73,79,78,83],[80,85,84],[68,69,76,69,84,69],[84,82,65,67,69]]:List (List UInt8)).map ay) rfl rfl (by intro v hv;obtain⟨c,_,rfl⟩:=List.mem_map.1 hv;rfl) (by decide) fun g=>?_
 refine' ah (mV (N:=[cU,[72,69,65,68],[79,80,84,73,79,78,83],[80,85,84],[68,69,76,69,84,69],[84,82,65,67,69]]) (x:=cU) (gP rfl) (by decide)) (.cons .here .nil) fun _=>?_
 refine aR () ?_
 exact az
theorem rC {W:World}{L M:List HP}{X J:Nat->Nat}{T:Nat->List UInt8}{k gn n i:Nat}{now:Int}{ls:Nat->Nat}{y:Bz}{S:WP}(hi:i<n)(hs:ls i=1)(p:Picks L (j_ (X i) (J i) k gn i (T i) now y++[BH n (fh X J T k gn now ls) i]) M)(h:aJ W (et X J T k gn now n ls::M) S):aJ W L S:=by
 have e:fh X J T k gn now ls i=ex fun y:Bz=>all (j_ (X i) (J i) k gn i (T i) now y):=by unfold fh;rw[hs];rfl
 refine fj p (bf (eb (F:=fh X J T k gn now ls) i hi (fun j _ _=>rfl) ?_) h)
 rw[e]
 refine .ex y (.all ?_)
 unfold j_
 refine am ?_
 exact az
theorem iY {W:World}{M:List HP}{Kp:PK}{k:Value->WP}{f:TF}{z:TC}(h:PcOk f z)(hk:aJ W (eh f z++M) (k (.tuple #[]))):aJ W (eh f z++M) (opN p_ (bG (fn 40) [pC f.v]) Kp k):=by
 unfold eh at hk ⊢
 simp only[ca_,na_,-eq_self]at hk ⊢
 refine' ah (uN (v:=f.v) (k:=f.k) (n:=f.n) (s:=f.sv z) (l:=f.l) (X:=f.X) (J:=f.J) (T:=f.T) (now:=f.sn) (ls:=z.ls) (L:=z.L) rfl (fun j hj=>⟨h.l.m j hj,by have:=h.l.s j hj;omega⟩) (by have:=h.l.l;omega)) ?hp fun _=>?_
 case hp=>(repeat(first|exact Picks.nil|(apply Picks.cons;(focus repeat constructor))))
 refine bf ?_ hk
 exact az
theorem rD {x:HP}{M:List HP}:∀A:List HP,Pick ((A++[x])++M) x (A++M)
 |[]=> .here
 |_::A=> .there (rD A)
theorem GX {W:World}[hG:Gl W][hP:Gp W]{f:TF}{z:TC}{i j:Nat}{m fl:List UInt8}(h:PcOk f z)(hi:z.ls i=1)(hN:z.N<500)(hu: -500<z.us)(hm:z.m<190)(hr:RsP (if 0<f.rt then 503 else 502) m j)(hy:SayOk f i (mq (if 0<f.rt then 503 else 502) fl m)):
  Cn p_ 22 [pC f.v,.int .i64 (i:Int)] W (eh f z) (fun _:Unit=> .int .i64 0) (fun _=>eh f (evA f (evF z i) i (mq (if 0<f.rt then 503 else 502) fl m))):=by
 obtain⟨hmem,hlt,hlq⟩:=h.at_ hi
 (refine Shp.cn (Sg.g_ Tryz.call22 Tryz.func22 (an:={drs:=[(11,.ofL [(0,1),(1,1),(2,1),(3,1),(4,1),(5,1),(6,1),(7,1),(8,1),(9,1),(10,1),(11,1),(12,1),(13,1),(14,0),(15,1),(16,1),(17,1),(18,1),(19,1),(20,1),(21,1),(22,1),(23,1),(24,1),(25,1),(26,1),(27,1),(28,1),(29,1),(30,1),(31,1),(32,1),(33,1),(34,1),(35,1),(36,1),(37,1),(38,1),(39,1),(40,1),(41,1)])]})) fun F=>?_;simp only[ca_,na_])
 obtain⟨Q,hQ⟩:∃Q,Q=eh f (evA f (evF z i) i (mq (if 0<f.rt then 503 else 502) fl m)):=⟨_,rfl⟩
 rw[<- hQ]
 unfold eh
 refine am ?_
 refine c_ mh fun _=>?_
 refine af ?_
 refine' ah (wm (v:=f.v) (k:=f.k) (n:=f.n) (s:=f.sv z) (l:=f.l) (X:=f.X) (J:=f.J) (T:=f.T) (now:=f.sn) (ls:=z.ls) (L:=z.L) (gn:=f.g) rfl (fun j hj=>⟨h.l.m j hj,by have:=h.l.s j hj;omega⟩) hmem (by have:=h.l.l;omega)) ?hp fun _=>?_
 case hp=>(repeat(first|exact Picks.nil|(apply Picks.cons;(focus repeat constructor))))
 refine am ?_
 refine ki hlt hi (by(repeat constructor):Pick _ (et f.X f.J f.T f.k f.g f.sn f.n z.ls) _) fun y=>?_
 unfold j_ cE nW
 refine am ?_
 (try dsimp only)
 refine o_ bM ?_;refine af (o_ ag (o_ ae (aH ?_)));refine o_ bM ?_;refine af (o_ ag (o_ ae (aH ?_)));refine o_ iH ?_;refine aj (aj (aj (aj (aj (aj (o_ ak (af (aW (t_ ag (t_ ae (cm ?_)))))))))));refine t_ cL (ab (ab (t_ ag (ab (t_ ae (ab (cm ?_)))))));refine ab (t_ ag (ab (t_ ae (ab (t_ dm (ab (cm ?_)))))));refine ab (ah zo .nil fun _=>?_)
 rcases hq:f.q with ⟨⟨ua,uc⟩,⟨pa_,pc_⟩,⟨sa,sc⟩,la,lc⟩
 refine aB (by(repeat constructor):Pick _ (eJ _ f.tm f.rt) _) ?_
 unfold iT
 refine am ?_
 (try dsimp only)
 refine a9 (by(repeat constructor):Pick _ (Sl 4 145 ua uc 1 _) _) (by decide) fun G hG=>?_
 subst hG
 unfold dB wk
 (try dsimp only)
 refine t_ av (ab (ab (t_ ag (ab (t_ ae (ab (cm ?_)))))));refine ab (t_ ag (ab (t_ ae (ab (cm ?_)))));refine ab (ab (t_ ag (ab (t_ ae (ab (cm ?_))))));refine ab (t_ ag (ab (t_ ae (ab (t_ ae (ab (cm ?_)))))));refine ab (ab (t_ ag (ab (t_ ae (ab (cm ?_))))));refine ab (t_ (dR 0 rfl (by decide)) ?_)
 refine ab (t_ ae (ab ?_));(((refine' be (bw ?hc) ?hi ?_);(case hi=>exact az);(case hc=>rfl)));refine ab (be (v:= .bool (decide (0<f.rt))) bD .nil ?_)
 refine t_ av (sU (A:=[Sl 4 145 (some ⟨G,0,none⟩) uc 1 [ay oJ,.slice pa_ 1 pc_,.int .i64 f.tm,.int .i64 f.rt],Sl 2 315 pa_ pc_ 1 [.int .i64 1,.int .i64 64],Sl 3 200 sa sc 1 (jy ⟨(some ⟨G,0,none⟩,uc),(pa_,pc_),(sa,sc),la,lc⟩),Sl 12 101 la lc 2 (dy++bX)]) (by(repeat(first|exact Picks.nil|(apply Picks.cons;(focus repeat constructor))))) ?_)
 refine rC (y:=y) hlt hi (by unfold j_ cE nW;(repeat(first|exact Picks.nil|(apply Picks.cons;(focus repeat constructor))))) ?_
 refine fj (A:=eh f z) (by unfold eh dB wk;rw[hq];(repeat(first|exact Picks.nil|(apply Picks.cons;(focus repeat constructor))))) ?_
 have hE:=h.evF hi hN hu
 by_cases c:0<f.rt
 ·rw[dT_ c]
  rw[if_pos c]at hr hy hQ
  refine ai (xX h hi hN hu fun y G=>?_)
  refine bf (.pick (rD _) .refl) ?_
  unfold eV Jx
  (try dsimp only)
  refine o_ ag (o_ ae (aH ?_));refine bP ?_;refine o_ ag (o_ ae (bR ?_))
  refine bf (M:=(eh f (evF z i)++[eV (f.J i) f.k (i:Int) (f.T i) y.f y.bb f.g (fQ (f.T i)) [97] (f.T i) (eY (f.T i)) bX (ni (f.T i) y.f) 1])++(G++F)) (by rw[List.append_assoc];exact xT _) ?_
  refine ah (JD hE.1 rfl hlq hlt (h.b i hi).2 hm hr hy) (gK _ _) fun _=>?_
  refine iY (hE.1.evA hlq hlt hE.2 hy.ok hm) ?_
  refine ip () ?_
  rw[hQ]
  exact fV (nk _) _
 ·rw[dF_ c]
  rw[if_neg c]at hr hy hQ
  refine af (ah (GW h hi hN hu hm hr hy) (gK _ _) fun _=>?_)
  refine iY (hE.1.evA hlq hlt hE.2 hy.ok hm) ?_
  refine ip () ?_
  rw[hQ]
  exact .refl
theorem Fl {W:World} [hG:Gl W] [hP:Gp W] {f:TF} {z:TC} {i T:Nat} {asked:Int} {fl:List UInt8} {fr bb xx dd:AC} {Z:Cs} {X:List FD.Fd} {D:List UInt8} {AX AD:HP} (hs:PcOk f z) (hl:z.lq<=i) (hi:i<f.n) (hsi:z.sa i=some none) (hm:z.m<190) (hy:SayOk f i ⟨200,fl,X,D⟩) (htl:(f.T i).length<=1000)
  (hZ:CsOk T Z) (hX:gX W AX xx.1 X) (hx0:xx.1=none->X=[]) (hD:RdB W AD dd.1 D.length (D.map Sl.B)) (hd0:dd.1=none->D=[]) (hzH:zF fH<=T) (hzX:zF X<=T) (hzD:D.length<=T):
  Cn p_ 112 [pC f.v,pC (f.J i),.agg (un X D xx dd).toArray,.int .i64 asked] W (eh f z++[d6 (f.J i) f.k (i:Int) (f.T i) fr bb f.g (fQ (f.T i)) [97] (f.T i) (eY (f.T i)) bX (ni (f.T i) fr),mX fr,gf f.ca Z,AX,AD]) (fun _:SW T Z (f.T i) X D asked f.now=> .tuple #[])
   (fun y=>eh f (evA f z i ⟨200,fl,X,D⟩)++[gf f.ca y.1]):=by
 (refine Shp.cn (Sg.g_ Tryz.call112 Tryz.func112 (an:={cuts:=[(11,[9])],drs:=[(4,(.op 0 2 (.op 1 3 (.op 2 3 (.op 3 3 (.op 4 2 (.op 5 3 (.op 6 3 (.op 7 3 (.op 8 3 (.op 10 3 (.op 11 2 (.op 12 2 (.op 13 3 (.op 14 3 (.op 15 3 (.alt ((.op 9 0 (.alt ((.op 16 0 (.alt (.ofL [(17,0),(18,2),(19,3),(20,3),(21,0),(22,0),(23,1)]) (.ofL [(21,0),(17,0),(18,1),(19,1),(20,3),(22,0),(23,1)])))) (.ofL [(21,0),(16,0),(17,0),(18,1),(19,1),(20,3),(22,0),(23,1)])))) (.ofL [(21,0),(9,0),(16,0),(17,0),(18,1),(19,1),(20,3),(22,0),(23,1)])))))))))))))))))),(8,.ofL [(0,2),(1,3),(2,3),(3,3),(4,2),(5,3),(6,3),(7,3),(8,1),(10,3),(11,2),(12,2),(13,3),(14,3),(15,3),(9,0),(16,0),(17,0)]),(10,.ofL [(0,1),(1,1),(2,1),(3,1),(4,1),(5,1),(6,1),(7,1),(8,0)]),(11,.ofL [(0,2),(1,2),(2,1),(3,1),(4,1),(5,1),(6,1),(7,1),(8,1),(9,1),(11,2),(10,0),(12,0)])],rcuts:=[(5,[10,11])]}) (os:=[(4,[(9,[15,14,13,10,7,6,5,3,2,1]),(16,[10,7,6,5,3,2,1]),(21,[20,19,15,14,13,10,8,7,6,5,3,2,1]),(22,[20])]),(8,[(9,[15,14,13,10,7,6,5,3,2,1]),(16,[10,7,6,5,3,2,1])])])) fun F=>?_;simp only[ca_,na_])
 refine aX fun x6=>?_
 obtain⟨Q,hQ⟩:∃Q,Q=eh f (evA f z i ⟨200,fl,X,D⟩):=⟨_,rfl⟩
 rw[<- hQ]
 obtain⟨fa,fc⟩:=fr
 obtain⟨xa,xc⟩:=xx
 obtain⟨da,dc⟩:=dd
 unfold mX eh
 refine am ?_
 (try dsimp only)
 refine aP (by(repeat constructor):Pick _ (Sl 2 192 fa fc 1 (fH.flatMap cS)) _) fun _ _ _ hs1=>?_
 have hA:gX W (Sl 2 192 fa fc 1 (fH.flatMap cS)) fa fH:=cJ (l:=fH) hs1
 have hfa:fa=none->fH=[]:=by
  rintro rfl
  obtain⟨g,hg⟩:=hs1 (by decide)
  cases hg
 unfold ci nF TF.sv d6 ry fQ bX ni un
 refine am ?_
 (try dsimp only)
 refine o_ ag (o_ ae (o_ dm ?_))
 refine' aE (iO (n:=4) (o:=2) (vs:=[ay cU,ay (f.T i),.int .i64 1,.slice fa 1 fc]) rfl ?hcv) ?hiv ?_
 case hiv=>(repeat(first|exact .refl|exact .nil|(apply Imp.pick;(focus ((repeat constructor);done)))|refine .drop ?_))
 case hcv=>exact fun i hi=>match i,hi with|0,_=>rfl|1,_=>rfl|2,_=>rfl|3,_=>rfl
 refine aU fun g=>?_;(((refine' aK ?hp ?hn ?hv ?h1 ?_);(case hp=>(repeat constructor));(case hn=>rfl);(case hv=>rfl);(case h1=>simp[Value.oneCell',ay])))
 rename Nat=>x8
 refine fS ?_
 refine o_ ag (o_ ae (aH ?_));refine aj (aj (aj (o_ ak (af (o_ ag (o_ ae (o_ dm (aH ?_))))))));refine ab (o_ ae (ab (aH ?_)));refine ab (c_ Cm fun _=>?_)
 refine o_ av (ai (aW (aq ag .nil ?_)));refine aq ae .nil ?_;(((refine' aq (aS ?hc) ?hi ?_);(case hi=>exact .pick (by repeat constructor) .nil);(case hc=>repeat constructor)));refine aq ag .nil ?_;refine aq ae .nil ?_;(((refine' aq (aS ?hc) ?hi ?_);(case hi=>exact .pick (by repeat constructor) .nil);(case hc=>repeat constructor)));(((refine' be (bN ?hn) ?hi ?_);(case hi=>exact .pick (by repeat constructor) .nil);(case hn=>rfl)));(((refine' aq (bN ?hn) ?hi ?_);(case hi=>exact .pick (by repeat constructor) .nil);(case hn=>rfl)));refine aq ag .nil ?_;refine aq ae .nil ?_;(((refine' aq (aS ?hc) ?hi ?_);(case hi=>exact .pick (by repeat constructor) .nil);(case hc=>repeat constructor)))
 refine' ah (Jp (m:=cU) (t:=f.T i) (mi:=1) (f:=(fa,fc))) ?hp fun _=>?_
 case hp=>exact .nil
 refine am ?_
 (try dsimp only)
 (repeat((refine' cB (aN ?hcs) ?_);(case hcs=>(repeat(first|exact .refl|exact .nil|(apply Imp.pick;(focus ((repeat constructor);done)))|refine .drop ?_)))))
 refine c_ mZ fun _=>?_
 (repeat((refine' cB (aN ?hcs) ?_);(case hcs=>(repeat(first|exact .refl|exact .nil|(apply Imp.pick;(focus ((repeat constructor);done)))|refine .drop ?_)))))
 refine' ah (FD.store (R:=fH) (X:=X) (D:=D) (key:=eY (f.T i)) (m:=cU) (tg:=f.T i) (mi:=1) (st:=200) (asked:=asked) (came:=f.now) (cr:=fc) (cx:=xc) (cd:=dc) hZ hA hfa hX hx0 hD hd0 hzH hzX hzD (by simp[eY];omega)) ?hp fun zz=>?_
 case hp=>(repeat(first|exact Picks.nil|(apply Picks.cons;(focus repeat constructor))))
 refine am ?_
 refine gZ fun ds=>?_
 refine aW (t_ ae (cm ?_));(((refine' be (bN ?hn) ?hi ?_);(case hi=>exact .pick (by repeat constructor) .nil);(case hn=>rfl)));refine t_ ag (t_ ae (t_ dm (cm ?_)))
 refine' ah (Jo (l:= .slice fa 1 fc) (X:=X) (D:=D) (xx:=(xa,xc)) (dd:=(da,dc)) hX (fun e=>by rw[hx0 e];rfl) hy.ok.hk.1 hD (fun e=>by rw[hd0 e];rfl) hy.ok.dl) ?hp fun u=>?_
 case hp=>(repeat(first|exact Picks.nil|(apply Picks.cons;(focus repeat constructor))))
 obtain⟨⟨ua,uc⟩,wa,wc⟩:=u
 refine am ?_
 (try dsimp only)
 refine aP (by(repeat constructor):Pick _ (Sl 2 192 ua uc _ _) _) fun _ _ _ hs3=>?_
 refine aP (by(repeat constructor):Pick _ (Sl 1 5 wa wc _ _) _) fun _ _ _ hs4=>?_
 refine' ah (uP (v:=f.v) (w:=f.w) (gn:=f.g) (j:=f.J i) (k:=f.k) (c:=f.c) (lgx:=f.lg) (m:=z.m) (n:=f.n) (lq:=z.lq) (i:=i) (s:=f.sv z) (now:=f.now) (nm:=f.nm) (t:=f.T i) (wd:=kR) (ho:=[97]) (pa:=f.T i) (ke:=eY (f.T i)) (O:=z.O) (f:=(fa,fc)) (b:=bb) (xx:=(ua,uc)) (dd:=(wa,wc)) (tv:=fQ (f.T i)) (lo:=bX) (se:=ni (f.T i) (fa,fc)) (tr:=0) (A:=f.A) (T:=f.T) (sa:=z.sa) (a:=⟨200,fl,X,D⟩) rfl rfl rfl hs.s hl hi hsi hy.ok (cJ hs3) (fun e=>List.eq_nil_of_length_eq_zero (uM hs3 e)) (gO (e:=5) (a:=wa) (cap:=wc) (by rw[List.length_map]) hs4) (fun e=>List.eq_nil_of_length_eq_zero (uM hs4 e)) hy.en hy.ln (by omega)) ?hp fun _=>?_
 case hp=>unfold ci nF TF.sv;(repeat(first|exact Picks.nil|(apply Picks.cons;(focus repeat constructor))))
 refine am ?_
 refine aR zz ?_
 rw[hQ]
 unfold eh
 refine am ?_
 exact az
def evD (z:TC)(i:Nat):TC:={z with ls:=fw z.ls i 2,N:=z.N+1,B:=y5 z.B i,us:=z.us-1}
theorem PcOk.evD {f:TF}{z:TC}{i:Nat}(h:PcOk f z)(hi:z.ls i=1)(hN:z.N<500)(hu: -500<z.us):PcOk f (evD z i)/\(evD z i).ls i≠1:=by
 have hm:=(h.at_ hi).1
 refine⟨⟨h.s,⟨h.l.m,fun j hj=>?_,fun j hj=>?_,h.l.l⟩,fun j hj=>?_,by show z.N+1<=500;omega,h.m,by show-500<=z.us-1;omega,by have:=h.u1;show z.us-1<=500;omega⟩,?_⟩
 ·show fw z.ls i 2 j=1\/fw z.ls i 2 j=2
  by_cases e:j=i
  ·subst e;exact .inr dC
  ·rw[eM e];exact h.l.s j hj
 ·show fw z.ls i 2 j≠1
  by_cases e:j=i
  ·subst e;rw[dC];decide
  ·rw[eM e];exact h.l.z j hj
 ·have hj:fw z.ls i 2 j=1:=hj
  by_cases e:j=i
  ·subst e;rw[dC]at hj;cases hj
  ·rw[eM e]at hj
   exact⟨by show y5 z.B i j=true;unfold y5;rw[if_neg e];exact(h.b j hj).1,(h.b j hj).2⟩
 ·show fw z.ls i 2 i≠1
  rw[dC]
  decide
theorem JE {W:World}[hG:Gl W][hP:Gp W]{f:TF}{z:TC}{i T H R:Nat}{asked:Int}{fl b:List UInt8}{fr bb gt:AC}{Z:Cs}{P:Ps}{X:List FD.Fd}{D:List UInt8}(hs:PcOk f z)(hi:z.ls i=1)(hN:z.N<500)(hu: -500<z.us)(hm:z.m<190)(hy:SayOk f i ⟨200,fl,kg X,D⟩)(htl:(f.T i).length<=1000)(hZ:CsOk T Z)(h:RpOk b P X D)(hT:ToOk T X D):
  Cn p_ 45 [pC f.v,pC (f.X i),.int .i64 0] W (GT f z++[BH f.n (fh f.X f.J f.T f.k f.g f.sn z.ls) i,cE (f.X i) i f.g (pC (f.J i)) ⟨asked,true,pC H,pC R,1,D.length,.slice gt.1 D.length gt.2⟩,cV H P,Sl 1 5 gt.1 gt.2 D.length (D.map Sl.B),d6 (f.J i) f.k (i:Int) (f.T i) fr bb f.g (fQ (f.T i)) [97] (f.T i) (eY (f.T i)) bX (ni (f.T i) fr),mX fr,gf f.ca Z]) (fun _:SW T Z (f.T i) (kg X) D asked f.now=> .tuple #[])
   (fun y=>eh f (evA f (evD z i) i ⟨200,fl,kg X,D⟩)++[gf f.ca y.1]):=by
 obtain⟨hmem,hlt,hlq⟩:=hs.at_ hi
 obtain⟨u,hu1⟩:∃u,z.us=u+1:=⟨z.us-1,by omega⟩
 have h0:=hs.u0
 have h1:=hs.u1
 obtain⟨Q,hQ⟩:∃Q,Q=eh f (evA f (evD z i) i ⟨200,fl,kg X,D⟩):=⟨_,rfl⟩
 (refine Shp.cn (Sg.g_ Tryz.call45 Tryz.func45 (an:={cuts:=[(7,[])],drs:=[(4,.ofL [(0,1),(2,2),(3,3),(4,3),(5,3),(6,3),(7,2),(1,0),(8,0)]),(7,(.op 0 2 (.op 1 2 (.op 5 3 (.op 8 2 (.op 9 3 (.op 10 3 (.op 11 3 (.alt ((.op 2 0 (.alt ((.op 3 0 (.alt ((.op 4 0 (.alt ((.op 6 0 (.alt (.ofL [(7,0),(12,3),(13,0),(14,0)]) (.ofL [(13,0),(7,0),(12,1),(14,0)])))) (.ofL [(13,0),(6,0),(7,0),(12,1),(14,0)])))) ((.alt ((.op 6 0 (.alt ((.op 4 0 (.alt (.ofL [(7,0),(12,3),(13,0),(14,0)]) (.ofL [(13,0),(7,0),(12,1),(14,0)])))) (.ofL [(13,0),(4,0),(7,0),(12,1),(14,0)])))) ((.op 13 0 (.alt (.ofL [(4,0),(6,0),(7,0),(12,1),(14,0)]) (.ofL [(6,0),(4,0),(7,0),(12,1),(14,0)]))))))))) ((.alt ((.op 6 0 (.alt ((.op 3 0 (.alt ((.op 4 0 (.alt (.ofL [(7,0),(12,3),(13,0),(14,0)]) (.ofL [(13,0),(7,0),(12,1),(14,0)])))) (.ofL [(13,0),(4,0),(7,0),(12,1),(14,0)])))) (.ofL [(13,0),(3,0),(4,0),(7,0),(12,1),(14,0)])))) ((.op 13 0 (.alt ((.op 3 0 (.alt (.ofL [(4,0),(6,0),(7,0),(12,1),(14,0)]) (.ofL [(6,0),(4,0),(7,0),(12,1),(14,0)])))) (.ofL [(6,0),(3,0),(4,0),(7,0),(12,1),(14,0)]))))))))) ((.alt ((.op 3 0 (.alt ((.op 2 0 (.alt ((.op 4 0 (.alt ((.op 6 0 (.alt (.ofL [(7,0),(12,3),(13,0),(14,0)]) (.ofL [(13,0),(7,0),(12,1),(14,0)])))) (.ofL [(13,0),(6,0),(7,0),(12,1),(14,0)])))) ((.alt ((.op 6 0 (.alt ((.op 4 0 (.alt (.ofL [(7,0),(12,3),(13,0),(14,0)]) (.ofL [(13,0),(7,0),(12,1),(14,0)])))) (.ofL [(13,0),(4,0),(7,0),(12,1),(14,0)])))) ((.op 13 0 (.alt (.ofL [(4,0),(6,0),(7,0),(12,1),(14,0)]) (.ofL [(6,0),(4,0),(7,0),(12,1),(14,0)]))))))))) ((.alt ((.op 6 0 (.alt ((.op 2 0 (.alt ((.op 4 0 (.alt (.ofL [(7,0),(12,3),(13,0),(14,0)]) (.ofL [(13,0),(7,0),(12,1),(14,0)])))) (.ofL [(13,0),(4,0),(7,0),(12,1),(14,0)])))) (.ofL [(13,0),(2,0),(4,0),(7,0),(12,1),(14,0)])))) ((.op 13 0 (.alt ((.op 2 0 (.alt (.ofL [(4,0),(6,0),(7,0),(12,1),(14,0)]) (.ofL [(6,0),(4,0),(7,0),(12,1),(14,0)])))) (.ofL [(6,0),(2,0),(4,0),(7,0),(12,1),(14,0)]))))))))) ((.alt ((.op 6 0 (.alt ((.op 2 0 (.alt ((.op 3 0 (.alt ((.op 4 0 (.alt (.ofL [(7,0),(12,3),(13,0),(14,0)]) (.ofL [(13,0),(7,0),(12,1),(14,0)])))) (.ofL [(13,0),(4,0),(7,0),(12,1),(14,0)])))) (.ofL [(13,0),(3,0),(4,0),(7,0),(12,1),(14,0)])))) ((.alt ((.op 3 0 (.alt ((.op 2 0 (.alt ((.op 4 0 (.alt (.ofL [(7,0),(12,3),(13,0),(14,0)]) (.ofL [(13,0),(7,0),(12,1),(14,0)])))) (.ofL [(13,0),(4,0),(7,0),(12,1),(14,0)])))) (.ofL [(13,0),(2,0),(4,0),(7,0),(12,1),(14,0)])))) ((.op 13 0 (.alt (.ofL [(2,0),(3,0),(4,0),(7,0),(12,1),(14,0)]) (.ofL [(3,0),(2,0),(4,0),(7,0),(12,1),(14,0)]))))))))) ((.op 13 0 (.alt ((.op 2 0 (.alt ((.op 3 0 (.alt (.ofL [(4,0),(6,0),(7,0),(12,1),(14,0)]) (.ofL [(6,0),(4,0),(7,0),(12,1),(14,0)])))) (.ofL [(6,0),(3,0),(4,0),(7,0),(12,1),(14,0)])))) ((.alt ((.op 3 0 (.alt ((.op 2 0 (.alt (.ofL [(4,0),(6,0),(7,0),(12,1),(14,0)]) (.ofL [(6,0),(4,0),(7,0),(12,1),(14,0)])))) (.ofL [(6,0),(2,0),(4,0),(7,0),(12,1),(14,0)])))) ((.op 6 0 (.alt (.ofL [(2,0),(3,0),(4,0),(7,0),(12,1),(14,0)]) (.ofL [(3,0),(2,0),(4,0),(7,0),(12,1),(14,0)])))))))))))))))))))))),(8,.ofL [(0,1),(1,1),(2,1),(3,1),(4,1),(5,1),(6,1),(7,0)])],rcuts:=[(8,[13])]}) (os:=[(4,[(1,[6,5,4,3])]),(7,[(2,[11,10,9,5]),(3,[11,10,9,5]),(4,[11,10,9,5]),(6,[11,10,9]),(7,[11,10,9]),(13,[12,11,10,9,5])])])) fun F=>?_;simp only[ca_,na_])
 rw[<- hQ]
 unfold cE nW GT
 refine am ?_
 rw[hu1]
 (try dsimp only)
 refine o_ ag (o_ ae (aH ?_))
 refine' ah (mR (g:=H) (p:=P) h.dn h.rp (by rw[h.fs];have:=h.fl;omega)) ?hp fun w=>?_
 case hp=>(repeat(first|exact Picks.nil|(apply Picks.cons;(focus repeat constructor))))
 obtain⟨ra,rc⟩:=w
 rw[h.st,h.mi,h.fs]
 refine am ?_
 (try dsimp only)
 refine aP (by(repeat constructor):Pick _ (Sl 2 192 ra rc _ _) _) fun _ _ _ hs2=>?_
 have hX:=cJ (W:=W) (a:=ra) (c:=rc) (l:=X) hs2
 refine bE ?_;refine bE ?_;refine bE ?_;refine bE ?_
 refine' ah (CE (x:=f.X i) (i:=i) (jb:=pC (f.J i)) (r:=⟨asked,true,pC H,pC R,1,D.length,.slice gt.1 D.length gt.2⟩) (us:=u) (by omega) (by omega)) ?hp fun _=>?_
 case hp=>(repeat(first|exact Picks.nil|(apply Picks.cons;(focus repeat constructor))))
 refine am ?_
 refine' ah (FD.fO (n:=mS) (c:=rc) hX h.hk (by decide)) ?hp fun w=>?_
 case hp=>(repeat(first|exact Picks.nil|(apply Picks.cons;(focus repeat constructor))))
 rw[hT.cc]
 refine am ?_
 refine c_ Pz fun _=>?_
 unfold cE nW
 (try dsimp only)
 refine o_ ag (o_ ae (o_ dm (aH ?_)));(((refine o_ (Sl.eI ?hcq) ?_);(case hcq=>(first|omega|(simp only[List.length_nil,List.length_cons];omega)))));refine ab (ab ?_);(((refine o_ (Sl.gi ?hcq) ?_);(case hcq=>(first|omega|(simp only[List.length_nil,List.length_cons];omega)))));refine o_ av (ab (ab (o_ cL (o_ av (ab (ab ?_))))));(((refine o_ (Sl.ce ?hcq) ?_);(case hcq=>(first|omega|(simp only[List.length_nil,List.length_cons];omega)))));refine o_ av (dP ?_)
 refine aW (aq ag .nil ?_);refine aq ae .nil ?_;refine aq dm .nil ?_;(((refine' aq (aS ?hc) ?hi ?_);(case hi=>exact .pick (by repeat constructor) .nil);(case hc=>repeat constructor)))
 refine' ah (CF (x:=f.X i) (i:=i) (jb:= .pointer none) (r:=⟨asked,true,pC H,pC R,1,D.length,.slice gt.1 D.length gt.2⟩)) ?hp fun _=>?_
 case hp=>(repeat(first|exact Picks.nil|(apply Picks.cons;(focus repeat constructor))))
 unfold cE nW
 refine am ?_
 (try dsimp only)
 (repeat((refine' cB (aN ?hcs) ?_);(case hcs=>(repeat(first|exact .refl|exact .nil|(apply Imp.pick;(focus ((repeat constructor);done)))|refine .drop ?_)))))
 refine I4 (N:=z.N) (B:=z.B) (by omega) (hs.b i hi).1 (by repeat constructor) ?_
 refine o_ bB (af (gZ fun ds=>?_))
 refine' sR (fun z=>[ex fun y:Nat × AC=>all [pu (z=pC y.1),xp y.1 (kg X) D y.2 gt,Sl 2 192 y.2.1 y.2.2 (kg X).length ((kg X).flatMap cS)],Sl 2 192 ra rc X.length (X.flatMap cS)]) ?hb ?hr
 case hb=>
  have hk2:(dx (dX X) [pz]).length<=4194304:=(pH [pz] hT.ks).1
  refine aW (aq bO .nil ?_);refine aq ag .nil ?_;refine aq ae .nil ?_;(((refine' aq (aS ?hc) ?hi ?_);(case hi=>exact .pick (by repeat constructor) .nil);(case hc=>repeat constructor)))
  repeat' (first
   |(with_reducible refine ek ?_ ?_)
   |((with_reducible refine' cB (aN ?hcs) ?_);(case hcs=>(repeat(first|exact .refl|exact .nil|(apply Imp.pick;(focus ((repeat constructor);done)))|refine .drop ?_))))
   |(with_reducible refine aU fun oo=>?_)
   |(refine' ah (Be (c:=rc) hX hT.zx) ?hp fun u=>?_;(case hp=>(repeat(first|exact Picks.nil|(apply Picks.cons;(focus repeat constructor)))));refine am ?_)
   |(with_reducible refine cI fun gk=>?_)
   |(refine UR hT.ks (by repeat constructor) (by repeat constructor) fun u=>?_)
   |(refine US fun gv=>?_)
   |(refine Qz hk2 (by repeat constructor) (by repeat constructor) fun sa sc=>?_)
   |(with_reducible refine aq bO .nil ?_)
   |(with_reducible refine t_ bO ?_)
   |((with_reducible refine' aK ?hp ?hn ?hv ?h1 ?_);(case hp=>(repeat constructor));(case hn=>rfl);(case hv=>rfl);(case h1=>simp[Value.oneCell']))
   |(refine Co (.ex (oo,(sa,sc)) (.all ?_));refine am ?_;exact .pu rfl (.pick .here (.pick .here (.drop (.drop (.drop (.pick .here .refl)))))))
   |(refine Co (.ex (oo,(sa,sc)) (.all ?_));refine am ?_;exact .pu rfl az))
 case hr=>
 intro ds zv
 refine am ?_
 refine a8 .here fun y=>aB .here ?_
 refine am ?_
 refine aT .here fun hz=>?_
 subst hz
 obtain⟨o8,sa,sc⟩:=y
 unfold xp un
 (try dsimp only)
 refine aW ?_;(((refine' be (bN ?hn) ?hi ?_);(case hi=>exact .pick (by repeat constructor) .nil);(case hn=>rfl)));refine t_ ag (t_ ae (cm ?_))
 refine rB (X:=f.X) (J:=f.J) (T:=f.T) (k:=f.k) (now:=f.sn) (ls:=z.ls) (r:=⟨asked,true,pC H,pC R,1,D.length,.slice gt.1 D.length gt.2⟩) hlt (by unfold cE nW;(repeat constructor)) (by repeat constructor) ?_
 refine aP (by(repeat constructor):Pick _ (Sl 2 192 sa sc _ _) _) fun _ _ _ hs3=>?_
 refine aP (by(repeat constructor):Pick _ (Sl 1 5 gt.1 gt.2 _ _) _) fun _ _ _ hs4=>?_
 obtain⟨hE1,hE2⟩:=hs.evD hi hN hu
 refine' ah (Fl (f:=f) (z:=evD z i) (i:=i) (asked:=asked) (fl:=fl) (fr:=fr) (bb:=bb) (X:=kg X) (D:=D) (xx:=(sa,sc)) (dd:=gt) hE1 hlq hlt (hs.b i hi).2 hm hy htl hZ (cJ hs3) (fun e=>List.eq_nil_of_length_eq_zero (uM hs3 e)) (gO (e:=5) (a:=gt.1) (cap:=gt.2) (by rw[List.length_map]) hs4) (fun e=>List.eq_nil_of_length_eq_zero (uM hs4 e)) hT.zh hT.zs hT.zd) ?hp fun y=>?_
 case hp=>
  unfold eh
  rw[show(evD z i).us=u by show z.us-1=u;omega]
  refine am ?_
  (repeat(first|exact Picks.nil|(apply Picks.cons;(focus repeat constructor))))
 rw[<- hQ]
 refine am ?_
 refine aR y ?_
 exact fV az _
theorem xY {W:World}[hG:Gl W][hP:Gp W]{f:TF}{z:TC}{i T:Nat}{fl b:List UInt8}{Z:Cs}{P:Ps}{X:List FD.Fd}{D:List UInt8}{ba:Option Addr}{cap:Nat}{A:HP}(hs:PcOk f z)(hi:z.ls i=1)(hN:z.N<500)(hu: -500<z.us)(hm:z.m<190)(hy:SayOk f i ⟨200,fl,kg X,D⟩)(htl:(f.T i).length<=1000)(hA:RdB W A ba b.length (b.map Sl.B))(hcap:b.length<=cap)(hZ:CsOk T Z)(h:RpOk b P X D)(hT:ToOk T X D):
  Cn p_ 15 [pC f.v,.int .i64 (i:Int),.slice ba b.length cap] W (eh f z++[A,gf f.ca Z]) (fun _:SW T Z (f.T i) (kg X) D f.sn f.now=> .int .i64 0)
   (fun y=>eh f (evA f (evD z i) i ⟨200,fl,kg X,D⟩)++[A,gf f.ca y.1]):=by
 obtain⟨hmem,hlt,hlq⟩:=hs.at_ hi
 obtain⟨hE1,hE2⟩:=hs.evD hi hN hu
 obtain⟨Q,hQ⟩:∃Q,Q=eh f (evA f (evD z i) i ⟨200,fl,kg X,D⟩):=⟨_,rfl⟩
 (refine Shp.cn (Sg.g_ Tryz.call15 Tryz.func15) fun F=>?_;simp only[ca_,na_])
 rw[<- hQ]
 unfold eh
 refine am ?_
 refine c_ mh fun _=>?_
 refine af ?_
 refine' ah (wm (v:=f.v) (k:=f.k) (n:=f.n) (s:=f.sv z) (l:=f.l) (X:=f.X) (J:=f.J) (T:=f.T) (now:=f.sn) (ls:=z.ls) (L:=z.L) (gn:=f.g) rfl (fun j hj=>⟨hs.l.m j hj,by have:=hs.l.s j hj;omega⟩) hmem (by have:=hs.l.l;omega)) ?hp fun _=>?_
 case hp=>(repeat(first|exact Picks.nil|(apply Picks.cons;(focus repeat constructor))))
 refine am ?_
 refine ki hlt hi (by(repeat constructor):Pick _ (et f.X f.J f.T f.k f.g f.sn f.n z.ls) _) fun y=>?_
 unfold j_ cE nW
 refine am ?_
 (try dsimp only)
 refine o_ bM ?_;refine af (o_ ag (o_ ae (aH ?_)));refine o_ bM ?_;refine af ?_
 refine' ah (Jt (x:=f.X i) (i:=i) (gn:=f.g) (j:=f.J i) (k:=f.k) (H:=y.H) (id:=(i:Int)) (si:=f.sn) (kd:=y.kd) (nn:=y.nn) (t:=f.T i) (ho:=[97]) (pa:=f.T i) (ke:=eY (f.T i)) (f:=y.f) (bb:=y.bb) (tv:=fQ (f.T i)) (lo:=bX) rfl rfl hA hcap h) ?hp fun u=>?_
 case hp=>unfold cE nW;(repeat(first|exact Picks.nil|(apply Picks.cons;(focus repeat constructor))))
 obtain⟨R,ga,gc⟩:=u
 refine am ?_
 (try dsimp only)
 refine bE ?_;refine bE ?_;refine bE ?_;(((refine o_ (Sl.cq ?hcq) ?_);(case hcq=>(first|omega|(simp only[List.length_nil,List.length_cons];omega)))));refine af (ai ?_)
 refine' ah (JE (f:=f) (z:=z) (i:=i) (H:=y.H) (R:=R) (asked:=f.sn) (fl:=fl) (fr:=y.f) (bb:=y.bb) (gt:=(ga,gc)) hs hi hN hu hm hy htl hZ h hT) ?hp fun u=>?_
 case hp=>unfold GT;refine am ?_;(repeat(first|exact Picks.nil|(apply Picks.cons;(focus repeat constructor))))
 refine bf (M:=eh f (evA f (evD z i) i ⟨200,fl,kg X,D⟩)++([gf f.ca u.1]++(A::F))) (by rw[List.append_assoc];exact fV az _) ?_
 refine iY (hE1.evA hlq hlt hE2 hy.ok hm) ?_
 rw[<- hQ]
 refine aR u ?_
 rw[List.append_assoc]
 exact fV az _
theorem GY {b:Int}{key:List UInt8}{R:List FD.Fd}:io (cv b) key R=none:=rfl
theorem UX {T:Nat}{t:List UInt8}{X:List FD.Fd}{D:List UInt8}{asked now:Int}(y:SW T (cv 0) t X D asked now):y.1=cv 0:=by
 have h:=y.2.2
 have hc:=(xB (key:=eY t) (m:=cU) (st:=200) (asked:=0) (came:=0) (R:=fH) (X:=X) (D:=D) (T:=max (zF fH) (max (zF X) D.length)) (by omega) (by omega) (by omega)).c1
 rw[show uA (cv 0).bound (eY t) cU fH X D 200=false by
  unfold uA
  rw[show(cv 0).bound=0 from rfl,dF_ (by omega),Bool.and_false]]at h
 simpa using h
def Fm (gn j i:Nat)(now:Int)(y:Snt):HP:=cE y.x i gn (pC j) ⟨now,false,pC y.H,.pointer none,y.kd,y.nn,.slice none 0 0⟩
theorem JF {W:World}[hG:Gl W][hP:Gp W]{v w gn j k p st n:Nat}{s:SvS}{id now us tm rt:Int}{t ke:List UInt8}{f b pa l o0:AC}{m:Value}{q:Ca}{ps:List Nat}{vs:List Value}(hn:n<60)(hpl:ps.length=n)(hvl:vs.length=n * 4)(hsw:s.w=w)(hlk:s.lk= .slice l.1 n l.2)(hnu:s.nu=n)(hout:s.out= .slice o0.1 n o0.2)(hn0:0<=now)(htl:t.length<=1000)(hus:0<=us)(hus1:us<=1000)(htg:nP t=true)(hwr:kI (mp t) wl=true):
  Cn p_ 59 [pC v,pC j] W [ci v s,d6 j k id t f b gn (fQ t) [97] t ke bX (ni t f),dB gn st q pa m us,eJ q tm rt,nH pa p,uD p n,jH w now,Sl 1 115 l.1 l.2 n (ps.map pC),Sl 4 42 o0.1 o0.2 n vs,mX f] (fun _:Snt=> .tuple #[])
   (fun y=>[ci v {s with lk:= .slice y.l.1 (n+1) y.l.2,nu:=(n:Int)+1,out:= .slice y.o.1 (n+1) y.o.2},d6 j k id t f b gn (fQ t) [97] t ke bX (ni t f),dB gn st q pa m (us+1),eJ q tm rt,nH pa p,uD p (n+1),jH w now,Sl 1 115 y.l.1 y.l.2 (n+1) (ps.map pC++[pC y.x]),Fm gn j n now y,cV y.H (ef true),mX f,Sl 4 42 y.o.1 y.o.2 (n+1) (vs++[.int .i64 (n:Int),.int .i64 1,.bool true,.slice y.b.1 (mQ (mp t) wl).length y.b.2])]):=by
 (refine Shp.cn (Sg.g_ Tryz.call59 Tryz.func59 (an:={cuts:=[(12,[8])],drs:=[(2,(.op 0 3 (.op 1 3 (.op 2 3 (.op 3 3 (.op 4 3 (.op 5 3 (.op 6 3 (.op 7 3 (.op 8 3 (.op 9 3 (.op 10 2 (.op 11 3 (.op 12 3 (.op 13 3 (.alt ((.op 14 0 (.alt (.ofL [(15,0),(16,2),(17,3),(18,3),(19,3),(20,0),(21,0),(22,1),(23,1)]) (.ofL [(20,0),(15,0),(16,1),(17,1),(18,3),(19,3),(21,0),(22,1),(23,1)])))) (.ofL [(20,0),(14,0),(15,0),(16,1),(17,1),(18,3),(19,3),(21,0),(22,1),(23,1)]))))))))))))))))),(4,.ofL [(0,2),(1,3),(2,0),(3,0)]),(7,.ofL [(0,1),(1,1),(2,1),(3,1),(4,1),(5,1),(6,1),(7,1),(8,1),(9,1),(10,1),(11,0),(12,1)]),(13,.ofL [(0,1),(1,1),(2,1),(3,1),(4,1),(5,1),(6,1),(7,1),(8,1),(9,1),(10,1),(11,1),(12,1),(13,1),(14,1),(15,1),(16,1),(17,0),(18,0),(19,1),(20,1),(21,1),(22,1),(23,1)]),(15,.ofL [(0,1),(2,3),(3,3),(1,0),(4,0)]),(16,.ofL [(0,2),(1,3),(2,0),(3,0)]),(17,.ofL [(0,2),(1,2),(2,2),(3,2),(4,2),(5,2),(6,3),(7,1),(8,1),(9,1),(10,1),(11,0),(12,0),(13,1),(14,1),(15,0),(16,1),(17,1),(18,0),(19,1),(20,1),(21,0),(22,1),(23,1),(24,0),(25,1),(26,1),(27,0),(28,1),(29,1),(30,0)]),(19,.ofL [(0,2),(1,2),(2,3),(3,3),(4,3),(5,2),(6,3),(7,3),(8,3),(9,3),(10,3),(11,2),(12,1),(13,1),(14,1),(15,1),(16,1),(17,1),(18,0),(19,1),(20,0),(21,0),(22,1),(23,1),(24,0)])],rcuts:=[(3,[5,6,7])]}) (os:=[(2,[(14,[9,8,7,6,5,4,3,2,1,0]),(20,[19,18,17,13,12,11,9,8,7,6,5,4,3,2,1,0]),(21,[19,18])]),(4,[(2,[1])]),(15,[(1,[3,2])]),(16,[(2,[1])]),(17,[(11,[6]),(12,[6])]),(19,[(18,[10,9,8,7,6,4,3,2]),(20,[4,3,2])])])) fun F=>?_;simp only[ca_,na_])
 refine b_ fun b3=>?_
 cases s
 rename_i w_ g_ cl lk nu ca lg out
 (try dsimp only at *)
 subst hlk hnu hout
 obtain⟨⟨ua,uc⟩,⟨pa_,pc_⟩,⟨sa,sc⟩,la,lc⟩:=q
 obtain⟨pa,pc⟩:=pa
 refine aB (by(repeat constructor):Pick _ (eJ _ tm rt) _) ?_
 unfold iT
 refine am ?_
 (try dsimp only)
 refine a9 (by(repeat constructor):Pick _ (Sl 4 145 ua uc 1 _) _) (by decide) fun G hG=>?_
 subst hG hsw
 unfold d6 ry fQ dB wk
 refine am ?_
 refine aH ?_;refine o_ ag (o_ ae (aH ?_));refine o_ ag (o_ ae (o_ ae (aH ?_)));refine o_ bC (oL (A:=pt b3 (.cells #[pC j] 97)) (B:=d6 j k id t f b gn (fQ t) [97] t ke bX (ni t f)) (by repeat constructor) (by repeat constructor) ?_)
 refine' ah (GR (cap:=[.pointer (some ⟨b3,0,none⟩)]) rfl (Qs (tm:=tm) (rt:=rt) (q:=⟨(some ⟨G,0,none⟩,uc),(pa_,pc_),(sa,sc),la,lc⟩))) ?hp fun _=>?_
 case hp=>(repeat(first|exact Picks.nil|(apply Picks.cons;(focus repeat constructor))))
 refine am ?_
 refine aB (by(repeat constructor):Pick _ (all _) _) ?_
 refine am ?_
 refine de fun g=>?_;refine bR ?_
 rename Nat=>b4
 unfold nH
 (try dsimp only)
 refine a9 (by(repeat constructor):Pick _ (Sl 1 216 pa pc 1 _) _) (by decide) fun G2 hG2=>?_
 subst hG2
 refine' xP (fun x y z=>[ex fun o:Nat=>all [pu (x=pC o/\y= .bool true/\z= .int .i64 0),pt o (.cells #[.int .i64 1,.int .i64 (n:Int)] 118)],uD p (n+1)]) ?hb ?hr
 case hb=>
  refine aW ?_;(((refine' aq (aS ?hc) ?hi ?_);(case hi=>exact .pick (by repeat constructor) .nil);(case hc=>repeat constructor)));refine aq ag .nil ?_;refine aq ae .nil ?_;(((refine' aq (aS ?hc) ?hi ?_);(case hi=>exact .pick (by repeat constructor) .nil);(case hc=>repeat constructor)));refine aq ag .nil ?_;refine aq ae .nil ?_;(((refine' aq (aS ?hc) ?hi ?_);(case hi=>exact .pick (by repeat constructor) .nil);(case hc=>repeat constructor)));(((refine' aq (aS ?hc) ?hi ?_);(case hi=>exact .pick (by repeat constructor) .nil);(case hc=>repeat constructor)));(((refine' aq (bq 0 rfl ?hcq) .nil ?_);(case hcq=>(first|omega|decide|(simp;done)))));(((refine' aq (bw ?hc) ?hi ?_);(case hi=>exact az);(case hc=>rfl)));refine aq ag .nil ?_;refine aq ae .nil ?_;(((refine' aq (aS ?hc) ?hi ?_);(case hi=>exact .pick (by repeat constructor) .nil);(case hc=>repeat constructor)))
  refine ek ?_ ?_
  ·refine c_ mZ fun _=>?_
   (repeat((refine' cB (aN ?hcs) ?_);(case hcs=>(repeat(first|exact .refl|exact .nil|(apply Imp.pick;(focus ((repeat constructor);done)))|refine .drop ?_)))))
   refine ek ?_ ?_
   ·refine vZ (M:=n) (by omega) hn0 (by repeat constructor) ?_
    (((refine' aq (bU ?hc) .nil ?_);(case hc=>repeat constructor)));(((refine' aq (bU ?hc) .nil ?_);(case hc=>repeat constructor)));(((refine' aq (bU ?hc) .nil ?_);(case hc=>repeat constructor)));refine aU fun g=>?_;refine bj ?_;refine bj ?_;refine bj ?_;refine bj ?_;refine bj ?_;refine bj ?_;refine bj ?_;refine bj ?_;refine bj ?_;refine bj ?_;refine bj ?_;refine bj ?_;refine bj ?_;refine bj ?_;refine bj ?_;refine bj ?_;(((refine' aK ?hp ?hn ?hv ?h1 ?_);(case hp=>(repeat constructor));(case hn=>rfl);(case hv=>rfl);(case h1=>simp[Value.oneCell',ay])));refine bj ?_;refine bj ?_
    (repeat((refine' cB (aN ?hcs) ?_);(case hcs=>(repeat(first|exact .refl|exact .nil|(apply Imp.pick;(focus ((repeat constructor);done)))|refine .drop ?_)))))
    (repeat((refine' cB (aN ?hcs) ?_);(case hcs=>(repeat(first|exact .refl|exact .nil|(apply Imp.pick;(focus ((repeat constructor);done)))|refine .drop ?_)))))
    rename Nat=>o
    refine aN (.ex o (.all ?_))
    refine am ?_
    exact .pu ⟨rfl,rfl,rfl⟩ (.pick .here (.pick .here .refl))
   ·refine aU fun o=>?_
    (repeat((refine' cB (aN ?hcs) ?_);(case hcs=>(repeat(first|exact .refl|exact .nil|(apply Imp.pick;(focus ((repeat constructor);done)))|refine .drop ?_)))))
    refine vZ (M:=n) (by omega) hn0 (by repeat constructor) ?_
    refine rY ?_;(((refine' aq (bU ?hc) .nil ?_);(case hc=>repeat constructor)));(((refine' aq (bU ?hc) .nil ?_);(case hc=>repeat constructor)));(((refine' aK ?hp ?hn ?hv ?h1 ?_);(case hp=>(repeat constructor));(case hn=>rfl);(case hv=>rfl);(case h1=>simp[Value.oneCell',ay])));refine bj ?_;refine bj ?_
    (repeat((refine' cB (aN ?hcs) ?_);(case hcs=>(repeat(first|exact .refl|exact .nil|(apply Imp.pick;(focus ((repeat constructor);done)))|refine .drop ?_)))))
    refine aN (.ex o (.all ?_))
    refine am ?_
    exact .pu ⟨rfl,rfl,rfl⟩ az
  ·refine aU fun o=>?_
   (repeat((refine' cB (aN ?hcs) ?_);(case hcs=>(repeat(first|exact .refl|exact .nil|(apply Imp.pick;(focus ((repeat constructor);done)))|refine .drop ?_)))))
   refine c_ mZ fun _=>?_
   (repeat((refine' cB (aN ?hcs) ?_);(case hcs=>(repeat(first|exact .refl|exact .nil|(apply Imp.pick;(focus ((repeat constructor);done)))|refine .drop ?_)))))
   refine vZ (M:=n) (by omega) hn0 (by repeat constructor) ?_
   refine rY ?_;(((refine' aq (bU ?hc) .nil ?_);(case hc=>repeat constructor)));(((refine' aq (bU ?hc) .nil ?_);(case hc=>repeat constructor)));(((refine' aK ?hp ?hn ?hv ?h1 ?_);(case hp=>(repeat constructor));(case hn=>rfl);(case hv=>rfl);(case h1=>simp[Value.oneCell',ay])));refine bj ?_;refine bj ?_
   (repeat((refine' cB (aN ?hcs) ?_);(case hcs=>(repeat(first|exact .refl|exact .nil|(apply Imp.pick;(focus ((repeat constructor);done)))|refine .drop ?_)))))
   refine aN (.ex o (.all ?_))
   refine am ?_
   exact .pu ⟨rfl,rfl,rfl⟩ az
 case hr=>
 intro ds x y z
 refine am ?_
 refine a8 .here fun o=>aB .here ?_
 refine am ?_
 refine aT .here fun hz=>?_
 obtain⟨rfl,rfl,rfl⟩:=hz
 (((refine o_ (Sl.cq ?hcq) ?_);(case hcq=>(first|omega|(simp only[List.length_nil,List.length_cons];omega)))));refine af ?_
 refine' sR (fun z=>[ex fun y:AC × Nat × Ln=>all [pu (z=pC y.2.1),ci v ⟨w_,g_,cl,.slice y.1.1 (n+1) y.1.2,(n:Int)+1,ca,lg,.slice o0.1 n o0.2⟩,Sl 1 115 y.1.1 y.1.2 (n+1) (ps.map pC++[pC y.2.1]),cE y.2.1 n gn (.pointer none) y.2.2]]) ?hb ?hr
 case hb=>
  unfold ci nF
  (try dsimp only)
  refine ai (aW (t_ ag (t_ ae (cm ?_))));refine cm ?_;refine cm ?_;refine t_ ag (t_ ae (cm ?_));(((refine' be (bN ?hn) ?hi ?_);(case hi=>exact .pick (by repeat constructor) .nil);(case hn=>rfl)));refine t_ bO ?_;refine aX fun g=>?_;refine o_ ag (o_ ae (aH ?_));refine bP ?_;refine o_ ag (o_ ae (bR ?_));refine o_ ag (o_ ae (aH ?_));refine cI fun g=>?_
  rename_i y
  refine bQ (m:=1) (news:=[pC y]) (by(repeat constructor):Pick _ (Sl 1 115 l.1 l.2 n _) _) (bL (s:=1) (e':=115) (by kernel_rfl) (by(repeat constructor):Pick _ (pt _ (.cells #[pC y] 115)) _) (by rfl) (by intro u hu;rw[List.mem_singleton.1 hu];rfl)) (by omega) (by omega) fun oa oc=>?_
  refine o_ ag (o_ ae (bR ?_))
  refine aN (.ex ((oa,oc),y,⟨0,false,.pointer none,.pointer none,0,0,.slice none 0 0⟩) (.all ?_))
  unfold cE nW
  refine am ?_
  (try dsimp only)
  exact .pu rfl (.pick .here (.pick .here (.drop (.pick .here .refl))))
 case hr=>
 intro ds z
 refine am ?_
 refine a8 .here fun y=>aB .here ?_
 refine am ?_
 refine aT .here fun hz=>?_
 obtain⟨⟨oa,oc⟩,y,r⟩:=y
 (try dsimp only at hz ⊢)
 subst hz
 obtain⟨fa,fc⟩:=f
 unfold ci nF d6 ry fQ ni mX bX
 refine am ?_
 (try dsimp only)
 refine aP (by(repeat constructor):Pick _ (Sl 2 192 fa fc 1 (fH.flatMap cS)) _) fun _ _ _ hs=>?_
 have hA:gX W (Sl 2 192 fa fc 1 (fH.flatMap cS)) fa fH:=cJ (l:=fH) hs
 refine aH ?_;refine o_ ag (o_ ae (o_ dm ?_))
 refine' aE (iO (n:=4) (o:=2) (vs:=[ay cU,ay t,.int .i64 1,.slice fa 1 fc]) rfl ?hcv) ?hiv ?_
 case hiv=>(repeat(first|exact .refl|exact .nil|(apply Imp.pick;(focus ((repeat constructor);done)))|refine .drop ?_))
 case hcv=>exact fun i hi=>match i,hi with|0,_=>rfl|1,_=>rfl|2,_=>rfl|3,_=>rfl
 refine' ah (pA (c:=fc) hA pD Bj) ?hp fun _=>?_
 case hp=>(repeat(first|exact Picks.nil|(apply Picks.cons;(focus repeat constructor))))
 refine am ?_
 refine bE ?_;refine bE ?_;refine aU fun g=>?_;(((refine' aK ?hp ?hn ?hv ?h1 ?_);(case hp=>(repeat constructor));(case hn=>rfl);(case hv=>rfl);(case h1=>simp[Value.oneCell',ay])));refine aW (cm ?_);refine t_ ag (t_ ae ?_)
 refine' be (iO (n:=4) (o:=29) (vs:=[ay cU,ay t,.int .i64 1,.slice fa 1 fc]) rfl ?hcv) ?hiv ?_
 case hiv=>(repeat(first|exact .refl|exact .nil|(apply Imp.pick;(focus ((repeat constructor);done)))|refine .drop ?_))
 case hcv=>exact fun i hi=>match i,hi with|0,_=>rfl|1,_=>rfl|2,_=>rfl|3,_=>rfl
 refine cm ?_;refine t_ ag (t_ ae ?_)
 refine' be (iO (n:=6) (o:=8) (vs:=fQ t) rfl ?hcv) ?hiv ?_
 case hiv=>(repeat(first|exact .refl|exact .nil|(apply Imp.pick;(focus ((repeat constructor);done)))|refine .drop ?_))
 case hcv=>exact fun i hi=>match i,hi with|0,_=>rfl|1,_=>rfl|2,_=>rfl|3,_=>rfl|4,_=>rfl|5,_=>rfl
 refine cm ?_;refine t_ ag (t_ ae (t_ dm (cm ?_)));refine t_ aI (t_ ae (cm ?_));(((refine t_ (Sl.cq ?hcq) ?_);(case hcq=>(first|omega|(simp only[List.length_nil,List.length_cons];omega)))))
 refine' ah (Er (m:=cU) (tg:=t) (l:=fH) (mi:=1) (fo:=1) (ho:=[]) (po:= -1) (pa:=t) (qu:=[]) (asked:=false) (sz:=((0:Nat):Int)) (sized:=false) (c:=fc) hA (by decide+kernel) (by simp;omega) (by decide) (by decide) (by decide) (by decide) (by decide)) ?hp fun u=>?_
 case hp=>(repeat(first|exact Picks.nil|(apply Picks.cons;(focus repeat constructor))))
 obtain⟨va,vc⟩:=u
 rw[show sC fH (Gq fH 1 [] (-1)) 1 (if false=true then some (eg ((0:Nat):Int))else none)=wl from rfl,show MD t [] false=t from rfl]
 refine am ?_
 (try dsimp only)
 refine aP (by(repeat constructor):Pick _ (Sl 2 192 va vc _ _) _) fun _ _ _ hs2=>?_
 refine' ah (qm (m:=cU) (tg:=t) (mi:=1) (fs:=wl) (c:=vc) (cJ hs2) (by decide+kernel) (by decide) htg (by omega) (by decide) (by decide) hwr) ?hp fun u=>?_
 case hp=>(repeat(first|exact Picks.nil|(apply Picks.cons;(focus repeat constructor))))
 obtain⟨wa,wc⟩:=u
 rw[show cU++[32]++t++[32,72,84,84,80,47,49,46]++eg 1=mp t from rfl]
 refine am ?_
 (try dsimp only)
 refine rY ?_;refine rY ?_;(((refine o_ (Sl.cq ?hcq) ?_);(case hcq=>(first|omega|(simp only[List.length_nil,List.length_cons];omega)))));refine af (aW ?_);(((refine' aq (aS ?hc) ?hi ?_);(case hi=>exact .pick (by repeat constructor) .nil);(case hc=>repeat constructor)));refine t_ ag (t_ ae (cm ?_))
 refine c_ mZ fun _=>?_
 (repeat((refine' cB (aN ?hcs) ?_);(case hcs=>(repeat(first|exact .refl|exact .nil|(apply Imp.pick;(focus ((repeat constructor);done)))|refine .drop ?_)))))
 refine' ah (DZ (r:=true)) ?hp fun H=>?_
 case hp=>(repeat(first|exact Picks.nil|(apply Picks.cons;(focus repeat constructor))))
 refine am ?_
 (repeat((refine' cB (aN ?hcs) ?_);(case hcs=>(repeat(first|exact .refl|exact .nil|(apply Imp.pick;(focus ((repeat constructor);done)))|refine .drop ?_)))))
 unfold cE nW
 (try dsimp only)
 refine t_ ag (t_ ae (bR ?_));refine t_ ag (t_ ae (bR ?_));refine t_ ag (t_ ae (bR ?_));refine t_ ag (t_ ae (bR ?_));refine t_ ag (t_ ae (bR ?_));refine t_ ag (t_ ae (bR ?_));refine o_ ag (o_ ae (aH ?_));refine o_ ag (o_ ae (aH ?_));refine bP ?_;refine o_ ag (o_ ae (bR ?_));refine aW (aq ag .nil ?_);refine aq ae .nil ?_;(((refine' aq (aS ?hc) ?hi ?_);(case hi=>exact .pick (by repeat constructor) .nil);(case hc=>repeat constructor)));refine aq ag .nil ?_;refine aq ae .nil ?_;(((refine' aq (aS ?hc) ?hi ?_);(case hi=>exact .pick (by repeat constructor) .nil);(case hc=>repeat constructor)));refine aq ae .nil ?_;(((refine' aq (aS ?hc) ?hi ?_);(case hi=>exact .pick (by repeat constructor) .nil);(case hc=>repeat constructor)));refine cm ?_;refine t_ ag (t_ ae (t_ dm (cm ?_)))
 have hwl:(mQ (mp t) wl).length<=32768:=by
  simp only[kI,Bool.and_eq_true,decide_eq_true_eq]at hwr
  exact hwr.2
 refine pj (m:=0) (news:=[]) (by(repeat constructor):Pick _ (jr 1 5 wa wc _ _) _) (k8 (A:=pt y _) (e':=5) (by kernel_rfl) (by repeat constructor) ⟨rfl,fun h=>absurd h (by decide)⟩ (fun _=>rfl) (by simp)) (by omega) (by omega) fun a' c'=>?_
 (repeat((refine' cB (aN ?hcs) ?_);(case hcs=>(repeat(first|exact .refl|exact .nil|(apply Imp.pick;(focus ((repeat constructor);done)))|refine .drop ?_)))))
 refine t_ bO ?_
 refine dS (n:=1) (vs:=[.agg #[.int .i64 (n:Int),.int .i64 1,.bool true,.slice a' ((mQ (mp t) wl).length+0) c']]) rfl (by decide) rfl (by intro v hv;rw[List.mem_singleton.1 hv];rfl) (by decide) fun gb=>?_
 (repeat((refine' cB (aN ?hcs) ?_);(case hcs=>(repeat(first|exact .refl|exact .nil|(apply Imp.pick;(focus ((repeat constructor);done)))|refine .drop ?_)))))
 refine bQ (m:=1) (news:=[.int .i64 (n:Int),.int .i64 1,.bool true,.slice a' ((mQ (mp t) wl).length+0) c']) (by(repeat constructor):Pick _ (Sl 4 42 o0.1 o0.2 n vs) _) (bL (s:=4) (e':=42) (by kernel_rfl) (by(repeat constructor):Pick _ (pt gb _) _) (by rfl) (by intro u hu;simp[Value.cells]at hu;rcases hu with rfl|rfl|rfl|rfl <;> rfl)) (by omega) (by omega) fun ea ec=>?_
 refine t_ ag (t_ ae (bR ?_))
 refine aR ((⟨(oa,oc),y,H,r.kd,r.nn,(ea,ec),(a',c')⟩:Snt)) ?_
 unfold Fm cE nW
 (try dsimp only)
 refine .pick (by repeat constructor) (.pick (by repeat constructor) (.pick (by repeat constructor) (.all ?_)))
 refine am ?_
 exact az
theorem QG {W:World}[hG:Gl W][hP:Gp W]{c T:Nat}{Z:Cs}{key m tg:List UInt8}{mi now:Int}{R:List FD.Fd}{n:Nat}{ar:Option Addr}{cr:Nat}{A:HP}(hf:io Z key R=none)(hZ:CsOk T Z)(hA:gX W A ar R)(hR:zF R<=1048576)(hn:R.length=n):
  Cn p_ 601 [pE c,ay key,.agg #[ay m,ay tg,.int .i64 mi,.slice ar n cr],.int .i64 now] W [gf c Z,A] (fun _:Unit=> .tuple #[.agg #[.int .i64 0,.slice none 0 0,.slice none 0 0],.int .i64 0,.int .i64 0]) (fun _=>[gf c Z,A]):=by
 subst hn
 (refine Shp.cn (Sg.g_ Tryz.call601 Tryz.func601 (an:={cuts:=[(21,[10])],drs:=[(7,.ofL [(0,1),(1,1),(2,1),(3,1),(4,1),(5,1),(6,1),(7,1),(8,1),(9,1),(10,1),(11,1),(12,1),(13,0),(14,1)]),(8,.ofL [(0,1),(1,1),(2,1),(3,1),(4,1),(5,1),(6,1),(7,1),(8,0),(9,1)])]})) fun F=>?_;simp only[ca_,na_])
 refine aX fun b6=>?_
 refine aU fun b8=>?_
 refine ah FD.rk (by(repeat(first|exact Picks.nil|(apply Picks.cons;(focus repeat constructor))))) fun _=>?_
 refine am ?_
 refine af (o_ ae (aH ?_))
 refine ah (FD.find (key:=key) hZ hA hR) (by(repeat(first|exact Picks.nil|(apply Picks.cons;(focus repeat constructor))))) fun _=>?_
 refine am ?_
 rw[hf]
 (try dsimp only)
 refine o_ iG ?_;refine ai (o_ bO ?_);(((refine' aK ?hp ?hn ?hv ?h1 ?_);(case hp=>(repeat constructor));(case hn=>rfl);(case hv=>rfl);(case h1=>simp[Value.oneCell',ay])));(((refine' be (cQ ?hn) ?hi ?_);(case hi=>exact az);(case hn=>rfl)))
 refine bK () rfl ?_
 exact az
theorem CM {W:World}{L M:List HP}(i:Imp W L M):aJ W L (sat W M):=aN i
theorem CN {W:World}[hG:Gl W][hP:Gp W]{v w gn j k p st n ca T_:Nat}{s:SvS}{id now us tm rt:Int}{t:List UInt8}{f b pa l o0:AC}{m:Value}{q:Ca}{ps:List Nat}{vs:List Value}{Z:Cs}(hf:io Z (eY t) fH=none)(hZ:CsOk T_ Z)(hn:n<60)(hpl:ps.length=n)(hvl:vs.length=n * 4)(hsw:s.w=w)(hca:s.ca=pE ca)(hlk:s.lk= .slice l.1 n l.2)(hnu:s.nu=n)(hout:s.out= .slice o0.1 n o0.2)(hn0:0<=now)(htl:t.length<=1000)(hus:0<=us)(hus1:us<=1000)(htg:nP t=true)(hwr:kI (mp t) wl=true):
  Cn p_ 599 [.agg #[],pC v,pC j] W [ci v s,d6 j k id t f b gn (fQ t) [97] t [] bX rx,mX f,gf ca Z,jH w now,dB gn st q pa m us,eJ q tm rt,nH pa p,uD p n,Sl 1 115 l.1 l.2 n (ps.map pC),Sl 4 42 o0.1 o0.2 n vs] (fun _:Snt=> .tuple #[])
   (fun y=>[ci v {s with lk:= .slice y.l.1 (n+1) y.l.2,nu:=(n:Int)+1,out:= .slice y.o.1 (n+1) y.o.2},d6 j k id t f b gn (fQ t) [97] t (eY t) bX (ni t f),gf ca Z,dB gn st q pa m (us+1),eJ q tm rt,nH pa p,uD p (n+1),jH w now,Sl 1 115 y.l.1 y.l.2 (n+1) (ps.map pC++[pC y.x]),Fm gn j n now y,cV y.H (ef true),mX f,Sl 4 42 y.o.1 y.o.2 (n+1) (vs++[.int .i64 (n:Int),.int .i64 1,.bool true,.slice y.b.1 (mQ (mp t) wl).length y.b.2])]):=by
 (refine Shp.cn (Sg.g_ Tryz.call599 Tryz.func599 (an:={drs:=[(2,.ofL [(0,2),(1,1),(2,1),(3,1),(4,1),(5,1),(6,1),(7,1),(8,1),(9,1),(10,1),(11,1),(12,1),(13,1),(14,1),(15,1),(16,1),(17,1),(18,1),(19,0),(20,1),(21,1),(22,0)]),(7,(.op 0 2 (.op 1 3 (.op 2 3 (.op 3 3 (.op 4 2 (.op 5 3 (.op 6 3 (.op 7 3 (.op 8 3 (.op 10 2 (.op 11 3 (.op 12 3 (.op 13 3 (.alt ((.op 9 0 (.alt ((.op 14 0 (.alt (.ofL [(15,0),(16,2),(17,3),(18,3),(19,3),(20,0),(21,0),(22,1),(23,1)]) (.ofL [(20,0),(15,0),(16,1),(17,1),(18,3),(19,3),(21,0),(22,1),(23,1)])))) (.ofL [(20,0),(14,0),(15,0),(16,1),(17,1),(18,3),(19,3),(21,0),(22,1),(23,1)])))) (.ofL [(20,0),(9,0),(14,0),(15,0),(16,1),(17,1),(18,3),(19,3),(21,0),(22,1),(23,1)])))))))))))))))),(10,.ofL [(0,2),(1,2),(2,1),(3,1),(4,1),(5,1),(6,1),(7,1),(8,1),(9,1),(10,0),(11,0)])],rcuts:=[(8,[7,9])]}) (os:=[(7,[(9,[13,12,11,7,6,5,3,2,1]),(14,[7,6,5,3,2,1]),(20,[19,18,17,13,12,11,8,7,6,5,3,2,1]),(21,[19,18])])])) fun F=>?_;simp only[ca_,na_])
 refine aX fun x3=>?_
 subst hsw
 obtain⟨fa,fc⟩:=f
 cases s
 rename_i w_ g_ cl lk nu ca_ lg out
 (try dsimp only at *)
 subst hca hlk hnu hout
 unfold mX
 (try dsimp only)
 refine aP (by(repeat constructor):Pick _ (Sl 2 192 fa fc 1 (fH.flatMap cS)) _) fun _ _ _ hs=>?_
 have hA:gX W (Sl 2 192 fa fc 1 (fH.flatMap cS)) fa fH:=cJ (l:=fH) hs
 unfold d6 ry fQ bX rx
 refine am ?_
 refine o_ ag (o_ ae (o_ dm ?_))
 refine' aE (iO (n:=4) (o:=2) (vs:=[ay cU,ay t,.int .i64 1,.slice fa 1 fc]) rfl ?hcv) ?hiv ?_
 case hiv=>(repeat(first|exact .refl|exact .nil|(apply Imp.pick;(focus ((repeat constructor);done)))|refine .drop ?_))
 case hcv=>exact fun i hi=>match i,hi with|0,_=>rfl|1,_=>rfl|2,_=>rfl|3,_=>rfl
 refine aU fun g=>?_;(((refine' aK ?hp ?hn ?hv ?h1 ?_);(case hp=>(repeat constructor));(case hn=>rfl);(case hv=>rfl);(case h1=>simp[Value.oneCell',ay])));refine aW (t_ ag (t_ ae (cm ?_)));refine t_ ag (t_ ae (cm ?_));refine t_ ag (t_ ae (t_ dm (cm ?_)));refine t_ ag (t_ ae (t_ dm (cm ?_)))
 rename Nat=>x6
 refine c_ (Qu (t:=t) htl) fun _=>?_
 refine t_ ag (t_ ae (bR ?_));refine jL ?_;refine o_ ag (o_ ae (pf (n:=4) (vs:=[ay cU,ay t,.int .i64 1,.slice fa 1 fc]) (cs':=ry k id t (fa,fc) b gn (fQ t) [97] t (eY t) bX (ni t (fa,fc))) (by repeat constructor) rfl (Nat.le_of_ble_eq_true rfl) (by simp[Value.oneCell',ay]) rfl ?_))
 unfold ry fQ bX ni
 refine am ?_
 refine o_ ag (o_ ae (o_ dm (aH ?_)));refine o_ bB (ab (o_ ae (ab (aH ?_))));refine ab (c_ Cm fun _=>?_)
 refine ab (o_ bB (o_ ak (af (jL ?_))))
 refine' ah (Jp (m:=cU) (t:=t) (mi:=1) (f:=(fa,fc))) ?hp fun _=>?_
 case hp=>exact .nil
 refine am ?_
 (try dsimp only)
 refine o_ ag (o_ ae (pf (n:=4) (vs:=[ay cU,ay t,.int .i64 1,.slice fa 1 fc]) (cs':=ry k id t (fa,fc) b gn (fQ t) [97] t (eY t) bX (ni t (fa,fc))) (by repeat constructor) rfl (Nat.le_of_ble_eq_true rfl) (by simp[Value.oneCell',ay]) rfl ?_))
 have hzH:zF fH<=1048576:=by decide+kernel
 unfold ci nF ry fQ bX ni
 refine am ?_
 (try dsimp only)
 refine' Fa (fun z7 z9=>[ex fun y:Nat=>all [pu (z7=pC y/\z9= .int .i64 0),pt y (.cells #[.int .i64 0,.slice none 0 0,.slice none 0 0] 48),gf ca Z],jH w_ now]) ?hb ?hr
 case hb=>
  refine aW (aq ag .nil ?_);refine aq ae .nil ?_;(((refine' aq (aS ?hc) ?hi ?_);(case hi=>exact .pick (by repeat constructor) .nil);(case hc=>repeat constructor)));refine aq ag .nil ?_;refine aq ae .nil ?_;(((refine' aq (aS ?hc) ?hi ?_);(case hi=>exact .pick (by repeat constructor) .nil);(case hc=>repeat constructor)));(((refine' aq (bN ?hn) ?hi ?_);(case hi=>exact .pick (by repeat constructor) .nil);(case hn=>rfl)));refine aq ag .nil ?_;refine aq ae .nil ?_;(((refine' aq (aS ?hc) ?hi ?_);(case hi=>exact .pick (by repeat constructor) .nil);(case hc=>repeat constructor)))
  repeat' (first
   |(with_reducible refine ek ?_ ?_)
   |((with_reducible refine' cB (aN ?hcs) ?_);(case hcs=>(repeat(first|exact .refl|exact .nil|(apply Imp.pick;(focus ((repeat constructor);done)))|refine .drop ?_))))
   |((with_reducible refine' aq (bU ?hcv) .nil ?_);(case hcv=>repeat constructor))
   |((with_reducible refine' be (bU ?hcv) .nil ?_);(case hcv=>repeat constructor))
   |(with_reducible refine aU fun o=>?_)
   |(refine' ah (Jp (m:=cU) (t:=t) (mi:=1) (f:=(fa,fc))) ?hp fun _=>?_;(case hp=>exact .nil);refine am ?_)
   |(refine' ah mZ ?hp fun _=>?_;(case hp=>(repeat(first|exact Picks.nil|(apply Picks.cons;(focus repeat constructor)))));refine am ?_)
   |(refine' ah (QG (tg:=t) (m:=cU) (mi:=1) (ar:=fa) (cr:=fc) hf hZ hA hzH rfl) ?hp fun _=>?_;(case hp=>(repeat(first|exact Picks.nil|(apply Picks.cons;(focus repeat constructor)))));refine am ?_)
   |((with_reducible refine' aK ?hp ?hn ?hv ?h1 ?_);(case hp=>(repeat constructor));(case hn=>rfl);(case hv=>rfl);(case h1=>simp[Value.oneCell']))
   |(refine CM (.ex o (.all ?_));refine am ?_;exact .pu ⟨rfl,rfl⟩ (.pick .here (.pick .here (.pick (.there .here) .refl))))
   |(refine CM (.ex o (.all ?_));refine am ?_;exact .pu ⟨rfl,rfl⟩ az))
 case hr=>
 intro ds z7 z9
 refine am ?_
 refine a8 .here fun y=>aB .here ?_
 refine am ?_
 refine aT .here fun hz=>?_
 obtain⟨rfl,rfl⟩:=hz
 refine o_ ae (aH ?_)
 refine' ah (FD.fO (n:=Dm) (c:=fc) hA pD (by decide)) ?hp fun u=>?_
 case hp=>(repeat(first|exact Picks.nil|(apply Picks.cons;(focus repeat constructor))))
 rw[show bW fH Dm=[] by decide+kernel]
 refine am ?_
 refine' ah (join (sep:=[44]) (V:=[]) (a:=u.1) (c:=u.2) (by decide) (by decide) (by decide) (by decide)) ?hp fun _=>?_
 case hp=>(repeat(first|exact Picks.nil|(apply Picks.cons;(focus repeat constructor))))
 refine am ?_
 refine' ah (px (l:=[]) (by decide)) ?hp fun d=>?_
 case hp=>exact .nil
 rw[show(mu (kO [])).1=[] by decide+kernel]
 refine am ?_
 refine bE ?_;refine bE ?_;(((refine o_ (Sl.bA ?hcq) ?_);(case hcq=>(first|omega|(simp only[List.length_nil,List.length_cons];omega)))));refine af (c_ UO fun _=>?_)
 refine af ?_;(((refine o_ (Sl.bA ?hcq) ?_);(case hcq=>(first|omega|(simp only[List.length_nil,List.length_cons];omega)))));refine af ?_
 refine' ah (JF (v:=v) (w:=w_) (gn:=gn) (j:=j) (k:=k) (p:=p) (st:=st) (n:=n) (s:=⟨w_,g_,cl,.slice l.1 n l.2,n,pE ca,lg,.slice o0.1 n o0.2⟩) (id:=id) (now:=now) (us:=us) (tm:=tm) (rt:=rt) (t:=t) (ke:=eY t) (f:=(fa,fc)) (b:=b) (pa:=pa) (l:=l) (o0:=o0) (m:=m) (q:=q) (ps:=ps) (vs:=vs) hn hpl hvl rfl rfl rfl rfl hn0 htl hus hus1 htg hwr) ?hp fun u=>?_
 case hp=>(repeat(first|exact Picks.nil|(apply Picks.cons;(focus repeat constructor))))
 refine am ?_
 refine aR u ?_
 exact az
def qb (n:Nat):Nat->Nat:=fun j=>if j<n then 1 else 0
theorem JG {W:World}{X:Nat->Nat}{l:AC}{n x:Nat}:Sl 1 115 l.1 l.2 (n+1) (((List.range n).map X).map pC++[pC x])=pY (dH X n x) l (List.range (n+1)):=by
 have e:(List.range (n+1)).map (dH X n x)=(List.range n).map X++[x]:=by
  rw[List.range_succ,List.map_append]
  congr 1
  ·exact List.map_congr_left fun j hj=>kE (by have:=List.mem_range.1 hj;omega)
  ·simp[dH]
 unfold pY
 rw[e]
 simp
theorem CO {W:World}{L M:List HP}{X J:Nat->Nat}{T:Nat->List UInt8}{k gn N n x:Nat}{now:Int}{y:Bz}{S:WP}(hn:n<N)(P:Picks L (et X J T k gn now N (qb n)::j_ x (J n) k gn n (T n) now y) M)(h:aJ W (et (dH X n x) J T k gn now N (qb (n+1))::M) S):aJ W L S:=by
 refine fj P ?_
 refine fY .here n hn ?_
 refine bf (eb (F:=fh X J T k gn now (qb n)) (F':=fh (dH X n x) J T k gn now (qb (n+1))) n hn (fun j hj hne=>?_) ?_) h
 ·have e:qb n j=qb (n+1) j:=by unfold qb;by_cases c:j<n <;> simp[c] <;> omega
  unfold fh
  rw[kE hne,e]
 ·have e:fh (dH X n x) J T k gn now (qb (n+1)) n=ex fun y:Bz=>all (j_ x (J n) k gn n (T n) now y):=by unfold fh qb;rw[nj,if_pos (by omega)];rfl
  rw[e]
  unfold j_
  refine .ex y (.all ?_)
  refine am ?_
  exact az
theorem GZ {W:World}[hG:Gl W][hP:Gp W]{v w gn k p st n N M c ca T_:Nat}{s:SvS}{now us tm rt:Int}{nm:List UInt8}{f b pa l o0 a js:AC}{m:Value}{q:Ca}{ps:List Nat}{vs:List Value}{Z:Cs}{X J:Nat->Nat}{T:Nat->List UInt8}(hf:io Z (eY (T n)) fH=none)(hZ:CsOk T_ Z)(hn:n<60)(hN:n<N)(hM:ps.length=M)(hvl:vs.length=n * 4)(ht:E9 (T n))(hsw:s.w=w)(hsg:s.g=gn)(hcl:s.cl= .slice a.1 1 a.2)(hca:s.ca=pE ca)(hlk:s.lk= .slice l.1 n l.2)(hnu:s.nu=n)(hout:s.out= .slice o0.1 n o0.2)(hn0:0<=now)(hus:0<=us)(hus1:us<=1000)(htg:nP (T n)=true)(hwr:kI (mp (T n)) wl=true):
  Cn p_ 13 [pC v,.int .i64 0] W [ci v s,kQ a k,eF k c nm (.slice js.1 (M+1) js.2),E7 js (J n::ps),d6 (J n) k (n:Int) (T n) f b gn GP [] [] [] zE rx,mX f,gf ca Z,jH w now,dB gn st q pa m (us+1),eJ q tm rt,nH pa p,uD p n,pY X l (List.range n),et X J T k gn now N (qb n),Sl 4 42 o0.1 o0.2 n vs] (fun _:Snt × AC=> .bool true)
   (fun y=>[ci v {s with lk:= .slice y.1.l.1 (n+1) y.1.l.2,nu:=(n:Int)+1,out:= .slice y.1.o.1 (n+1) y.1.o.2},kQ a k,eF k c nm (.slice y.2.1 M y.2.2),E7 y.2 ps,gf ca Z,jH w now,dB gn st q pa m (us+1),eJ q tm rt,nH pa p,uD p (n+1),pY (dH X n y.1.x) y.1.l (List.range (n+1)),et (dH X n y.1.x) J T k gn now N (qb (n+1)),Sl 4 42 y.1.o.1 y.1.o.2 (n+1) (vs++[.int .i64 (n:Int),.int .i64 1,.bool true,.slice y.1.b.1 (mQ (mp (T n)) wl).length y.1.b.2])]):=by
 have htl:(T n).length<=1000:=ht.1.2.2
 have hpath:=ht.1.2.1
 obtain⟨r0,hr0⟩:=ht.1.1
 (refine Shp.cn (Sg.g_ Tryz.call13 Tryz.func13 (an:={drs:=[(7,.ofL [(0,2),(1,1),(2,1),(3,1),(4,1),(5,1),(6,1),(7,1),(8,1),(9,1),(10,1),(11,1),(12,1),(13,0),(14,1),(15,1),(16,3),(17,1),(18,1),(19,0)]),(8,.ofL [(0,2),(1,1),(2,1),(3,1),(4,1),(5,1),(6,1),(7,1),(8,1),(9,1),(10,0),(11,1),(12,1),(13,0)]),(12,.ofL [(1,2),(2,3),(3,3),(4,3),(5,3),(7,2),(8,2),(0,0),(6,1),(9,0)])]}) (os:=[(7,[(19,[16])]),(12,[(0,[5,4,3,2])])])) fun F=>?_;simp only[ca_,na_])
 refine' ah (sO hcl) ?hp fun _=>?_
 case hp=>(repeat(first|exact Picks.nil|(apply Picks.cons;(focus repeat constructor))))
 refine am ?_
 subst hsw hsg
 cases s
 rename_i w_ g_ cl lk nu ca_ lg out
 (try dsimp only at *)
 subst hca hlk hnu hout
 obtain⟨ja,jc⟩:=js
 unfold E7 eF pY
 rw[List.length_cons,hM,List.map_cons,List.length_map,List.length_range]
 (try dsimp only)
 refine Sl.eP (by(repeat constructor):Pick _ (jr 1 97 ja jc (M+1) _) _) fun _ _ _ hs=>?_
 obtain⟨G,oG,rfl⟩:=hs (by omega)
 unfold d6 ry GP zE rx dB wk
 refine am ?_
 refine bE ?_;refine bE ?_;(((refine o_ (Sl.cq ?hcq) ?_);(case hcq=>(first|omega|(simp only[List.length_nil,List.length_cons];omega)))));refine ab (ab (o_ ag (ab (o_ ae (ab (aH ?_))))));refine ab (o_ aI (ab ?_));(((refine o_ (Sl.bA ?hcq) ?_);(case hcq=>(first|omega|(simp only[List.length_nil,List.length_cons];omega)))));refine o_ ak (af (o_ ag (o_ ae (aH ?_))));(((refine' aE (bq 0 rfl ?hcq) .nil ?_);(case hcq=>(first|omega|decide|(simp;done)))))
 refine aE (sr (j:=0) (v:=pC (J n)) rfl) az ?_
 refine o_ ag (o_ ae (aH ?_))
 refine o_ (jK 1 rfl (by omega)) ?_
 refine Sl.tY (l:=1) (by(repeat constructor):Pick _ (jr 1 97 _ jc (M+1) _) _) (by omega) ?_
 refine o_ ag (o_ ae (bR ?_));refine o_ ag (o_ ae (aH ?_));refine o_ ag (o_ ae (aH ?_));refine rZ ?_;refine o_ ag (o_ ae (bR ?_));refine aW (t_ ag (t_ ae (t_ dm (t_ dm (cm ?_)))));refine t_ ag (t_ ae (t_ dm (t_ dm (cm ?_))))
 rw[show us+1-1=us by omega]
 refine c_ (A8 (m:=cU) (p:=T n) (r:=r0) rfl hr0 hpath (by omega)) fun _=>?_
 unfold Ik
 refine rY ?_;(((refine' aq (bU ?hc) .nil ?_);(case hc=>repeat constructor)));refine t_ ag (t_ ae (pf (n:=6) (vs:=fQ (T n)) (cs':=ry k (n:Int) (T n) f b g_ (fQ (T n)) [] [] [] zE rx) (by repeat constructor) rfl (Nat.le_of_ble_eq_true rfl) (by simp[Value.oneCell',ay,fQ]) rfl ?_))
 (repeat((refine' cB (aN ?hcs) ?_);(case hcs=>(repeat(first|exact .refl|exact .nil|(apply Imp.pick;(focus ((repeat constructor);done)))|refine .drop ?_)))))
 unfold ry fQ zE rx
 refine am ?_
 refine aW (t_ ag (t_ ae (t_ dm ?_)))
 refine' be (iO (n:=4) (o:=2) (vs:=[ay cU,ay (T n),.int .i64 1,.slice f.1 1 f.2]) rfl ?hcv) ?hiv ?_
 case hiv=>(repeat(first|exact .refl|exact .nil|(apply Imp.pick;(focus ((repeat constructor);done)))|refine .drop ?_))
 case hcv=>exact fun i hi=>match i,hi with|0,_=>rfl|1,_=>rfl|2,_=>rfl|3,_=>rfl
 refine t_ ag (t_ ae ?_)
 refine' be (iO (n:=6) (o:=8) (vs:=fQ (T n)) rfl ?hcv) ?hiv ?_
 case hiv=>(repeat(first|exact .refl|exact .nil|(apply Imp.pick;(focus ((repeat constructor);done)))|refine .drop ?_))
 case hcv=>exact fun i hi=>match i,hi with|0,_=>rfl|1,_=>rfl|2,_=>rfl|3,_=>rfl|4,_=>rfl|5,_=>rfl
 refine' ah (E_ (f:=f) (p:=T n)) ?hp fun _=>?_
 case hp=>(repeat(first|exact Picks.nil|(apply Picks.cons;(focus repeat constructor))))
 refine am ?_
 refine t_ ag (t_ ae (bR ?_))
 refine' ah (Ck (v:=v) (j:=J n) (k:=k) (gn:=g_) (st:=st) (id:=(n:Int)) (t:=T n) (f:=f) (b:=b) (pa:=pa) (q:=q) (tm:=tm) (rt:=rt) (m:=m) (us:=us) ht) ?hp fun u=>?_
 case hp=>(repeat(first|exact Picks.nil|(apply Picks.cons;(focus repeat constructor))))
 refine am ?_
 refine bE ?_;refine bE ?_;refine aU fun g=>?_;(((refine' aK ?hp ?hn ?hv ?h1 ?_);(case hp=>(repeat constructor));(case hn=>rfl);(case hv=>rfl);(case h1=>simp[Value.oneCell',ay])));refine af (aW (aq ag .nil ?_));refine aq ae .nil ?_;refine aq dm .nil ?_;(((refine' aq (aS ?hc) ?hi ?_);(case hi=>exact .pick (by repeat constructor) .nil);(case hc=>repeat constructor)))
 unfold d6 ry fQ bX rx
 refine am ?_
 refine c_ zj fun _=>?_
 (repeat((refine' cB (aN ?hcs) ?_);(case hcs=>(repeat(first|exact .refl|exact .nil|(apply Imp.pick;(focus ((repeat constructor);done)))|refine .drop ?_)))))
 refine' be (Sl.ji (q:=(2:Int)) PL.nT) ?hiv ?_
 case hiv=>(repeat(first|exact .refl|exact .nil|(apply Imp.pick;(focus ((repeat constructor);done)))|refine .drop ?_))
 rw[show(VC 2).getD .nilIface= .iface 211 (.agg #[])from rfl]
 refine' Gg (f:=599) (fun w=>by kernel_rfl) (CN (v:=v) (w:=w_) (gn:=g_) (j:=J n) (k:=k) (p:=p) (st:=st) (n:=n) (s:=⟨w_,g_,cl,.slice l.1 n l.2,n,pE ca,lg,.slice o0.1 n o0.2⟩) (id:=(n:Int)) (us:=us) (tm:=tm) (rt:=rt) (t:=T n) (f:=f) (b:=b) (pa:=pa) (l:=l) (o0:=o0) (m:=m) (q:=q) (ps:=(List.range n).map X) (vs:=vs) hf hZ hn (by simp) hvl rfl rfl rfl rfl rfl hn0 htl hus hus1 htg hwr) ?hp fun y=>?_
 case hp=>(repeat(first|exact Picks.nil|(apply Picks.cons;(focus repeat constructor))))
 refine am ?_
 rw[JG (W:=W)]
 refine CO (X:=X) (J:=J) (T:=T) (x:=y.x) (y:=⟨y.H,y.kd,y.nn,f,b⟩) hN (by unfold j_ Fm;(repeat(first|exact Picks.nil|(apply Picks.cons;(focus repeat constructor))))) ?_
 refine' ah (uN (v:=v) (k:=k) (n:=N) (s:=⟨w_,g_,cl,.slice y.l.1 (n+1) y.l.2,(n:Int)+1,pE ca,lg,.slice y.o.1 (n+1) y.o.2⟩) (l:=y.l) (X:=dH X n y.x) (J:=J) (T:=T) (now:=now) (ls:=qb (n+1)) (L:=List.range (n+1)) (by simp) (fun j hj=>⟨by have:=List.mem_range.1 hj;omega,by have:=List.mem_range.1 hj;unfold qb;rw[if_pos this];decide⟩) (by simp;omega)) ?hp fun _=>?_
 case hp=>(repeat(first|exact Picks.nil|(apply Picks.cons;(focus repeat constructor))))
 refine am ?_
 refine aR ((y,(if jc=1 then some ⟨G,oG,none⟩else(some (⟨G,oG,none⟩:Addr)).map (·.add (1 * 1)),jc-1))) ?_
 unfold pY
 exact az
structure CnI0 (c n:Nat)(now:Int)(s:CnS)(H:Nat)(r o:AC):Prop where
 nx:s.nx=Il c
 hd:s.hd=pC H
 rd:s.rd=true
 bg:s.bg=false
 ev:s.ev= .slice none 0 0
 row:s.row= .slice r.1 n r.2
 out:s.out= .slice o.1 0 o.2
 nu:s.nu=(n:Int)
 bo:s.bo=65536
 ke:s.ke=75
 si:s.si=now
 ck:s.ck=now
def Fo (c n:Nat)(A:Nat->Nat)(T:Nat->List UInt8)(now:Int):HP:=ex fun x:CnS × Nat × AC × AC=>all [pu (CnI0 c n now x.1 x.2.1 x.2.2.1 x.2.2.2),cD c x.1,BB x.1.rr,cV x.2.1 (ef false),kf A x.2.2.1 0 n,q4 x.2.2.2 [],jD A T n u6]
theorem uS {W:World}{L M:List HP}{S:WP}{c H:Nat}{now:Int}{A:Nat->Nat}{T:Nat->List UInt8}(P:Picks L [cD c (Eh c H 65536 75 now),cV H (ef false)] M)(h:aJ W (Fo c 0 A T now::M) S):aJ W L S:=by
 refine fj P (IE (bf (.ex (Eh c H 65536 75 now,H,(none,0),(none,0)) (.all ?_)) h))
 refine am ?_
 refine .pu ⟨rfl,rfl,rfl,rfl,rfl,rfl,rfl,rfl,rfl,rfl,rfl,rfl⟩ (.pick (by repeat constructor) (.pick (by repeat constructor) (.pick (by repeat constructor) (ph (ph (.conv (B:=pu True) (fun _ _=>trivial) (.pu trivial ?_)))))))
 exact az
theorem JH {W:World}{L L':List HP}{S:WP}{c n:Nat}{now:Int}{A:Nat->Nat}{T:Nat->List UInt8}(P:Pick L (Fo c n A T now) L')(h0:0<=now)(h:aJ W (xQ c n A T 0 [] u6 now::L') S):aJ W L S:=by
 refine a8 P fun x=>aB .here ?_
 refine am ?_
 refine aT .here fun hx=>?_
 refine bf (.ex (x.1,x.2.2.1,x.2.2.2) (.all ?_)) h
 refine am ?_
 exact .pu ⟨hx.nx,hx.rd,hx.bg,hx.row,hx.out,hx.ke,by rw[hx.si];exact h0,by rw[hx.si,hx.ck];exact Int.le_refl _,by rw[hx.ck];exact Int.le_refl _,fun _=>by rw[hx.si];omega⟩ az
theorem Fp {W:World}{L M:List HP}{S:WP}{c n H:Nat}{now:Int}{cn:CnS}{r o:AC}{A:Nat->Nat}{T:Nat->List UInt8}(hx:CnI0 c n now cn H r o)(P:Picks L [cD c cn,BB cn.rr,cV H (ef false),kf A r 0 n,q4 o [],jD A T n u6] M)(h:aJ W (Fo c n A T now::M) S):aJ W L S:=by
 refine fj P (bf (.ex (cn,H,r,o) (.all ?_)) h)
 refine am ?_
 exact .pu hx .refl
theorem JI {c n H H2 R:Nat}{now:Int}{cn:CnS}{r o f:AC}{t:List UInt8}{x:Rq}{y:(AC × AC) × Bool}(hx:CnI0 c n now cn H r o):CnI0 c (n+1) now (cn.inpN c n now t ((H2,R,f,x),y) 0) H2 y.1.2 y.1.1:=by
 refine⟨rfl,rfl,rfl,rfl,rfl,rfl,rfl,?_,hx.bo,hx.ke,?_,rfl⟩
 ·show cn.nu+1=((n+1:Nat):Int)
  rw[hx.nu];rfl
 ·show(if y.2=true then now else now)=now
  split <;> rfl
theorem xZ {W:World}[hG:Gl W][hP:Gp W]{v w g st k c n:Nat}{q:Ca}{pa a js:AC}{m:Value}{s:SvS}{us now:Int}{nm b:List UInt8}{ba:Option Addr}{cap:Nat}{AB:HP}{A:Nat->Nat}{T:Nat->List UInt8}{ps:List Nat}(hpl:ps.length=n)(hn63:n<63)(hsw:s.w=w)(hsg:s.g=g)(hcl:s.cl= .slice a.1 1 a.2)(hA:RdB W AB ba b.length (b.map Sl.B))(hr:PF b (T n))(hcap:b.length<=cap)(hnow:now<=1099511627776)(hus:0<=us)(hus1:us<=1000):
  Cn p_ 10 [pC v,.int .i64 0,.slice ba b.length cap] W [ci v s,kQ a k,eF k c nm (.slice js.1 n js.2),E7 js ps,Fo c n A T now,AB,jH w now,dB g st q pa m us]
   (fun _:(Nat × Nat) × (AC × AC) × AC=> .int .i64 0)
   (fun x=>[ci v s,kQ a k,eF k c nm (.slice x.2.2.1 (n+1) x.2.2.2),E7 x.2.2 (ps++[x.1.2]),d6 x.1.2 k (n:Int) (T n) x.2.1.1 x.2.1.2 g GP [] [] [] zE rx,mX x.2.1.1,Fo c (n+1) (dH A n x.1.1) T now,AB,jH w now,dB g st q pa m (us+1)]):=by
 (refine Shp.cn (Sg.g_ Tryz.call10 Tryz.func10 (an:={loops:=[(5,[32])],drs:=[(4,.ofL [(0,2),(1,3),(2,3),(3,3),(4,2),(5,1),(6,1),(7,1),(8,1),(12,2),(9,0),(10,0),(11,1)]),(7,.ofL [(0,2),(1,2),(2,3),(3,3),(4,3),(5,1),(6,1),(7,1),(8,1),(9,1),(10,1),(11,1),(12,0),(13,0),(14,0),(15,1),(16,1),(17,0)])]}) (os:=[(4,[(9,[3,2,1])]),(7,[(12,[4,3,2]),(13,[4,3,2])])])) fun F=>?_;simp only[ca_,na_])
 refine' ah (sO hcl) ?hp fun _=>?_
 case hp=>(repeat(first|exact Picks.nil|(apply Picks.cons;(focus repeat constructor))))
 refine am ?_
 subst hsw hsg
 unfold eF ci nF dB wk
 (try dsimp only)
 refine bE ?_;refine bE ?_;(((refine o_ (Sl.cq ?hcq) ?_);(case hcq=>(first|omega|(simp only[List.length_nil,List.length_cons];omega)))));refine af (aW (aq ag .nil ?_));refine aq ae .nil ?_;(((refine' aq (aS ?hc) ?hi ?_);(case hi=>exact .pick (by repeat constructor) .nil);(case hc=>repeat constructor)));refine t_ ag (t_ ae (cm ?_))
 refine c_ mZ fun _=>?_
 (repeat((refine' cB (aN ?hcs) ?_);(case hcs=>(repeat(first|exact .refl|exact .nil|(apply Imp.pick;(focus ((repeat constructor);done)))|refine .drop ?_)))))
 refine a8 (by(repeat constructor):Pick _ (Fo c n A T now) _) fun x=>aB .here ?_
 obtain⟨cn,H,r,o⟩:=x
 refine am ?_
 refine aT .here fun hx=>?_
 (try dsimp only at hx ⊢)
 refine' ah (Fi (c:=c) (H:=H) (n:=n) (s:=cn) (t:=T n) (O:=[]) (r:=r) (o:=o) (A:=A) (T:=T) hA hr hcap rfl hn63 hx.nx hx.hd hx.rd hx.ev hx.row hx.nu (by rw[hx.bo];decide) (by rw[hx.bo];decide) (by rw[hx.ck];exact Int.le_refl _) hnow hx.out (by decide)) ?hp fun x=>?_
 case hp=>(repeat(first|exact Picks.nil|(apply Picks.cons;(focus repeat constructor))))
 obtain⟨⟨H2,R,f,x⟩,y⟩:=x
 refine am ?_
 (try dsimp only)
 obtain⟨xf,xg,⟨ea,ec⟩,xr,xa⟩:=x
 (try dsimp only)
 refine a9 (by(repeat constructor):Pick _ (Sl 6 96 ea ec 1 _) _) (by decide) fun G hG=>?_
 subst hG
 refine Fp (cn:=cn.inpN c n now (T n) ((H2,R,f,⟨xf,xg,(some ⟨G,0,none⟩,ec),xr,xa⟩),y) 0) (H:=H2) (r:=y.1.2) (o:=y.1.1) (A:=dH A n xa) (T:=T) (JI hx) (by(repeat(first|exact Picks.nil|(apply Picks.cons;(focus repeat constructor))))) ?_
 refine t_ aI (aY (fun m_ z=>match m_ with|0=>[ex fun x:AC × Nat=>all [pu (z= .int .i64 1),ci v s,kQ a k,eF k c nm (.slice x.1.1 (n+1) x.1.2),E7 x.1 (ps++[x.2]),d6 x.2 k (n:Int) (T n) xf xg s.g GP [] [] [] zE rx,jH s.w now,dB s.g st q pa m (us+1),Fo c (n+1) (dH A n xa) T now,AB,mX xf]]++F|_=>pu (z= .int .i64 0)::_) 1 (.pu rfl .refl) ?_)
 intro m_ ds z
 cases m_ with
 |succ m_=>
  refine aT .here fun hy=>?_
  subst hy
  (((refine o_ (Sl.bY ?hcq) ?_);(case hcq=>(first|omega|(simp only[List.length_nil,List.length_cons];omega)))));refine ai ?_
  refine o_ (dR 0 rfl (by decide)) ?_
  refine aE (xN 0 (yP (n:Int) (T n) xf xg) rfl rfl rfl) az ?_
  unfold yP
  refine aU fun g=>?_;(((refine' aK ?hp ?hn ?hv ?h1 ?_);(case hp=>(repeat constructor));(case hn=>rfl);(case hv=>rfl);(case h1=>simp[Value.oneCell',ay])));refine aW (aq ag .nil ?_);refine aq ae .nil ?_;(((refine' aq (aS ?hc) ?hi ?_);(case hi=>exact .pick (by repeat constructor) .nil);(case hc=>repeat constructor)));(((refine' be (bN ?hn) ?hi ?_);(case hi=>exact .pick (by repeat constructor) .nil);(case hn=>rfl)));refine t_ ag (t_ ae (cm ?_));refine t_ bO ?_;refine aX fun g=>?_;refine bj ?_;refine bj ?_;refine bj ?_;refine cI fun g=>?_;refine bj ?_;refine bj ?_;refine bj ?_
  (repeat((refine' cB (aN ?hcs) ?_);(case hcs=>(repeat(first|exact .refl|exact .nil|(apply Imp.pick;(focus ((repeat constructor);done)))|refine .drop ?_)))))
  rename_i j
  (try dsimp only)
  obtain⟨ja,jc⟩:=js
  unfold E7
  rw[hpl]
  refine pj (m:=1) (news:=[pC j]) (by(repeat constructor):Pick _ (jr 1 97 ja jc n _) _) (bL (s:=1) (e':=97) (by kernel_rfl) .here (by rfl) (by intro u hu;rw[List.mem_singleton.1 hu];rfl)) (by omega) (by omega) fun ja' jc'=>?_
  refine t_ ag (t_ ae (bR ?_));refine o_ ag (o_ ae (aH ?_));refine o_ ag (o_ ae (aH ?_));refine bP ?_;refine o_ ag (o_ ae (bR ?_));refine bP ?_
  refine aZ 0 (by omega) (.ex ((ja',jc'),j) (.all ?_))
  unfold d6 ry GP zE rx eF ci dB
  rw[List.length_append,hpl,List.map_append]
  refine am ?_
  (try dsimp only)
  exact .pu rfl az
 |zero=>
  refine a8 .here fun x=>aB .here ?_
  refine am ?_
  refine aT .here fun hy=>?_
  subst hy
  (((refine o_ (Sl.bF ?hcq) ?_);(case hcq=>(first|omega|(simp only[List.length_nil,List.length_cons];omega)))));refine af ?_
  refine aR (((xa,x.2),(xf,xg),x.1)) ?_
  unfold eF
  (try dsimp only)
  exact az
def UY (j k g i:Nat)(t:List UInt8):HP:=ex fun x:AC × AC=>all [d6 j k (i:Int) t x.1 x.2 g GP [] [] [] zE rx,mX x.1]
def WJ (J:Nat->Nat)(T:Nat->List UInt8)(k g lo hi:Nat)(i:Nat):HP:=if lo<=i/\i<hi then UY (J i) k g i (T i)else pu True
def JJ (J:Nat->Nat)(T:Nat->List UInt8)(k g n lo hi:Nat):HP:=BS n (WJ J T k g lo hi)
theorem sV {W:World}{L M:List HP}{F:Nat->HP}:∀(n:Nat),(∀i,i<n->F i=pu True)->Imp W L M->Imp W L (BS n F::M)
 |0,_,h=>rX h
 |n+1,hF,h=>lK (F:=F) (fun j _=>rfl) (sV n (fun i hi=>hF i (by omega)) (by rw[hF n (by omega)];exact .pu trivial h))
theorem Fq {W:World}{L M:List HP}{S:WP}{J:Nat->Nat}{T:Nat->List UInt8}{k g n lo i j:Nat}{f b:AC}(hl:lo<=i)(hi:i<n)(P:Picks L [JJ J T k g n lo i,d6 j k (i:Int) (T i) f b g GP [] [] [] zE rx,mX f] M)(h:aJ W (JJ (dH J i j) T k g n lo (i+1)::M) S):aJ W L S:=by
 refine fj P (fY .here i hi ?_)
 refine bf (eb (F:=WJ J T k g lo i) (F':=WJ (dH J i j) T k g lo (i+1)) i hi (fun x _ hne=>?_) ?_) h
 ·unfold WJ
  rw[kE hne]
  by_cases c:lo<=x/\x<i
  ·rw[if_pos c,if_pos (by omega)]
  ·rw[if_neg c,if_neg (by omega)]
 ·have e:WJ (dH J i j) T k g lo (i+1) i=UY j k g i (T i):=by unfold WJ;rw[if_pos (by omega),nj]
  rw[e]
  refine .ex (f,b) (.all ?_)
  refine am ?_
  exact az
theorem Fr {W:World}{L L':List HP}{S:WP}{J:Nat->Nat}{T:Nat->List UInt8}{k g n i hi:Nat}(h1:i<hi)(h2:hi<=n)(P:Pick L (JJ J T k g n i hi) L')(h:∀f b,aJ W (d6 (J i) k (i:Int) (T i) f b g GP [] [] [] zE rx::mX f::JJ J T k g n (i+1) hi::L') S):aJ W L S:=by
 refine fY P i (by omega) ?_
 have e:WJ J T k g i hi i=UY (J i) k g i (T i):=by unfold WJ;rw[if_pos (by omega)]
 rw[e]
 refine a8 .here fun x=>aB .here ?_
 refine am ?_
 refine bf ?_ (h x.1 x.2)
 refine .pick .here (.pick .here (eb (F:=WJ J T k g i hi) (F':=WJ J T k g (i+1) hi) i (by omega) (fun y _ hne=>?_) ?_))
 ·unfold WJ
  by_cases c:i<=y/\y<hi
  ·rw[if_pos c,if_pos (by omega)]
  ·rw[if_neg c,if_neg (by omega)]
 ·have e2:WJ J T k g (i+1) hi i=pu True:=by unfold WJ;rw[if_neg (by omega)]
  rw[e2]
  exact .pu trivial .refl
end Go.Proofs.YtdjkdjepjahjfaaGreatDoor.TP
namespace Go.Proofs.YtdjkdjepjahjfaaGreatDoor.Sh
open Go
variable {P:Program} {n:Nat} {Kp:List PanicEntry->WP}
def r0:Rest:={timers:=#[],alone:=none,slice:=none}
structure cmS (P:Program)(s:Sem Next)(k:Value->WP)(w:World):Prop where
 out:∃(cases:Array CommCase) (bl:Bool) (sh:CommShape) (w1:World) (v:Value) (w2:World),s.run P w= .ok (.comm cases bl sh) w1/\
  (∀g:Goroutine,(communicate P r0 #[{(default:Goroutine)with status:= .finished}] 0 g cases bl sh w1).1= .next {world:=w2,gs:=#[{g with frame:=g.frame.finish v,status:= .running,offers:=none}],rest:=r0})/\k v w2
theorem CP {s s':Sem Next}{k:Value->WP}{w:World}(h:∀w,s.run P w=s'.run P w)(H:cmS P s k w):cmS P s' k w:=by
 obtain⟨a,b,c,d,e,f,h1,h2,h3⟩:=H.out
 exact⟨a,b,c,d,e,f,by rw[<- h];exact h1,h2,h3⟩
theorem zp {b:Frame}{a:Act}{k:List Item}{cs:List Frame}{w:World}{ops:Array Oper}{i:Nat}{rest:List Nat}{o:Oper}{K:Value->WP}(ho:ops[i]? =some o)(hw:Region.wanted o (yielded ops a.tmps)=true)(h:cmS P (execOp a.eval o) K w):
  ∃v w2,K v w2/\step P (lone (b.at a (.inRegion ops (i::rest)::k)) cs w)= .next (lone (b.at (a.put o.dst v) (.inRegion ops rest::k)) cs w2):=by
 obtain⟨cases,bl,sh,w1,v,w2,hr,hc,hk⟩:=h.out
 refine⟨v,w2,hk,?_⟩
 have hg:=stepG_op (P:=P) (b:=b) (k:=k) (cs:=cs) (w:=w) (rest:=rest) ho hw
 have hfin:(b.at a (.inRegion ops (i::rest)::k)).finish v=b.at (a.put o.dst v) (.inRegion ops rest::k):=by rw[Frame.finish_at,ho];rfl
 obtain⟨es,hs⟩:∃es,stepG P true {frame:=b.at a (.inRegion ops (i::rest)::k),callers:=cs,status:= .running,dying:=none} w= .comm {frame:=b.at a (.inRegion ops (i::rest)::k),callers:=cs,status:= .running,dying:=none} cases bl sh w1 es:=by
  rw[hg]
  simp only[stepG.apply,Sem.runT_eq,hr,if_true]
  exact⟨_,rfl⟩
 have:=hc {frame:=b.at a (.inRegion ops (i::rest)::k),callers:=cs,status:= .running,dying:=none}
 rw[step,stepT,move_lone]
 simp only[hfin]at this
 simp[runT,lone,Array.swapAt!,Array.swapAt,hs]
 exact this
def QH (P:Program)(ops:Array Oper)(l:List Nat)(Q:Exit->Act->World->Prop)(a:Act)(w:World):Prop:=
 ∀(b:Frame) (k:List Item) (cs:List Frame),∃e a' w',Q e a' w'/\Arrives P (lone (b.at a (.inRegion ops l::k)) cs w) b k cs e a' w'
def CQ (o:Oper):Bool:=match o.op with
 | .recv .. =>true
 | .select .. =>true
 |_=>false
theorem JK {α : Type} (x : Sem α) : x.bind Sem.pure = x := by
 induction x <;> simp only [Sem.bind, *]
theorem zq {α β γ : Type} (f : α -> Sem β) (g : β -> Sem γ) (x : Sem α) : (x.bind f).bind g = x.bind fun a => (f a).bind g := by
 induction x <;> simp only [Sem.bind, *]
theorem wo:LawfulMonad Sem:=LawfulMonad.mk' Sem (fun x=>JK x) (fun _ _=>rfl) (fun x f g=>zq f g x)
def CR (n:Nat)(e:cG)(o:Oper):Sem Next:=match o.op with
 | .select cs bl=>(match cs.toList with
  |[s]=>(do
   let z <- zeroValue s.elem
   pure (.comm #[{chan:=ev n e s.chan,send:=s.send.map (ev n e),zero:=z}] bl .select))
  |_=>execOp (ev n e) o)
 |_=>execOp (ev n e) o
theorem zr {e:cG}{o:Oper}{w:World}:(CR n e o).run P w=(execOp (ev n e) o).run P w:=by
 unfold CR
 split
 ·rename_i cs bl ho
  split
  ·rename_i s hs
   obtain rfl:cs= #[s]:=by
    cases cs;simp at hs;subst hs;rfl
   unfold execOp
   rw[ho]
   haveI:=wo
   dsimp only
   rw[Array.mapM_eq_mapM_toList]
   simp
  ·rfl
 ·rfl
def yP (P:Program)(n:Nat)(K:cG->WP):List Oper->cG->WP
 |[],e=>K e
 |o::r,e=>match o.guard with
  |none=>(match CQ o with
   |true=>cmS P (CR n e o) fun v=>yP P n K r (ez e o.dst v)
   |false=>s8 P n e o fun v=>yP P n K r (ez e o.dst v))
  |some _=>fun _=>False
theorem rE {ops:Array Oper}{K:cG->WP}{Q:Exit->Act->World->Prop}{D:List Deferred}(M:List Nat)(e0:cG)(hn:∀e a w,Rep n D e a->Agree M e0 e->K e w->Q .normal a w):
  ∀(l:List Oper) (i:Nat) (e:cG) (a:Act) (w:World),(∀j,l[j]? =ops[i+j]?)->(∀o∈l,∀t,o.dst=some t->t∈M)->Rep n D e a->Agree M e0 e->yP P n K l e w->QH P ops (List.range' i l.length) Q a w
 |[],i,e,a,w,_,_,hr,ha,h=>fun b k cs=>⟨.normal,a,w,hn e a w hr ha h,.one step_region_end⟩
 |o::l,i,e,a,w,hi,hM,hr,ha,h=>by
  have ho:ops[i]? =some o:=by simpa using (hi 0).symm
  have hd:∀t,o.dst=some t->t∈M:=hM o (by simp)
  have next:∀v w',yP P n K l (ez e o.dst v) w'->QH P ops (List.range' (i+1) l.length) Q (a.put o.dst v) w':=fun v w' h'=>
   rE M e0 hn l (i+1) _ _ w' (fun j=>by have:=hi (j+1);simpa [Nat.add_assoc,Nat.add_comm 1 j]using this) (fun x hx=>hM x (by simp[hx])) (hr.put _ _) (ha.trans (.set e o.dst v M hd) (fun _ h=>h) (fun _ h=>h)) h'
  rw[List.length_cons,List.range'_succ]
  unfold yP at h
  cases hg:o.guard with
  |some _=>rw[hg]at h;exact h.elim
  |none=>
   rw[hg]at h
   have hw:Region.wanted o (yielded ops a.tmps)=true:=jI hg
   intro b k cs
   cases hc:CQ o with
   |true=>
    rw[hc]at h
    simp only at h
    have h:=CP (s':=execOp a.eval o) (fun w=>by rw[zr,hr.eval]) h
    obtain⟨v,w2,hk,hs⟩:=zp (b:=b) (k:=k) (cs:=cs) (rest:=List.range' (i+1) l.length) ho hw h
    obtain⟨e',a',w',hq,harr⟩:=next v w2 hk b k cs
    exact⟨e',a',w',hq,.of_steps (.one hs) harr⟩
   |false=>
    rw[hc]at h
    simp only at h
    obtain⟨v,hv,hk⟩:=(iZ h).out
    rw[<- hr.eval]at hv
    obtain⟨e',a',w',hq,harr⟩:=next v w hk b k cs
    refine⟨e',a',w',hq,.of_steps (.one (step_lone_go ?_)) harr⟩
    have hg':=stepG_op (P:=P) (b:=b) (k:=k) (cs:=cs) (w:=w) (rest:=List.range' (i+1) l.length) ho hw
    have hfin:(b.at a (.inRegion ops (i::List.range' (i+1) l.length)::k)).finish v=b.at (a.put o.dst v) (.inRegion ops (List.range' (i+1) l.length)::k):=by rw[Frame.finish_at,ho];rfl
    rw[hg',<- hfin]
    simp[stepG.apply,hv]
def fC:Code->Bool
 | .region _ ops _=>ops.toList.any CQ
 | .seq a b=>fC a||fC b
 | .cond _ a b=>fC a||fC b
 | .block _ b=>fC b
 | .loop b=>fC b
 |_=>false
def nl (P:Program)(n:Nat)(an:Ann)(Kp:List PanicEntry->WP):Code->KT->cG->WP
 | .region id ops draw,K,e=>match ops.toList.any CQ with
  |true=>(match draw with
   |false=>yP P n (K .normal) ops.toList e
   |true=>fun _=>False)
  |false=>iz P n an Kp (.region id ops draw) K e
 | .seq x y,K,e=>match fC x||fC y with
  |true=>nl P n an Kp x (nK K (nl P n an Kp y K)) e
  |false=>iz P n an Kp (.seq x y) K e
 | .cond c x y,K,e=>match fC x||fC y with
  |true=>condS (ev n e c) (nl P n an Kp x K e) (nl P n an Kp y K e)
  |false=>iz P n an Kp (.cond c x y) K e
 | .block id b,K,e=>match fC b with
  |true=>nl P n an Kp b (yf K id (K .normal)) e
  |false=>iz P n an Kp (.block id b) K e
 | .loop b,K,e=>match fC b with
  |true=>(match mw (dO b) an.loops with
   |none=>fun _=>False
   |some live=>FJ live.length (fun I m ds vs=>nl P n an Kp b (nK K fun e'=>FK live.length I m (iC e' live)) (upd e (fE b live) ds live vs)) (iC e live))
  |false=>iz P n an Kp (.loop b) K e
 |c,K,e=>iz P n an Kp c K e
theorem wq (hm:P.follows .mixedOrders=true)(an:Ann):∀(c:Code) (K:KT) (e:cG) (a:Act) (w:World),Rep n [] e a->nl P n an Kp c K e w->c.wpIn (FW none) 0 P (uV n [] Kp K (wr c) e) a w:=by
 have base:∀(c:Code) (K:KT) (e:cG) (a:Act) (w:World),Rep n [] e a->iz P n an Kp c K e w->c.wpIn (FW none) 0 P (uV n [] Kp K (wr c) e) a w:=fun c K e a w hr h=>gH (R:=none) hm an c (.inl rfl) K e a w hr h
 intro c
 induction c with
 |region id ops draw=>
  intro K e a w hr h
  unfold nl at h
  cases hc:ops.toList.any CQ with
  |true=>
   rw[hc]at h
   cases draw with
   |true=>exact h.elim
   |false=>
    refine wpIn_wide.2 fun b k cs=>?_
    have:=rE (Q:=uV n [] Kp K (wr (.region id ops false)) e) (wr (.region id ops false)) e (fun e' a' w' hr' ha hk=>⟨e',hr',ha,hk⟩) ops.toList 0 e a w (ops:=ops) (fun j=>by simp) (fun o ho t ht=>List.mem_filterMap.2 ⟨o,ho,ht⟩) hr (.refl _ _) h
    rw[Array.length_toList,<- List.range_eq_range']at this
    obtain⟨e',a',w',q,r⟩:=this b k cs
    exact⟨e',a',w',q,.of_steps (.one step_region) r⟩
  |false=>rw[hc]at h;exact base _ K e a w hr h
 |seq x y ihx ihy=>
  intro K e a w hr h
  unfold nl at h
  cases hc:(fC x||fC y)with
  |false=>rw[hc]at h;exact base _ K e a w hr h
  |true=>
   rw[hc]at h
   simp only at h
   refine wpIn_seq (wpIn_mono (ihx _ e a w hr h) fun ex a' w' hq=>?_)
   cases ex with
   |normal=>
    obtain⟨e',hr',ha,hq⟩:=hq
    exact wpIn_mono (ihy K e' a' w' hr' hq) fun ex a w'' hq=>hq.grow (ha.mono fun i hi=>by simp[wr,hi]) (fun i hi=>by simp[wr,hi])
   |panic ch=>exact⟨hq.1.grow (.refl _ _) (fun i hi=>by simp[wr,hi]),hq.2⟩
   |outgrown=>exact hq
   |_=>obtain⟨e',h1,h2,h3⟩:=hq;exact⟨e',h1,h2.mono fun i hi=>by simp[wr,hi],h3⟩
 |cond c x y ihx ihy=>
  intro K e a w hr h
  unfold nl at h
  cases hc:(fC x||fC y)with
  |false=>rw[hc]at h;exact base _ K e a w hr h
  |true=>
   rw[hc]at h
   simp only at h
   replace h:=condS.out h
   split at h
   ·rename_i hv
    exact wpIn_cond_true (by rw[hr.eval];exact hv) (wpIn_mono (ihx K e a w hr h) fun ex a w' hq=>hq.mono fun i hi=>by simp[wr,hi])
   ·rename_i hv
    exact wpIn_cond_false (by rw[hr.eval];exact hv) (wpIn_mono (ihy K e a w hr h) fun ex a w' hq=>hq.mono fun i hi=>by simp[wr,hi])
   ·exact h.elim
 |block id b ih=>
  intro K e a w hr h
  unfold nl at h
  cases hc:(fC b)with
  |false=>rw[hc]at h;exact base _ K e a w hr h
  |true=>
   rw[hc]at h
   simp only at h
   refine wpIn_block (wpIn_mono (ih _ e a w hr h) fun ex a w' hq=>?_)
   cases ex with
   |normal=>obtain⟨e',h1,h2,h3⟩:=hq;exact⟨e',h1,h2,h3⟩
   |exit id'=>
    obtain⟨e',h1,h2,h3⟩:=hq
    simp only[Exit.inBlock]
    simp only[yf]at h3
    by_cases hid:id'=id
    ·rw[if_pos hid]at h3 ⊢;exact⟨e',h1,h2,h3⟩
    ·rw[if_neg hid]at h3 ⊢;exact⟨e',h1,h2,h3⟩
   |panic ch=>exact hq
   |outgrown=>exact hq
   |_=>obtain⟨e',h1,h2,h3⟩:=hq;exact⟨e',h1,h2,h3⟩
 |loop b ih=>
  intro K e a w hr h
  unfold nl at h
  cases hc:(fC b)with
  |false=>rw[hc]at h;exact base _ K e a w hr h
  |true=>
   rw[hc]at h
   simp only at h
   cases hl:mw (dO b) an.loops with
   |none=>rw[hl]at h;exact h.elim
   |some live=>
    rw[hl]at h
    obtain⟨I,h0,h1⟩:=h
    refine jl (fun m a w=>∃e',Rep n [] e' a/\Agree (wr b) e e'/\iB live.length (I m) (iC e' live) w) ?_ ?_
    ·obtain⟨m,hm⟩:=h0;exact⟨m,e,hr,.refl _ _,hm⟩
    ·rintro m a' w' ⟨e',hr',ha,hv⟩
     have hb:=gN e' live (h1 m (iC e' (fE b live))) w' hv
     simp only at hb
     rw[eZ ha iD]at hb
     refine wpIn_mono (ih _ e' a' w' hr' hb) fun ex a w'' hq=>?_
     cases ex with
     |normal=>
      obtain⟨e3,hr3,h2,m',hlt,h3⟩:=hq
      exact⟨m',hlt,e3,hr3,ha.trans h2 (fun _ h=>h) (fun _ h=>h),h3⟩
     |panic ch=>exact⟨hq.1.grow ha (fun _ h=>h),hq.2⟩
     |outgrown=>exact hq
     |_=>obtain⟨e3,h1,h2,h3⟩:=hq;exact⟨e3,h1,ha.trans h2 (fun _ h=>h) (fun _ h=>h),h3⟩
 |_=>exact fun K e a w hr h=>base _ K e a w hr h
def x_ (P:Program)(an:Ann)(fn:Func)(args:List Value)(Kp:List PanicEntry->WP)(K:Value->WP):WP:=
 match fn.body with
 |some c=>nl P (args.length+(fn.ntmps-args.length)) an Kp c (td P (args.length+(fn.ntmps-args.length)) fn.results.toList K) (mA args)
 |none=>fun _=>False
theorem qy (hm:P.follows .mixedOrders=true){f:FuncId}{fn:Func}(hf:P.funcs[f]? =some fn){an:Ann}{args:List Value}{K:Value->WP}{w:World}(h:x_ P an fn args Kp K w):
  Calls P f args.toArray w fun
   | .returned v,w'=>K v w'
   | .panicked ch,w'=>Kp ch w'
   | .outgrown,_=>False:=by
 unfold x_ at h
 cases hb:fn.body with
 |none=>rw[hb]at h;exact h.elim
 |some c=>
  rw[hb]at h
  refine calls_of_wp hf hb ?_
  have hr:Rep (args.length+(fn.ntmps-args.length)) [] (mA args) {tmps:=args.toArray++Array.replicate (fn.ntmps-args.toArray.size) undef,defers:=[]}:=by
   refine⟨rfl,by simp,fun i hi=>?_⟩
   rw[km,List.getD_eq_getElem?_getD,Array.getElem?_append]
   by_cases hl:i<args.length
   ·simp[hl]
   ·rw[if_neg (by simpa using hl),Array.getElem?_eq_getElem (by simp;omega)]
    simp only[List.getElem?_eq_none (Nat.le_of_not_lt hl),Array.getElem_replicate,Option.getD_none]
  refine wp_mono (wpIn_wide.1 (wq hm an c _ _ _ w hr h)) fun ex a w' hq=>?_
  cases ex with
  |normal=>
   obtain⟨e',hr',_,hk⟩:=hq
   obtain⟨v,h1,h2⟩:=cP hr' hk
   exact⟨hr'.defers,v,h1,h2⟩
  |ret=>
   obtain⟨e',hr',_,hk⟩:=hq
   obtain⟨v,h1,h2⟩:=cP hr' hk
   exact⟨hr'.defers,v,h1,h2⟩
  |panic ch=>exact⟨hq.1.defers,hq.2⟩
  |exit id=>obtain⟨_,_,_,hk⟩:=hq;exact hk.elim
  |goto l=>obtain⟨_,_,_,hk⟩:=hq;exact hk.elim
  |outgrown=>exact hq.elim
@[irreducible] def yb (t:TypeId)(x:Value):Sem Next:=do pure (.value (<- Instr.makeChan t x))
@[irreducible] def sW (ts:Array TypeId)(t:TypeId)(a:List Value):Sem Next:=do pure (.value (<- Builtin.close_ ts t a.toArray))
@[irreducible] def CS (t:TypeId)(x:Value)(ok:Bool):Sem Next:=do
 let .chan _ elem <- underlying t|stuck "receive: channel type expected"
 pure (.comm #[{chan:=x,send:=none,zero:= <- zeroValue elem}] true (.recv ok))
@[irreducible] def CT (c v:Value)(elem:TypeId):Sem Next:=do
 let z <- zeroValue elem
 pure (.comm #[{chan:=c,send:=some v,zero:=z}] false .select)
end Go.Proofs.YtdjkdjepjahjfaaGreatDoor.Sh
namespace Go.Proofs.YtdjkdjepjahjfaaGreatDoor.Sl
open Go Sh
theorem UZ {P:Program} {f:FuncId} {fn:Func} {an:Ann} {args:List Value} {sh:PK->(Value->WP)->WP} (hm:P.follows .mixedOrders=true) (hc:∀(a:Array Value) (w:World),(callFunc f a).run P w= .ok (.enter f a) w) (hf:P.funcs[f]? =some fn)
  (he:∀Kp K,x_ P an fn args Kp K=sh Kp K):Shp P f args sh:=⟨hc,fun {Kp K w} h=>e7 (qy hm hf (an:=an) (args:=args) (cast (congrFun (he Kp K) w).symm h))⟩
end Go.Proofs.YtdjkdjepjahjfaaGreatDoor.Sl
namespace Go.Proofs.YtdjkdjepjahjfaaGreatDoor.Sl
open Go Go.RowKit Sh
variable {P:Program} {W:World} {L L':List HP} {Kp:PK} {k:Value->WP}
def nq (g cap:Nat)(buf:List Value)(cl:Bool):HP:=ex fun x:Nat × Nat=>pt g (.chan cap buf.toArray cl x.1 x.2 false)
def ML (P:Program)(t e:TypeId):Bool:=(match P.underlying t with|some (.chan _ e')=>e'==e|_=>false)&&(match P.info? e with|some i=>decide (i.bytes<=64)|none=>false)
theorem CU {t e:TypeId}(h:ML P t e=true):∃d i,P.underlying t=some (.chan d e)/\P.info? e=some i/\i.bytes<=64:=by
 unfold ML at h
 rw[Bool.and_eq_true]at h
 obtain⟨h1,h2⟩:=h
 split at h1
 ·rename_i d e' hu
  obtain rfl:e'=e:=by simpa using h1
  split at h2
  ·rename_i i hi
   exact⟨d,i,hu,hi,by simpa using h2⟩
  ·cases h2
 ·cases h1
theorem JL {t e:TypeId}{q:IntKind}{n:Nat}(ht:ML P t e=true)(hn:n<=1000)(h:∀g,aJ W (nq g n [] false::L) (k (.chan (some g)))):aJ W L (opN P (yb t (.int q (n:Int))) Kp k):=fun w hw=>by
 obtain⟨d,i,hu,hi,hb⟩:=CU ht
 refine⟨?_⟩
 have hm:i.bytes * n<=64 * 1000:=Nat.mul_le_mul hb hn
 have hc:¬((n:Int)<0\/(n:Int) > IntKind.i64.max\/((i.bytes:Int) * (n:Int)) > 2^48-112):=by
  have:(i.bytes:Int) * (n:Int)<=64000:=by rw[<- Int.natCast_mul];omega
  have hx:IntKind.i64.max=9223372036854775807:=rfl
  omega
 have:(yb t (.int q (n:Int))).run P w= .ok (.value (.chan (some w.heap.size))) (w.alloc (.chan n #[] false 0 0 false)):=by
  simp[yb,Instr.makeChan,asInt,asIntOf,run_underlying hu,typeInfo,hi]
  intro hx
  exact absurd hx (by have hy:IntKind.i64.max=9223372036854775807:=rfl;omega)
 rw[this]
 refine h _ _ ?_
 exact(Imp.ex (A:=fun x:Nat × Nat=>pt w.heap.size (.chan n ([]:List Value).toArray false x.1 x.2 false)) (0,0) (.pick .here .refl)).sat (hw.alloc _)
theorem p7 {e:TypeId}{z:Value}[hz:ZeroT P e z](w:World):(zeroValue e).run P w= .ok z w:=hz.run w
theorem JM {e:TypeId}{g cap:Nat}{buf:List Value}{v z:Value}[hz:ZeroT P e z](p:Pick L (nq g cap buf false) L')(hr:buf.length<cap)(h:aJ W (nq g cap (buf++[v]) false::L') (k (.tuple #[.int .i64 0,.bool false]))):aJ W L (cmS P (CT (.chan (some g)) v e) k):=by
 refine a8 p fun x w hw2=>?_
 obtain⟨s,r⟩:=x
 refine⟨#[{chan:= .chan (some g),send:=some v,zero:=z}],false,.select,w,.tuple #[.int .i64 0,.bool false],{w with heap:=w.heap.setIfInBounds g (.chan cap (buf.toArray.push v) false (s+1) r false)},?_,?_,?_⟩
 ·simp[CT,p7 (z:=z)]
 ·intro gr
  have hg:=hw2.pt_.1
  have hp:partners #[{(default:Goroutine)with status:= .finished}] g false=[]:=by simp[partners]
  simp[communicate,ways,hg,hp,hr,choose,Sem.run,Question.forced,bind,Sem.bind,pure,Goroutine.finishComm,commResult,goInt]
 ·refine h _ ?_
  have:=hw2.putObj (.chan cap (buf.toArray.push v) false (s+1) r false)
  rw[show buf.toArray.push v=(buf++[v]).toArray by simp]at this ⊢
  exact(Imp.ex (A:=fun x:Nat × Nat=>pt g (.chan cap (buf++[v]).toArray false x.1 x.2 false)) (s+1,r) (.pick .here .refl)).sat this
theorem JN {t e:TypeId}{g cap:Nat}{buf:List Value}{v z:Value}{cl:Bool}(ht:ML P t e=true)[hz:ZeroT P e z](p:Pick L (nq g cap (v::buf) cl) L')(h:aJ W (nq g cap buf cl::L') (k (.tuple #[v,.bool true]))):aJ W L (cmS P (CS t (.chan (some g)) true) k):=by
 obtain⟨d,i,hu,hi,hb⟩:=CU ht
 refine a8 p fun x w hw2=>?_
 obtain⟨s,r⟩:=x
 refine⟨#[{chan:= .chan (some g),send:=none,zero:=z}],true,.recv true,w,.tuple #[v,.bool true],{w with heap:=w.heap.setIfInBounds g (.chan cap buf.toArray cl s (r+1) false)},?_,?_,?_⟩
 ·simp[CS,run_underlying hu,p7 (z:=z)]
 ·intro gr
  have hg:=hw2.pt_.1
  have hp:partners #[{(default:Goroutine)with status:= .finished}] g true=[]:=by simp[partners]
  simp[communicate,ways,hg,hp,choose,Sem.run,Question.forced,bind,Sem.bind,pure,Goroutine.finishComm,commResult]
 ·refine h _ ?_
  have:=hw2.putObj (.chan cap buf.toArray cl s (r+1) false)
  exact(Imp.ex (A:=fun x:Nat × Nat=>pt g (.chan cap buf.toArray cl x.1 x.2 false)) (s,r+1) (.pick .here .refl)).sat this
theorem CV {t e:TypeId}{g cap:Nat}{z:Value}(ht:ML P t e=true)[hz:ZeroT P e z](p:Pick L (nq g cap [] true) L')(h:aJ W (nq g cap [] true::L') (k (.tuple #[z,.bool false]))):aJ W L (cmS P (CS t (.chan (some g)) true) k):=by
 obtain⟨d,i,hu,hi,hb⟩:=CU ht
 refine a8 p fun x w hw2=>?_
 obtain⟨s,r⟩:=x
 refine⟨#[{chan:= .chan (some g),send:=none,zero:=z}],true,.recv true,w,.tuple #[z,.bool false],w,?_,?_,h _ ((Imp.ex (A:=fun x:Nat × Nat=>pt g (.chan cap ([]:List Value).toArray true x.1 x.2 false)) (s,r) (.pick .here .refl)).sat hw2)⟩
 ·simp[CS,run_underlying hu,p7 (z:=z)]
 ·intro gr
  have hg:=hw2.pt_.1
  have hp:partners #[{(default:Goroutine)with status:= .finished}] g true=[]:=by simp[partners]
  simp[communicate,ways,hg,hp,choose,Sem.run,Question.forced,bind,Sem.bind,pure,Goroutine.finishComm,commResult]
theorem Fs {t ty:TypeId}{g cap:Nat}{buf:List Value}(p:Pick L (nq g cap buf false) L')(h:aJ W (nq g cap buf true::L') (k (.tuple #[]))):aJ W L (opN P (sW #[t] ty [.chan (some g)]) Kp k):=by
 refine a8 p fun x w hw2=>?_
 obtain⟨s,r⟩:=x
 have hg:=hw2.pt_.1
 refine⟨?_⟩
 have:(sW #[t] ty [.chan (some g)]).run P w= .ok (.value (.tuple #[])) {w with heap:=w.heap.setIfInBounds g (.chan cap buf.toArray true s r false)}:=by
  have e:Builtin.close_ #[t] ty #[.chan (some g)]=(getObj g >>= fun o=>match o with
   | .chan room buf closed sent received timer=>(do
    if closed then runtimePanic (.plain "close of closed channel")
    setObj g (.chan room buf true sent received timer)
    pure (.tuple #[]))
   |_=>stuck "close: no channel in this block"):=rfl
  simp[sW,e,getObj,setObj,Sem.run,hg]
 rw[this]
 refine h _ ?_
 exact(Imp.ex (A:=fun x:Nat × Nat=>pt g (.chan cap buf.toArray true x.1 x.2 false)) (s,r) (.pick .here .refl)).sat (hw2.putObj (.chan cap buf.toArray true s r false))
end Go.Proofs.YtdjkdjepjahjfaaGreatDoor.Sl
namespace Go.Proofs.YtdjkdjepjahjfaaGreatDoor.S
open Go Sh Sl
theorem QI:p_.follows .mixedOrders=true:=by kernel_rfl
theorem QJ {f:FuncId}{fn:Func}{an:Ann}{args:List Value}{sh:PK->(Value->WP)->WP}(hc:∀(a:Array Value) (w:World),(callFunc f a).run p_ w= .ok (.enter f a) w)(hf:p_.funcs[f]? =some fn)(he:∀Kp K,x_ p_ an fn args Kp K=sh Kp K):Shp p_ f args sh:=UZ QI hc hf he
def gy (v0:Value)(Kp:PK)(K:Value→WP):WP:=
 opN p_ (bG (fn 28) [v0]) Kp fun x6=>
 condS x6
 (K (.slice none 0 0))
 (opN p_ (bG (fn 60) [v0]) Kp fun x8=>
 qF (fun I1 m1 _ y3=>
 cmS p_ (CS 149 x8 true) fun x9=>
 stS p_ (kY x9 1) fun x10=>
 condS x10
 (opN p_ (kY x9 0) Kp fun x11=>
 opN p_ (co 22 1 [(0,x11)]) Kp fun x14=>
 opN p_ (ju #[22,22] 22 [y3,x14]) Kp fun x15=>
 lI I1 m1 x15)
 (K y3)) (.slice none 0 0))
theorem jE {v0:Value}:Shp p_ 24 [v0] (gy v0):=QJ Tryz.call24 Tryz.func24 (an:={loops:=[(5,[3])]}) fun _ _=>by kernel_rfl
def gz (v0:Value)(Kp:PK)(K:Value→WP):WP:=
 opN p_ (cT v0) Kp fun x7=>
 opN p_ (fI 71 x7 3) Kp fun x8=>
 opN p_ (aG 66 x8) Kp fun x9=>
 opN p_ (gB #[66] 3 [x9]) Kp fun x10=>
 opN p_ (yb 149 x10) Kp fun x11=>
 opN p_ (cT v0) Kp fun x13=>
 opN p_ (fI 71 x13 3) Kp fun x14=>
 opN p_ (aG 66 x14) Kp fun x15=>
 opN p_ (gB #[66] 3 [x15]) Kp fun x16=>
 qF (fun I1 m1 _ y17=>
 opN p_ (a_ .lss 3 y17 x16) Kp fun x18=>
 condS x18
 (opN p_ (kL 66 x15 y17) Kp fun x20=>
 opN p_ (aG 72 x20) Kp fun x21=>
 opN p_ (cT x21) Kp fun x23=>
 opN p_ (fI 76 x23 2) Kp fun x24=>
 opN p_ (aG 74 x24) Kp fun x25=>
 opN p_ (gB #[74] 3 [x25]) Kp fun x26=>
 opN p_ (a_ .gtr 3 x26 (.int .i64 0)) Kp fun x27=>
 condS x27
 (cmS p_ (CT x11 y17 3) fun x30=>
 stS p_ (kY x30 0) fun x31=>
 stS p_ (dY .eql 3 (.tmp 31) (.const (.int .i64 0)) x31 (.int .i64 0)) fun x32=>
 condS x32
 (opN p_ (a_ .add 3 y17 (.int .i64 1)) Kp fun x33=>
 lI I1 m1 x33)
 (opN p_ (a_ .add 3 y17 (.int .i64 1)) Kp fun x33=>
 lI I1 m1 x33))
 (opN p_ (a_ .add 3 y17 (.int .i64 1)) Kp fun x33=>
 lI I1 m1 x33))
 (opN p_ (sW #[149] 0 [x11]) Kp fun _=>
 K x11)) (.int .i64 0)
theorem jF {v0:Value}:Shp p_ 60 [v0] (gz v0):=QJ Tryz.call60 Tryz.func60 (an:={loops:=[(3,[17])]}) fun _ _=>by kernel_rfl
end Go.Proofs.YtdjkdjepjahjfaaGreatDoor.S
namespace Go.Proofs.YtdjkdjepjahjfaaGreatDoor.TP
open Go Go.Proofs Go.RowKit Sh Sl T FD
theorem Ft:Sl.ML p_ 149 3=true:=by kernel_rfl
def mr (n:Nat):List Value:=if n=0 then []else [.int .i64 0]
theorem JO {W:World}{v k c n:Nat}{s:SvS}{a js:AC}{nm:List UInt8}(h:s.cl= .slice a.1 1 a.2)(hn:n<=1000):Cn p_ 60 [pC v] W [ci v s,kQ a k,eF k c nm (.slice js.1 n js.2)] (fun g:Nat=> .chan (some g)) (fun g=>[ci v s,kQ a k,eF k c nm (.slice js.1 n js.2),Sl.nq g 1 (mr n) true]):=by
 (refine S.jF.cn fun F=>?_;unfold S.gz;simp only[ca_,na_])
 cases s
 rename_i w_ g_ cl lk nu ca_ lg out
 (try dsimp only at *)
 subst h
 obtain⟨aa,ac⟩:=a
 unfold ci nF kQ eF
 (try dsimp only)
 refine a9 (by(repeat constructor):Pick _ (Sl 1 72 aa ac 1 _) _) (by decide) fun G hG=>?_
 subst hG
 refine o_ ag (o_ ae (aH ?_));refine o_ aI (Sl.JL (n:=1) Ft (by decide) fun cg=>?_)
 refine o_ ag (o_ ae (aH ?_));refine o_ aI (aY (fun m y=>match m with|0=>pu (y= .int .i64 1)::Sl.nq cg 1 (mr n) false::[ci v ⟨w_,g_,.slice (some ⟨G,0,none⟩) 1 ac,lk,nu,ca_,lg,out⟩,Sl 1 72 (some ⟨G,0,none⟩) ac 1 [pC k],pt k (.cells #[ay nm,pC c,.slice js.1 n js.2] 76)]++F|_=>pu (y= .int .i64 0)::Sl.nq cg 1 [] false::_) 1 (.pu rfl .refl) ?_)
 intro m ds y
 cases m with
 |succ m=>
  refine aT .here fun hy=>?_
  subst hy
  (((refine o_ (Sl.bY ?hcq) ?_);(case hcq=>(first|omega|(simp only[List.length_nil,List.length_cons];omega)))));refine ai ?_;(((refine' aE (bq 0 rfl ?hcq) .nil ?_);(case hcq=>(first|omega|decide|(simp;done)))));(((refine' aE (bw ?hc) ?hi ?_);(case hi=>exact az);(case hc=>rfl)));refine o_ ag ?_;refine o_ ae ?_;refine aH ?_;refine o_ aI ?_
  by_cases h0:n=0
  ·subst h0
   (((refine o_ (Sl.cf ?hcq) ?_);(case hcq=>(first|omega|(simp only[List.length_nil,List.length_cons];omega)))));refine af ?_;refine bP ?_
   refine aZ 0 (by omega) (.pu rfl ?_)
   unfold mr
   rw[if_pos rfl]
   exact az
  ·(((refine o_ (Sl.gi ?hcq) ?_);(case hcq=>(first|omega|(simp only[List.length_nil,List.length_cons];omega)))));refine ai ?_
   refine Sl.JM (z:= .int .i64 0) (by repeat constructor) (by decide) ?_
   refine rY ?_;(((refine t_ (Sl.ce ?hcq) ?_);(case hcq=>(first|omega|(simp only[List.length_nil,List.length_cons];omega)))));refine ai (bP ?_)
   refine aZ 0 (by omega) (.pu rfl ?_)
   unfold mr
   rw[if_neg h0]
   exact az
 |zero=>
  refine aT .here fun hy=>?_
  subst hy
  refine am ?_
  (((refine o_ (Sl.bF ?hcq) ?_);(case hcq=>(first|omega|(simp only[List.length_nil,List.length_cons];omega)))));refine af ?_
  refine Sl.Fs (by repeat constructor) ?_
  refine aR cg ?_
  exact az
theorem CW {W:World}{v k c n:Nat}{s:SvS}{a js:AC}{nm:List UInt8}(h:s.cl= .slice a.1 1 a.2)(hn:n<=1000):Cn p_ 24 [pC v] W [ci v s,kQ a k,eF k c nm (.slice js.1 n js.2)] (fun q:AC=> .slice q.1 (mr n).length q.2) (fun q=>[ci v s,kQ a k,eF k c nm (.slice js.1 n js.2),Sl 1 3 q.1 q.2 (mr n).length (mr n)]):=by
 (refine S.jE.cn fun F=>?_;unfold S.gy;simp only[ca_,na_])
 refine c_ mh fun _=>?_
 refine af ?_
 refine' ah (JO (v:=v) h hn) ?hp fun cg=>?_
 case hp=>(repeat(first|exact Picks.nil|(apply Picks.cons;(focus repeat constructor))))
 refine am ?_
 refine e_ (s:=1) (e:=3) ?_
 by_cases h0:n=0
 ·subst h0
  unfold mr
  rw[if_pos rfl]
  refine aY (fun m y=>pu (y= .slice none 0 0)::_) 0 (.pu rfl .refl) ?_
  intro m ds y
  refine aT .here fun hy=>?_
  subst hy
  refine Sl.CV (z:= .int .i64 0) Ft (by repeat constructor) ?_
  refine rY ?_;refine af (aR ((none,0)) ?_)
  exact az
 ·unfold mr
  rw[if_neg h0]
  refine aY (fun m y=>match m with|0=>(ex fun q:AC=>all [pu (y= .slice q.1 1 q.2),Sl 1 3 q.1 q.2 1 [.int .i64 0]])::Sl.nq cg 1 [] true::[ci v s,kQ a k,eF k c nm (.slice js.1 n js.2)]++F|_=>pu (y= .slice none 0 0)::_) 1 (.pu rfl .refl) ?_
  intro m ds y
  cases m with
  |succ m=>
   refine aT .here fun hy=>?_
   subst hy
   refine Sl.JN (z:= .int .i64 0) Ft (by repeat constructor) ?_
   refine rY ?_;refine ai (bE ?_);refine cI fun g=>?_
   refine bQ (m:=1) (news:=[.int .i64 0]) (by(repeat constructor):Pick _ (Sl 1 3 none 0 0 []) _) (bL (s:=1) (e':=3) (by kernel_rfl) (by(repeat constructor):Pick _ (pt g _) _) (by rfl) (by intro u hu;rw[List.mem_singleton.1 hu];rfl)) (by decide) (by decide) fun a' c'=>?_
   rw[Nat.zero_add,List.nil_append]
   refine aZ 0 (by omega) (.ex (a',c') (.all (.pu rfl ?_)))
   exact az
  |zero=>
   refine a8 .here fun q=>aB .here ?_
   refine am ?_
   refine aT .here fun hy=>?_
   subst hy
   refine Sl.CV (z:= .int .i64 0) Ft (by repeat constructor) ?_
   refine rY ?_;refine af (aR q ?_)
   exact az
def nr (b:Nat->Value)(i:Nat):List Value:=(List.range i).flatMap fun j:Nat=>[.int .i64 (j:Int),.int .i64 1,.bool true,b j]
theorem p8 {b:Nat->Value}:∀i,(nr b i).length=i * 4
 |0=>rfl
 |i+1=>by
  have:=p8 (b:=b) i
  unfold nr at this ⊢
  rw[List.range_succ,List.flatMap_append,List.length_append,this]
  simp;omega
theorem Fu {b:Nat->Value}{i:Nat}{v:Value}:nr (fun j=>if j=i then v else b j) (i+1)=nr b i++[.int .i64 (i:Int),.int .i64 1,.bool true,v]:=by
 unfold nr
 rw[List.range_succ,List.flatMap_append]
 congr 1
 ·rw[List.flatMap_def,List.flatMap_def]
  congr 1
  refine List.map_congr_left fun j hj=>?_
  have hne:j≠i:=Nat.ne_of_lt (List.mem_range.1 hj)
  (try dsimp only)
  rw[if_neg hne]
 ·simp
structure RF where
 v:Nat
 w:Nat
 g:Nat
 k:Nat
 c:Nat
 q:Ca
 pa:AC
 p:Nat
 mm:Value
 ca:Nat
 lg:Nat
 a:AC
 st:Nat
 tm:Int
 rt:Int
 n:Nat
 J:Nat->Nat
 T:Nat->List UInt8
 nm:List UInt8
 now:Int
 Z:Cs
structure RV where
 X:Nat->Nat
 l:AC
 js:AC
 o:AC
 b:Nat->Value
def RB (f:RF)(i:Nat)(x:RV):List HP:=[ci f.v ⟨f.w,f.g,.slice f.a.1 1 f.a.2,.slice x.l.1 i x.l.2,i,pE f.ca,pC f.lg,.slice x.o.1 i x.o.2⟩,kQ f.a f.k,eF f.k f.c f.nm (.slice x.js.1 (f.n-i) x.js.2),E7 x.js ((List.range' i (f.n-i)).map f.J),JJ f.J f.T f.k f.g f.n i f.n,gf f.ca f.Z,jH f.w f.now,dB f.g f.st f.q f.pa f.mm f.n,eJ f.q f.tm f.rt,nH f.pa f.p,uD f.p i,pY x.X x.l (List.range i),et x.X f.J f.T f.k f.g f.now f.n (qb i),Sl 4 42 x.o.1 x.o.2 i (nr x.b i)]
theorem QK {W:World}[hG:Gl W][hP:Gp W]{f:RF}{x0:RV}{T_:Nat}(hn:f.n<60)(hf:∀i,i<f.n->io f.Z (eY (f.T i)) fH=none)(hZ:CsOk T_ f.Z)(ht:∀i,i<f.n->E9 (f.T i)/\nP (f.T i)=true/\kI (mp (f.T i)) wl=true)(hn0:0<=f.now):
  Cn p_ 21 [pC f.v] W (RB f 0 x0) (fun _:RV=> .tuple #[]) (fun x=>RB f f.n x):=by
 generalize hQ:RB f f.n=Q
 (refine Shp.cn (Sg.g_ Tryz.call21 Tryz.func21 (an:={loops:=[(1,[2])]})) fun F=>?_;simp only[ca_,na_])
 refine aY (fun m y=>[ex fun x:Nat × RV=>all (pu (m+x.1=1000/\x.1<=f.n/\y= .int .i64 (x.1:Int))::RB f x.1 x.2)]++F) 1000 (.ex (0,x0) (.all (.pu ⟨rfl,Nat.zero_le _,rfl⟩ .refl))) ?_
 intro m ds y
 refine a8 .here fun x=>aB .here ?_
 obtain⟨i,x⟩:=x
 refine aT .here fun hx=>?_
 (try dsimp only at hx ⊢)
 obtain⟨hm,hin,rfl⟩:=hx
 unfold RB
 refine am ?_
 (((refine o_ (Sl.bY ?hcq) ?_);(case hcq=>(first|omega|(simp only[List.length_nil,List.length_cons];omega)))));refine ai ?_
 refine' ah (CW (s:=⟨f.w,f.g,.slice f.a.1 1 f.a.2,.slice x.l.1 i x.l.2,i,pE f.ca,pC f.lg,.slice x.o.1 i x.o.2⟩) (v:=f.v) (k:=f.k) (n:=f.n-i) (a:=f.a) rfl (by omega)) ?hp fun u=>?_
 case hp=>(repeat(first|exact Picks.nil|(apply Picks.cons;(focus repeat constructor))))
 refine am ?_
 (try simp only[List.append_eq,ca_,na_,-eq_self])
 rcases Nat.lt_or_ge i f.n with hlt|hge
 ·rw[show mr (f.n-i)=[.int .i64 0] by unfold mr;rw[if_neg (by omega)]]
  refine a9 (by(repeat constructor):Pick _ (Sl 1 3 u.1 u.2 _ _) _) (by decide) fun G hG=>?_
  rw[hG]
  refine o_ aI ?_;(((refine o_ (Sl.bA ?hcq) ?_);(case hcq=>(first|omega|(simp only[List.length_nil,List.length_cons];omega)))));refine af (o_ aI (o_ (kZ (by decide)) ?_))
  rw[show((i:Int)).tmod ((([Value.int .i64 0]:List Value).length:Nat):Int)=0 from Int.tmod_one _]
  (((refine' aE (bq 0 rfl ?hcq) .nil ?_);(case hcq=>(first|omega|decide|(simp;done)))));(((refine' aE (bw ?hc) ?hi ?_);(case hi=>exact az);(case hc=>rfl)))
  obtain⟨M,hM⟩:∃M,f.n-i=M+1:=⟨f.n-i-1,by omega⟩
  rw[hM,List.range'_succ,List.map_cons]
  refine Fr hlt (Nat.le_refl _) (by repeat constructor) fun fr bb=>?_
  obtain⟨us,hus⟩:∃us:Int,(f.n:Int)=us+1:=⟨(f.n:Int)-1,by omega⟩
  obtain⟨h1,h2,h3⟩:=ht i hlt
  rw[hus]
  refine' ah (GZ (v:=f.v) (w:=f.w) (gn:=f.g) (k:=f.k) (p:=f.p) (st:=f.st) (n:=i) (N:=f.n) (M:=M) (c:=f.c) (ca:=f.ca) (s:=⟨f.w,f.g,.slice f.a.1 1 f.a.2,.slice x.l.1 i x.l.2,i,pE f.ca,pC f.lg,.slice x.o.1 i x.o.2⟩) (now:=f.now) (us:=us) (tm:=f.tm) (rt:=f.rt) (nm:=f.nm) (f:=fr) (b:=bb) (pa:=f.pa) (l:=x.l) (o0:=x.o) (a:=f.a) (js:=x.js) (m:=f.mm) (q:=f.q) (ps:=(List.range' (i+1) M).map f.J) (vs:=nr x.b i) (X:=x.X) (J:=f.J) (T:=f.T) (hf i hlt) hZ (by omega) hlt (by simp) (p8 i) h1 rfl rfl rfl rfl rfl rfl rfl hn0 (by omega) (by omega) h2 h3) ?hp fun y=>?_
  case hp=>(repeat(first|exact Picks.nil|(apply Picks.cons;(focus repeat constructor))))
  rw[<- hus,<- Fu (b:=x.b)]
  refine am ?_
  (try dsimp only)
  refine bP ?_
  refine aZ (m-1) (by omega) (.ex (i+1,⟨dH x.X i y.1.x,y.1.l,y.2,y.1.o,fun j=>if j=i then .slice y.1.b.1 (mQ (mp (f.T i)) wl).length y.1.b.2 else x.b j⟩) (.all ?_))
  (try dsimp only)
  rw[show f.n-(i+1)=M by omega,show((i+1:Nat):Int)=(i:Int)+1 from rfl]
  exact .pu ⟨by omega,by omega,rfl⟩ az
 ·obtain rfl:i=f.n:=by omega
  rw[show mr (f.n-f.n)=[] by unfold mr;rw[if_pos (by omega)]]
  refine o_ aI ?_;(((refine o_ (Sl.ce ?hcq) ?_);(case hcq=>(first|omega|(simp only[List.length_nil,List.length_cons];omega)))));refine ai (aR x ?_)
  rw[<- hQ]
  unfold RB
  refine am ?_
  exact az
theorem QL {W:World}{L L':List HP}{S:WP}{p M:Nat}{now:Int}(P:Pick L (uD p M) L')(h:aJ W (uZ p M (fun i=>decide (i<M)) false now::L') S):aJ W L S:=by
 refine a8 P fun q=>aB .here ?_
 refine am ?_
 refine aT .here fun hq=>?_
 refine bf (.ex q (.all ?_)) h
 refine am ?_
 exact .pu ⟨hq.g,fun c=>by cases c⟩ .refl
theorem G4 {W:World}{v k c n lo:Nat}{s:SvS}{a:AC}{nm:List UInt8}{jb:Value}{A:Nat->Nat}{T:Nat->List UInt8}{O:List UInt8}{sa:Sa}{now:Int}(h:s.cl= .slice a.1 1 a.2):Cn p_ 17 [pC v,.int .i64 0] W [ci v s,kQ a k,eF k c nm jb,xQ c n A T lo O sa now] (fun o:AC=> .tuple #[.slice o.1 O.length o.2,.bool false,.int .i64 0]) (fun o=>[ci v s,kQ a k,eF k c nm jb,q4 o O]):=by
 (refine Shp.cn (Sg.g_ Tryz.call17 Tryz.func17 (an:={drs:=[(4,.ofL [(0,1),(1,1),(2,1),(3,1),(5,2),(6,3),(7,3),(8,3),(4,0),(9,0),(10,1),(11,1),(12,1)])]}) (os:=[(4,[(4,[8,7,6])])])) fun F=>?_;simp only[ca_,na_])
 refine' ah (sO h) ?hp fun _=>?_
 case hp=>(repeat(first|exact Picks.nil|(apply Picks.cons;(focus repeat constructor))))
 refine am ?_
 refine a8 (by(repeat constructor):Pick _ (xQ c n A T lo O sa now) _) fun x=>aB .here ?_
 obtain⟨cn,r,o⟩:=x
 refine am ?_
 refine aT .here fun hx=>?_
 (try dsimp only at hx ⊢)
 unfold eF
 refine bE ?_;refine bE ?_;(((refine o_ (Sl.cq ?hcq) ?_);(case hcq=>(first|omega|(simp only[List.length_nil,List.length_cons];omega)))));refine af (aW (t_ ag (t_ ae (cm ?_))));refine aq ag .nil ?_;refine aq ae .nil ?_;(((refine' aq (aS ?hc) ?hi ?_);(case hi=>exact .pick (by repeat constructor) .nil);(case hc=>repeat constructor)))
 refine' ah (EB (c:=c) hx.nx) ?hp fun _=>?_
 case hp=>(repeat(first|exact Picks.nil|(apply Picks.cons;(focus repeat constructor))))
 refine am ?_
 refine cB (aN az) (cB (aN az) (cB (aN az) ?_))
 refine' ah (EC (c:=c) (s:={cn with out:= .slice none 0 0}) ?h1 ?h2) ?hp fun _=>?_
 case hp=>(repeat(first|exact Picks.nil|(apply Picks.cons;(focus repeat constructor))))
 case h1=>exact hx.nx
 case h2=>exact hx.rd
 refine am ?_
 refine bK o (by rw[hx.out]) ?_
 exact az
theorem QM {W:World}{v:Nat}{s:SvS}:Cn p_ 25 [pC v] W [ci v s] (fun _:Unit=> .int .i64 1) (fun _=>[ci v s]):=by
 (refine Shp.cn (Sg.g_ Tryz.call25 Tryz.func25) fun F=>?_;simp only[ca_,na_])
 refine c_ mh fun _=>?_
 unfold ci nF
 refine af (o_ ag (o_ ae (aH ?_)));refine o_ aI (bP ?_)
 refine aR () ?_
 exact az
structure AnsW (f:TF)(G:An->Prop)(e:Nat)(z:TC):Prop where
 ok:PcOk f z
 op:∀i,i<f.n->z.sa i=some none->z.ls i=1
 sd:∀i b,z.sa i=some (some b)->G b
 od:∃l:List An,l.length=z.lq/\(∀a∈l,G a)/\z.O=l.flatMap jj
 e1:z.N<=60+e
 e2:z.m<=e
 e3: -(e:Int)<=z.us
theorem CX {G:An->Prop}{sa:Sa}(h:∀i b,sa i=some (some b)->G b):∀k lo,∃l:List An,lo+l.length=(cY sa k lo).1/\(∀a∈l,G a)/\(cY sa k lo).2=l.flatMap jj
 |0,lo=>⟨[],rfl,(fun _ h=>by cases h),rfl⟩
 |k+1,lo=>by
  match hz:sa lo with
  |none=>exact⟨[],by simp[cY,hz],(fun _ h=>by cases h),by simp[cY,hz]⟩
  |some none=>exact⟨[],by simp[cY,hz],(fun _ h=>by cases h),by simp[cY,hz]⟩
  |some (some b)=>
   obtain⟨l,h1,h2,h3⟩:=CX h k (lo+1)
   refine⟨b::l,?_,?_,?_⟩
   ·simp only[cY,hz,List.length_cons];omega
   ·intro a ha
    rcases List.mem_cons.1 ha with rfl|ha
    ·exact h lo a hz
    ·exact h2 a ha
   ·simp only[cY,hz,List.flatMap_cons,h3]
theorem AnsW.put {f:TF}{G:An->Prop}{e:Nat}{z y:TC}{i:Nat}{a:An}(h:AnsW f G e z)(hi:z.ls i=1)(he:e<150)(hy:PcOk f y/\y.ls i≠1)(hl:y.ls=fw z.ls i 2)(h1:y.lq=z.lq)(h2:y.O=z.O)(h3:y.sa=z.sa)(hN:y.N=z.N+1)(hm:y.m=z.m)(hu:y.us=z.us-1)(hG:G a)(ha:AnOk a):AnsW f G (e+1) (evA f y i a):=by
 obtain⟨hmem,hlt,hlq⟩:=h.ok.at_ hi
 have hp:∀j b,g8 z.sa i a j=some (some b)->G b:=fun j b hb=>by
  by_cases c:j=i
  ·subst c
   rw[fR]at hb
   obtain rfl:=Option.some.inj (Option.some.inj hb)
   exact hG
  ·rw[fU c]at hb;exact h.sd j b hb
 obtain⟨l,l1,l2,l3⟩:=h.od
 obtain⟨l',k1,k2,k3⟩:=CX hp (f.n-z.lq) z.lq
 have hE1:=h.e1
 have hE2:=h.e2
 have hE3:=h.e3
 refine⟨hy.1.evA (by omega) hlt hy.2 ha (by omega),fun j hj hs=>?_,fun j b hb=>?_,⟨l++l',?_,?_,?_⟩,by show y.N<=_;omega,by show y.m+1<=_;omega,by show-((e+1:Nat):Int)<=y.us;omega⟩
 ·have hs:jk (uO f.n y.lq y.sa i a) (g8 y.sa i a) j=some none:=hs
  show y.ls j=1
  rw[h3]at hs
  by_cases c:j<uO f.n y.lq z.sa i a
  ·rw[fT c]at hs;cases hs
  ·rw[ee (by omega)]at hs
   by_cases cj:j=i
   ·subst cj;rw[fR]at hs;cases hs
   ·rw[fU cj]at hs
    rw[hl,eM cj]
    exact h.op j hj hs
 ·have hb:jk (uO f.n y.lq y.sa i a) (g8 y.sa i a) j=some (some b):=hb
  rw[h3]at hb
  by_cases c:j<uO f.n y.lq z.sa i a
  ·rw[fT c]at hb;cases hb
  ·rw[ee (by omega)]at hb
   exact hp j b hb
 ·show _=(cY (g8 y.sa i a) (f.n-y.lq) y.lq).1
  rw[h3,h1,<- k1,List.length_append,l1]
 ·intro b hb
  rcases List.mem_append.1 hb with hb|hb
  ·exact l2 b hb
  ·exact k2 b hb
 ·show y.O++(cY (g8 y.sa i a) (f.n-y.lq) y.lq).2=_
  rw[h2,h3,h1,k3,l3,List.flatMap_append]
theorem AnsW.fail {f:TF}{G:An->Prop}{e:Nat}{z:TC}{i:Nat}{a:An}(h:AnsW f G e z)(hi:z.ls i=1)(he:e<150)(hG:G a)(ha:AnOk a):AnsW f G (e+1) (evA f (evF z i) i a):=
 h.put hi he (h.ok.evF hi (by have:=h.e1;omega) (by have:=h.e3;omega)) rfl rfl rfl rfl rfl rfl rfl hG ha
theorem AnsW.done {f:TF}{G:An->Prop}{e:Nat}{z:TC}{i:Nat}{a:An}(h:AnsW f G e z)(hi:z.ls i=1)(he:e<150)(hG:G a)(ha:AnOk a):AnsW f G (e+1) (evA f (evD z i) i a):=
 h.put hi he (h.ok.evD hi (by have:=h.e1;omega) (by have:=h.e3;omega)) rfl rfl rfl rfl rfl rfl rfl hG ha
theorem AnsW.all {f:TF}{G:An->Prop}{e:Nat}{z:TC}(h:AnsW f G e z)(hb:∀i,z.ls i≠1):∃l:List An,l.length=f.n/\(∀a∈l,G a)/\z.O=l.flatMap jj:=by
 obtain⟨l,l1,l2,l3⟩:=h.od
 refine⟨l,?_,l2,l3⟩
 rw[l1]
 rcases Nat.lt_or_ge z.lq f.n with c|c
 ·exact absurd (h.op z.lq c (h.ok.s.w c)) (hb _)
 ·exact Nat.le_antisymm h.ok.s.c1 c
def z0 (n:Nat):TC:=⟨0,[],u6,qb n,List.range n,n,fun i=>decide (i<n),false,0,n⟩
theorem QN {f:TF}{G:An->Prop}(h:f.n<=60):AnsW f G 0 (z0 f.n):=by
 have hT:∀j,qb f.n j=1->j<f.n:=fun j hj=>by
  unfold qb at hj
  by_cases c:j<f.n
  ·exact c
  ·rw[if_neg c]at hj;cases hj
 exact⟨⟨⟨Nat.zero_le _,h,(fun i a e=>by cases e),(fun i h=>absurd h (Nat.not_lt_zero _)),(fun i _ _ e=>by cases e),(fun _=>rfl),Nat.zero_le _⟩,
  ⟨fun j hj=>List.mem_range.1 hj,fun j hj=> .inl (if_pos (List.mem_range.1 hj)),fun j hj e=>hj (List.mem_range.2 (hT j e)),by show(List.range f.n).length<=60;rw[List.length_range];exact h⟩,
  fun i hi=>⟨dT_ (hT i hi),rfl⟩,by show f.n<=500;omega,Nat.zero_le _,by show-500<=(f.n:Int);omega,by show(f.n:Int)<=500;omega⟩,
  fun i hi _=>if_pos hi,(fun i b e=>by cases e),⟨[],rfl,(fun a ha=>by cases ha),rfl⟩,by show f.n<=60+0;omega,Nat.zero_le _,by show-((0:Nat):Int)<=(f.n:Int);omega⟩
def nZ (f:RF)(x:RV)(A:Nat->Nat)(out:Value):TF:=⟨f.v,f.w,f.g,f.k,f.c,f.q,f.pa,f.p,f.mm,f.ca,f.lg,f.a,f.st,f.tm,f.rt,f.n,x.X,f.J,A,f.T,f.nm,.slice x.js.1 0 x.js.2,f.n,out,x.l,f.now,f.now⟩
theorem G5 {W:World}{L M:List HP}{S:WP}{f:RF}{x:RV}{A:Nat->Nat}{out:Value}(h0:0<=f.now)(P:Picks L [ci f.v ⟨f.w,f.g,.slice f.a.1 1 f.a.2,.slice x.l.1 f.n x.l.2,f.n,pE f.ca,pC f.lg,out⟩,pY x.X x.l (List.range f.n),et x.X f.J f.T f.k f.g f.now f.n (qb f.n),dB f.g f.st f.q f.pa f.mm f.n,nH f.pa f.p,uD f.p f.n,jH f.w f.now,eF f.k f.c f.nm (.slice x.js.1 0 x.js.2),Fo f.c f.n A f.T f.now,m6 f.lg 0,eJ f.q f.tm f.rt] M)(h:aJ W (eh (nZ f x A out) (z0 f.n)++M) S):aJ W L S:=by
 refine fj P ?_
 refine QL (M:=f.n) (now:=f.now) (by repeat constructor) (JH (by repeat constructor) h0 ?_)
 refine bf ?_ h
 unfold eh z0 nZ TF.sv
 (try dsimp only)
 rw[show((List.range f.n).map x.X).length=f.n by simp]
 refine am ?_
 exact az
end Go.Proofs.YtdjkdjepjahjfaaGreatDoor.TP
