/- A response is looked for. The library's own error and its table can be read. Heads of at most 1048576 bytes. (31 texts made one; each says below what it is.) -/
import Derived.Test.YtdjkdjepjahjfaaGreatDoorK5
import Derived.KernelRfl
import Derived.Laws.RangeString
set_option linter.unusedVariables false
set_option linter.unusedSimpArgs false
set_option linter.unusedSectionVars false
set_option maxRecDepth 9999
namespace Go.Proofs.YtdjkdjepjahjfaaGreatDoor.FD
open Go Go.Proofs Go.RowKit Sh Sl T
theorem E0 {W:World}{l:List UInt8}(hl:l.length<=2097152):Cn p_ 107 [az l] W [] (fun r:Option Addr × Nat=> .tuple #[.slice r.1 (jt (fF l)).1.length r.2,.int .i64 (jt (fF l)).2])
  (fun r=>[Sl 1 9 r.1 r.2 (jt (fF l)).1.length ((jt (fF l)).1.map az)]):=by
 rw[show(jt (fF l)).1.map az=(jt (fF l)).1.flatMap jy by induction (jt (fF l)).1 with|nil=>rfl|cons x r ih=>rw[List.map_cons,List.flatMap_cons,ih];rfl]
 (refine Shp.cn (Sg.g_ Tryz.call107 Tryz.func107) fun F=>?_;simp only[ca_,na_])
 refine o_ bM ?_
 refine aj (ow hl fun w hw=>AY (by omega)) .nil fun r=>?_
 refine aq ?_
 refine o_ (bk (vs:=[_,_]) .here) ?_
 refine o_ (bk (vs:=[_,_]) (.there .here)) ?_
 refine aO r ?_
 exact .refl
def lz (l:List Fd):List (List UInt8):=(jt (fF (mO l [80,114,97,103,109,97]))).1
theorem zt {l:List Fd}(hl:zF l<=1048576):(lz l).length<=1500001:=by
 have h1:=(gy [80,114,97,103,109,97] hl).1
 have:=i_ (q:=false) (e:=false) (l:=mO l [80,114,97,103,109,97])
 unfold lz fF eH
 split
 ·simp[jt];omega
 ·simp[jt]
def wB:List UInt8:=[110,111,45,99,97,99,104,101]
def rY:List UInt8:=[109,105,110,45,102,114,101,115,104]
theorem UY (n:Int): -9223372036854775808<=wr n/\wr n<=9223372036854775807:=by
 unfold wr
 rw[IntKind.wrap_i64]
 omega
theorem Cv {W:World} {L L':List HP} {Kp:PK} {k:Value->WP} {D:List Dir} {da:Option Addr} {dc:Nat} {n:List UInt8} (hD:D.length<=4194304) (p:Pick L (Sl 3 524 da dc D.length (D.flatMap eM)) L')
  (h:aR W (Sl 3 524 da dc D.length (D.flatMap eM)::L') (k (.bool (fh D [n])))):
  aR W L (opN p_ (bT (fn 391) [.slice da D.length dc]) Kp fun x87=>opN p_ (cm 33 1 [(0,az n)]) Kp fun x88=>opN p_ (bT x87 [x88]) Kp k):=by
 refine vL p ?_
 refine aj B2 .nil fun gd=>?_
 refine aq ?_
 refine et (n:=1) (vs:=[n].map az) rfl rfl (by intro v hv;obtain⟨c,_,rfl⟩:=List.mem_map.1 hv;rfl) (by omega) fun g1=>?_
 refine bu (M:=all [pt gd (.cells #[.slice da D.length dc] 520),Sl 3 524 da dc D.length (D.flatMap eM)]::pt g1 (.cells ([n].map az).toArray 9)::L') (.all ?_) ?_
 ·refine aq ?_
  exact aA
 refine bB (cap:=[.pointer (some ⟨gd,0,none⟩)]) (IA (N:=[n]) (da:=da) (gd:=gd) (dc:=dc) (fE rfl) (by simp) hD) (by(repeat(first|exact Picks.nil|(apply Picks.cons;(focus repeat constructor))))) fun _=>?_
 refine aq ?_
 refine aE .here ?_
 refine aq ?_
 refine bu (M:=Sl 3 524 da dc D.length (D.flatMap eM)::L') aA h
def iQ (e:En)(R:List Fd)(now:Int):Bool:=
 if fh (cQ e.xf) [wB]then true else if fh (cQ R) [wB]then true else if(lz R).contains wB&&!uK R [wo]then true
 else if lx e.xf e.came<=wr (mR e.xf e.asked e.came now+(fp (cQ R) rY).1)then true else(fp (cQ R) fL).2&&decide ((fp (cQ R) fL).1<mR e.xf e.asked e.came now)
structure LkO where
 st:Int
 xf:List Fd
 xb:List UInt8
 age:Int
 state:Int
 S:Cs
def lU (e:En)(age:Int):List Fd:=cX e.xf [fu]++[(fu,ei age)]
def dL (Z:Cs)(key:List UInt8)(R:List Fd)(now:Int):LkO:=match fT Z key R with
 |none=>⟨0,[],[],0,0,Z⟩
 |some g=>⟨(Z.E g).st,lU (Z.E g) (mR (Z.E g).xf (Z.E g).asked (Z.E g).came now),(Z.E g).xb,mR (Z.E g).xf (Z.E g).asked (Z.E g).came now,if iQ (Z.E g) R now then 2 else 1,e7 Z g⟩
theorem IW {W:World}{g:Nat}{k m rf vf st xf xb a c co:Value}:aT p_ W [pt g (.cells #[k,m,rf,vf,st,xf,xb,a,c,co] 444)] (aL 48 (.pointer (some ⟨g,4,none⟩))) (.agg #[st,xf,xb]):=
 dp (o:=0) (j:=4) (cs:=[k,m,rf,vf,st,xf,xb,a,c,co]) (vs:=[st,xf,xb]) (m:=10) (n:=3) (fE rfl) rfl (fun i hi=>by
  have:i=0\/i=1\/i=2:=by omega
  rcases this with rfl|rfl|rfl <;> rfl)
def VY (O:LkO)(q:Q2 × Q2):Value:= .tuple #[.agg #[.int .i64 O.st,.slice q.1.1 O.xf.length q.1.2,.slice q.2.1 O.xb.length q.2.2],.int .i64 O.age,.int .i64 O.state]
set_option maxRecDepth 20000 in
theorem m7 {W:World}[hG:Gl W][hP:Gp W]{c T:Nat}{Z:Cs}{key m tg:List UInt8}{mi now:Int}{R:List Fd}{ar:Option Addr}{cr:Nat}{A:HP}(hZ:CsOk T Z)(hA:gD W A ar R)(hR:zF R<=1048576):
  Cn p_ 601 [pE c,az key,.agg #[az m,az tg,.int .i64 mi,.slice ar R.length cr],.int .i64 now] W [fU c Z,A] (VY (dL Z key R now))
   (fun q=>[fU c (dL Z key R now).S,A,Sl 2 192 q.1.1 q.1.2 (dL Z key R now).xf.length ((dL Z key R now).xf.flatMap cT),Sl 1 5 q.2.1 q.2.2 (dL Z key R now).xb.length ((dL Z key R now).xb.map Sl.B)]):=by
 have hT:=hZ.t
 (refine Shp.cn (Sg.g_ Tryz.call601 Tryz.func601 (an:={cuts:=[(21,[10])],drs:=[(7,.ofL [(0,1),(1,1),(2,1),(3,1),(4,1),(5,1),(6,1),(7,1),(8,1),(9,1),(10,1),(11,1),(12,1),(13,0),(14,1)]),(8,.ofL [(0,1),(1,1),(2,1),(3,1),(4,1),(5,1),(6,1),(7,1),(8,0),(9,1)])]})) fun F=>?_;simp only[ca_,na_])
 refine aU fun b6=>?_
 refine aS fun b8=>?_
 refine aj rX (by(repeat(first|exact Picks.nil|(apply Picks.cons;(focus repeat constructor))))) fun _=>?_
 refine aq ?_
 refine af (o_ ae (aM ?_))
 refine aj (find (key:=key) hZ hA hR) (by(repeat(first|exact Picks.nil|(apply Picks.cons;(focus repeat constructor))))) fun _=>?_
 refine aq ?_
 cases hf:fT Z key R with
 |none=>
  have hl:dL Z key R now=⟨0,[],[],0,0,Z⟩:=by unfold dL;rw[hf]
  rw[hl]
  (try dsimp only)
  refine o_ mw ?_;refine ai (o_ bM ?_);(((refine' aG ?hp ?hn ?hv ?h1 ?_);(case hp=>(repeat constructor));(case hn=>rfl);(case hv=>rfl);(case h1=>simp[Value.oneCell',az])));(((refine' aP (cB ?hn) ?hi ?_);(case hi=>exact aA);(case hn=>rfl)))
  refine bG ((none,0),(none,0)) rfl ?_
  refine .pick (by repeat constructor) (.pick (by repeat constructor) (bO (bO ?_)))
  exact aA
 |some g=>
  obtain⟨hgo,hfit⟩:=uV hf
  have hgo:=(hZ.fo key g hgo).1
  have hga:=hZ.oa g hgo
  have hen:=hZ.en g hga
  have hxf:zF (Z.E g).xf<=1048576:=by have:=hen.xf;omega
  have hZ':=uU hZ hgo
  have hol:=hZ.ordl
  have hl:dL Z key R now=⟨(Z.E g).st,lU (Z.E g) (mR (Z.E g).xf (Z.E g).asked (Z.E g).came now),(Z.E g).xb,mR (Z.E g).xf (Z.E g).asked (Z.E g).came now,if iQ (Z.E g) R now then 2 else 1,e7 Z g⟩:=by unfold dL;rw[hf]
  rw[hl]
  (try dsimp only)
  refine o_ cp ?_;refine af (o_ ah (o_ ae (bt (by(repeat constructor):Pick _ (fU c Z) _) fun q=>aE .here ?_)))
  obtain⟨⟨oa,oc⟩,mg,rw_⟩:=q
  refine aq ?_
  refine aj (Cp (M:=Z.ord) (al:=Z.al) (E:=Z.E) (c:=c) (g:=g) (by omega) hZ.oa hga) (.cons (by repeat constructor) (.cons (by repeat constructor) (.cons (by repeat constructor) .nil))) fun q=>?_
  obtain⟨ta,tc⟩:=q
  refine aq ?_
  (try dsimp only)
  refine wx (by(repeat constructor):Pick _ (BE Z.al Z.E) _) g hga hZ.aln ?_
  have hE:∃e,e=Z.E g:=⟨_,rfl⟩
  obtain⟨e,he⟩:=hE
  rw[<- he]at hen hxf hl ⊢
  refine bt .here fun q=>aE .here ?_
  obtain⟨⟨⟨ra,rc⟩,va,vc⟩,⟨xa,xc⟩,ba,bc⟩:=q
  refine aq ?_
  refine aN (by(repeat constructor):Pick _ (Sl 2 192 xa xc e.xf.length (e.xf.flatMap cT)) _) fun _ _ _ hx=>?_
  refine aN (by(repeat constructor):Pick _ (Sl 1 5 ba bc e.xb.length (e.xb.map Sl.B)) _) fun _ _ _ hb=>?_
  refine aV (t_ ah (t_ ae (ii IW ?_)))
  refine t_ ah (t_ ae (cu ?_));refine t_ ah (t_ ae (cu ?_))
  refine aj (age (st:=e.st) (asked:=e.asked) (came:=e.came) (now:=now) (cg hx) hxf) (.cons (by repeat constructor) .nil) fun _=>?_
  refine aq ?_
  refine aV (t_ ah (t_ ae (ii IW ?_)))
  refine t_ ah (t_ ae (cu ?_))
  refine aj (B5 (st:=e.st) (now:=e.came) (cg hx) hxf) (.cons (by repeat constructor) .nil) fun _=>?_
  refine aq ?_
  refine o_ ae (aM ?_)
  obtain⟨CX,hCX⟩:∃CX,CX=all [Sl 2 192 ra rc e.rf.length (e.rf.flatMap cT),Sl 2 192 va vc e.vf.length (e.vf.flatMap cT),BO Z.al (fun g=>tj g (Z.E g)) g,pt c (.cells #[.slice ta (jO Z.ord g++[g]).length tc,.map (some mg),.int .i64 Z.bound,.int .i64 Z.bytes] 241),Sl 1 437 ta tc (jO Z.ord g++[g]).length ((jO Z.ord g++[g]).map pE),bN mg az (df Z rw_),BL Z.ks (dA Z rw_)]:=⟨_,rfl⟩
  obtain⟨PG,hPG⟩:∃PG,PG=pt g (.cells #[az e.key,az e.met,.slice ra e.rf.length rc,.slice va e.vf.length vc,.int .i64 e.st,.slice xa e.xf.length xc,.slice ba e.xb.length bc,.int .i64 e.asked,.int .i64 e.came,.int .i64 e.cost] 444):=⟨_,rfl⟩
  refine bu (M:=CX::PG::Sl 2 192 xa xc e.xf.length (e.xf.flatMap cT)::Sl 1 5 ba bc e.xb.length (e.xb.map Sl.B)::A::pt b8 (.cells #[.int .i64 0,.slice none 0 0,.slice none 0 0] 48)::F) (by rw[hCX,hPG];exact .all (.pick (by repeat constructor) (.pick (by repeat constructor) (.pick (by repeat constructor) (.pick (by repeat constructor) (.pick (by repeat constructor) (.pick (by repeat constructor) (.pick (by repeat constructor) aA)))))))) ?_
  obtain⟨hd1,hd2⟩:=mP hR
  obtain⟨he1,he2⟩:=mP hxf
  have hal:=(gy [80,114,97,103,109,97] hR).1
  have htl:=zt hR
  refine aj (uJ hA hR) (.cons (by repeat constructor) .nil) fun r=>?_
  obtain⟨da,dc⟩:=r
  refine aq ?_
  (try dsimp only)
  refine aj (s5 (xs:=cQ R) (s:=fL) (by omega) hd2) (.cons (by repeat constructor) .nil) fun _=>?_
  refine aq ?_
  refine o_ (bk (vs:=[_,_]) .here) ?_
  refine o_ (bk (vs:=[_,_]) (.there .here)) ?_
  refine aj (s5 (xs:=cQ R) (s:=rY) (by omega) hd2) (.cons (by repeat constructor) .nil) fun _=>?_
  refine aq ?_
  refine o_ (bk (vs:=[_,_]) .here) ?_
  refine o_ (bk (vs:=[_,_]) (.there .here)) ?_
  refine aj (Iz (n:=[80,114,97,103,109,97]) hA hR (by decide)) (.cons (by repeat constructor) .nil) fun _=>?_
  refine aq ?_
  refine aj (E0 (l:=mO R [80,114,97,103,109,97]) (by omega)) .nil fun r=>?_
  obtain⟨ka,kc⟩:=r
  refine aq ?_
  (try dsimp only)
  refine o_ (bk (vs:=[_,_]) .here) ?_
  refine o_ (bk (vs:=[_,_]) (.there .here)) ?_
  rw[show(jt (fF (mO R [80,114,97,103,109,97]))).1=lz R from rfl]
  obtain⟨AG,hAG⟩:∃AG,AG=mR e.xf e.asked e.came now:=⟨_,rfl⟩
  obtain⟨LI,hLI⟩:∃LI,LI=lx e.xf e.came:=⟨_,rfl⟩
  have hstale:iQ e R now=if fh (cQ e.xf) [wB]then true else if fh (cQ R) [wB]then true else if(lz R).contains wB&&!uK R [wo]then true
   else if LI<=wr (AG+(fp (cQ R) rY).1)then true else(fp (cQ R) fL).2&&decide ((fp (cQ R) fL).1<AG):=by rw[hLI,hAG];rfl
  rw[<- hAG,<- hLI]
  refine dt (fun z=>pu (z= .int .i64 (if iQ e R now then 2 else 1))::CX::PG::Sl 2 192 xa xc e.xf.length (e.xf.flatMap cT)::Sl 1 5 ba bc e.xb.length (e.xb.map Sl.B)::A::pt b8 (.cells #[.int .i64 0,.slice none 0 0,.slice none 0 0] 48)::F) ?_ ?_
  rotate_left
  ·rw[hstale]
   rw[hPG]
   refine o_ ah (o_ ae (o_ dP (aM ?_)))
   refine aj (uJ (cg hx) hxf) (.cons (by repeat constructor) .nil) fun r=>?_
   obtain⟨ea,ec⟩:=r
   refine aq ?_
   (try dsimp only)
   refine Cv (n:=wB) (by omega) (by(repeat constructor):Pick _ (Sl 3 524 ea ec (cQ e.xf).length ((cQ e.xf).flatMap eM)) _) ?_
   cases h1:fh (cQ e.xf) [wB]with
   |true=>
    simp only[if_true]
    refine ai (ai (aI (.pu trivial ?_)))
    exact aA
   |false=>
   simp only[Bool.false_eq_true,if_false]
   refine af (Cv (n:=wB) (by omega) (by(repeat constructor):Pick _ (Sl 3 524 da dc (cQ R).length ((cQ R).flatMap eM)) _) ?_)
   cases h2:fh (cQ R) [wB]with
   |true=>
    simp only[if_true]
    refine ai (ai (aI (.pu trivial ?_)))
    exact aA
   |false=>
   simp only[Bool.false_eq_true,if_false]
   refine af (aN (by(repeat constructor):Pick _ (Sl 1 9 ka kc (lz R).length ((lz R).map az)) _) fun _ _ _ hs=>?_)
   refine aj (nO (N:=lz R) (x:=wB) (fD (e:=9) (a:=ka) (cap:=kc) (by rw[List.length_map]) hs) (by omega)) (.cons (by repeat constructor) .nil) fun _=>?_
   refine aq ?_
   have tm:∀ {N:List (List UInt8)},∀v∈N.map az,v.cells= #[v]:=fun v hv=>by obtain⟨c,_,rfl⟩:=List.mem_map.1 hv;rfl
   refine' Bl ?_ ?_
   rotate_left
   ·intro main
    cases h4:(lz R).contains wB with
    |false=>
     refine ao (ao (ao (ao (o_ am ?_))))
     simp only[Bool.false_and,Bool.false_eq_true,if_false]
     refine bu (M:=CX::pt g (.cells #[az e.key,az e.met,.slice ra e.rf.length rc,.slice va e.vf.length vc,.int .i64 e.st,.slice xa e.xf.length xc,.slice ba e.xb.length bc,.int .i64 e.asked,.int .i64 e.came,.int .i64 e.cost] 444)::Sl 2 192 xa xc e.xf.length (e.xf.flatMap cT)::Sl 1 5 ba bc e.xb.length (e.xb.map Sl.B)::A::pt b8 (.cells #[.int .i64 0,.slice none 0 0,.slice none 0 0] 48)::F) aA ?_
     exact main
    |true=>
     refine ab (ab (et (n:=1) (vs:=[wo].map az) rfl rfl tm (by omega) fun g4=>?_))
     refine ab (aj (EG (N:=[wo]) hA hR (fE rfl) (by decide) (by decide)) (.cons (by repeat constructor) (.cons (by repeat constructor) .nil)) fun _=>?_)
     refine aq ?_
     refine ab (o_ eU (o_ av ?_))
     cases h5:uK R [wo]with
     |true=>
      simp only[Bool.not_true,Bool.and_false,Bool.false_eq_true,if_false]
      refine bu (M:=CX::pt g (.cells #[az e.key,az e.met,.slice ra e.rf.length rc,.slice va e.vf.length vc,.int .i64 e.st,.slice xa e.xf.length xc,.slice ba e.xb.length bc,.int .i64 e.asked,.int .i64 e.came,.int .i64 e.cost] 444)::Sl 2 192 xa xc e.xf.length (e.xf.flatMap cT)::Sl 1 5 ba bc e.xb.length (e.xb.map Sl.B)::A::pt b8 (.cells #[.int .i64 0,.slice none 0 0,.slice none 0 0] 48)::F) aA ?_
      exact main
     |false=>
      simp only[Bool.not_false,Bool.and_true,if_true]
      refine ai (ai (aI (.pu trivial ?_)))
      exact aA
   refine af (o_ pH ?_)
   rw[show IntKind.i64.wrap (AG+(fp (cQ R) rY).1)=wr (AG+(fp (cQ R) rY).1)from rfl]
   refine bj dy .nil (fun h=>?_) (fun h=>?_)
   ·simp only[if_pos h,if_true]
    refine ai (ai (aI (.pu trivial ?_)))
    exact aA
   simp only[if_neg h]
   refine af ?_
   cases h6:(fp (cQ R) fL).2 with
   |false=>
    refine ao (ao (ao (o_ am ?_)))
    simp only[Bool.false_and,Bool.false_eq_true,if_false]
    refine af (aI (.pu trivial ?_))
    exact aA
   |true=>
    refine ab (ab (ab (o_ bD (o_ av ?_))))
    simp only[Bool.true_and]
    by_cases h7:(fp (cQ R) fL).1<AG
    ·rw[dT_ h7]
     simp only[if_true]
     refine ai (aI (.pu trivial ?_))
     exact aA
    ·rw[dF_ h7]
     simp only[Bool.false_eq_true,if_false]
     refine af (aI (.pu trivial ?_))
     exact aA
  intro ds z
  refine aX .here fun hz=>?_
  subst hz
  rw[hPG]
  refine o_ ah (o_ ae (dm IW ?_))
  refine aj (S_ (st:=e.st) (X:=e.xf) (D:=e.xb) (cg hx) (fun h=>List.eq_nil_of_length_eq_zero (by
    rcases Nat.eq_zero_or_pos e.xf.length with z|z
    ·exact z
    ·obtain⟨_,h1⟩:=hx z;rw[h1]at h;cases h)) (by have:=kB e.xf;omega) (fD (by rw[List.length_map]) hb) (fun h=>List.eq_nil_of_length_eq_zero (by
    rcases Nat.eq_zero_or_pos e.xb.length with z|z
    ·exact z
    ·obtain⟨_,h1⟩:=hb z;rw[h1]at h;cases h)) (by have:=hen.xb;omega)) (.cons (by repeat constructor) (.cons (by repeat constructor) .nil)) fun q=>?_
  obtain⟨⟨ya,yc⟩,wa,wc⟩:=q
  refine aq ?_
  (try dsimp only)
  (((refine' aG ?hp ?hn ?hv ?h1 ?_);(case hp=>(repeat constructor));(case hn=>rfl);(case hv=>rfl);(case h1=>simp[Value.oneCell',az])));refine o_ ae ?_;refine aM ?_;refine cZ fun g=>?_
  rename Nat=>g4
  refine aN (by(repeat constructor):Pick _ (Sl 2 192 ya yc e.xf.length (e.xf.flatMap cT)) _) fun _ _ _ hy=>?_
  have hzx:=kB e.xf
  refine aj (iJ (l:=e.xf) (N:=[fu]) (nc:=1) (NA:=pt g4 (.cells ([fu].map az).toArray 9)) (cg hy) (qh (by omega)) (fE rfl) (by decide) (by decide)) (.cons (by repeat constructor) (.cons (by repeat constructor) .nil)) fun w=>?_
  obtain⟨w1,w2⟩:=w
  refine aq ?_
  (try dsimp only)
  obtain⟨ag1,ag2⟩: -9223372036854775808<=AG/\AG<=9223372036854775807:=by rw[hAG];exact UY _
  refine c_ (eI ag1 ag2) fun _=>?_
  refine o_ bM ?_
  refine d7 (n:=1) (vs:=[uh (fu,ei AG)]) rfl (by omega) rfl (by intro v hv;rw[List.mem_singleton.1 hv];rfl) (by omega) fun gb=>?_
  have hwl:=ky e.xf [fu]
  refine bV (m:=1) (news:=cT (fu,ei AG)) (by(repeat constructor):Pick _ (Sl 2 192 w1 w2 (cX e.xf [fu]).length ((cX e.xf [fu]).flatMap cT)) _) (bR (s:=2) (e':=192) (by kernel_rfl) .here (by rfl) (by intro u hu;simp[uh,Value.cells]at hu;rcases hu with rfl|rfl <;> rfl)) (by omega) (by omega) fun a' c'=>?_
  rw[show(cX e.xf [fu]).length+1=(lU e AG).length by unfold lU;rw[List.length_append];rfl,show(cX e.xf [fu]).flatMap cT++cT (fu,ei AG)=(lU e AG).flatMap cT by unfold lU;rw[List.flatMap_append];rfl]
  refine o_ ae (bU ?_);refine iS ?_;(((refine' aG ?hp ?hn ?hv ?h1 ?_);(case hp=>(repeat constructor));(case hn=>rfl);(case hv=>rfl);(case h1=>simp[Value.oneCell',az])));(((refine' aP (cB ?hn) ?hi ?_);(case hi=>exact aA);(case hn=>rfl)))
  rw[hCX]
  refine aE (by(repeat constructor):Pick _ (all [Sl 2 192 ra rc e.rf.length (e.rf.flatMap cT),Sl 2 192 va vc e.vf.length (e.vf.flatMap cT),BO Z.al (fun g=>tj g (Z.E g)) g,pt c (.cells #[.slice ta (jO Z.ord g++[g]).length tc,.map (some mg),.int .i64 Z.bound,.int .i64 Z.bytes] 241),Sl 1 437 ta tc (jO Z.ord g++[g]).length ((jO Z.ord g++[g]).map pE),bN mg az (df Z rw_),BL Z.ks (dA Z rw_)]) _) ?_
  refine aq ?_
  refine bG ((a',c'),(wa,wc)) rfl ?_
  refine .ex ((ta,tc),mg,rw_) (.all ?_)
  refine aq ?_
  rw[show BE (e7 Z g).al (e7 Z g).E=BL Z.al (fun g=>tj g (Z.E g))from rfl,show df (e7 Z g) rw_=df Z rw_ from rfl,show BL (e7 Z g).ks (dA (e7 Z g) rw_)=BL Z.ks (dA Z rw_)from rfl,show(e7 Z g).ord=jO Z.ord g++[g]from rfl,show(e7 Z g).bound=Z.bound from rfl,show(e7 Z g).bytes=Z.bytes from rfl]
  refine .pick (by repeat constructor) (.pick (by repeat constructor) (.pick (by repeat constructor) (.pick (by repeat constructor) (nV (F:=fun g=>tj g (Z.E g)) g hga hZ.aln (fun _ _ _=>rfl) ?_))))
  rw[<- he]
  refine .ex (((ra,rc),va,vc),(xa,xc),ba,bc) (.all ?_)
  refine aq ?_
  exact aA
end Go.Proofs.YtdjkdjepjahjfaaGreatDoor.FD
namespace Go.Proofs.YtdjkdjepjahjfaaGreatDoor.TP
open Go Go.Proofs Go.RowKit Sh Sl T FD
structure SvS where
 w:Nat
 g:Nat
 cl:Value
 lk:Value
 nu:Int
 ca:Value
 lg:Value
 out:Value
def tI (s:SvS):List Value:=[pC s.w,pC s.g,.slice none 0 0,s.cl,s.lk,.int .i64 s.nu,s.ca,s.lg,s.out]
def cG (v:Nat)(s:SvS):HP:=pt v (.cells (tI s).toArray 71)
theorem rZ {W:World}{v:Nat}{s:SvS}:Cn p_ 28 [pC v] W [cG v s] (fun _:Unit=> .bool false) (fun _=>[cG v s]):=by
 (refine Shp.cn (Sg.g_ Tryz.call28 Tryz.func28) fun F=>?_;simp only[ca_,na_])
 cases s
 unfold cG tI
 (try dsimp only)
 refine o_ cp ?_;refine ab (ab (o_ ah (ab (o_ ae (ab (aM ?_))))));refine ab (o_ cp ?_);refine o_ am (aO () ?_)
 exact .refl
def r5 (a:AC)(k:Nat):HP:=Sl 1 72 a.1 a.2 1 [pC k]
theorem tn {W:World}{v k:Nat}{s:SvS}{a:AC}(h:s.cl= .slice a.1 1 a.2):Cn p_ 32 [pC v,.int .i64 0] W [cG v s,r5 a k] (fun _:Unit=> .tuple #[pC k,.int .i64 0]) (fun _=>[cG v s,r5 a k]):=by
 (refine Shp.cn (Sg.g_ Tryz.call32 Tryz.func32 (an:={cuts:=[(5,[9])]})) fun F=>?_;simp only[ca_,na_])
 refine c_ rZ fun _=>?_
 cases s
 (try dsimp only at *)
 subst h
 obtain⟨aa,ac⟩:=a
 unfold cG tI r5
 (try dsimp only)
 refine be (by(repeat constructor):Pick _ (Sl 1 72 aa ac 1 _) _) (by decide) fun G hG=>?_
 subst hG
 refine af (fA ?_)
 (((refine o_ (Sl.bJ ?hcq) ?_);(case hcq=>(first|omega|(simp only[List.length_nil,List.length_cons];omega)))));refine af ?_;refine o_ ah ?_;refine o_ ae ?_;refine aM ?_;refine o_ aK ?_;(((refine o_ (Sl.eW ?hcq) ?_);(case hcq=>(first|omega|(simp only[List.length_nil,List.length_cons];omega)))))
 refine ip fun ds=>?_
 refine af (o_ ah (o_ ae (aM ?_)));(((refine' aB (br 0 rfl ?hcq) .nil ?_);(case hcq=>(first|omega|decide|(simp;done)))));(((refine' aB (bF ?hc) ?hi ?_);(case hi=>exact aA);(case hc=>rfl)))
 refine aO () ?_
 exact aA
theorem Cw {W:World}{v:Nat}{s:SvS}:Cn p_ 14 [pC v] W [cG v s] (fun _:Unit=>s.out) (fun _=>[cG v {s with out:= .slice none 0 0}]):=by
 (refine Shp.cn (Sg.g_ Tryz.call14 Tryz.func14) fun F=>?_;simp only[ca_,na_])
 refine c_ rZ fun _=>?_
 cases s
 unfold cG tI
 (try dsimp only)
 refine af (o_ ah (o_ ae (aM ?_)));refine o_ ah (o_ ae (bU ?_))
 refine aO () ?_
 exact .refl
theorem E1 {W:World}{v ca:Nat}{s:SvS}{Z:Cs}(h:s.ca=pE ca):Cn p_ 19 [pC v] W [cG v s,fU ca Z] (fun _:Unit=> .int .i64 Z.bytes) (fun _=>[cG v s,fU ca Z]):=by
 (refine Shp.cn (Sg.g_ Tryz.call19 Tryz.func19) fun F=>?_;simp only[ca_,na_])
 refine c_ rZ fun _=>?_
 cases s
 (try dsimp only at *)
 subst h
 unfold cG tI
 (try dsimp only)
 refine af (o_ ah (o_ ae (aM ?_)))
 refine c_ FD.IV fun _=>?_
 refine aO () ?_
 exact aA
def eD (k c:Nat)(nm:List UInt8)(jb:Value):HP:=pt k (.cells #[az nm,pC c,jb] 76)
theorem E2 {W:World}{v k c:Nat}{s:SvS}{a:AC}{nm:List UInt8}{jb:Value}{q:CnS}{f:Fn}{x y:Array Value}(h:s.cl= .slice a.1 1 a.2)(hn:q.nx= .func f x y)(hr:q.rd=true):Cn p_ 17 [pC v,.int .i64 0] W [cG v s,r5 a k,eD k c nm jb,bQ c q] (fun _:Unit=> .tuple #[q.out,.bool false,.int .i64 0]) (fun _=>[cG v s,r5 a k,eD k c nm jb,bQ c {q with out:= .slice none 0 0}]):=by
 (refine Shp.cn (Sg.g_ Tryz.call17 Tryz.func17 (an:={drs:=[(4,.ofL [(0,1),(1,1),(2,1),(3,1),(5,2),(6,3),(7,3),(8,3),(4,0),(9,0),(10,1),(11,1),(12,1)])]}) (os:=[(4,[(4,[8,7,6])])])) fun F=>?_;simp only[ca_,na_])
 refine' aj (tn h) ?hp fun _=>?_
 case hp=>(repeat(first|exact Picks.nil|(apply Picks.cons;(focus repeat constructor))))
 refine aq ?_
 unfold eD
 refine bI ?_;refine bI ?_;(((refine o_ (Sl.cE ?hcq) ?_);(case hcq=>(first|omega|(simp only[List.length_nil,List.length_cons];omega)))));refine af (aV (t_ ah (t_ ae (cu ?_))));refine ay ah .nil ?_;refine ay ae .nil ?_;(((refine' ay (aQ ?hc) ?hi ?_);(case hi=>exact .pick (by repeat constructor) .nil);(case hc=>repeat constructor)))
 refine' aj (EO (c:=c) hn) ?hp fun _=>?_
 case hp=>(repeat(first|exact Picks.nil|(apply Picks.cons;(focus repeat constructor))))
 refine aq ?_
 refine cU (aI aA) (cU (aI aA) (cU (aI aA) ?_))
 refine' aj (EP (c:=c) (s:={q with out:= .slice none 0 0}) ?h1 ?h2) ?hp fun _=>?_
 case hp=>(repeat(first|exact Picks.nil|(apply Picks.cons;(focus repeat constructor))))
 case h1=>exact hn
 case h2=>exact hr
 refine aq ?_
 refine aO () ?_
 exact aA
end Go.Proofs.YtdjkdjepjahjfaaGreatDoor.TP
namespace Go.Proofs.YtdjkdjepjahjfaaGreatDoor.PL
open Go Go.Proofs Go.RowKit Sh Sl T
structure Pr where
 id:Int
 max:Int
 idle:List Int
 busy:Int
 til:Int
structure Pl where
 n:Nat
 pr:Nat->Pr
 bm:Int->Option Nat
 im:Int->Option Nat
 at_:Nat
 num:Int
 tmo:Int
def pv (g:Nat):Value:= .pointer (some ⟨g,0,none⟩)
instance {g:Nat}:OC (pv g):=⟨rfl⟩
theorem tq:KeyLaw p_ 3 fN:=ER (by kernel_rfl)
def oK (g:Nat)(x:Pr):HP:=ex fun q:Option Addr × Nat=>all [pt g (.cells #[.int .i64 x.id,.int .i64 x.max,.slice q.1 x.idle.length q.2,.int .i64 x.busy,.int .i64 x.til] 317),Sl 1 3 q.1 q.2 x.idle.length (x.idle.map I)]
def mv (gs:Nat->Nat)(f:Int->Option Nat):Int->Option Value:=fun k=>(f k).map fun i=>pv (gs i)
def tr (gs:Nat->Nat)(n:Nat):List Value:=(List.range n).map fun i=>pv (gs i)
def iR (p:Nat)(gs:Nat->Nat)(Z:Pl):HP:=ex fun q:(Option Addr × Nat) × Nat × Nat=>all [pt p (.cells #[.slice q.1.1 Z.n q.1.2,.map (some q.2.1),.map (some q.2.2),.int .i64 (Z.at_:Int),.int .i64 Z.num,.int .i64 Z.tmo] 312),Sl 1 308 q.1.1 q.1.2 Z.n (tr gs Z.n),bN q.2.1 fN (mv gs Z.bm),bN q.2.2 fN (mv gs Z.im),BS Z.n (fun i=>oK (gs i) (Z.pr i))]
theorem uZ {gs:Nat->Nat}{n i:Nat}(h:i<n):(tr gs n)[i]? =some (pv (gs i)):=by simp[tr,h]
def UZ (x:Pr):Nat->Option Value
 |0=>some (.int .i64 x.id)
 |1=>some (.int .i64 x.max)
 |3=>some (.int .i64 x.busy)
 |4=>some (.int .i64 x.til)
 |_=>none
theorem P4 {P:Program}{W:World}{t:TypeId}{gs:Nat->Nat}{n off:Nat}{pr:Nat->Pr}{v:Value}[ht:OneT P t](i:Nat)(hi:i<n)(hf:UZ (pr i) off=some v):aT P W [BS n (fun i=>oK (gs i) (pr i))] (aL t (.pointer (some ⟨gs i,off,none⟩))) v:=by
 refine(oq .here i hi (bt .here fun q=>aE .here ?_):aR W [BS n (fun i=>oK (gs i) (pr i))] (fun w=>(aL t (.pointer (some ⟨gs i,off,none⟩))).run P w= .ok (.value v) w))
 intro w hw
 have hw2:=hw.only
 match off,hf with
 |0,hf=>cases hf;exact iX (by rfl) w hw2
 |1,hf=>cases hf;exact iX (by rfl) w hw2
 |3,hf=>cases hf;exact iX (by rfl) w hw2
 |4,hf=>cases hf;exact iX (by rfl) w hw2
structure Wf (Z:Pl):Prop where
 n1:1<=Z.n
 n2:Z.n<=16
 at_:Z.at_<Z.n
 num:0<=Z.num/\Z.num<=1099511627776
 tmo:1<=Z.tmo/\Z.tmo<=3600
 pr:∀i,i<Z.n-> -1099511627776<=(Z.pr i).busy/\(Z.pr i).busy<=1099511627776/\(Z.pr i).idle.length<=1099511627776/\1<=(Z.pr i).max/\(Z.pr i).max<=64
 bm:∀q i,Z.bm q=some i->i<Z.n
 im:∀q i,Z.im q=some i->i<Z.n
theorem rX {W:World}{p:Nat}{gs:Nat->Nat}{Z:Pl}:Cn p_ 173 [pv p] W [iR p gs Z] (fun _:Unit=> .bool false) (fun _=>[iR p gs Z]):=by
 unfold pv
 (refine Shp.cn (Sg.g_ Tryz.call173 Tryz.func173) fun F=>?_;simp only[ca_,na_])
 refine bt Pick.here fun q=>aE Pick.here ?_
 obtain⟨⟨a,c⟩,mb,mi⟩:=q
 refine aq ?_
 refine o_ cp ?_;refine ab (ab (o_ ah (ab (o_ ae (ab (aM ?_))))));refine ab (o_ th ?_)
 refine o_ am (aO () ?_)
 exact .ex ((a,c),mb,mi) (.all aA)
def IX:Int:=1099511627776
def zW (n:Int):Int:=if-IX<(if IX<n then IX else n)then(if IX<n then IX else n)else-IX
theorem uG {W:World}{n:Int}:Cn p_ 201 [.int .i64 n] W [] (fun _:Unit=> .int .i64 (zW n)) (fun _=>[]):=by
 (refine Shp.cn (Sg.g_ Tryz.call201 Tryz.func201) fun F=>?_;simp only[ca_,na_])
 refine o_ mu (o_ pI (aO () ?_))
 exact .refl
def E3 (Z:Pl)(id:Int):Nat->Option Nat
 |0=>none
 |k+1=>match E3 Z id k with
  |some j=>some j
  |none=>if(Z.pr k).id=id then some k else none
def fd (Z:Pl)(id:Int):Option Nat:=E3 Z id Z.n
theorem Cx {Z:Pl}{id:Int}{k j:Nat}(h:E3 Z id k=some j):∀m,E3 Z id (k+m)=some j
 |0=>h
 |m+1=>by rw[<- Nat.add_assoc,E3,Cx h m]
def P5 (gs:Nat->Nat):Option Nat->Value
 |some i=>pv (gs i)
 |none=> .pointer none
theorem peer {W:World}{p:Nat}{gs:Nat->Nat}{Z:Pl}{id:Int}(hn:Z.n<=1024):Cn p_ 234 [pv p,.int .i64 id] W [iR p gs Z] (fun _:Unit=>P5 gs (fd Z id)) (fun _=>[iR p gs Z]):=by
 have upv:∀g,pv g= .pointer (some ⟨g,0,none⟩):=fun _=>rfl
 rw[upv p]
 (refine Shp.cn (Sg.g_ Tryz.call234 Tryz.func234 (an:={loops:=[(2,[12])]})) fun F=>?_;simp only[ca_,na_])
 refine bt Pick.here fun q=>aE Pick.here ?_
 obtain⟨⟨a,c⟩,mb,mi⟩:=q
 refine aq ?_
 refine o_ ah (o_ ae (aM ?_));refine o_ aK ?_
 obtain⟨n,hnE⟩:∃n,n=Z.n:=⟨_,rfl⟩
 refine a_ (fun m y=>[ex fun i:Nat=>pu (m+i=Z.n/\y= .int .i64 (i:Int)/\E3 Z id i=none),pt p (.cells #[.slice a Z.n c,.map (some mb),.map (some mi),.int .i64 (Z.at_:Int),.int .i64 Z.num,.int .i64 Z.tmo] 312),Sl 1 308 a c Z.n (tr gs Z.n),bN mb fN (mv gs Z.bm),bN mi fN (mv gs Z.im),BS Z.n (fun i=>oK (gs i) (Z.pr i))]++F) Z.n ?_ ?_
 ·refine .ex 0 (.pu ⟨by omega,rfl,rfl⟩ ?_)
  exact aA
 intro m ds y
 refine aq ?_
 refine bt Pick.here fun i=>aX Pick.here fun hi=>?_
 obtain⟨hmi,rfl,hf⟩:=hi
 refine bj bD .nil (fun h=>?_) (fun h=>?_)
 ·have hil:i<Z.n:=by omega
  refine ai (be (.there .here) (by omega) fun g hg=>?_)
  subst hg
  refine o_ (br i (by rfl) hil) ?_
  refine dm (bF (v:=pv (gs i)) (by rw[Nat.zero_add];exact uZ hil)) ?_
  rw[upv (gs i)]
  refine o_ ah (o_ ae (o_ ae (dm (P4 i hil (v:= .int .i64 (Z.pr i).id) rfl) ?_)))
  refine bj cJ .nil (fun h=>?_) (fun h=>?_)
  ·refine ai ?_
   have:fd Z id=some i:=by
    have h1:E3 Z id (i+1)=some i:=by rw[E3,hf];simp[h]
    have:=Cx h1 (Z.n-(i+1))
    rwa [show i+1+(Z.n-(i+1))=Z.n by omega]at this
   rw[this]
   refine bG () rfl ?_
   exact .ex ((some ⟨g,0,none⟩,c),mb,mi) (.all aA)
  ·(refine af ?_);refine bS ?_
   refine bq (m-1) (by omega) (.ex (i+1) (.pu ⟨by omega,rfl,by rw[E3,hf];simp[h]⟩ ?_))
   exact aA
 ·have:i=Z.n:=by omega
  subst this
  rw[show fd Z id=none from hf]
  refine af (bG () rfl ?_)
  exact .ex ((a,c),mb,mi) (.all aA)
theorem E4 {P:Program}{W:World}{t:TypeId}{ox oy:Operand}{gs:Nat->Nat}{o:Option Nat}[ht:PtrT P t]:aT P W [] (eo .eql t ox oy (P5 gs o) (.pointer none)) (.bool o.isNone):=by
 cases o with
 |none=>exact mw
 |some i=>exact cp
theorem wC {P:Program}{W:World}{t:TypeId}{ox oy:Operand}{gs:Nat->Nat}{o:Option Nat}[ht:PtrT P t]:aT P W [] (eo .neq t ox oy (P5 gs o) (.pointer none)) (.bool o.isSome):=by
 cases o with
 |none=>exact jZ
 |some i=>exact tT
def nY (f:Int->Option Nat)(q:Int)(v:Option Nat):Int->Option Nat:=fun x=>if x=q then v else f x
theorem qC (gs:Nat->Nat)(f:Int->Option Nat)(q:Int)(v:Option Nat):mv gs (nY f q v)=dS (mv gs f) q (v.map fun i=>pv (gs i)):=by
 funext x
 unfold mv nY dS
 by_cases h:x=q <;> simp[h]
theorem IY (gs:Nat->Nat)(f:Int->Option Nat)(q:Int):(mv gs f q).getD (.pointer none)=P5 gs (f q):=by
 unfold mv
 cases f q <;> rfl
def u0 (pr:Nat->Pr)(i:Nat)(x:Pr):Nat->Pr:=fun j=>if j=i then x else pr j
def done (Z:Pl)(id:Int)(keep:Bool):Pl:=match Z.bm id with
 |none=>Z
 |some i=>{Z with bm:=nY Z.bm id none,im:=if keep then nY Z.im id (some i)else Z.im,pr:=u0 Z.pr i {Z.pr i with busy:=(Z.pr i).busy-1,idle:=if keep then(Z.pr i).idle++[id]else(Z.pr i).idle}}
def xY (Z:Pl)(id:Int):Int:=match Z.bm id with
 |none=>3
 |some _=>0
theorem P6 {W:World}{p:Nat}{gs:Nat->Nat}{Z:Pl}{id:Int}{keep:Bool}(hz:Wf Z):Cn p_ 109 [pv p,.int .i64 id,.bool keep] W [iR p gs Z] (fun _:Unit=> .int .i64 (xY Z id)) (fun _=>[iR p gs (done Z id keep)]):=by
 (refine Shp.cn (Sg.g_ Tryz.call109 Tryz.func109) fun F=>?_;simp only[ca_,na_])
 refine c_ rX fun _=>?_
 refine af (bt Pick.here fun q=>aE Pick.here ?_)
 obtain⟨⟨a,c⟩,mb,mi⟩:=q
 refine aq ?_
 unfold pv
 refine o_ ah (o_ ae (aM ?_))
 refine jC (q:=id) tq (.there (.there .here)) ?_
 rw[IY]
 refine o_ (E4 (P:=p_) (t:=308)) ?_
 unfold done xY
 cases hb:Z.bm id with
 |none=>
  simp only[Option.isNone_none]
  refine ai (aO () ?_)
  exact .ex ((a,c),mb,mi) (.all aA)
 |some i=>
  have hil:=hz.bm _ _ hb
  have hpr:=hz.pr i hil
  simp only[Option.isNone_some]
  unfold P5 pv
  refine af (o_ ah (o_ ae (aM ?_)))
  refine wv (q:=id) tq (by repeat constructor) ?_
  refine o_ ah (o_ ae (oq (.there (.there (.there (.there .here)))) i hil ?_))
  refine bt Pick.here fun q=>aE Pick.here ?_
  obtain⟨qa,qc⟩:=q
  refine aq ?_
  refine aM ?_;refine kN ?_;refine o_ ah (o_ ae (bU ?_))
  cases keep with
  |false=>
   refine af (aO () ?_)
   refine .ex ((a,c),mb,mi) (.all ?_)
   refine aq ?_
   refine .pick (by repeat constructor) (.pick (by repeat constructor) ?_)
   rw[qC]
   refine .pick (by repeat constructor) (.pick (by repeat constructor) ?_)
   refine my i hil (F:=fun i=>oK (gs i) (Z.pr i)) (fun j hj hji=>by simp[u0,hji]) ?_
   simp only[u0,if_true]
   refine .ex (qa,qc) (.all ?_)
   refine aq ?_
   exact .pick (by repeat constructor) (.pick (by repeat constructor) (.pick (by repeat constructor) .refl))
  |true=>
   refine ai (o_ ah (o_ ae (aM ?_)));refine cZ fun g=>?_
   refine aN (.there (.there .here)) fun f1 f2 f3 f4=>?_
   refine bV (m:=1) (news:=[I id]) (by repeat constructor) (bR (e':=3) (by kernel_rfl) .here (by rfl) (OJ (l:=[id]))) (by omega) (by omega) fun a' c'=>?_
   refine o_ ah (o_ ae (bU ?_));refine o_ ah (o_ ae (aM ?_))
   refine dC (q:=id) tq (by repeat constructor) ?_
   refine aO () ?_
   refine .ex ((a,c),mb,mi) (.all ?_)
   refine aq ?_
   refine .pick (by repeat constructor) (.pick (by repeat constructor) ?_)
   rw[qC]
   refine .pick (by repeat constructor) ?_
   simp only[if_true]
   rw[qC]
   refine .pick (by repeat constructor) ?_
   refine my i hil (F:=fun i=>oK (gs i) (Z.pr i)) (fun j hj hji=>by simp[u0,hji]) ?_
   simp only[u0,if_true]
   refine .ex (a',c') (.all ?_)
   refine aq ?_
   rw[List.length_append,List.map_append,List.length_singleton]
   exact .pick (by repeat constructor) (.pick (by repeat constructor) (.pick (by repeat constructor) aA))
theorem round {W:World}{p:Nat}:Cn p_ 202 [pv p] W [] (fun c:Nat=> .func (.func 308) #[] [pv c].toArray) (fun c=>[pt c (.cells #[pv p] 216)]):=by
 (refine Shp.cn (Sg.g_ Tryz.call202 Tryz.func202) fun F=>?_;simp only[ca_,na_])
 refine cA fun c=>?_
 refine o_ bP (aO c ?_)
 exact .refl
def ord (Z:Pl)(k:Nat):Nat:=(Z.at_+k)%Z.n
theorem Cy {Z:Pl}(hz:Wf Z)(k:Nat):ord Z k<Z.n:=Nat.mod_lt _ hz.n1
def qD (gs:Nat->Nat)(Z:Pl):List (List Value):=(List.range Z.n).map fun k=>[.int .i64 (ord Z k:Int),pv (gs (ord Z k))]
theorem r6 {gs:Nat->Nat}{Z:Pl}{k:Nat}(h:k<Z.n):(qD gs Z)[k]? =some [.int .i64 (ord Z k:Int),pv (gs (ord Z k))]:=by simp[qD,h]
theorem nZ {gs:Nat->Nat}{Z:Pl}:(qD gs Z).length=Z.n:=by simp[qD]
theorem IZ {W:World} {p c l:Nat} {gs:Nat->Nat} {Z:Pl} {G:Nat->HP} {Gx T T':HP} (hz:Wf Z)
  (hy:j3 p_ l (qD gs Z) (fun k=>all [T,all [pt c (.cells #[pv p] 216),iR p gs Z,G k]]) (all [T',Gx]) W):
  Cn p_ 308 [yv l,pv c] W [all [T,all [pt c (.cells #[pv p] 216),iR p gs Z,G 0]]] (fun _:Bool=> .tuple #[]) (fun b=>[if b then all [T,all [pt c (.cells #[pv p] 216),iR p gs Z,G Z.n]]else all [T',Gx]]):=by
 obtain⟨n1,n2,at1⟩:1<=Z.n/\Z.n<=16/\Z.at_<Z.n:=⟨hz.n1,hz.n2,hz.at_⟩
 have upv:∀g,pv g= .pointer (some ⟨g,0,none⟩):=fun _=>rfl
 (refine Shp.cn (Sg.g_ Tryz.call308 Tryz.func308 (an:={loops:=[(1,[10])],drs:=[(3,.ofL [(0,1),(1,1),(2,1),(3,1),(4,1),(5,1),(6,1),(7,1),(8,1),(9,1),(10,1),(11,1),(12,1)])]})) fun F=>?_;simp only[ca_,na_])
 refine aE .here ?_
 refine aq ?_
 refine aE (.there .here) ?_
 refine aq ?_
 refine bt (.there .here) fun q=>aE Pick.here ?_
 obtain⟨⟨a,cc⟩,mb,mi⟩:=q
 refine aq ?_
 rw[upv c,upv p]
 refine aM ?_;refine o_ ah (o_ ae (aM ?_));refine o_ aK (a_ (fun m y=>[ex fun k:Nat=>all [pu (m+k=Z.n/\y= .int .i64 (k:Int)),all [T,all [pt c (.cells #[pv p] 216),iR p gs Z,G k]]]]++F) Z.n ?_ ?_)
 ·refine .ex 0 (.all ?_)
  refine aq ?_
  refine .pu ⟨by omega,rfl⟩ (.all ?_)
  refine aq ?_
  refine .pick (by repeat constructor) (.all ?_)
  refine aq ?_
  refine .pick (by repeat constructor) (.ex ((a,cc),mb,mi) (.all ?_))
  refine aq ?_
  exact aA
 intro m ds y
 refine aq ?_
 refine bt Pick.here fun k=>aE Pick.here ?_
 refine aq ?_
 refine aX Pick.here fun hi=>?_
 obtain⟨hmi,rfl⟩:=hi
 refine bj bD .nil (fun h=>?_) (fun h=>?_)
 ·have hkl:k<Z.n:=by omega
  have hol:=Cy hz k
  refine ai (aV (aE .here ?_))
  refine aq ?_
  refine aE (.there .here) ?_
  refine aq ?_
  refine bt (.there .here) fun q=>aE Pick.here ?_
  obtain⟨⟨a,cc⟩,mb,mi⟩:=q
  refine aq ?_
  rw[upv p]
  refine cu ?_;refine t_ ah (t_ ae (cu ?_));(refine t_ (ie (by omega) (by omega)) ?_);refine cu ?_;refine t_ ah (t_ ae (cu ?_));refine t_ aK ?_;(((refine t_ (gK ?h1 ?h2) ?_);(case h1=>omega);(case h2=>omega)));refine aM ?_;refine o_ ah (o_ ae (aM ?_))
  have e1:((Z.at_:Int)+(k:Int))%(Z.n:Int)=(ord Z k:Int):=by unfold ord;norm_cast
  rw[e1]
  refine be (.there .here) (by omega) fun g hg=>?_
  subst hg
  refine o_ (br (ord Z k) (by rfl) hol) ?_
  refine dm (bF (v:=pv (gs (ord Z k))) (by rw[Nat.zero_add];exact uZ hol)) ?_
  refine bu (M:=all [T,all [pt c (.cells #[pv p] 216),iR p gs Z,G k]]::F) ?_ ?_
  ·refine .all ?_
   refine aq ?_
   refine .pick (by repeat constructor) (.all ?_)
   refine aq ?_
   refine .pick (by repeat constructor) (.ex ((some ⟨g,0,none⟩,cc),mb,mi) (.all ?_))
   refine aq ?_
   exact aA
  refine iB hy k (r6 hkl) .here ?_ ?_
  ·refine o_ bA (af (bS ?_))
   refine bq (m-1) (by omega) (.ex (k+1) (.all ?_))
   refine aq ?_
   exact .pu ⟨by omega,rfl⟩ .refl
  ·refine o_ cP (ai (aO false ?_))
   exact .refl
 ·have:k=Z.n:=by omega
  subst this
  refine af (aO true ?_)
  exact .refl
def xZ (Z:Pl)(now:Int)(i:Nat):Prop:=¬zW now<(Z.pr i).til/\(0<(Z.pr i).idle.length\/(Z.pr i).busy<(Z.pr i).max)
instance (Z:Pl)(now:Int)(i:Nat):Decidable (xZ Z now i):=by unfold xZ;infer_instance
def u6 (Z:Pl)(now:Int):Nat->Option Nat
 |0=>none
 |k+1=>match u6 Z now k with
  |some j=>some j
  |none=>if xZ Z now (ord Z k)then some k else none
theorem Cz {Z:Pl}{now:Int}{k j:Nat}(h:u6 Z now k=some j):∀m,u6 Z now (k+m)=some j
 |0=>h
 |m+1=>by rw[<- Nat.add_assoc,u6,Cz h m]
def eC (Z:Pl)(now:Int):Nat->Int
 |0=>3
 |k+1=>if zW now<(Z.pr (ord Z k)).til then eC Z now k else 63
def k9 (Z:Pl)(i:Nat):Int:=if 0<(Z.pr i).idle.length then(Z.pr i).idle.getD ((Z.pr i).idle.length-1) 0 else Z.num
def took (Z:Pl)(i:Nat):Pl:={Z with pr:=u0 Z.pr i {Z.pr i with idle:=(Z.pr i).idle.take ((Z.pr i).idle.length-1),busy:=(Z.pr i).busy+1},im:=if 0<(Z.pr i).idle.length then nY Z.im (k9 Z i) none else Z.im,num:=if 0<(Z.pr i).idle.length then Z.num else Z.num+1,bm:=nY Z.bm (k9 Z i) (some i),at_:=(i+1)%Z.n}
structure Tk where
 peer:Int
 id:Int
 fresh:Bool
 e:Int
def kF (Z:Pl)(now:Int):Tk × Pl:=match u6 Z now Z.n with
 |some k=>(⟨(Z.pr (ord Z k)).id,k9 Z (ord Z k),decide ((Z.pr (ord Z k)).idle.length=0),0⟩,took Z (ord Z k))
 |none=>(⟨0,0,false,eC Z now Z.n⟩,Z)
def VZ (t:Tk):Value:= .tuple #[.agg #[.int .i64 t.peer,.int .i64 t.id],.bool t.fresh,.int .i64 t.e]
theorem take {W:World}{p:Nat}{gs:Nat->Nat}{Z:Pl}{now:Int}(hz:Wf Z)(hi:∀i,i<Z.n->(Z.pr i).idle.length<=1099511627776):Cn p_ 125 [pv p,.int .i64 now] W [iR p gs Z] (fun _:Unit=>VZ (kF Z now).1) (fun _=>[iR p gs (kF Z now).2]):=by
 have upv:∀g,pv g= .pointer (some ⟨g,0,none⟩):=fun _=>rfl
 obtain⟨n1,n2,at1⟩:1<=Z.n/\Z.n<=16/\Z.at_<Z.n:=⟨hz.n1,hz.n2,hz.at_⟩
 (refine S.nw.cn fun F=>?_;unfold S.kh;simp only[ca_,na_])
 refine cA fun b2=>?_
 refine cA fun b3=>?_
 refine aS fun b4=>?_
 refine dH fun b5=>?_
 refine dH fun b6=>?_
 refine aM ?_
 refine c_ rX fun _=>?_
 refine af (bU ?_);refine aM ?_
 refine c_ round fun _=>?_
 rename_i bc
 have G0:True:=trivial
 refine Ao (f:=308) (cap:=[pv bc]) (qD gs Z)
  (fun k=>all [pt bc (.cells #[pv p] 216),iR p gs Z,all [pu (u6 Z now k=none/\k<=Z.n),pt b2 (.cells #[pv p] 216),pt b3 (.cells #[.int .i64 now] 3),pt b4 (.cells #[.int .i64 0,.int .i64 0] 118),pt b5 (.cells #[.bool false] 4),pt b6 (.cells #[.int .i64 (eC Z now k)] 29),all F]])
  (all [ex fun k:Nat=>all [pu (u6 Z now Z.n=some k),iR p gs (took Z (ord Z k)),pt b4 (.cells #[.int .i64 (Z.pr (ord Z k)).id,.int .i64 (k9 Z (ord Z k))] 118),pt b5 (.cells #[.bool (decide ((Z.pr (ord Z k)).idle.length=0))] 4),pt b6 (.cells #[.int .i64 0] 29)],all F]) rfl ?_ ?_ ?_ ?_ ?_ ?_
 ·intro x hx
  obtain⟨k,_,rfl⟩:=List.mem_map.1 hx
  rfl
 ·refine .all ?_
  refine aq ?_
  refine .pick (by repeat constructor) (.pick (by repeat constructor) (.all ?_))
  refine aq ?_
  refine .pu ⟨rfl,by omega⟩ ?_
  refine .pick (by repeat constructor) (.pick (by repeat constructor) (.pick (by repeat constructor) (.pick (by repeat constructor) (.pick (by repeat constructor) (.all ?_)))))
  rw[List.append_nil]
  exact .refl
 ·intro l T T' hy
  rw[nZ]
  exact IZ hz hy
 ·intro k hk F2 T0 T1 B N J hB hN hJ
  rw[nZ]at hk
  have e0:∀h,(qD gs Z)[k]'h=[.int .i64 (ord Z k:Int),pv (gs (ord Z k))]:=fun h=>by
   have:=r6 (gs:=gs) hk
   rw[List.getElem?_eq_getElem h]at this
   exact Option.some.inj this
  rw[e0]
  simp only[ji,List.headD_cons,List.tail_cons]
  have hil:=Cy hz k
  obtain⟨i,hie⟩:∃i,i=ord Z k:=⟨_,rfl⟩
  rw[<- hie]at hil ⊢
  have hpr:=hz.pr i hil
  have hid:=hi i hil
  have hnum:=hz.num
  refine aE (.there .here) ?_
  refine aq ?_
  refine aE (.there (.there .here)) ?_
  refine aq ?_
  refine aX .here fun hp=>?_
  obtain⟨hp,hkn⟩:=hp
  refine hB _ _ _ (by repeat constructor) ?_
  refine bt (A:=fun q:(Option Addr × Nat) × Nat × Nat=>all [pt p (.cells #[.slice q.1.1 Z.n q.1.2,.map (some q.2.1),.map (some q.2.2),.int .i64 (Z.at_:Int),.int .i64 Z.num,.int .i64 Z.tmo] 312),Sl 1 308 q.1.1 q.1.2 Z.n (tr gs Z.n),bN q.2.1 fN (mv gs Z.bm),bN q.2.2 fN (mv gs Z.im),BS Z.n (fun i=>oK (gs i) (Z.pr i))]) (by repeat constructor) fun q=>aE Pick.here ?_
  obtain⟨⟨a,c⟩,mb,mi⟩:=q
  refine aq ?_
  unfold pv
  refine aV (cu ?_);refine ay ah .nil ?_;refine ay ae .nil ?_
  refine ay (P4 i hil (v:= .int .i64 (Z.pr i).til) rfl) (.pick (by repeat constructor) .nil) ?_
  refine c_ uG fun _=>?_
  refine aY ?_;refine aY ?_;refine aY ?_
  refine Am bD .nil (fun h=>?_) (fun h=>?_)
  ·refine ai (hN _ ?_)
   refine .pick (by repeat constructor) (.all ?_)
   refine aq ?_
   refine .pick (by repeat constructor) (.ex ((a,c),mb,mi) (.all ?_))
   refine aq ?_
   refine .pick (by repeat constructor) (.pick (by repeat constructor) (.pick (by repeat constructor) (.pick (by repeat constructor) (.pick (by repeat constructor) (.all ?_)))))
   refine aq ?_
   have e1:eC Z now (k+1)=eC Z now k:=by rw[eC,if_pos (by rw[<- hie];exact h)]
   have e2:u6 Z now (k+1)=none:=by
    rw[u6,hp]
    simp only
    rw[if_neg (fun c=>c.1 (by rw[<- hie];exact h))]
   rw[e1]
   refine .pu ⟨e2,by omega⟩ ?_
   exact aA
  refine af ?_
  have hclk:=h
  have e1:eC Z now (k+1)=63:=by rw[eC,if_neg (by rw[<- hie];exact h)]
  refine oq (by repeat constructor) i hil ?_
  refine bt Pick.here fun q=>aE Pick.here ?_
  obtain⟨qa,qc⟩:=q
  refine aq ?_
  refine bU ?_;refine aM ?_;refine o_ ah (o_ ae (aM ?_));refine o_ ah (o_ ae (aM ?_));refine o_ aK (aN (.there (.there .here)) fun f1 f2 f3 f4=>?_)
  have hav:∀j,j=ord Z k->(xZ Z now j↔(0<(Z.pr i).idle.length\/(Z.pr i).busy<(Z.pr i).max)):=fun j hj=>by
   rw[hj,<- hie]
   exact⟨fun x=>x.2,fun x=>⟨hclk,x⟩⟩
  refine dt (fun z=>[ex fun q:Option Addr × Nat=>all [pu (z= .int .i64 (k9 Z i)/\(0<(Z.pr i).idle.length\/(Z.pr i).busy<(Z.pr i).max)),
    pt (gs i) (.cells #[.int .i64 (Z.pr i).id,.int .i64 (Z.pr i).max,.slice q.1 ((Z.pr i).idle.length-1) q.2,.int .i64 (Z.pr i).busy,.int .i64 (Z.pr i).til] 317),
    Sl 1 3 q.1 q.2 ((Z.pr i).idle.length-1) (((Z.pr i).idle.take ((Z.pr i).idle.length-1)).map I),
    pt p (.cells #[.slice a Z.n c,.map (some mb),.map (some mi),.int .i64 (Z.at_:Int),.int .i64 (took Z i).num,.int .i64 Z.tmo] 312),
    bN mi fN (mv gs (took Z i).im)],pt b6 (.cells #[.int .i64 63] 29),BH Z.n (fun i=>oK (gs i) (Z.pr i)) i,Sl 1 308 a c Z.n (tr gs Z.n),bN mb fN (mv gs Z.bm),T1,pt b2 (.cells #[.pointer (some ⟨p,0,none⟩)] 216),pt b3 (.cells #[.int .i64 now] 3),pt b4 (.cells #[.int .i64 0,.int .i64 0] 118),pt b5 (.cells #[.bool false] 4),all F,pt bc (.cells #[.pointer (some ⟨p,0,none⟩)] 216)]++F2) ?_ ?_
  rotate_left
  ·refine o_ eu ?_
   by_cases hn0:0<(Z.pr i).idle.length
   ·rw[dT_ (by omega)]
    refine ai (aV ?_)
    obtain⟨gq,rfl⟩:=f4 hn0
    have hlt:(Z.pr i).idle.length-1<(Z.pr i).idle.length:=by omega
    refine t_ ah (t_ ae (cu ?_));(refine t_ (gI (by omega) (by omega)) ?_)
    refine t_ (br ((Z.pr i).idle.length-1) (by omega) hlt) ?_
    refine ii (bF (v:=I (Z.pr i).idle[(Z.pr i).idle.length-1]) (by rw[Nat.zero_add];exact xq hlt)) ?_
    refine t_ ah (t_ ae (cu ?_));(refine t_ (gI (by omega) (by omega)) ?_)
    refine t_ (pL ((Z.pr i).idle.length-1) (by omega) (by omega)) ?_
    refine t_ ah (t_ ae (bU ?_));refine aM ?_;refine o_ ah (o_ ae (aM ?_))
    refine wv (q:=(Z.pr i).idle[(Z.pr i).idle.length-1]) tq (by repeat constructor) ?_
    refine mz (m:=(Z.pr i).idle.length-1) (L:=_) (by repeat constructor) (by omega) ?_
    rw[Nat.mul_one,<- List.map_take]
    have ht:(Z.pr i).idle[(Z.pr i).idle.length-1]=k9 Z i:=by
     unfold k9
     rw[if_pos hn0,List.getD_eq_getElem?_getD,List.getElem?_eq_getElem hlt];rfl
    rw[ht]
    refine aI (.ex (some ⟨gq,0,none⟩,qc) (.all ?_))
    refine aq ?_
    refine .pu ⟨by rw[<- ht];rfl,.inl hn0⟩ ?_
    rw[show(took Z i).num=Z.num by simp[took,hn0],show(took Z i).im=nY Z.im (k9 Z i) none by simp[took,hn0],qC]
    refine .pick (by repeat constructor) (.pick (by repeat constructor) (.pick (by repeat constructor) (.pick (by repeat constructor) ?_)))
    exact aA
   ·rw[dF_ (by omega)]
    refine af (aV (t_ ah (t_ ae (cu ?_))));refine t_ ah (t_ ae (t_ ae (cu ?_)))
    refine Am bD .nil (fun h=>?_) (fun h=>?_)
    ·(refine ai ?_);refine aM ?_;refine o_ ah ?_;refine o_ ae ?_;refine aM ?_;refine bS ?_;refine o_ ah ?_;refine o_ ae ?_;refine bU ?_
     have hl0:(Z.pr i).idle=[]:=List.eq_nil_of_length_eq_zero (by omega)
     have ht:k9 Z i=Z.num:=by unfold k9;rw[if_neg hn0]
     refine aI (.ex (qa,qc) (.all ?_))
     refine aq ?_
     refine .pu ⟨by rw[ht],.inr h⟩ ?_
     rw[show(took Z i).num=Z.num+1 by simp[took,hn0],show(took Z i).im=Z.im by simp[took,hn0],hl0]
     refine .pick (by repeat constructor) (.pick (by repeat constructor) (.pick (by repeat constructor) (.pick (by repeat constructor) ?_)))
     exact aA
    ·refine af (hN _ ?_)
     refine .pick (by repeat constructor) (.all ?_)
     refine aq ?_
     refine .pick (by repeat constructor) (.ex ((a,c),mb,mi) (.all ?_))
     refine aq ?_
     refine .pick (by repeat constructor) (.pick (by repeat constructor) (.pick (by repeat constructor) (.pick (by repeat constructor) ?_)))
     refine my i hil (F:=fun i=>oK (gs i) (Z.pr i)) (fun j hj hji=>rfl) ?_
     refine .ex (qa,qc) (.all ?_)
     refine aq ?_
     refine .pick (by repeat constructor) (.pick (by repeat constructor) (.pick (by repeat constructor) (.all ?_)))
     refine aq ?_
     have e2:u6 Z now (k+1)=none:=by
      rw[u6,hp]
      simp only
      rw[if_neg (fun c=>by rcases(hav _ rfl).1 c with c|c <;> omega)]
     rw[e1]
     refine .pu ⟨e2,by omega⟩ ?_
     exact aA
  intro ds z
  refine aq ?_
  refine bt Pick.here fun q=>aE Pick.here ?_
  obtain⟨qa,qc⟩:=q
  refine aq ?_
  refine aX .here fun hx=>?_
  obtain⟨rfl,hx⟩:=hx
  refine o_ ah (o_ ae (aM ?_));refine bS ?_;refine o_ ah (o_ ae (bU ?_));refine aM ?_;refine o_ ah (o_ ae (aM ?_))
  refine dC (q:=k9 Z i) tq (by repeat constructor) ?_
  refine aV (cu ?_);(refine t_ (ie (by omega) (by omega)) ?_);refine cu ?_;refine t_ ah (t_ ae (cu ?_));refine t_ aK ?_;(((refine t_ (gK ?h1 ?h2) ?_);(case h1=>omega);(case h2=>omega)));refine t_ ah (t_ ae (bU ?_));refine o_ ah (o_ ae (o_ ae (aM ?_)));refine o_ bM ?_
  have e2:((i:Int)+1)%(Z.n:Int)=(((i+1)%Z.n:Nat):Int):=by norm_cast
  rw[e2]
  refine o_ cJ ?_
  rw[show decide (((Z.pr i).idle.length:Int)=0)=decide ((Z.pr i).idle.length=0) by simp]
  (((refine' aG ?hp ?hn ?hv ?h1 ?_);(case hp=>(repeat constructor));(case hn=>rfl);(case hv=>rfl);(case h1=>simp[Value.oneCell',az])));refine bU ?_;refine bU ?_
  refine hJ _ ?_
  have hpk:u6 Z now Z.n=some k:=by
   have h1:u6 Z now (k+1)=some k:=by
    rw[u6,hp]
    simp only
    rw[if_pos ((hav _ rfl).2 hx)]
   have:=Cz h1 (Z.n-(k+1))
   rwa [show k+1+(Z.n-(k+1))=Z.n by omega]at this
  refine .pick (by repeat constructor) (.all ?_)
  refine aq ?_
  refine .ex k (.all ?_)
  refine aq ?_
  rw[<- hie]
  refine .pu hpk (.ex ((a,c),mb,mi) (.all ?_))
  refine aq ?_
  refine .pick (by repeat constructor) (.pick (by repeat constructor) ?_)
  rw[show(took Z i).bm=nY Z.bm (k9 Z i) (some i)from rfl,qC]
  refine .pick (by repeat constructor) (.pick (by repeat constructor) ?_)
  refine my i hil (F:=fun i=>oK (gs i) (Z.pr i)) (fun j hj hji=>by simp[took,u0,hji]) ?_
  simp only[took,u0,if_true]
  refine .ex (qa,qc) (.all ?_)
  refine aq ?_
  rw[List.length_take,show min ((Z.pr i).idle.length-1) (Z.pr i).idle.length=(Z.pr i).idle.length-1 by omega]
  refine .pick (by repeat constructor) (.pick (by repeat constructor) (.pick (by repeat constructor) ?_))
  exact aA
 ·intro d
  refine aE (.there .here) ?_
  refine aq ?_
  refine aE (.there (.there .here)) ?_
  refine aq ?_
  refine aX .here fun hp=>?_
  rw[nZ]at hp ⊢
  refine aV (t_ bM ?_);(((refine' ay (aQ ?hc) ?hi ?_);(case hi=>exact .pick (by repeat constructor) .nil);(case hc=>repeat constructor)));(((refine' aG ?hp ?hn ?hv ?h1 ?_);(case hp=>(repeat constructor));(case hn=>rfl);(case hv=>rfl);(case h1=>simp[Value.oneCell',az])));refine aY ?_;refine bU ?_;refine aY ?_;refine bU ?_
  refine su (by repeat constructor) ?_
  (((refine' aP (cB ?hn) ?hi ?_);(case hi=>exact aA);(case hn=>rfl)));(((refine' aP (dh ?hc) ?hi ?_);(case hi=>exact aA);(case hc=>repeat constructor)));(((refine' aP (dh ?hc) ?hi ?_);(case hi=>exact aA);(case hc=>repeat constructor)))
  have ht:kF Z now=(⟨0,0,false,eC Z now Z.n⟩,Z):=by unfold kF;rw[hp.1]
  rw[ht]
  refine jp (M:=[iR p gs Z]) (F:=F) aA ?_
  refine aq ?_
  refine aO () ?_
  exact .refl
 ·intro d
  refine aE (.there .here) ?_
  refine aq ?_
  refine bt .here fun k=>aE .here ?_
  refine aq ?_
  refine aX .here fun hp=>?_
  refine su (by repeat constructor) ?_
  (((refine' aP (cB ?hn) ?hi ?_);(case hi=>exact aA);(case hn=>rfl)));(((refine' aP (dh ?hc) ?hi ?_);(case hi=>exact aA);(case hc=>repeat constructor)));(((refine' aP (dh ?hc) ?hi ?_);(case hi=>exact aA);(case hc=>repeat constructor)))
  have ht:kF Z now=(⟨(Z.pr (ord Z k)).id,k9 Z (ord Z k),decide ((Z.pr (ord Z k)).idle.length=0),0⟩,took Z (ord Z k)):=by unfold kF;rw[hp]
  rw[ht]
  refine jp (M:=[iR p gs (took Z (ord Z k))]) (F:=F) aA ?_
  refine aq ?_
  refine aO () ?_
  exact .refl
def P7 (x:Int × Int):List Value:=[I x.1,I x.2]
theorem x_:∀(us:List (Int × Int)) (i:Nat) (h:i<us.length),(us.flatMap P7)[i * 2]? =some (I us[i].1)/\(us.flatMap P7)[i * 2+1]? =some (I us[i].2)
 |x::us,0,_=>by simp[P7]
 |x::us,i+1,h=>by
  have ih:=x_ us i (by simpa using h)
  rw[List.flatMap_cons,show(i+1) * 2=i * 2+2 by omega]
  simp only[P7,ca_,na_,List.getElem_cons_succ]
  exact⟨by rw[List.getElem?_cons_succ,List.getElem?_cons_succ];exact ih.1,by rw[show i * 2+2+1=i * 2+1+1+1 by omega,List.getElem?_cons_succ,List.getElem?_cons_succ];exact ih.2⟩
def k_ (us:List (Int × Int))(tmo:Int)(i:Nat):Pl:={n:=i,pr:=fun j=>⟨(us.getD j (0,0)).1,(us.getD j (0,0)).2,[],0,-2199023255552⟩,bm:=fun _=>none,im:=fun _=>none,at_:=0,num:=0,tmo}
def E5 (us:List (Int × Int))(tmo:Int)(i:Nat):Prop:=(us.getD i (0,0)).2<1\/64<(us.getD i (0,0)).2\/(fd (k_ us tmo i) (us.getD i (0,0)).1).isSome=true
def P8 (us:List (Int × Int))(tmo:Int):Prop:=us.length≠0/\us.length<=16/\1<=tmo/\tmo<=3600/\∀i,i<us.length->¬E5 us tmo i
def zu (us:List (Int × Int))(tmo:Int):={r:Option (Nat × (Nat->Nat)) // match r with
 |some _=>P8 us tmo
 |none=>¬P8 us tmo}
def I0 {us:List (Int × Int)}{tmo:Int}(x:zu us tmo):Value:=match x.1 with
 |some q=> .tuple #[pv q.1,.int .i64 0]
 |none=> .tuple #[.pointer none,.int .i64 1]
def E6 {us:List (Int × Int)}{tmo:Int}(x:zu us tmo):HP:=match x.1 with
 |some q=>iR q.1 q.2 (k_ us tmo us.length)
 |none=>pu True
theorem UX {W:World}{nm:Value}{a:Option Addr}{c:Nat}{us:List (Int × Int)}{tmo rt:Int}{A:HP}[OC nm](hr:RdB W A a (us.length * 2) (us.flatMap P7)):
  Cn p_ 140 [.agg #[nm,.slice a us.length c,.int .i64 tmo,.int .i64 rt]] W [A] I0 (fun x:zu us tmo=>[A,E6 x]):=by
 (refine Shp.cn (Sg.g_ Tryz.call140 Tryz.func140 (an:={loops:=[(5,[36])],drs:=[(9,.ofL [(0,2),(1,2),(2,3),(3,3),(4,3),(5,1),(6,1),(7,0),(8,0),(9,0),(10,1),(11,1),(12,0)])]}) (os:=[(9,[(7,[4,3,2]),(8,[4,3,2])])])) fun F=>?_;simp only[ca_,na_])
 refine aU fun g=>?_;refine o_ ae (aM ?_);refine o_ aK ?_
 have bad:∀(L:List HP),¬P8 us tmo->Imp W L (A::F)->aR W L (fun w=>∃x:zu us tmo,(.tuple #[.pointer none,.int .i64 1]:Value)=I0 x/\sat W (A::E6 x::F) w):=fun L hb hi=>by
  refine bu hi ?_
  refine bG (⟨none,hb⟩:zu us tmo) rfl ?_
  exact .pick (by repeat constructor) (.pu trivial .refl)
 refine o_ cJ ?_
 by_cases h0:us.length=0
 ·rw[dT_ (by omega)]
  exact aC (aC (aC (aC (o_ av (aC (aC (aC (o_ av (aC (aC (aC (o_ av (ai (bad _ (fun c=>c.1 h0) aA))))))))))))))
 rw[dF_ (by omega)]
 refine ab (o_ ae (ab (aM ?_)));refine ab (o_ aK (ab (o_ eu ?_)))
 by_cases h1:16<us.length
 ·rw[dT_ (by omega)]
  exact o_ am (aC (aC (aC (o_ av (aC (aC (aC (o_ av (ai (bad _ (fun c=>absurd c.2.1 (by omega)) aA))))))))))
 rw[dF_ (by omega)]
 refine o_ am (ab (o_ ae (ab (aM ?_))));refine ab (o_ bD ?_)
 by_cases h2:tmo<1
 ·rw[dT_ (by omega)]
  exact o_ am (aC (aC (aC (o_ av (ai (bad _ (fun c=>absurd c.2.2.1 (by omega)) aA))))))
 rw[dF_ (by omega)]
 refine o_ am (ab (o_ ae (ab (aM ?_))));refine ab (o_ eu ?_)
 by_cases h3:3600<tmo
 ·rw[dT_ (by omega)]
  exact o_ am (ai (bad _ (fun c=>absurd c.2.2.2.1 (by omega)) aA))
 rw[dF_ (by omega)]
 refine o_ am (af (jM fN fun mb=>?_))
 refine jM fN fun mi=>?_
 refine o_ ae (aM ?_);refine o_ bM ?_;refine aU fun g=>?_;refine o_ ae (aM ?_);refine o_ aK ?_
 rename Nat=>p
 refine iZ (s:=1) (e:=308) ?_
 refine a_ (fun m y=>[ex fun x:Nat × (Nat->Nat)=>all [pu (m+x.1=us.length/\y= .int .i64 (x.1:Int)/\∀j,j<x.1->¬E5 us tmo j),iR p x.2 (k_ us tmo x.1),A]]++F) us.length ?_ ?_
 ·refine .ex (0,fun _=>0) (.all ?_)
  refine aq ?_
  refine .pu ⟨by omega,rfl,fun j hj=>absurd hj (by omega)⟩ (.ex ((none,0),mb,mi) (.all ?_))
  refine aq ?_
  refine .pick (by repeat constructor) (.pick (by repeat constructor) ?_)
  have e0:∀gs:Nat->Nat,mv gs (fun _=>none)=fun _=>none:=fun gs=>by funext x;rfl
  have e1:(k_ us tmo 0).bm=fun _=>none:=rfl
  have e2:(k_ us tmo 0).im=fun _=>none:=rfl
  rw[e1,e2,e0]
  refine .pick (by repeat constructor) (.pick (by repeat constructor) ?_)
  exact xh aA
 intro m ds y
 refine aq ?_
 refine bt Pick.here fun x=>aE Pick.here ?_
 obtain⟨i,gs⟩:=x
 refine aq ?_
 refine aX Pick.here fun hi=>?_
 obtain⟨hmi,rfl,hgood⟩:=hi
 refine bj bD .nil (fun h=>?_) (fun h=>?_)
 ·have hil:i<us.length:=by omega
  obtain⟨g,o,rfl,_⟩:=hr.at_ (by omega)
  obtain⟨u1,u2⟩:=x_ us i hil
  refine ai (o_ (eA i (by rfl) hil) ?_)
  refine dm (dp (vs:=[.int .i64 us[i].1,.int .i64 us[i].2]) (n:=2) hr rfl ?_) ?_
  ·intro j hj
   have:j=0\/j=1:=by omega
   rcases this with rfl|rfl
   ·exact u1
   ·exact u2
  refine aS fun g=>?_;(((refine' aG ?hp ?hn ?hv ?h1 ?_);(case hp=>(repeat constructor));(case hn=>rfl);(case hv=>rfl);(case h1=>simp[Value.oneCell',az])));refine o_ ae (aM ?_)
  have hg2:us.getD i (0,0)=us[i]:=by rw[List.getD_eq_getElem?_getD,List.getElem?_eq_getElem hil];rfl
  have hgd:E5 us tmo i↔(us[i].2<1\/64<us[i].2\/(fd (k_ us tmo i) us[i].1).isSome=true):=by unfold E5;rw[hg2]
  refine o_ bD ?_
  by_cases b1:us[i].2<1
  ·rw[dT_ b1]
   exact aC (aC (aC (o_ av (aC (aC (aC (aC (aC (o_ av (ai (bad _ (fun c=>c.2.2.2.2 i hil (hgd.2 (.inl b1))) aA)))))))))))
  rw[dF_ b1]
  refine ab (o_ ae (ab (aM ?_)));refine ab (o_ eu ?_)
  by_cases b2:64<us[i].2
  ·rw[dT_ b2]
   exact o_ am (aC (aC (aC (aC (aC (o_ av (ai (bad _ (fun c=>c.2.2.2.2 i hil (hgd.2 (.inr (.inl b2)))) aA))))))))
  rw[dF_ b2]
  refine o_ am (ab (ab (o_ ae (ab (aM ?_)))));refine ab (c_ (peer (p:=p) (gs:=gs) (Z:=k_ us tmo i) (id:=us[i].1) (by show i<=1024;omega)) fun _=>?_)
  refine ab (o_ (wC (P:=p_) (t:=308)) ?_)
  by_cases b3:(fd (k_ us tmo i) us[i].1).isSome=true
  ·rw[b3]
   exact o_ am (ai (bad _ (fun c=>c.2.2.2.2 i hil (hgd.2 (.inr (.inr b3)))) aA))
  rw[Bool.eq_false_iff.2 b3]
  refine o_ am (af (aV (ay ah .nil ?_)));refine ay ae .nil ?_
  refine bt .here fun q=>aE .here ?_
  obtain⟨⟨pa,pc⟩,mb,mi⟩:=q
  refine aq ?_
  (((refine' ay (aQ ?hc) ?hi ?_);(case hi=>exact .pick (by repeat constructor) .nil);(case hc=>repeat constructor)));(((refine' aP (bK ?hn) ?hi ?_);(case hi=>exact .pick (by repeat constructor) .nil);(case hn=>rfl)));refine t_ bM ?_;refine aU fun g=>?_;refine aY ?_;refine aY ?_;refine aY ?_;refine cZ fun g=>?_;refine aY ?_;refine aY ?_;refine aY ?_
  rename Nat=>gn
  refine bV (m:=1) (news:=[pv g]) (by repeat constructor) (bR (e':=308) (by kernel_rfl) .here (by rfl) (by intro u hu;simp at hu;rw[hu];rfl)) (by show(i+1) * 8<=_;omega) (by show i+1<=_;omega) fun a' c'=>?_
  refine t_ ah (t_ ae (bU ?_));refine bS ?_
  refine bq (m-1) (by omega) (.ex (i+1,fun j=>if j=i then g else gs j) (.all ?_))
  refine aq ?_
  refine .pu ⟨by omega,rfl,fun j hj=>?_⟩ (.ex ((a',c'),mb,mi) (.all ?_))
  ·by_cases c:j=i
   ·subst c
    exact fun hb=>by
     rcases hgd.1 hb with h|h|h
     ·exact b1 h
     ·exact b2 h
     ·exact b3 h
   ·exact hgood j (by omega)
  refine aq ?_
  refine .pick (by repeat constructor) ?_
  have e0:∀(gs:Nat->Nat) (k:Nat),mv gs (k_ us tmo k).bm=fun _=>none:=fun gs k=>by funext x;rfl
  have e1:∀(gs:Nat->Nat) (k:Nat),mv gs (k_ us tmo k).im=fun _=>none:=fun gs k=>by funext x;rfl
  have e2:tr (fun j=>if j=i then g else gs j) (i+1)=tr gs i++[pv g]:=by
   unfold tr
   rw[List.range_succ,List.map_append]
   congr 1
   ·exact List.map_congr_left fun j hj=>by
     have hj:=List.mem_range.1 hj
     show pv (if j=i then g else gs j)=_
     rw[if_neg (by omega)]
   ·simp
  have e3:(k_ us tmo (i+1)).n=i+1:=rfl
  have e4:(k_ us tmo i).n=i:=rfl
  rw[e0,e1,e0,e1,e3,e4,e2]
  refine .pick (by repeat constructor) (.pick (by repeat constructor) (.pick (by repeat constructor) ?_))
  refine sy (F:=fun j=>oK (gs j) ((k_ us tmo i).pr j)) (fun j hj=>?_) ?_
  ·show _=oK (if j=i then g else gs j) _
   rw[if_neg (by omega)];rfl
  refine .pick (by repeat constructor) ?_
  simp only[if_true]
  have hp1:(k_ us tmo (i+1)).pr i=⟨us[i].1,us[i].2,[],0,-2199023255552⟩:=by
   show(⟨(us.getD i (0,0)).1,(us.getD i (0,0)).2,[],0,-2199023255552⟩:Pr)=_
   rw[hg2]
  rw[hp1]
  refine .ex (none,0) (.all ?_)
  refine aq ?_
  refine .pick (by repeat constructor) (bO ?_)
  exact aA
 ·have:i=us.length:=by omega
  subst this
  refine af ?_
  have hok:P8 us tmo:=⟨h0,by omega,by omega,by omega,hgood⟩
  refine bG (⟨some (p,gs),hok⟩:zu us tmo) rfl ?_
  unfold E6
  exact aA
end Go.Proofs.YtdjkdjepjahjfaaGreatDoor.PL
namespace Go.Proofs.YtdjkdjepjahjfaaGreatDoor.TP
open Go Go.Proofs Go.RowKit Sh Sl T FD
structure PS (Z:PL.Pl)(k:Nat)(nm bz:Int):Prop where
 n:Z.n=1
 at_:Z.at_=0
 num:Z.num=nm
 t1:1<=Z.tmo
 t2:Z.tmo<=3600
 id:(Z.pr 0).id=1
 max:(Z.pr 0).max=64
 til:(Z.pr 0).til= -2199023255552
 busy:(Z.pr 0).busy=bz
 idle:(Z.pr 0).idle=List.replicate k 0
 bm:∀q i,Z.bm q=some i->i=0
 im:∀q i,Z.im q=some i->i=0
 b0:bz=1->Z.bm 0=some 0
theorem PS.wf {Z:PL.Pl}{k:Nat}{nm bz:Int}(h:PS Z k nm bz)(hk:k<=1)(h1:0<=nm)(h2:nm<=1)(h3:0<=bz)(h4:bz<=1):PL.Wf Z where
 n1:=by have:=h.n;omega
 n2:=by have:=h.n;omega
 at_:=by have:=h.n;have:=h.at_;omega
 num:=by have:=h.num;omega
 tmo:=⟨h.t1,h.t2⟩
 pr:=fun i hi=>by
  obtain rfl:i=0:=by have:=h.n;omega
  have a:=h.busy;have b:=h.max;have c:=h.idle
  rw[c,List.length_replicate]
  omega
 bm:=fun q i hq=>by have:=h.bm q i hq;have:=h.n;omega
 im:=fun q i hq=>by have:=h.im q i hq;have:=h.n;omega
theorem I3 {now:Int}(h:0<=now):0<=PL.zW now:=by
 unfold PL.zW
 have:(0:Int)<=PL.IX:=by decide
 split <;> split at * <;> omega
theorem E7 {Z:PL.Pl}{k:Nat}{now:Int}(h:PS Z k k 0)(hk:k<=1)(hn:0<=now):(PL.kF Z now).1=⟨1,0,decide (k=0),0⟩/\PS (PL.kF Z now).2 0 1 1:=by
 have ho:PL.ord Z 0=0:=by unfold PL.ord;rw[h.at_,h.n]
 have hc:=I3 hn
 have hp:PL.u6 Z now Z.n=some 0:=by
  rw[h.n]
  unfold PL.u6 PL.u6
  simp only[ho]
  rw[if_pos]
  exact⟨by rw[h.til];omega,.inr (by rw[h.busy,h.max];decide)⟩
 have hid:PL.k9 Z 0=0:=by
  unfold PL.k9
  rw[h.idle,List.length_replicate,h.num]
  split
  ·rw[show k=1 by omega];rfl
  ·omega
 have ht:PL.kF Z now=(⟨(Z.pr (PL.ord Z 0)).id,PL.k9 Z (PL.ord Z 0),decide ((Z.pr (PL.ord Z 0)).idle.length=0),0⟩,PL.took Z (PL.ord Z 0)):=by unfold PL.kF;rw[hp]
 rw[ht,ho,hid,h.id,h.idle,List.length_replicate]
 refine⟨rfl,?_⟩
 have hkk:0<(List.replicate k (0:Int)).length↔k=1:=by rw[List.length_replicate];omega
 exact{
  n:=h.n
  at_:=by show(0+1)%Z.n=0;rw[h.n]
  num:=by
   show(if 0<(Z.pr 0).idle.length then Z.num else Z.num+1)=1
   rw[h.idle,List.length_replicate,h.num]
   split <;> omega
  t1:=h.t1
  t2:=h.t2
  id:=h.id
  max:=h.max
  til:=h.til
  busy:=by show(Z.pr 0).busy+1=1;rw[h.busy];rfl
  idle:=by
   show(Z.pr 0).idle.take ((Z.pr 0).idle.length-1)=[]
   rw[h.idle,List.length_replicate,show k-1=0 by omega,List.take_zero]
  bm:=fun q i hq=>by
   simp only[PL.took,PL.nY]at hq
   split at hq
   ·exact(Option.some.inj hq).symm
   ·exact h.bm q i hq
  im:=fun q i hq=>by
   simp only[PL.took]at hq
   split at hq
   ·simp only[PL.nY]at hq
    split at hq
    ·cases hq
    ·exact h.im q i hq
   ·exact h.im q i hq
  b0:=fun _=>by simp only[PL.took,PL.nY];rw[hid,if_pos rfl]}
theorem E8 {Z:PL.Pl}(h:PS Z 0 1 1):PS (PL.done Z 0 true) 1 1 0:=by
 unfold PL.done
 rw[h.b0 rfl]
 exact{
  n:=h.n
  at_:=h.at_
  num:=h.num
  t1:=h.t1
  t2:=h.t2
  id:=h.id
  max:=h.max
  til:=h.til
  busy:=by show(Z.pr 0).busy-1=0;rw[h.busy];rfl
  idle:=by show(Z.pr 0).idle++[0]=[0];rw[h.idle];rfl
  bm:=fun q i hq=>by
   simp only[PL.nY]at hq
   split at hq
   ·cases hq
   ·exact h.bm q i hq
  im:=fun q i hq=>by
   simp only[PL.nY,if_true]at hq
   split at hq
   ·exact(Option.some.inj hq).symm
   ·exact h.im q i hq
  b0:=fun hc=>by cases hc}
def iu (p k:Nat):HP:=ex fun q:(Nat->Nat) × PL.Pl=>all [pu (PS q.2 k k 0),PL.iR p q.1 q.2]
def mW (p:Nat):HP:=ex fun q:(Nat->Nat) × PL.Pl=>all [pu (PS q.2 0 1 1),PL.iR p q.1 q.2]
theorem I4 {tm:Int}(h1:1<=tm)(h2:tm<=3600):PS (PL.k_ [(1,64)] tm 1) 0 0 0:=
 ⟨rfl,rfl,rfl,h1,h2,rfl,rfl,rfl,rfl,rfl,(fun _ _ h=>by cases h),(fun _ _ h=>by cases h),fun h=>absurd h (by decide)⟩
theorem I5 {tm : Int} (h1 : 1 ≤ tm) (h2 : tm ≤ 3600) : PL.P8 [(1, 64)] tm :=
 ⟨by decide, by decide, h1, h2, fun i hi => by
  obtain rfl : i = 0 := by simpa using hi
  intro h
  rcases h with h | h | h
  ·exact absurd h (by decide)
  ·exact absurd h (by decide)
  ·cases h⟩
end Go.Proofs.YtdjkdjepjahjfaaGreatDoor.TP
namespace Go.Proofs.YtdjkdjepjahjfaaGreatDoor.TP
open Go Sl
structure Tok where
 mark:UInt8
 s:List UInt8
 line:Nat
 deriving DecidableEq
def d9 (c:UInt8):Bool:=decide (32<c/\c<127)&&!([59,123,125,35,34]:List UInt8).contains c
def qE (c:UInt8):Bool:=([59,123,125]:List UInt8).contains c
def wD (c:UInt8):Bool:=decide (c=9\/c=13\/c=32)
def fO:Nat->Nat->List UInt8->Option (List Tok)
 |0,_,_=>none
 |_+1,_,[]=>some []
 |f+1,line,c::r=>
  if c=10 then fO f (line+1) r else
  if wD c then fO f line r else
  if qE c then(fO f line r).map (⟨c,[],line⟩:: ·)else
  if d9 c then(fO f line ((c::r).dropWhile d9)).map (⟨0,(c::r).takeWhile d9,line⟩:: ·)else none
def bs (s:String):List UInt8:=s.toUTF8.toList
structure NdR where
 words:List (List UInt8)
 line:Nat
 block:Bool
 kids:List Nat
 deriving DecidableEq
def VJ:NdR:=⟨[],0,false,[]⟩
structure TS where
 nodes:List NdR
 opn:List Nat
 now:Option Nat
 deriving DecidableEq
def TS.nd (s:TS)(k:Nat):NdR:=s.nodes.getD k VJ
def TS.upd (s:TS)(k:Nat)(n:NdR):TS:={s with nodes:=s.nodes.set k n}
def TS.top (s:TS):Nat:=s.opn.getLast?.getD 0
def TS.kid (s:TS)(k:Nat):TS:=s.upd s.top {s.nd s.top with kids:=(s.nd s.top).kids++[k]}
def gA (s:TS):Bool:=decide (0<s.opn.length/\s.opn.length<=4/\s.nodes.length<=1000)&&s.opn.all (fun k=>decide (k<s.nodes.length))&&s.now.all (fun k=>decide (k<s.nodes.length))&&s.nodes.all (fun n=>decide (n.words.length<=1000/\n.kids.length<=1000)&&n.kids.all fun k=>decide (k<s.nodes.length))
def u7 (s:TS)(t:Tok):Option TS:=
 if gA s then
  if t.mark=0 then match s.now with
   |none=>some {s with nodes:=s.nodes++[⟨[t.s],t.line,false,[]⟩],now:=some s.nodes.length}
   |some k=>some (s.upd k {s.nd k with words:=(s.nd k).words++[t.s]})
  else if t.mark=125 then(if s.now=none/\s.opn.length≠1 then some {s with opn:=s.opn.dropLast}else none)
  else if t.mark=123 then match s.now with
   |some k=>if s.opn.length≠4 then some {(s.upd k {s.nd k with block:=true}).kid k with opn:=s.opn++[k],now:=none}else none
   |none=>none
  else if t.mark=59 then match s.now with
   |some k=>some {s.kid k with now:=none}
   |none=>none
  else none
 else none
def qF:TS->List Tok->Option TS
 |s,[]=>some s
 |s,t::r=>match u7 s t with
  |some s'=>qF s' r
  |none=>none
def CA:TS:=⟨[VJ],[0],none⟩
def kG (w:List UInt8):Bool:=!w.isEmpty&&w.all d9
theorem E9 {w:List UInt8}{c:UInt8}{r:List UInt8}(hw:w.all d9=true)(hc:d9 c=false):(w++c::r).takeWhile d9=w/\(w++c::r).dropWhile d9=c::r:=by
 induction w with
 |nil=>simp[hc]
 |cons x w ih=>
  simp only[List.all_cons,Bool.and_eq_true]at hw
  obtain⟨h1,h2⟩:=ih hw.2
  simp[hw.1,h1,h2]
theorem E_ {c:UInt8}(h:d9 c=true):c≠10/\wD c=false/\qE c=false:=by
 have:∀n:Nat,n<256->d9 (UInt8.ofNat n)=true->UInt8.ofNat n≠10/\wD (UInt8.ofNat n)=false/\qE (UInt8.ofNat n)=false:=by decide+kernel
 have e:UInt8.ofNat c.toNat=c:=by simp
 have h2:=this c.toNat c.toNat_lt
 rw[e]at h2
 exact h2 h
theorem CB {f line:Nat}{w:List UInt8}{c:UInt8}{r:List UInt8}(hw:kG w=true)(hc:d9 c=false):fO (f+1) line (w++c::r)=(fO f line (c::r)).map (⟨0,w,line⟩:: ·):=by
 simp only[kG,Bool.and_eq_true]at hw
 obtain⟨t1,t2⟩:=E9 (r:=r) hw.2 hc
 cases w with
 |nil=>simp at hw
 |cons x w=>
  have hx:d9 x=true:=(List.all_eq_true.1 hw.2) x List.mem_cons_self
  obtain⟨h1,h2,h3⟩:=E_ hx
  show fO (f+1) line (x::(w++c::r))=_
  rw[fO,if_neg h1,h2,if_neg (by simp),h3,if_neg (by simp),hx,if_pos rfl]
  show Option.map (⟨0,(x::w++c::r).takeWhile d9,line⟩:: ·) (fO f line ((x::w++c::r).dropWhile d9))=_
  rw[t1,t2]
inductive Pc where
 |w (l:List UInt8)
 |m (c:UInt8)
 |s
def zX:List Pc->List UInt8
 |[]=>[]
 | .w l::r=>l++zX r
 | .m c::r=>c::zX r
 | .s::r=>32::zX r
def Mn:List Pc->List Tok
 |[]=>[]
 | .w l::r=>⟨0,l,1⟩::Mn r
 | .m c::r=>⟨c,[],1⟩::Mn r
 | .s::r=>Mn r
def qG:List Pc->Bool
 |[]=>true
 | .w l:: .s::r=>kG l&&qG (.s::r)
 | .w l:: .m c::r=>kG l&&qG (.m c::r)
 | .w _::_=>false
 | .m c::r=>([59,123,125]:List UInt8).contains c&&qG r
 | .s::r=>qG r
theorem yb {c:UInt8}(h:([59,123,125]:List UInt8).contains c=true):c≠10/\wD c=false/\qE c=true/\d9 c=false:=by
 have:c=59\/c=123\/c=125:=by simpa using h
 rcases this with rfl|rfl|rfl <;> decide
theorem mX:∀(ps:List Pc),qG ps=true->fO (ps.length+1) 1 (zX ps)=some (Mn ps)
 |[],_=>rfl
 | .s::r,h=>by
  have ih:=mX r h
  show fO (r.length+1+1) 1 (32::zX r)=_
  rw[fO,if_neg (by decide),if_pos (by decide),ih]
  rfl
 | .m c::r,h=>by
  simp only[qG,Bool.and_eq_true]at h
  obtain⟨h1,h2,h3,_⟩:=yb h.1
  have ih:=mX r h.2
  show fO (r.length+1+1) 1 (c::zX r)=_
  rw[fO,if_neg h1,h2,if_neg (by simp),h3,if_pos rfl,ih]
  rfl
 | .w l:: .s::r,h=>by
  simp only[qG,Bool.and_eq_true]at h
  have ih:=mX (.s::r) h.2
  show fO ((Pc.s::r).length+1+1) 1 (l++32::zX r)=_
  rw[CB h.1 (by decide)]
  show Option.map _ (fO ((Pc.s::r).length+1) 1 (zX (.s::r)))=_
  rw[ih]
  rfl
 | .w l:: .m c::r,h=>by
  simp only[qG,Bool.and_eq_true]at h
  have ih:=mX (.m c::r) (by simp only[qG,Bool.and_eq_true];exact h.2)
  show fO ((Pc.m c::r).length+1+1) 1 (l++c::zX r)=_
  rw[CB h.1 (yb h.2.1).2.2.2]
  show Option.map _ (fO ((Pc.m c::r).length+1) 1 (zX (.m c::r)))=_
  rw[ih]
  rfl
def I6 (d t r:List UInt8):List Pc:=[.w [115,116,111,114,101],.s,.w d,.m 59,.s,.w [117,112,115,116,114,101,97,109],.s,.w [117,112],.s,.m 123,.s,.w [112,101,101,114],.s,.w [49],.s,.w [54,52],.m 59,.s,.w [116,105,109,101,111,117,116],.s,.w t,.m 59,.s,.w [114,101,116,114,105,101,115],.s,.w r,.m 59,.s,.m 125,.s,.w [115,101,114,118,101,114],.s,.m 123,.s,.w [108,111,99,97,116,105,111,110],.s,.w [47],.s,.m 123,.s,.w [114,101,116,117,114,110],.s,.w [50,48,48],.s,.w [104,101,114,101],.m 59,.s,.m 125,.s,.w [108,111,99,97,116,105,111,110],.s,.w [47,97,112,105],.s,.m 123,.s,.w [112,114,111,120,121],.s,.w [117,112],.m 59,.s,.w [99,97,99,104,101],.m 59,.s,.m 125,.s,.m 125]
def kH (d t r:List UInt8):List UInt8:=[115,116,111,114,101,32]++d++[59,32,117,112,115,116,114,101,97,109,32,117,112,32,123,32,112,101,101,114,32,49,32,54,52,59,32,116,105,109,101,111,117,116,32]++t++[59,32,114,101,116,114,105,101,115,32]++r++[59,32,125,32,115,101,114,118,101,114,32,123,32,108,111,99,97,116,105,111,110,32,47,32,123,32,114,101,116,117,114,110,32,50,48,48,32,104,101,114,101,59,32,125,32,108,111,99,97,116,105,111,110,32,47,97,112,105,32,123,32,112,114,111,120,121,32,117,112,59,32,99,97,99,104,101,59,32,125,32,125]
theorem I7 (d t r:List UInt8):zX (I6 d t r)=kH d t r:=by simp[zX,I6,kH]
theorem P9 {d t r:List UInt8}(hd:kG d=true)(ht:kG t=true)(hr:kG r=true):qG (I6 d t r)=true:=by
 simp only[I6,qG,hd,ht,hr,Bool.true_and]
 decide
def V0 (d t r:List UInt8):List NdR:=[⟨[],0,false,[1,2,6]⟩,⟨[[115,116,111,114,101],d],1,false,[]⟩,⟨[[117,112,115,116,114,101,97,109],[117,112]],1,true,[3,4,5]⟩,⟨[[112,101,101,114],[49],[54,52]],1,false,[]⟩,⟨[[116,105,109,101,111,117,116],t],1,false,[]⟩,⟨[[114,101,116,114,105,101,115],r],1,false,[]⟩,⟨[[115,101,114,118,101,114]],1,true,[7,9]⟩,⟨[[108,111,99,97,116,105,111,110],[47]],1,true,[8]⟩,⟨[[114,101,116,117,114,110],[50,48,48],[104,101,114,101]],1,false,[]⟩,⟨[[108,111,99,97,116,105,111,110],[47,97,112,105]],1,true,[10,11]⟩,⟨[[112,114,111,120,121],[117,112]],1,false,[]⟩,⟨[[99,97,99,104,101]],1,false,[]⟩]
def lV (d t r:List UInt8):TS:=⟨V0 d t r,[0],none⟩
theorem Fa (d t r:List UInt8):qF CA (Mn (I6 d t r))=some (lV d t r):=by kernel_rfl
end Go.Proofs.YtdjkdjepjahjfaaGreatDoor.TP
namespace Go.Proofs.YtdjkdjepjahjfaaGreatDoor.Sl
open Go Go.RowKit Sh
variable {P:Program} {W:World} {L L':List HP} {Kp:PK} {k:Value->WP}
theorem GG {t:TypeId}{l:List UInt8}[hs:StrT P t](h:∀g,aR W (pt g (.stringIter ⟨l.toArray⟩ 0)::L) (k (.pointer (some ⟨g,0,none⟩)))):aR W L (opN P (sn t (az l)) Kp k):=fun w hw=>by
 refine⟨?_⟩
 have hr:=run_range_string (P:=P) w t ⟨l.toArray⟩ hs.ut
 have:(sn t (az l)).run P w= .ok (.value (.pointer (some ⟨w.heap.size,0,none⟩))) (w.iter ⟨l.toArray⟩ 0):=by
  simp[sn,az,hr]
 rw[this]
 exact h _ _ (hw.alloc _)
theorem GH {t:TypeId}{l:List UInt8}{g i:Nat}(p:Pick L (pt g (.stringIter ⟨l.toArray⟩ i)) L')(hi:i<l.length)(ha:l[i].toNat<128)(h:aR W (pt g (.stringIter ⟨l.toArray⟩ (i+1))::L') (k (.tuple #[.bool true,.int .i64 (i:Int),.int .i32 (l[i].toNat:Int)]))):aR W L (opN P (py (.pointer (some ⟨g,0,none⟩)) true t) Kp k):=fun w hw=>by
 have hp:=hw.pick p
 refine⟨?_⟩
 have hg:=hp.pt_.1
 have hsz:i<(⟨l.toArray⟩:ByteArray).size:=by simpa [ByteArray.size]using hi
 have hd:=decode_ascii ⟨l.toArray⟩ i hsz (by show(l.toArray[i]).toNat<128;simpa using ha)
 have:(py (.pointer (some ⟨g,0,none⟩)) true t).run P w= .ok (.value (.tuple #[.bool true,.int .i64 (i:Int),.int .i32 (l[i].toNat:Int)])) (w.putObj g (.stringIter ⟨l.toArray⟩ (i+1))):=by
  simp only[py,Instr.next,getObj,setObj,Sem.run_bind,Sem.run,hg,Result.andThen,hsz,if_true,hd]
  simp[goInt,World.putObj]
  show((l.toArray[i]).toNat:Int)=_
  simp
 rw[this]
 exact h _ (hp.putO)
theorem GI {t:TypeId}{l:List UInt8}{g i:Nat}(p:Pick L (pt g (.stringIter ⟨l.toArray⟩ i)) L')(hi:¬i<l.length)(h:aR W L (k (.tuple #[.bool false]))):aR W L (opN P (py (.pointer (some ⟨g,0,none⟩)) true t) Kp k):=fun w hw=>by
 have hp:=hw.pick p
 refine⟨?_⟩
 have hg:=hp.pt_.1
 have hsz:¬i<(⟨l.toArray⟩:ByteArray).size:=by simpa [ByteArray.size]using hi
 have:(py (.pointer (some ⟨g,0,none⟩)) true t).run P w= .ok (.value (.tuple #[.bool false])) w:=by
  simp[py,Instr.next,getObj,Sem.run,hg,hsz]
 rw[this]
 exact h _ hw
end Go.Proofs.YtdjkdjepjahjfaaGreatDoor.Sl
namespace Go.Proofs.YtdjkdjepjahjfaaGreatDoor.TP
open Go Go.Proofs Go.RowKit Sh Sl T FD
def U0:List UInt8:=[59,123,125,35,34]
theorem tu {W:World}{l:List UInt8}{c:UInt8}(hc:c.toNat<128):Cn p_ 331 [az l,.int .i32 (c.toNat:Int)] W [] (fun _:Unit=> .bool (l.contains c)) (fun _=>[]):=by
 have hI:Cn p_ 155 [az l,.int .i32 (c.toNat:Int)] W [] (fun _:Unit=> .int .i64 (lY l c)) (fun _=>[]):=by
  (refine Shp.cn (Sg.g_ Tryz.call155 Tryz.func155 (an:={cuts:=[(11,[9])],loops:=[(5,[9]),(12,[12]),(38,[])],drs:=[(6,.ofL [(0,1),(1,1),(2,1),(3,1),(4,1),(5,1),(6,1)]),(7,.ofL [(0,1),(1,1),(2,1),(3,1),(4,1),(5,1),(6,1),(7,0),(8,1)]),(14,.ofL [(0,1),(1,1),(2,1),(3,1),(4,1),(5,1),(6,1),(7,1),(8,1),(9,1),(10,1)])]})) fun F=>?_;simp only[ca_,na_])
  (((refine o_ (Sl.gN ?hcq) ?_);(case hcq=>(first|omega|(simp only[List.length_nil,List.length_cons];omega)))));refine ab ?_;refine ab ?_;(((refine o_ (Sl.ce ?hcq) ?_);(case hcq=>(first|omega|(simp only[List.length_nil,List.length_cons];omega)))));refine o_ av ?_;refine ai ?_
  refine o_ (eG (q:= .u8)) ?_
  rw[show IntKind.u8.wrap (c.toNat:Int)=(c.toNat:Int) by simp only[IntKind.wrap,IntKind.bits,IntKind.signed];simp;omega]
  refine' aj (indexByte (l:=l) (c:=c)) ?hp fun _=>?_
  case hp=>exact .nil
  refine aq ?_
  refine aO () ?_
  exact .refl
 (refine Shp.cn (Sg.g_ Tryz.call331 Tryz.func331) fun F=>?_;simp only[ca_,na_])
 refine c_ hI fun _=>?_
 refine o_ dy ?_
 rw[show decide (0<=lY l c)=l.contains c by
  cases h:l.contains c with
  |true=>exact dT_ (e5.2 (by simpa using h))
  |false=>exact dF_ (fun h2=>by have:=e5.1 h2;simp at h;exact h this)]
 refine aO () ?_
 exact .refl
theorem U1 {W:World}{c:UInt8}{A:HP}(hc:c.toNat<128):Cn p_ 330 ([.int .i32 (c.toNat:Int)]++[]) W [A] (fun _:Unit=> .bool (!d9 c)) (fun _=>[A]):=by
 (refine Shp.cn (Sg.g_ Tryz.call330 Tryz.func330) fun F=>?_;simp only[ca_,na_])
 unfold d9
 by_cases h1:c.toNat<=32
 ·have:decide ((32:UInt8)<c/\c<127)=false:=dF_ (fun h=>by have:=UInt8.lt_iff_toNat_lt.1 h.1;simp at this;omega)
  rw[this,Bool.false_and]
  (((refine o_ (Sl.gN ?hcq) ?_);(case hcq=>(first|omega|(simp only[List.length_nil,List.length_cons];omega)))));refine aC ?_;refine aC ?_;refine o_ av ?_;refine aC ?_;refine aC ?_;refine o_ av ?_
  refine aO () ?_
  exact .refl
 by_cases h2:127<=c.toNat
 ·have:decide ((32:UInt8)<c/\c<127)=false:=dF_ (fun h=>by have:=UInt8.lt_iff_toNat_lt.1 h.2;simp at this;omega)
  rw[this,Bool.false_and]
  (((refine o_ (Sl.uo ?hcq) ?_);(case hcq=>(first|omega|(simp only[List.length_nil,List.length_cons];omega)))));refine ab ?_;refine ab ?_;(((refine o_ (Sl.jJ ?hcq) ?_);(case hcq=>(first|omega|(simp only[List.length_nil,List.length_cons];omega)))));refine o_ am ?_;refine aC ?_;refine aC ?_;refine o_ av ?_
  refine aO () ?_
  exact .refl
 have:decide ((32:UInt8)<c/\c<127)=true:=dT_ ⟨UInt8.lt_iff_toNat_lt.2 (by simp;omega),UInt8.lt_iff_toNat_lt.2 (by simp;omega)⟩
 rw[this,Bool.true_and,Bool.not_not]
 (((refine o_ (Sl.uo ?hcq) ?_);(case hcq=>(first|omega|(simp only[List.length_nil,List.length_cons];omega)))));refine ab ?_;refine ab ?_;(((refine o_ (Sl.eW ?hcq) ?_);(case hcq=>(first|omega|(simp only[List.length_nil,List.length_cons];omega)))));refine o_ am ?_;refine ab ?_;refine ab ?_
 refine' aj (tu (l:=U0) (c:=c) hc) ?hp fun _=>?_
 case hp=>exact .nil
 refine aq ?_
 refine o_ am (aO () ?_)
 exact .refl
theorem wE {W:World}{l:List UInt8}{f:FuncId}{p:UInt8->Bool}(ha:∀c∈l,c.toNat<128)(hf:∀c∈l,∀A:HP,Cn p_ f ([.int .i32 (c.toNat:Int)]++[]) W [A] (fun _:Unit=> .bool (p c)) (fun _=>[A])):
  Cn p_ 329 [az l,.func (.func f) #[] #[]] W [] (fun _:Unit=> .int .i64 (if l.any p then(l.findIdx p:Int)else-1)) (fun _=>[]):=by
 have hI:Cn p_ 406 [az l,.func (.func f) #[] #[],.bool true] W [] (fun _:Unit=> .int .i64 (if l.any p then(l.findIdx p:Int)else-1)) (fun _=>[]):=by
  (refine Shp.cn (Sg.g_ Tryz.call406 Tryz.func406 (an:={loops:=[(2,[])]})) fun F=>?_;simp only[ca_,na_])
  refine GG fun g=>?_
  refine jl (fun m=>[ex fun i:Nat=>all [pu (m+i=l.length/\(l.take i).any p=false),pt g (.stringIter ⟨l.toArray⟩ i)]]++F) l.length ?_ ?_
  ·refine Imp.ex 0 (.all ?_)
   refine aq ?_
   exact .pu ⟨by omega,rfl⟩ .refl
  intro m ds
  refine aq ?_
  refine bt Pick.here fun i=>aE Pick.here ?_
  refine aq ?_
  refine aX .here fun hi=>?_
  obtain⟨hm,hn⟩:=hi
  by_cases hlt:i<l.length
  ·refine GH .here hlt (ha _ (List.getElem_mem hlt)) ?_
   refine bI ?_;refine ai (bI ?_);refine bI ?_
   refine bB (cap:=[]) (hf _ (List.getElem_mem hlt) _) (.cons .here .nil) fun _=>?_
   refine aq ?_
   have hst:(l.take (i+1)).any p=((l.take i).any p||p l[i]):=by
    rw[List.take_succ_eq_append_getElem hlt,List.any_append];simp
   refine o_ (xd (by kernel_rfl)) ?_
   cases hp:p l[i]with
   |true=>
    have h1:l.any p=true:=List.any_eq_true.2 ⟨_,List.getElem_mem hlt,hp⟩
    have h2:l.findIdx p=i:=by
     rw[List.findIdx_eq hlt]
     refine⟨hp,fun j hj=>?_⟩
     have:=List.any_eq_false.1 hn l[j] (by rw[List.mem_take_iff_getElem];exact⟨j,by omega,rfl⟩)
     simpa using this
    rw[h1,if_pos rfl,h2,dT_ rfl]
    refine ai (aO () ?_)
    exact aA
   |false=>
    rw[dF_ (by simp)]
    refine af (oS (m-1) ?_ ?_)
    ·omega
    refine .ex (i+1) (.all ?_)
    refine aq ?_
    exact .pu ⟨by omega,by rw[hst,hn,hp];rfl⟩ .refl
  ·refine GI .here hlt ?_
   rw[List.take_of_length_le (by omega)]at hn
   rw[hn,if_neg (by simp)]
   refine bI ?_;refine af (aO () ?_)
   exact aA
 (refine Shp.cn (Sg.g_ Tryz.call329 Tryz.func329) fun F=>?_;simp only[ca_,na_])
 refine c_ hI fun _=>?_
 refine aO () ?_
 exact .refl
def lf (t:Tok):List Value:=[.int .u8 (t.mark.toNat:Int),az t.s,.int .i64 (t.line:Int)]
theorem Fb {f line:Nat}{ts:List Tok}(h:fO f line []=some ts):ts=[]:=by
 cases f with
 |zero=>cases h
 |succ f=>exact(Option.some.inj h).symm
theorem CC {f line:Nat}{c:UInt8}{r:List UInt8}{ts:List Tok}(h:fO f line (c::r)=some ts):
  (c=10/\∃f',fO f' (line+1) r=some ts)\/(c≠10/\wD c=true/\∃f',fO f' line r=some ts)\/(c≠10/\wD c=false/\qE c=true/\∃f' t2,fO f' line r=some t2/\ts=⟨c,[],line⟩::t2)\/(c≠10/\wD c=false/\qE c=false/\d9 c=true/\∃f' t2,fO f' line ((c::r).dropWhile d9)=some t2/\ts=⟨0,(c::r).takeWhile d9,line⟩::t2):=by
 cases f with
 |zero=>cases h
 |succ f=>
  rw[fO]at h
  split at h
  ·exact .inl ⟨by assumption,f,h⟩
  split at h
  ·exact .inr (.inl ⟨by assumption,by assumption,f,h⟩)
  split at h
  ·obtain⟨t2,h2,h3⟩:=Option.map_eq_some_iff.1 h
   exact .inr (.inr (.inl ⟨by assumption,by simp_all,by assumption,f,t2,h2,h3.symm⟩))
  split at h
  ·obtain⟨t2,h2,h3⟩:=Option.map_eq_some_iff.1 h
   exact .inr (.inr (.inr ⟨by assumption,by simp_all,by simp_all,by assumption,f,t2,h2,h3.symm⟩))
  ·cases h
theorem V1 {W:World}{l:List UInt8}{f0:Nat}{ts:List Tok}(h:fO f0 1 l=some ts)(ha:∀c∈l,c.toNat<128)(hl:l.length<=65536):Cn p_ 223 [az l] W [] (fun r:AC=> .tuple #[.slice r.1 ts.length r.2,.int .i64 0]) (fun r=>[Sl 3 360 r.1 r.2 ts.length (ts.flatMap lf)]):=by
 (refine Shp.cn (Sg.g_ Tryz.call223 Tryz.func223 (an:={cuts:=[(8,[6])],loops:=[(2,[0,2,4])]})) fun F=>?_;simp only[ca_,na_])
 refine f7 (fun m x y z=>[ex fun st:List UInt8 × List Tok × Nat × AC=>all [pu (m=st.1.length/\x=az st.1/\y= .slice st.2.2.2.1 st.2.1.length st.2.2.2.2/\z= .int .i64 (st.2.2.1:Int)/\(∃f t2,fO f st.2.2.1 st.1=some t2/\ts=st.2.1++t2)/\(∃k,st.1=l.drop k)/\st.2.1.length+st.1.length<=65536/\st.2.2.1+st.1.length<=65537),Sl 3 360 st.2.2.2.1 st.2.2.2.2 st.2.1.length (st.2.1.flatMap lf)]]++F) l.length ?_ ?_
 ·refine Imp.ex (l,[],1,(none,0)) (.all ?_)
  refine aq ?_
  exact .pu ⟨rfl,rfl,rfl,rfl,⟨f0,ts,h,rfl⟩,⟨0,rfl⟩,by simpa using hl,by(try dsimp only);omega⟩ (bO .refl)
 intro m ds x y z
 refine aq ?_
 refine bt Pick.here fun st=>aE Pick.here ?_
 obtain⟨s,tk,line,ra,rc⟩:=st
 refine aq ?_
 refine aX .here fun hi=>?_
 (try dsimp only at hi)
 obtain⟨rfl,rfl,rfl,rfl,⟨f,t2,hf,rfl⟩,⟨k,hk⟩,hle,hln⟩:=hi
 (try dsimp only)
 cases s with
 |nil=>
  have:=Fb hf
  subst this
  refine o_ (Sl.pW (m:=[]) (by simp)) ?_
  rw[List.append_nil]
  refine af (aO ((ra,rc)) ?_)
  exact .refl
 |cons c r=>
  have hsub:∀x∈c::r,x.toNat<128:=fun x hx=>ha x (by rw[hk]at hx;exact List.mem_of_mem_drop hx)
  have hc:=hsub c List.mem_cons_self
  have hr:r=l.drop (k+1):=by rw[<- List.drop_drop,<- hk];rfl
  simp only[List.length_cons]at hle hln
  have hix:∀ {W:World} {t:TypeId} [StrT p_ t],aT p_ W [] (ms t (az (c::r)) (.int .i64 0)) (.int .u8 (c.toNat:Int)):=eP 0 rfl (by simp)
  have hsl:∀ {W:World} {t:TypeId} [StrT p_ t],aT p_ W [] (oR t (az (c::r)) (some (.int .i64 1)) none none) (az r):=i4 1 rfl (by simp)
  refine o_ (Sl.Gj (m:=[]) (by simp)) ?_
  refine ai (o_ hix ?_)
  rcases CC hf with ⟨rfl,f',h1⟩|⟨h10,hb,f',h1⟩|⟨h10,hb,hm,f',t3,h1,rfl⟩|⟨h10,hb,hm,hw,f',t3,h1,rfl⟩
  ·refine o_ (Sl.cv rfl) ?_
   refine ai (bS ?_)
   refine o_ hsl ?_
   refine cH r.length ?_ ?_
   ·simp
   refine .ex (r,tk,line+1,(ra,rc)) (.all ?_)
   refine aq ?_
   exact .pu ⟨rfl,rfl,rfl,by simp,⟨f',t2,h1,rfl⟩,⟨k+1,hr⟩,by(try dsimp only);omega,by(try dsimp only);omega⟩ .refl
  ·have h10':¬(c.toNat:Int)=10:=fun e=>h10 (UInt8.toNat_inj.1 (by show c.toNat=10;omega))
   have hb':c.toNat=9\/c.toNat=13\/c.toNat=32:=by
    rcases of_decide_eq_true hb with h|h|h
    ·exact .inl (by rw[h];rfl)
    ·exact .inr (.inl (by rw[h];rfl))
    ·exact .inr (.inr (by rw[h];rfl))
   rcases hb' with hb'|hb'|hb'
   all_goals
    (first|((((refine o_ (Sl.bL ?hcq) ?_);(case hcq=>(first|omega|(simp only[List.length_nil,List.length_cons];omega)))));refine af ?_;(((refine o_ (Sl.cv ?hcq) ?_);(case hcq=>(first|omega|(simp only[List.length_nil,List.length_cons];omega)))));refine aC ?_;refine aC ?_;refine o_ av ?_;refine aC ?_;refine aC ?_;refine o_ av ?_;(refine ai ?_))|((((refine o_ (Sl.bL ?hcq) ?_);(case hcq=>(first|omega|(simp only[List.length_nil,List.length_cons];omega)))));refine af ?_;(((refine o_ (Sl.bL ?hcq) ?_);(case hcq=>(first|omega|(simp only[List.length_nil,List.length_cons];omega)))));refine ab ?_;refine ab ?_;(((refine o_ (Sl.cv ?hcq) ?_);(case hcq=>(first|omega|(simp only[List.length_nil,List.length_cons];omega)))));refine o_ am ?_;refine aC ?_;refine aC ?_;refine o_ av ?_;(refine ai ?_))|((((refine o_ (Sl.bL ?hcq) ?_);(case hcq=>(first|omega|(simp only[List.length_nil,List.length_cons];omega)))));refine af ?_;(((refine o_ (Sl.bL ?hcq) ?_);(case hcq=>(first|omega|(simp only[List.length_nil,List.length_cons];omega)))));refine ab ?_;refine ab ?_;(((refine o_ (Sl.bL ?hcq) ?_);(case hcq=>(first|omega|(simp only[List.length_nil,List.length_cons];omega)))));refine o_ am ?_;refine ab ?_;refine ab ?_;(((refine o_ (Sl.cv ?hcq) ?_);(case hcq=>(first|omega|(simp only[List.length_nil,List.length_cons];omega)))));refine o_ am ?_;(refine ai ?_)))
    refine o_ hsl ?_
    refine cH r.length ?_ ?_
    ·simp
    refine .ex (r,tk,line,(ra,rc)) (.all ?_)
    refine aq ?_
    exact .pu ⟨rfl,rfl,rfl,rfl,⟨f',t2,h1,rfl⟩,⟨k+1,hr⟩,by(try dsimp only);omega,by(try dsimp only);omega⟩ .refl
  ·have hm':c=59\/c=123\/c=125:=by simpa [qE]using hm
   have hix3:0<=lY [59,123,125] c:=e5.2 (by rcases hm' with rfl|rfl|rfl <;> decide)
   have hcn:c.toNat=59\/c.toNat=123\/c.toNat=125:=by rcases hm' with rfl|rfl|rfl <;> decide
   (((refine o_ (Sl.bL ?hcq) ?_);(case hcq=>(first|omega|(simp only[List.length_nil,List.length_cons];omega)))));refine af ?_;(((refine o_ (Sl.bL ?hcq) ?_);(case hcq=>(first|omega|(simp only[List.length_nil,List.length_cons];omega)))));refine ab ?_;refine ab ?_;(((refine o_ (Sl.bL ?hcq) ?_);(case hcq=>(first|omega|(simp only[List.length_nil,List.length_cons];omega)))));refine o_ am ?_;refine ab ?_;refine ab ?_;(((refine o_ (Sl.bL ?hcq) ?_);(case hcq=>(first|omega|(simp only[List.length_nil,List.length_cons];omega)))));refine o_ am ?_;refine af ?_;(((refine o_ (Sl.bL ?hcq) ?_);(case hcq=>(first|omega|(simp only[List.length_nil,List.length_cons];omega)))));refine af ?_
   refine' aj (indexByte (l:=[59,123,125]) (c:=c)) ?hp fun _=>?_
   case hp=>exact .nil
   refine aq ?_
   (((refine o_ (Sl.jJ ?hcq) ?_);(case hcq=>(first|omega|(simp only[List.length_nil,List.length_cons];omega)))));refine ai ?_;refine o_ bM ?_
   refine d7 (n:=1) (vs:=[.agg #[.int .u8 (c.toNat:Int),az [],.int .i64 (line:Int)]]) rfl (by decide) rfl (by intro v hv;rw[List.mem_singleton.1 hv];rfl) (by decide) fun gb=>?_
   refine bV (m:=1) (news:=lf ⟨c,[],line⟩) (by(repeat constructor):Pick _ (Sl 3 360 ra rc tk.length (tk.flatMap lf)) _) (bR (s:=3) (e':=360) (by kernel_rfl) .here (by rfl) (by intro u hu;simp[Value.cells]at hu;rcases hu with rfl|rfl|rfl <;> rfl)) (by omega) (by omega) fun a' c'=>?_
   refine o_ hsl ?_
   refine cH r.length ?_ ?_
   ·simp
   refine .ex (r,tk++[⟨c,[],line⟩],line,(a',c')) (.all ?_)
   refine aq ?_
   (try dsimp only)
   rw[List.length_append,List.flatMap_append]
   refine .pu ⟨rfl,rfl,rfl,rfl,⟨f',t3,h1,by simp⟩,⟨k+1,hr⟩,by simp;omega,by omega⟩ ?_
   exact .pick .here aA
  ·have hw':=hw
   simp only[d9,Bool.and_eq_true,Bool.not_eq_true',List.contains_eq_mem,decide_eq_true_eq,decide_eq_false_iff_not]at hw'
   obtain⟨⟨w1,w2⟩,w3⟩:=hw'
   have w1:32<c.toNat:=by have:=UInt8.lt_iff_toNat_lt.1 w1;simpa using this
   have w2:c.toNat<127:=by have:=UInt8.lt_iff_toNat_lt.1 w2;simpa using this
   have hne:∀n:Nat,n<256->(UInt8.ofNat n)∈([59,123,125,35,34]:List UInt8)->¬(c.toNat:Int)=(n:Int):=fun n hn hmm e=>w3 (by
    have:c=UInt8.ofNat n:=UInt8.toNat_inj.1 (by rw[UInt8.toNat_ofNat'];omega)
    rw[this];exact hmm)
   have n35:=hne 35 (by decide) (by decide)
   have n34:=hne 34 (by decide) (by decide)
   have hix3:lY [59,123,125] c<0:=by
    have:c∉([59,123,125]:List UInt8):=fun hx=>w3 (by simp at hx ⊢;rcases hx with h|h|h <;> simp[h])
    have:=mt e5.1 this
    omega
   (((refine o_ (Sl.bL ?hcq) ?_);(case hcq=>(first|omega|(simp only[List.length_nil,List.length_cons];omega)))));refine af ?_;(((refine o_ (Sl.bL ?hcq) ?_);(case hcq=>(first|omega|(simp only[List.length_nil,List.length_cons];omega)))));refine ab ?_;refine ab ?_;(((refine o_ (Sl.bL ?hcq) ?_);(case hcq=>(first|omega|(simp only[List.length_nil,List.length_cons];omega)))));refine o_ am ?_;refine ab ?_;refine ab ?_;(((refine o_ (Sl.bL ?hcq) ?_);(case hcq=>(first|omega|(simp only[List.length_nil,List.length_cons];omega)))));refine o_ am ?_;refine af ?_;(((refine o_ (Sl.bL ?hcq) ?_);(case hcq=>(first|omega|(simp only[List.length_nil,List.length_cons];omega)))));refine af ?_
   refine' aj (indexByte (l:=[59,123,125]) (c:=c)) ?hp fun _=>?_
   case hp=>exact .nil
   refine aq ?_
   (((refine o_ (Sl.eW ?hcq) ?_);(case hcq=>(first|omega|(simp only[List.length_nil,List.length_cons];omega)))));refine af ?_;(((refine o_ (Sl.bL ?hcq) ?_);(case hcq=>(first|omega|(simp only[List.length_nil,List.length_cons];omega)))));refine af ?_;(((refine o_ (Sl.uo ?hcq) ?_);(case hcq=>(first|omega|(simp only[List.length_nil,List.length_cons];omega)))));refine ab ?_;refine ab ?_;(((refine o_ (Sl.eW ?hcq) ?_);(case hcq=>(first|omega|(simp only[List.length_nil,List.length_cons];omega)))));refine o_ am ?_;refine af ?_
   refine' aj (wE (l:=c::r) (f:=330) (p:=fun c=>!d9 c) hsub (fun c hc A=>U1 (hsub c hc))) ?hp fun _=>?_
   case hp=>exact .nil
   refine aq ?_
   obtain⟨n,hn⟩:∃n,n=(c::r).findIdx (fun c=>!d9 c):=⟨_,rfl⟩
   have hnl:n<=(c::r).length:=by rw[hn];exact List.findIdx_le_length
   have htk:(c::r).takeWhile d9=(c::r).take n:=by rw[hn,List.takeWhile_eq_take_findIdx_not]
   have hdr:(c::r).dropWhile d9=(c::r).drop n:=by rw[hn,List.dropWhile_eq_drop_findIdx_not]
   have hn0:0<n:=by
    rw[hn,List.findIdx_cons,hw];simp
   rw[hdr]at h1
   rw[htk]
   refine dt (fun x=>pu (x= .int .i64 (n:Int))::Sl 3 360 ra rc tk.length (tk.flatMap lf)::F) ?_ ?_
   rotate_left
   ·cases hany:(c::r).any (fun c=>!d9 c)with
    |true=>
     rw[if_pos rfl,<- hn]
     (((refine o_ (Sl.bJ ?hcq) ?_);(case hcq=>(first|omega|(simp only[List.length_nil,List.length_cons];omega)))));refine af ?_
     exact aI (.pu rfl .refl)
    |false=>
     rw[if_neg (by simp)]
     have:n=(c::r).length:=by rw[hn];exact List.findIdx_eq_length.2 (fun x hx=>by have:=List.any_eq_false.1 hany x hx;simpa using this)
     rw[this]
     (((refine o_ (Sl.ce ?hcq) ?_);(case hcq=>(first|omega|(simp only[List.length_nil,List.length_cons];omega)))));refine ai ?_;refine o_ bC ?_
     exact aI (.pu rfl .refl)
   intro ds z
   refine aX .here fun hz=>?_
   subst hz
   refine o_ (j4 n rfl hnl) ?_
   refine o_ bM ?_
   refine d7 (n:=1) (vs:=[.agg #[.int .u8 0,az ((c::r).take n),.int .i64 (line:Int)]]) rfl (by decide) rfl (by intro v hv;rw[List.mem_singleton.1 hv];rfl) (by decide) fun gb=>?_
   refine bV (m:=1) (news:=lf ⟨0,(c::r).take n,line⟩) (by(repeat constructor):Pick _ (Sl 3 360 ra rc tk.length (tk.flatMap lf)) _) (bR (s:=3) (e':=360) (by kernel_rfl) .here (by rfl) (by intro u hu;simp[Value.cells]at hu;rcases hu with rfl|rfl|rfl <;> rfl)) (by omega) (by omega) fun a' c'=>?_
   refine o_ (i4 n rfl hnl) ?_
   have hdl:((c::r).drop n).length=r.length+1-n:=by simp
   refine cH ((c::r).drop n).length ?_ ?_
   ·rw[hdl];simp;omega
   refine .ex ((c::r).drop n,tk++[⟨0,(c::r).take n,line⟩],line,(a',c')) (.all ?_)
   refine aq ?_
   (try dsimp only)
   rw[List.length_append,List.flatMap_append]
   refine .pu ⟨rfl,rfl,rfl,rfl,⟨f',t3,h1,by simp⟩,⟨k+n,by rw[<- List.drop_drop,<- hk]⟩,by rw[hdl];simp;omega,by rw[hdl];omega⟩ ?_
   exact .pick .here aA
def lZ (g:Nat):Value:= .pointer (some ⟨g,0,none⟩)
def zv (n:NdR)(w k:AC):List Value:=[.slice w.1 n.words.length w.2,.int .i64 (n.line:Int),.bool n.block,.slice k.1 n.kids.length k.2]
def GJ (gs:Nat->Nat)(n:NdR)(g:Nat):HP:=ex fun q:AC × AC=>all [pt g (.cells (zv n q.1 q.2).toArray 269),Sl 1 9 q.1.1 q.1.2 n.words.length (n.words.map az),Sl 1 270 q.2.1 q.2.2 n.kids.length (n.kids.map fun k=>lZ (gs k))]
def zw (gs:Nat->Nat)(s:TS):HP:=BS s.nodes.length (fun i=>GJ gs (s.nd i) (gs i))
theorem Fc {W:World}{L L':List HP}{gs:Nat->Nat}{s:TS}{i:Nat}{S:WP}(q:Pick L (zw gs s) L')(hi:i<s.nodes.length)(h:∀w k:AC,aR W (pt (gs i) (.cells (zv (s.nd i) w k).toArray 269)::Sl 1 9 w.1 w.2 (s.nd i).words.length ((s.nd i).words.map az)::Sl 1 270 k.1 k.2 (s.nd i).kids.length ((s.nd i).kids.map fun k=>lZ (gs k))::BH s.nodes.length (fun i=>GJ gs (s.nd i) (gs i)) i::L') S):aR W L S:=
 oq q i hi (bt .here fun x=>aE .here (h x.1 x.2))
theorem wF {s:TS}{i j:Nat}{n:NdR}:(s.upd i n).nd j=if i=j/\j<s.nodes.length then n else s.nd j:=by
 unfold TS.upd TS.nd
 rw[List.getD_eq_getElem?_getD,List.getD_eq_getElem?_getD,List.getElem?_set]
 by_cases h:i=j
 ·subst h
  by_cases h2:i<s.nodes.length
  ·simp[h2]
  ·simp[h2]
 ·simp[h]
theorem yd {s:TS}{i:Nat}{n:NdR}:(s.upd i n).nodes.length=s.nodes.length:=by simp[TS.upd]
theorem Fe {W:World}{L L1 L2 L3 L' M:List HP}{gs:Nat->Nat}{s:TS}{i:Nat}{n:NdR}{w k:AC}(hi:i<s.nodes.length)(q:Pick L (pt (gs i) (.cells (zv n w k).toArray 269)) L1)(q1:Pick L1 (Sl 1 9 w.1 w.2 n.words.length (n.words.map az)) L2)(q2:Pick L2 (Sl 1 270 k.1 k.2 n.kids.length (n.kids.map fun k=>lZ (gs k))) L3)(q3:Pick L3 (BH s.nodes.length (fun i=>GJ gs (s.nd i) (gs i)) i) L')(h:Imp W L' M):Imp W L (zw gs (s.upd i n)::M):=by
 unfold zw
 rw[yd]
 refine my i hi (fun j hj hne=>by rw[wF,if_neg (fun c=>hne c.1.symm)]) ?_
 rw[wF,if_pos ⟨rfl,hi⟩]
 exact .ex (w,k) (.all (.pick q (.pick q1 (.pick q2 (.pick q3 h)))))
theorem CD {W:World}{g:Nat}{cs:Array Value}:Cn p_ 224 ([.bool false]++[.pointer (some ⟨g,0,none⟩)]) W [pt g (.cells cs 360)] (fun _:Unit=> .tuple #[]) (fun _=>[pt g (.cells cs 360)]):=by
 (refine Shp.cn (Sg.g_ Tryz.call224 Tryz.func224) fun F=>?_;simp only[ca_,na_])
 refine af (aO () ?_)
 exact .refl
def I8 (gs:Nat->Nat):Option Nat->Value
 |none=> .pointer none
 |some k=>lZ (gs k)
theorem Ff {s:TS}(h:gA s=true):0<s.opn.length/\s.opn.length<=4/\s.nodes.length<=1000/\(∀k∈s.opn,k<s.nodes.length)/\(∀k,s.now=some k->k<s.nodes.length)/\(∀i,i<s.nodes.length->(s.nd i).words.length<=1000/\(s.nd i).kids.length<=1000/\∀k∈(s.nd i).kids,k<s.nodes.length):=by
 simp only[gA,Bool.and_eq_true,decide_eq_true_eq,List.all_eq_true]at h
 obtain⟨⟨⟨⟨h1,h2,h3⟩,h4⟩,h5⟩,h6⟩:=h
 refine⟨h1,h2,h3,h4,fun k hk=>by rw[hk]at h5;simpa using h5,fun i hi=>?_⟩
 have:=h6 (s.nd i) (by unfold TS.nd;rw[List.getD_eq_getElem?_getD,List.getElem?_eq_getElem hi];exact List.getElem_mem hi)
 exact⟨this.1.1,this.1.2,this.2⟩
theorem ye {s:TS}(h:0<s.opn.length):s.opn[s.opn.length-1]? =some s.top:=by
 unfold TS.top
 rw[List.getLast?_eq_getElem?,List.getElem?_eq_getElem (by omega)]
 rfl
theorem Fg {W:World}{L:List HP}{gs:Nat->Nat}{s:TS}{n:NdR}{g:Nat}(h:∀i,i<s.nodes.length->∀k∈(s.nd i).kids,k<s.nodes.length)(hn:∀k∈n.kids,k<s.nodes.length):Imp W (zw gs s::GJ gs n g::L) (zw (fun i=>if i=s.nodes.length then g else gs i) {s with nodes:=s.nodes++[n]}::L):=by
 have hk:∀(m:NdR),(∀k∈m.kids,k<s.nodes.length)->(m.kids.map fun k=>lZ (if k=s.nodes.length then g else gs k))=m.kids.map fun k=>lZ (gs k):=fun m hm=>List.map_congr_left fun k hk=>by rw[if_neg (by have:=hm k hk;omega)]
 unfold zw
 simp only[List.length_append,List.length_cons,List.length_nil,Nat.zero_add]
 refine sy (F:=fun i=>GJ gs (s.nd i) (gs i)) (fun j hj=>?_) ?_
 ·have e:TS.nd {s with nodes:=s.nodes++[n]} j=s.nd j:=by
   unfold TS.nd
   rw[List.getD_eq_getElem?_getD,List.getD_eq_getElem?_getD,List.getElem?_append_left hj]
  rw[e,if_neg (by omega)]
  unfold GJ
  rw[hk _ (h j hj)]
 ·have e:TS.nd {s with nodes:=s.nodes++[n]} s.nodes.length=n:=by
   unfold TS.nd
   rw[List.getD_eq_getElem?_getD];simp
  rw[e,if_pos rfl]
  unfold GJ
  rw[hk _ hn]
  exact .refl
def dV (inn:List UInt8)(least most:Int)(blk many:Bool)(f:Value):Value:= .agg #[az inn,.int .i64 least,.int .i64 most,.bool blk,.bool many,f]
def kI (b:Nat):Value:= .func (.func 327) #[] #[.pointer (some ⟨b,0,none⟩)]
theorem u9 {W:World}{f:FuncId}:Cn p_ 215 [.func (.func f) #[] #[]] W [] kI (fun b=>[pt b (.cells #[.func (.func f) #[] #[]] 355)]):=by
 (refine Shp.cn (Sg.g_ Tryz.call215 Tryz.func215) fun F=>?_;simp only[ca_,na_])
 refine cA fun g=>?_;refine o_ bP (aO g ?_)
 exact .refl
def n5:List UInt8:=[108,111,99,97,116,105,111,110]
theorem u_ {W:World}{b g:Nat}{nm:List UInt8}{least most:Int}{fv:Value}[hfv:OC fv]{f:List UInt8->Option Value}:Cn p_ 211 ([az nm,.int .i64 least,.int .i64 most,fv]++[.pointer (some ⟨b,0,none⟩)]) W [pt b (.cells #[.map (some g)] 265),bN g az f] (fun _:Unit=> .tuple #[]) (fun _=>[pt b (.cells #[.map (some g)] 265),bN g az (dS f nm (some (dV n5 least most false false fv)))]):=by
 (refine Shp.cn (Sg.g_ Tryz.call211 Tryz.func211) fun F=>?_;simp only[ca_,na_])
 refine aM ?_;refine o_ bM ?_
 refine dC (fw Tryz.underlying9) (by repeat constructor) ?_
 refine aO () ?_
 exact aA
theorem e6 {W:World}{L:List HP}{A B:WP}(h1:aR W L A)(h2:aR W L B):aR W L (zZ A B):=fun w hw=>⟨h1 w hw,h2 w hw⟩
structure Bs where
 st:Int
 up:Option (Int × Int)
 prs:List (Int × Int)
 sv:Bool
 lcs:List (List Value)
def Ta (p:Int × Int):List Value:=[.int .i64 p.1,.int .i64 p.2]
def nU:Option (Int × Int)->Nat
 |none=>0
 |some _=>1
def Fh (up:Option (Int × Int))(n:Nat)(ap:AC):List Value:=match up with
 |none=>[]
 |some x=>[az q8,.slice ap.1 n ap.2,.int .i64 x.1,.int .i64 x.2]
def CE (sv:Bool)(n:Nat)(al:AC):List Value:=if sv then [.slice none 0 0,.bool false,.slice al.1 n al.2]else []
def nS (sv:Bool):Nat:=if sv then 1 else 0
def lh (s:Bs)(ln:Int)(au asv:AC):List Value:=[.int .i64 75,.int .i64 65536,.int .i64 s.st,.int .i64 1000,.slice au.1 (nU s.up) au.2,.slice asv.1 (nS s.sv) asv.2,.int .i64 ln]
def mY (b:Nat)(s:Bs)(ln:Int)(q:Ca):List HP:=[pt b (.cells (lh s ln q.u q.s).toArray 263),Sl 4 145 q.u.1 q.u.2 (nU s.up) (Fh s.up s.prs.length q.p),Sl 2 315 q.p.1 q.p.2 s.prs.length (s.prs.flatMap Ta),Sl 3 200 q.s.1 q.s.2 (nS s.sv) (CE s.sv s.lcs.length q.l),Sl 12 101 q.l.1 q.l.2 s.lcs.length s.lcs.flatten]
def dF (b:Nat)(s:Bs)(ln:Int):HP:=ex fun q:Ca=>all (mY b s ln q)
theorem oL {W:World}{L L':List HP}{b:Nat}{s:Bs}{ln:Int}{S:WP}(p:Pick L (dF b s ln) L')(h:∀q:Ca,aR W (mY b s ln q++L') S):aR W L S:=bt p fun q=>aE .here (h q)
theorem kT {W:World}[hG:Gl W]{b:Nat}{w:List UInt8}{n:Int}(hw:w.length<=65536)(h:cS w=(n,0)):Cn p_ 221 [.pointer (some ⟨b,0,none⟩),az w] W [] (fun _:Unit=> .int .i64 n) (fun _=>[]):=by
 (refine Shp.cn (Sg.g_ Tryz.call221 Tryz.func221) fun F=>?_;simp only[ca_,na_])
 refine c_ (jx (l:=w) (by omega)) fun _=>?_
 rw[h]
 refine bI ?_;refine bI ?_;(((refine o_ (Sl.cE ?hcq) ?_);(case hcq=>(first|omega|(simp only[List.length_nil,List.length_cons];omega)))));refine af (aO () ?_)
 exact aA
theorem I9 {W:World}{b:Nat}{s:Bs}{ln:Int}{q:Ca}{g c:Nat}{x:Int × Int}(hu:s.up=some x)(hq:q.u=(some ⟨g,0,none⟩,c)):Cn p_ 319 [.pointer (some ⟨b,0,none⟩)] W [pt b (.cells (lh s ln q.u q.s).toArray 263)] (fun _:Unit=> .pointer (some ⟨g,0,none⟩)) (fun _=>[pt b (.cells (lh s ln q.u q.s).toArray 263)]):=by
 (refine Shp.cn (Sg.g_ Tryz.call319 Tryz.func319 (an:={drs:=[(1,.ofL [(0,1),(1,1),(2,1),(3,1),(4,1),(5,1),(6,1),(7,1),(8,1),(9,1),(10,1),(11,1),(12,1),(13,1)])]})) fun F=>?_;simp only[ca_,na_])
 unfold lh
 rw[hq,hu,show nU (some x)=1 from rfl]
 refine aV (t_ ah (t_ ae (t_ ae (cu ?_))));refine t_ ah (t_ ae (t_ ae (cu ?_)));refine t_ aK ?_;(refine t_ (gI (by omega) (by omega)) ?_)
 refine t_ (eA 0 rfl (by decide)) ?_
 rw[Nat.zero_mul,Nat.add_zero]
 refine aO () ?_
 exact aA
theorem kU {W:World}{b:Nat}{s:Bs}{ln:Int}{q:Ca}{g c:Nat}(hu:s.sv=true)(hq:q.s=(some ⟨g,0,none⟩,c)):Cn p_ 324 [.pointer (some ⟨b,0,none⟩)] W [pt b (.cells (lh s ln q.u q.s).toArray 263)] (fun _:Unit=> .pointer (some ⟨g,0,none⟩)) (fun _=>[pt b (.cells (lh s ln q.u q.s).toArray 263)]):=by
 (refine Shp.cn (Sg.g_ Tryz.call324 Tryz.func324 (an:={drs:=[(1,.ofL [(0,1),(1,1),(2,1),(3,1),(4,1),(5,1),(6,1),(7,1),(8,1),(9,1),(10,1),(11,1),(12,1),(13,1)])]})) fun F=>?_;simp only[ca_,na_])
 unfold lh
 rw[hq,hu,show nS true=1 from rfl]
 refine aV (t_ ah (t_ ae (t_ ae (cu ?_))));refine t_ ah (t_ ae (t_ ae (cu ?_)));refine t_ aK ?_;(refine t_ (gI (by omega) (by omega)) ?_)
 refine t_ (eA 0 rfl (by decide)) ?_
 rw[Nat.zero_mul,Nat.add_zero]
 refine aO () ?_
 exact aA
theorem zy {W:World}{b:Nat}{s:Bs}{ln:Int}{q:Ca}{g c gl cl:Nat}(hu:s.sv=true)(hq:q.s=(some ⟨g,0,none⟩,c))(hl:q.l=(some ⟨gl,0,none⟩,cl))(h0:0<s.lcs.length)(h1:s.lcs.length<=32):Cn p_ 213 [.pointer (some ⟨b,0,none⟩)] W [pt b (.cells (lh s ln q.u q.s).toArray 263),Sl 3 200 q.s.1 q.s.2 (nS s.sv) (CE s.sv s.lcs.length q.l)] (fun _:Unit=> .pointer (some ⟨gl,(s.lcs.length-1) * 12,none⟩)) (fun _=>[pt b (.cells (lh s ln q.u q.s).toArray 263),Sl 3 200 q.s.1 q.s.2 (nS s.sv) (CE s.sv s.lcs.length q.l)]):=by
 (refine Shp.cn (Sg.g_ Tryz.call213 Tryz.func213 (an:={drs:=[(2,.ofL [(0,1),(1,1),(2,1),(3,1),(4,1),(5,1),(6,1),(7,1),(8,1),(9,1),(10,1),(11,1)])]})) fun F=>?_;simp only[ca_,na_])
 refine' aj (kU (b:=b) (s:=s) (ln:=ln) (q:=q) hu hq) ?hp fun _=>?_
 case hp=>exact .cons (by repeat constructor) .nil
 refine aq ?_
 rw[hq,hu,show nS true=1 from rfl,show CE true s.lcs.length q.l=[.slice none 0 0,.bool false,.slice q.l.1 s.lcs.length q.l.2]from rfl,hl]
 (try dsimp only)
 refine aV (t_ ah (t_ ae ?_));(((refine' aP (bF ?hc) ?hi ?_);(case hi=>exact aA);(case hc=>rfl)));refine t_ ah (t_ ae ?_);(((refine' aP (bF ?hc) ?hi ?_);(case hi=>exact aA);(case hc=>rfl)));refine t_ aK ?_;(refine t_ (gI (by omega) (by omega)) ?_)
 refine t_ (eA (s.lcs.length-1) (by omega) (by omega)) ?_
 rw[Nat.zero_add]
 refine aO () ?_
 exact aA
variable {W:World} {b n c:Nat} {s:Bs} {ln:Int} {a:Option Addr} {A:HP}
theorem q_ {ws:List (List UInt8)}{j:Nat}(h:j<ws.length):(ws.map az)[j]? =some (az ws[j]):=by simp[h]
def zA (f:FuncId)(x:Nat):HP:=pt x (.cells #[fn f] 355)
theorem I_ [hG:Gl W]{x:Nat}{w:List UInt8}{v:Int}(hA:RdB W A a 1 ([w].map az))(hw:w.length<=65536)(hv:cS w=(v,0)):Cn p_ 327 ([.pointer (some ⟨b,0,none⟩),.slice a 1 c]++[.pointer (some ⟨x,0,none⟩)]) W [dF b s ln,A,zA 315 x] (fun _:Unit=> .tuple #[]) (fun _=>[dF b {s with st:=v} ln,A,zA 315 x]):=by
 obtain⟨ga,oa,rfl,_⟩:=hA.at_ (by omega)
 have hto:Cn p_ 315 [.pointer (some ⟨b,0,none⟩)] W [] (fun _:Unit=> .pointer (some ⟨b,2,none⟩)) (fun _=>[]):=by
  (refine Shp.cn (Sg.g_ Tryz.call315 Tryz.func315) fun F=>?_;simp only[ca_,na_])
  refine o_ ah (o_ ae (o_ ae (aO () ?_)))
  exact .refl
 (refine Shp.cn (Sg.g_ Tryz.call327 Tryz.func327 (an:={drs:=[(0,.ofL [(0,1),(1,1),(3,2),(4,2),(5,3),(6,3),(2,0),(7,0),(8,1),(9,0)])]}) (os:=[(0,[(2,[6,5])])])) fun F=>?_;simp only[ca_,na_])
 unfold zA
 refine aV (cu ?_);(((refine' ay (br 0 rfl ?hcq) .nil ?_);(case hcq=>(first|omega|decide|(simp;done)))))
 refine ay (dI (j:=0) hA (q_ (ws:=[w]) (j:=0) (by simp))) aA ?_
 refine' aj hto ?hp fun _=>?_
 case hp=>exact .nil
 refine aq ?_
 refine aY ?_;refine aY ?_
 refine' aj (kT (b:=b) hw hv) ?hp fun _=>?_
 case hp=>exact .nil
 refine aq ?_
 refine oL (by repeat constructor) fun q=>?_
 unfold mY lh
 refine aq ?_
 refine t_ ah (bU ?_)
 refine aO () ?_
 refine .ex q (.all ?_)
 unfold mY lh
 refine aq ?_
 exact aA
theorem CF [hG:Gl W]{x:Nat}{w:List UInt8}{v:Int}{u:Int × Int}(hu:s.up=some u)(hA:RdB W A a 1 ([w].map az))(hw:w.length<=65536)(hv:cS w=(v,0)):Cn p_ 327 ([.pointer (some ⟨b,0,none⟩),.slice a 1 c]++[.pointer (some ⟨x,0,none⟩)]) W [dF b s ln,A,zA 320 x] (fun _:Unit=> .tuple #[]) (fun _=>[dF b {s with up:=some (v,u.2)} ln,A,zA 320 x]):=by
 obtain⟨ga,oa,rfl,_⟩:=hA.at_ (by omega)
 (refine Shp.cn (Sg.g_ Tryz.call327 Tryz.func327 (an:={drs:=[(0,.ofL [(0,1),(1,1),(3,2),(4,2),(5,3),(6,3),(2,0),(7,0),(8,1),(9,0)])]}) (os:=[(0,[(2,[6,5])])])) fun F=>?_;simp only[ca_,na_])
 unfold zA
 refine aV (cu ?_);(((refine' ay (br 0 rfl ?hcq) .nil ?_);(case hcq=>(first|omega|decide|(simp;done)))))
 refine oL (by repeat constructor) fun q=>?_
 unfold mY
 rw[hu]
 refine be (by(repeat constructor):Pick _ (Sl 4 145 q.u.1 q.u.2 _ _) _) (Nat.zero_lt_one) fun g hg=>?_
 obtain⟨⟨u1,u2⟩,qp,qs,ql⟩:=q
 (try dsimp only at hg)
 subst hg
 have hto:Cn p_ 320 [.pointer (some ⟨b,0,none⟩)] W [pt b (.cells (lh s ln (some ⟨g,0,none⟩,u2) qs).toArray 263)] (fun _:Unit=> .pointer (some ⟨g,2,none⟩)) (fun _=>[pt b (.cells (lh s ln (some ⟨g,0,none⟩,u2) qs).toArray 263)]):=by
  (refine Shp.cn (Sg.g_ Tryz.call320 Tryz.func320) fun F=>?_;simp only[ca_,na_])
  refine' aj (I9 (b:=b) (s:=s) (ln:=ln) (q:=⟨(some ⟨g,0,none⟩,u2),qp,qs,ql⟩) hu rfl) ?hp fun _=>?_
  case hp=>exact .cons (by repeat constructor) .nil
  refine aq ?_
  refine o_ ah (o_ ae (aO () ?_))
  exact aA
 refine aq ?_
 refine ay (dI (j:=0) hA (q_ (ws:=[w]) (j:=0) (by simp))) aA ?_
 refine' aj hto ?hp fun _=>?_
 case hp=>exact .cons (by repeat constructor) .nil
 refine aq ?_
 refine aY ?_;refine aY ?_
 refine' aj (kT (b:=b) hw hv) ?hp fun _=>?_
 case hp=>exact .nil
 refine aq ?_
 refine t_ ah ?_
 rw[show Fh (some u) s.prs.length qp=[az q8,.slice qp.1 s.prs.length qp.2,.int .i64 u.1,.int .i64 u.2]from rfl]
 refine dN (by(repeat constructor):Pick _ (Sl 4 145 (some ⟨g,0,none⟩) u2 _ _) _) (by simp) ?_
 refine aO () ?_
 refine .ex ⟨(some ⟨g,0,none⟩,u2),qp,qs,ql⟩ (.all ?_)
 unfold mY lh
 rw[hu]
 refine aq ?_
 refine .pick (by repeat constructor) (.pick .here ?_)
 exact aA
theorem CG [hG:Gl W]{x:Nat}{w:List UInt8}{v:Int}{u:Int × Int}(hu:s.up=some u)(hA:RdB W A a 1 ([w].map az))(hw:w.length<=65536)(hv:cS w=(v,0)):Cn p_ 327 ([.pointer (some ⟨b,0,none⟩),.slice a 1 c]++[.pointer (some ⟨x,0,none⟩)]) W [dF b s ln,A,zA 321 x] (fun _:Unit=> .tuple #[]) (fun _=>[dF b {s with up:=some (u.1,v)} ln,A,zA 321 x]):=by
 obtain⟨ga,oa,rfl,_⟩:=hA.at_ (by omega)
 (refine Shp.cn (Sg.g_ Tryz.call327 Tryz.func327 (an:={drs:=[(0,.ofL [(0,1),(1,1),(3,2),(4,2),(5,3),(6,3),(2,0),(7,0),(8,1),(9,0)])]}) (os:=[(0,[(2,[6,5])])])) fun F=>?_;simp only[ca_,na_])
 unfold zA
 refine aV (cu ?_);(((refine' ay (br 0 rfl ?hcq) .nil ?_);(case hcq=>(first|omega|decide|(simp;done)))))
 refine oL (by repeat constructor) fun q=>?_
 unfold mY
 rw[hu]
 refine be (by(repeat constructor):Pick _ (Sl 4 145 q.u.1 q.u.2 _ _) _) (Nat.zero_lt_one) fun g hg=>?_
 obtain⟨⟨u1,u2⟩,qp,qs,ql⟩:=q
 (try dsimp only at hg)
 subst hg
 have hto:Cn p_ 321 [.pointer (some ⟨b,0,none⟩)] W [pt b (.cells (lh s ln (some ⟨g,0,none⟩,u2) qs).toArray 263)] (fun _:Unit=> .pointer (some ⟨g,3,none⟩)) (fun _=>[pt b (.cells (lh s ln (some ⟨g,0,none⟩,u2) qs).toArray 263)]):=by
  (refine Shp.cn (Sg.g_ Tryz.call321 Tryz.func321) fun F=>?_;simp only[ca_,na_])
  refine' aj (I9 (b:=b) (s:=s) (ln:=ln) (q:=⟨(some ⟨g,0,none⟩,u2),qp,qs,ql⟩) hu rfl) ?hp fun _=>?_
  case hp=>exact .cons (by repeat constructor) .nil
  refine aq ?_
  refine o_ ah (o_ ae (aO () ?_))
  exact aA
 refine aq ?_
 refine ay (dI (j:=0) hA (q_ (ws:=[w]) (j:=0) (by simp))) aA ?_
 refine' aj hto ?hp fun _=>?_
 case hp=>exact .cons (by repeat constructor) .nil
 refine aq ?_
 refine aY ?_;refine aY ?_
 refine' aj (kT (b:=b) hw hv) ?hp fun _=>?_
 case hp=>exact .nil
 refine aq ?_
 refine t_ ah ?_
 rw[show Fh (some u) s.prs.length qp=[az q8,.slice qp.1 s.prs.length qp.2,.int .i64 u.1,.int .i64 u.2]from rfl]
 refine dN (by(repeat constructor):Pick _ (Sl 4 145 (some ⟨g,0,none⟩) u2 _ _) _) (by simp) ?_
 refine aO () ?_
 refine .ex ⟨(some ⟨g,0,none⟩,u2),qp,qs,ql⟩ (.all ?_)
 unfold mY lh
 rw[hu]
 refine aq ?_
 refine .pick (by repeat constructor) (.pick .here ?_)
 exact aA
end Go.Proofs.YtdjkdjepjahjfaaGreatDoor.TP
namespace Go.Proofs.YtdjkdjepjahjfaaGreatDoor.TP
open Go Go.Proofs Go.RowKit Sh Sl T FD
variable {W:World} {b n c:Nat} {s:Bs} {ln:Int} {a:Option Addr} {A:HP}
theorem zB (hu:s.up=none)(hp:s.prs=[])(hA:RdB W A a 1 ([q8].map az)):Cn p_ 317 [.pointer (some ⟨b,0,none⟩),.slice a 1 c] W [dF b s ln,A] (fun _:Unit=> .tuple #[]) (fun _=>[dF b {s with up:=some (10,1)} ln,A]):=by
 obtain⟨ga,oa,rfl,_⟩:=hA.at_ (by omega)
 (refine Shp.cn (Sg.g_ Tryz.call317 Tryz.func317 (an:={drs:=[(0,.ofL [(0,2),(1,2),(2,3),(3,3),(4,3),(5,3),(6,1),(7,1),(8,1),(9,1),(10,0),(11,0),(12,1),(13,1),(14,1),(15,0)])]}) (os:=[(0,[(10,[5,4,3,2])])])) fun F=>?_;simp only[ca_,na_])
 refine oL (by repeat constructor) fun q=>?_
 unfold mY lh
 rw[hu,hp]
 refine aq ?_
 refine aV (ay ah .nil ?_);refine ay ae .nil ?_;refine ay ae .nil ?_;(((refine' ay (aQ ?hc) ?hi ?_);(case hi=>exact .pick (by repeat constructor) .nil);(case hc=>repeat constructor)));(((refine' aP (br 0 rfl ?hcq) .nil ?_);(case hcq=>(first|omega|decide|(simp;done)))))
 refine aP (dI (j:=0) hA (q_ (ws:=[q8]) (j:=0) (by simp))) aA ?_
 refine t_ bM ?_
 refine d7 (n:=1) (vs:=[.agg #[az q8,.slice none 0 0,.int .i64 10,.int .i64 1]]) rfl (by decide) rfl (by intro v hv;rw[List.mem_singleton.1 hv];rfl) (by decide) fun gb=>?_
 refine aY ?_;refine aY ?_;refine aY ?_;refine aY ?_
 refine bV (m:=1) (news:=[az q8,.slice none 0 0,.int .i64 10,.int .i64 1]) (by(repeat constructor):Pick _ (Sl 4 145 q.u.1 q.u.2 _ _) _) (bR (s:=4) (e':=145) (by kernel_rfl) .here (by rfl) (by intro u hu;simp[Value.cells]at hu;rcases hu with rfl|rfl|rfl|rfl <;> rfl)) (by decide) (by decide) fun a' c'=>?_
 refine t_ ah (t_ ae (t_ ae (bU ?_)))
 refine aO () ?_
 refine .ex ⟨(a',c'),(none,0),q.s,q.l⟩ (.all ?_)
 unfold mY lh
 refine aq ?_
 refine .pick (by repeat constructor) (.pick .here (bO ?_))
 exact aA
theorem Fi (hs:s.sv=false)(hl:s.lcs=[]){v:Value}:Cn p_ 322 [.pointer (some ⟨b,0,none⟩),v] W [dF b s ln] (fun _:Unit=> .tuple #[]) (fun _=>[dF b {s with sv:=true} ln]):=by
 (refine Shp.cn (Sg.g_ Tryz.call322 Tryz.func322) fun F=>?_;simp only[ca_,na_])
 refine oL (by repeat constructor) fun q=>?_
 unfold mY lh
 rw[hs,hl]
 refine aq ?_
 refine o_ ah (o_ ae (o_ ae (aM ?_)));refine o_ bM ?_
 refine d7 (n:=1) (vs:=[.agg #[.slice none 0 0,.bool false,.slice none 0 0]]) rfl (by decide) rfl (by intro v hv;rw[List.mem_singleton.1 hv];rfl) (by decide) fun gb=>?_
 refine bV (m:=1) (news:=[.slice none 0 0,.bool false,.slice none 0 0]) (by(repeat constructor):Pick _ (Sl 3 200 q.s.1 q.s.2 _ _) _) (bR (s:=3) (e':=200) (by kernel_rfl) .here (by rfl) (by intro u hu;simp[Value.cells]at hu;rcases hu with rfl|rfl|rfl <;> rfl)) (by decide) (by decide) fun a' c'=>?_
 refine o_ ah (o_ ae (o_ ae (bU ?_)))
 refine aO () ?_
 refine .ex ⟨q.u,q.p,(a',c'),(none,0)⟩ (.all ?_)
 unfold mY lh
 refine aq ?_
 refine .pick (by repeat constructor) (.pick (by repeat constructor) (.pick (by repeat constructor) (.pick .here (bO ?_))))
 exact aA
def fP (w:List UInt8):List Value:=[az w,.int .i64 0,az [],az [],.int .i64 0,.int .i64 0,az [],.bool false,.int .i64 0,.int .i64 0,.int .i64 0,az []]
theorem P_ [hG:Gl W]{w1 w2:List UInt8}{v1 v2:Int}{u:Int × Int}(hu:s.up=some u)(hp:s.prs.length<=16)(hA:RdB W A a 2 ([w1,w2].map az))(hw1:w1.length<=65536)(hv1:cS w1=(v1,0))(hw2:w2.length<=65536)(hv2:cS w2=(v2,0)):Cn p_ 318 [.pointer (some ⟨b,0,none⟩),.slice a 2 c] W [dF b s ln,A] (fun _:Unit=> .tuple #[]) (fun _=>[dF b {s with prs:=s.prs++[(v1,v2)]} ln,A]):=by
 obtain⟨ga,oa,rfl,_⟩:=hA.at_ (by omega)
 (refine Shp.cn (Sg.g_ Tryz.call318 Tryz.func318 (an:={cuts:=[(3,[])],drs:=[(3,(.op 0 2 (.op 2 2 (.op 7 3 (.alt ((.op 1 0 (.alt (.ofL [(3,0),(4,3),(5,3),(6,3),(8,0),(9,0),(10,1),(11,1),(12,0)]) (.ofL [(8,0),(3,0),(4,1),(5,1),(6,1),(9,0),(10,1),(11,1),(12,0)])))) (.ofL [(8,0),(1,0),(3,0),(4,1),(5,1),(6,1),(9,0),(10,1),(11,1),(12,0)]))))))]}) (os:=[(3,[(1,[7]),(3,[7]),(8,[6,5,4])])])) fun F=>?_;simp only[ca_,na_])
 refine oL (by repeat constructor) fun q=>?_
 unfold mY
 rw[hu]
 refine be (by(repeat constructor):Pick _ (Sl 4 145 q.u.1 q.u.2 _ _) _) (Nat.zero_lt_one) fun g0 hg=>?_
 obtain⟨⟨u1,u2⟩,qp,qs,ql⟩:=q
 (try dsimp only at hg)
 subst hg
 refine aq ?_
 (try dsimp only)
 rw[show Fh (some u) s.prs.length qp=[az q8,.slice qp.1 s.prs.length qp.2,.int .i64 u.1,.int .i64 u.2]from rfl,show nU (some u)=1 from rfl]
 (((refine' aB (br 0 rfl ?hcq) .nil ?_);(case hcq=>(first|omega|decide|(simp;done)))))
 refine aB (dI (j:=0) hA (q_ (ws:=[w1,w2]) (j:=0) (by simp))) aA ?_
 refine' aj (kT (b:=b) hw1 hv1) ?hp fun _=>?_
 case hp=>exact .nil
 refine aq ?_
 refine o_ bM ?_;refine aS fun g=>?_;(((refine' aG ?hp ?hn ?hv ?h1 ?_);(case hp=>(repeat constructor));(case hn=>rfl);(case hv=>rfl);(case h1=>simp[Value.oneCell',az])))
 refine eb ?_
 refine o_ aK ?_;(((refine o_ (Sl.cv ?hcq) ?_);(case hcq=>(first|omega|(simp only[List.length_nil,List.length_cons];omega)))));refine ai ?_;(((refine' aB (br 1 rfl ?hcq) .nil ?_);(case hcq=>(first|omega|decide|(simp;done)))))
 refine aB (dI (j:=1) hA (q_ (ws:=[w1,w2]) (j:=1) (by simp))) aA ?_
 refine' aj (kT (b:=b) hw2 hv2) ?hp fun _=>?_
 case hp=>exact .nil
 refine aq ?_
 refine o_ ae (bU ?_)
 refine ip fun ds=>?_
 refine aV ?_;(((refine' ay (bK ?hn) ?hi ?_);(case hi=>exact .pick (by repeat constructor) .nil);(case hn=>rfl)))
 refine e6 ?_ ?_
 ·refine' aj (I9 (b:=b) (s:=s) (ln:=ln) (q:=⟨(some ⟨g0,0,none⟩,u2),qp,qs,ql⟩) hu rfl) ?hp fun _=>?_
  case hp=>exact .cons (by repeat constructor) .nil
  refine aq ?_
  refine aY ?_
  refine e6 ?_ ?_
  ·refine' aj (I9 (b:=b) (s:=s) (ln:=ln) (q:=⟨(some ⟨g0,0,none⟩,u2),qp,qs,ql⟩) hu rfl) ?hp fun _=>?_
   case hp=>exact .cons (by repeat constructor) .nil
   refine aq ?_
   refine aY ?_;refine ay ah .nil ?_;refine ay ae .nil ?_;(((refine' ay (bF ?hc) ?hi ?_);(case hi=>exact aA);(case hc=>rfl)))
   refine d7 (n:=1) (vs:=[.agg #[.int .i64 v1,.int .i64 v2]]) rfl (by decide) rfl (by intro v hv;rw[List.mem_singleton.1 hv];rfl) (by decide) fun gb=>?_
   refine aY ?_;refine aY ?_;refine aY ?_
   refine bV (m:=1) (news:=Ta (v1,v2)) (by(repeat constructor):Pick _ (Sl 2 315 qp.1 qp.2 _ _) _) (bR (s:=2) (e':=315) (by kernel_rfl) (by(repeat constructor):Pick _ (pt gb _) _) (by rfl) (by intro u hu;simp[Value.cells]at hu;rcases hu with rfl|rfl <;> rfl)) (by omega) (by omega) fun a' c'=>?_
   refine t_ ah (t_ ae (dN (by(repeat constructor):Pick _ (Sl 4 145 (some ⟨g0,0,none⟩) u2 _ _) _) (by simp) ?_))
   refine aO () ?_
   refine .ex ⟨(some ⟨g0,0,none⟩,u2),(a',c'),qs,ql⟩ (.all ?_)
   unfold mY lh
   rw[hu]
   refine aq ?_
   rw[List.length_append,List.flatMap_append]
   refine .pick (by repeat constructor) (.pick .here (.pick (by repeat constructor) ?_))
   exact aA
  ·refine d7 (n:=1) (vs:=[.agg #[.int .i64 v1,.int .i64 v2]]) rfl (by decide) rfl (by intro v hv;rw[List.mem_singleton.1 hv];rfl) (by decide) fun gb=>?_
   refine' aj (I9 (b:=b) (s:=s) (ln:=ln) (q:=⟨(some ⟨g0,0,none⟩,u2),qp,qs,ql⟩) hu rfl) ?hp fun _=>?_
   case hp=>exact .cons (by repeat constructor) .nil
   refine aq ?_
   refine aY ?_;refine t_ ah (t_ ae ?_);(((refine' aP (bF ?hc) ?hi ?_);(case hi=>exact aA);(case hc=>rfl)))
   refine bV (m:=1) (news:=Ta (v1,v2)) (by(repeat constructor):Pick _ (Sl 2 315 qp.1 qp.2 _ _) _) (bR (s:=2) (e':=315) (by kernel_rfl) (by(repeat constructor):Pick _ (pt gb _) _) (by rfl) (by intro u hu;simp[Value.cells]at hu;rcases hu with rfl|rfl <;> rfl)) (by omega) (by omega) fun a' c'=>?_
   refine t_ ah (t_ ae (dN (by(repeat constructor):Pick _ (Sl 4 145 (some ⟨g0,0,none⟩) u2 _ _) _) (by simp) ?_))
   refine aO () ?_
   refine .ex ⟨(some ⟨g0,0,none⟩,u2),(a',c'),qs,ql⟩ (.all ?_)
   unfold mY lh
   rw[hu]
   refine aq ?_
   rw[List.length_append,List.flatMap_append]
   refine .pick (by repeat constructor) (.pick .here (.pick (by repeat constructor) ?_))
   exact aA
 ·refine d7 (n:=1) (vs:=[.agg #[.int .i64 v1,.int .i64 v2]]) rfl (by decide) rfl (by intro v hv;rw[List.mem_singleton.1 hv];rfl) (by decide) fun gb=>?_
  refine' aj (I9 (b:=b) (s:=s) (ln:=ln) (q:=⟨(some ⟨g0,0,none⟩,u2),qp,qs,ql⟩) hu rfl) ?hp fun _=>?_
  case hp=>exact .cons (by repeat constructor) .nil
  refine aq ?_
  refine aY ?_
  refine' aj (I9 (b:=b) (s:=s) (ln:=ln) (q:=⟨(some ⟨g0,0,none⟩,u2),qp,qs,ql⟩) hu rfl) ?hp fun _=>?_
  case hp=>exact .cons (by repeat constructor) .nil
  refine aq ?_
  refine aY ?_;refine t_ ah (t_ ae ?_);(((refine' aP (bF ?hc) ?hi ?_);(case hi=>exact aA);(case hc=>rfl)))
  refine bV (m:=1) (news:=Ta (v1,v2)) (by(repeat constructor):Pick _ (Sl 2 315 qp.1 qp.2 _ _) _) (bR (s:=2) (e':=315) (by kernel_rfl) (by(repeat constructor):Pick _ (pt gb _) _) (by rfl) (by intro u hu;simp[Value.cells]at hu;rcases hu with rfl|rfl <;> rfl)) (by omega) (by omega) fun a' c'=>?_
  refine t_ ah (t_ ae (dN (by(repeat constructor):Pick _ (Sl 4 145 (some ⟨g0,0,none⟩) u2 _ _) _) (by simp) ?_))
  refine aO () ?_
  refine .ex ⟨(some ⟨g0,0,none⟩,u2),(a',c'),qs,ql⟩ (.all ?_)
  unfold mY lh
  rw[hu]
  refine aq ?_
  rw[List.length_append,List.flatMap_append]
  refine .pick (by repeat constructor) (.pick .here (.pick (by repeat constructor) ?_))
  exact aA
end Go.Proofs.YtdjkdjepjahjfaaGreatDoor.TP
namespace Go.Proofs.YtdjkdjepjahjfaaGreatDoor.TP
open Go Go.Proofs Go.RowKit Sh Sl T FD
variable {W:World} {b n c:Nat} {s:Bs} {ln:Int} {a:Option Addr} {A:HP}
theorem qH (w:List UInt8):∀u∈([Value.agg (fP w).toArray].flatMap fun v=>v.cells.toList).toArray.toList,u.oneCell'=true:=by
 have:∀u∈fP w,u.oneCell'=true:=by simp[fP,Value.oneCell',az]
 exact fun u hu=>this u hu
theorem r7 {w:List UInt8}(hs:s.sv=true)(hl:s.lcs.length<=31)(hA:RdB W A a 1 ([w].map az)):Cn p_ 326 [.pointer (some ⟨b,0,none⟩),.slice a 1 c] W [dF b s ln,A] (fun _:Unit=> .tuple #[]) (fun _=>[dF b {s with lcs:=s.lcs++[fP w]} ln,A]):=by
 obtain⟨ga,oa,rfl,_⟩:=hA.at_ (by omega)
 (refine Shp.cn (Sg.g_ Tryz.call326 Tryz.func326 (an:={drs:=[(0,(.op 0 2 (.op 2 2 (.op 7 2 (.op 8 3 (.op 9 3 (.op 10 3 (.alt ((.op 1 0 (.alt (.ofL [(3,0),(4,3),(5,3),(6,3),(11,0),(12,0),(13,1),(14,1),(15,0)]) (.ofL [(11,0),(3,0),(4,1),(5,1),(6,1),(12,0),(13,1),(14,1),(15,0)])))) (.ofL [(11,0),(1,0),(3,0),(4,1),(5,1),(6,1),(12,0),(13,1),(14,1),(15,0)])))))))))]}) (os:=[(0,[(1,[10,9,8]),(3,[10,9,8]),(11,[6,5,4])])])) fun F=>?_;simp only[ca_,na_])
 refine oL (by repeat constructor) fun q=>?_
 unfold mY
 rw[hs]
 refine be (by(repeat constructor):Pick _ (Sl 3 200 q.s.1 q.s.2 _ _) _) (Nat.zero_lt_one) fun g0 hg=>?_
 obtain⟨qu,qp,⟨s1,s2⟩,ql⟩:=q
 (try dsimp only at hg)
 subst hg
 refine aq ?_
 (try dsimp only)
 rw[show CE true s.lcs.length ql=[.slice none 0 0,.bool false,.slice ql.1 s.lcs.length ql.2]from rfl,show nS true=1 from rfl]
 refine aV ?_;(((refine' ay (br 0 rfl ?hcq) .nil ?_);(case hcq=>(first|omega|decide|(simp;done)))))
 refine ay (dI (j:=0) hA (q_ (ws:=[w]) (j:=0) (by simp))) aA ?_
 refine ay bM .nil ?_
 refine e6 ?_ ?_
 ·refine' aj (kU (b:=b) (s:=s) (ln:=ln) (q:=⟨qu,qp,(some ⟨g0,0,none⟩,s2),ql⟩) hs rfl) ?hp fun _=>?_
  case hp=>exact .cons (by repeat constructor) .nil
  refine aq ?_
  refine aY ?_;refine aY ?_;refine aY ?_
  refine e6 ?_ ?_
  ·refine' aj (kU (b:=b) (s:=s) (ln:=ln) (q:=⟨qu,qp,(some ⟨g0,0,none⟩,s2),ql⟩) hs rfl) ?hp fun _=>?_
   case hp=>exact .cons (by repeat constructor) .nil
   refine aq ?_
   refine aY ?_;refine aY ?_;refine aY ?_;refine ay ah .nil ?_;refine ay ae .nil ?_;(((refine' ay (bF ?hc) ?hi ?_);(case hi=>exact aA);(case hc=>rfl)))
   refine d7 (n:=1) (vs:=[.agg (fP w).toArray]) rfl (by decide) rfl (by intro v hv;rw[List.mem_singleton.1 hv];rfl) (by decide) fun gb=>?_
   refine aY ?_;refine aY ?_;refine aY ?_
   refine bV (m:=1) (news:=fP w) (by(repeat constructor):Pick _ (Sl 12 101 ql.1 ql.2 _ _) _) (bR (s:=12) (e':=101) (by kernel_rfl) (by(repeat constructor):Pick _ (pt gb _) _) (by rfl) (qH w)) (by omega) (by omega) fun a' c'=>?_
   refine t_ ah (t_ ae (dN (by(repeat constructor):Pick _ (Sl 3 200 (some ⟨g0,0,none⟩) s2 _ _) _) (by simp) ?_))
   refine aO () ?_
   refine .ex ⟨qu,qp,(some ⟨g0,0,none⟩,s2),(a',c')⟩ (.all ?_)
   unfold mY lh
   rw[hs]
   refine aq ?_
   rw[List.length_append,List.flatten_append,show [fP w].flatten=fP w from List.append_nil _]
   refine .pick (by repeat constructor) (.pick (by repeat constructor) (.pick (by repeat constructor) (.pick .here ?_)))
   exact aA
  ·refine d7 (n:=1) (vs:=[.agg (fP w).toArray]) rfl (by decide) rfl (by intro v hv;rw[List.mem_singleton.1 hv];rfl) (by decide) fun gb=>?_
   refine' aj (kU (b:=b) (s:=s) (ln:=ln) (q:=⟨qu,qp,(some ⟨g0,0,none⟩,s2),ql⟩) hs rfl) ?hp fun _=>?_
   case hp=>exact .cons (by repeat constructor) .nil
   refine aq ?_
   refine aY ?_;refine aY ?_;refine aY ?_;refine t_ ah (t_ ae ?_);(((refine' aP (bF ?hc) ?hi ?_);(case hi=>exact aA);(case hc=>rfl)))
   refine bV (m:=1) (news:=fP w) (by(repeat constructor):Pick _ (Sl 12 101 ql.1 ql.2 _ _) _) (bR (s:=12) (e':=101) (by kernel_rfl) (by(repeat constructor):Pick _ (pt gb _) _) (by rfl) (qH w)) (by omega) (by omega) fun a' c'=>?_
   refine t_ ah (t_ ae (dN (by(repeat constructor):Pick _ (Sl 3 200 (some ⟨g0,0,none⟩) s2 _ _) _) (by simp) ?_))
   refine aO () ?_
   refine .ex ⟨qu,qp,(some ⟨g0,0,none⟩,s2),(a',c')⟩ (.all ?_)
   unfold mY lh
   rw[hs]
   refine aq ?_
   rw[List.length_append,List.flatten_append,show [fP w].flatten=fP w from List.append_nil _]
   refine .pick (by repeat constructor) (.pick (by repeat constructor) (.pick (by repeat constructor) (.pick .here ?_)))
   exact aA
 ·refine d7 (n:=1) (vs:=[.agg (fP w).toArray]) rfl (by decide) rfl (by intro v hv;rw[List.mem_singleton.1 hv];rfl) (by decide) fun gb=>?_
  refine' aj (kU (b:=b) (s:=s) (ln:=ln) (q:=⟨qu,qp,(some ⟨g0,0,none⟩,s2),ql⟩) hs rfl) ?hp fun _=>?_
  case hp=>exact .cons (by repeat constructor) .nil
  refine aq ?_
  refine aY ?_;refine aY ?_;refine aY ?_
  refine' aj (kU (b:=b) (s:=s) (ln:=ln) (q:=⟨qu,qp,(some ⟨g0,0,none⟩,s2),ql⟩) hs rfl) ?hp fun _=>?_
  case hp=>exact .cons (by repeat constructor) .nil
  refine aq ?_
  refine aY ?_;refine aY ?_;refine aY ?_;refine t_ ah (t_ ae ?_);(((refine' aP (bF ?hc) ?hi ?_);(case hi=>exact aA);(case hc=>rfl)))
  refine bV (m:=1) (news:=fP w) (by(repeat constructor):Pick _ (Sl 12 101 ql.1 ql.2 _ _) _) (bR (s:=12) (e':=101) (by kernel_rfl) (by(repeat constructor):Pick _ (pt gb _) _) (by rfl) (qH w)) (by omega) (by omega) fun a' c'=>?_
  refine t_ ah (t_ ae (dN (by(repeat constructor):Pick _ (Sl 3 200 (some ⟨g0,0,none⟩) s2 _ _) _) (by simp) ?_))
  refine aO () ?_
  refine .ex ⟨qu,qp,(some ⟨g0,0,none⟩,s2),(a',c')⟩ (.all ?_)
  unfold mY lh
  rw[hs]
  refine aq ?_
  rw[List.length_append,List.flatten_append,show [fP w].flatten=fP w from List.append_nil _]
  refine .pick (by repeat constructor) (.pick (by repeat constructor) (.pick (by repeat constructor) (.pick .here ?_)))
  exact aA
theorem n6 {pre:List (List Value)}{L:List Value}(hp:pre.flatten.length=pre.length * 12)(hL:L.length=12):(pre++[L]).flatten.length=pre.length * 12+12:=by
 rw[List.flatten_append,List.length_append,hp,show [L].flatten=L from List.append_nil _,hL]
theorem jg {pre:List (List Value)}{L:List Value}{i:Nat}{v:Value}(hp:pre.flatten.length=pre.length * 12)(hL:L.length=12)(hi:i<12):(pre++[L]).flatten.set (((pre++[L]).length-1) * 12+i) v=(pre++[L.set i v]).flatten:=by
 rw[List.flatten_append,List.flatten_append,show [L].flatten=L from List.append_nil _,show [L.set i v].flatten=L.set i v from List.append_nil _,show(pre++[L]).length-1=pre.length by simp,List.set_append_right _ _ (by omega),hp,show pre.length * 12+i-pre.length * 12=i by omega]
theorem dU {pre:List (List Value)}{L M:List Value}:(pre++[M]).length=(pre++[L]).length:=by simp
end Go.Proofs.YtdjkdjepjahjfaaGreatDoor.TP
namespace Go.Proofs.YtdjkdjepjahjfaaGreatDoor.TP
open Go Go.Proofs Go.RowKit Sh Sl T FD
variable {W:World} {b n c:Nat} {s:Bs} {ln:Int} {a:Option Addr} {A:HP} {pre:List (List Value)} {L:List Value}
theorem Ja (hs:s.sv=true)(he:s.lcs=pre++[L])(hL:L.length=12)(hl:s.lcs.length<=32){v:Value}:Cn p_ 219 [.pointer (some ⟨b,0,none⟩),v] W [dF b s ln] (fun _:Unit=> .tuple #[]) (fun _=>[dF b {s with lcs:=pre++[L.set 7 (.bool true)]} ln]):=by
 obtain⟨st,up,prs,sv,lcs⟩:=s
 dsimp only at hs he hl ⊢
 subst hs he
 have h0:0<(pre++[L]).length:=by simp
 (refine Shp.cn (Sg.g_ Tryz.call219 Tryz.func219) fun F=>?_;simp only[ca_,na_])
 refine oL (by repeat constructor) fun q=>?_
 unfold mY
 refine be (by(repeat constructor):Pick _ (Sl 3 200 q.s.1 q.s.2 _ _) _) Nat.zero_lt_one fun g0 hg=>?_
 refine be (by(repeat constructor):Pick _ (Sl 12 101 q.l.1 q.l.2 _ _) _) h0 fun gl hgl=>?_
 refine aN (by(repeat constructor):Pick _ (Sl 12 101 q.l.1 q.l.2 _ _) _) fun hfl _ _ _=>?_
 have hpf:pre.flatten.length=pre.length * 12:=by
  rw[List.flatten_append,List.length_append,List.length_append,show [L].flatten=L from List.append_nil _,hL]at hfl
  simp only[List.length_cons,List.length_nil]at hfl
  omega
 obtain⟨qu,qp,⟨s1,s2⟩,⟨l1,l2⟩⟩:=q
 (try dsimp only at hg hgl)
 subst hg hgl
 refine aq ?_
 (try dsimp only)
 refine' aj (zy (b:=b) (s:=⟨st,up,prs,true,pre++[L]⟩) (ln:=ln) (q:=⟨qu,qp,(some ⟨g0,0,none⟩,s2),(some ⟨gl,0,none⟩,l2)⟩) rfl rfl rfl h0 hl) ?hp fun _=>?_
 case hp=>exact .cons (by repeat constructor) (.cons (by repeat constructor) .nil)
 refine aq ?_
 refine o_ ah (o_ dP (dN (by(repeat constructor):Pick _ (Sl 12 101 (some ⟨gl,0,none⟩) l2 _ _) _) (by rw[n6 hpf (by simp[hL])];simp only[List.length_append,List.length_cons,List.length_nil];omega) ?_))
 rw[show(pre++[L]).length=(pre++[L]).length from dU,jg hpf (by simp[hL]) (by omega)]
 refine aO () ?_
 refine .ex ⟨qu,qp,(some ⟨g0,0,none⟩,s2),(some ⟨gl,0,none⟩,l2)⟩ (.all ?_)
 unfold mY lh
 refine aq ?_
 (try dsimp only)
 simp only[dU (M:=_) (L:=L)]
 exact aA
theorem Jb {w:List UInt8}(hs:s.sv=true)(he:s.lcs=pre++[L])(hL:L.length=12)(hl:s.lcs.length<=32)(hA:RdB W A a 1 ([w].map az)):Cn p_ 218 [.pointer (some ⟨b,0,none⟩),.slice a 1 c] W [dF b s ln,A] (fun _:Unit=> .tuple #[]) (fun _=>[dF b {s with lcs:=pre++[(L.set 1 (.int .i64 2)).set 6 (az w)]} ln,A]):=by
 obtain⟨ga,oa,rfl,_⟩:=hA.at_ (by omega)
 obtain⟨st,up,prs,sv,lcs⟩:=s
 dsimp only at hs he hl ⊢
 subst hs he
 have h0:0<(pre++[L]).length:=by simp
 (refine Shp.cn (Sg.g_ Tryz.call218 Tryz.func218 (an:={drs:=[(0,.ofL [(0,1),(2,2),(4,2),(5,3),(6,3),(1,0),(3,0),(7,1),(8,1),(9,0),(10,1),(11,1),(12,0)])]}) (os:=[(0,[(1,[6,5]),(3,[6,5])])])) fun F=>?_;simp only[ca_,na_])
 refine oL (by repeat constructor) fun q=>?_
 unfold mY
 refine be (by(repeat constructor):Pick _ (Sl 3 200 q.s.1 q.s.2 _ _) _) Nat.zero_lt_one fun g0 hg=>?_
 refine be (by(repeat constructor):Pick _ (Sl 12 101 q.l.1 q.l.2 _ _) _) h0 fun gl hgl=>?_
 refine aN (by(repeat constructor):Pick _ (Sl 12 101 q.l.1 q.l.2 _ _) _) fun hfl _ _ _=>?_
 have hpf:pre.flatten.length=pre.length * 12:=by
  rw[List.flatten_append,List.length_append,List.length_append,show [L].flatten=L from List.append_nil _,hL]at hfl
  simp only[List.length_cons,List.length_nil]at hfl
  omega
 obtain⟨qu,qp,⟨s1,s2⟩,⟨l1,l2⟩⟩:=q
 (try dsimp only at hg hgl)
 subst hg hgl
 refine aq ?_
 (try dsimp only)
 refine aV ?_;(((refine' ay (br 0 rfl ?hcq) .nil ?_);(case hcq=>(first|omega|decide|(simp;done)))))
 refine ay (dI (j:=0) hA (q_ (ws:=[w]) (j:=0) (by simp))) aA ?_
 refine' aj (zy (b:=b) (s:=⟨st,up,prs,true,pre++[L]⟩) (ln:=ln) (q:=⟨qu,qp,(some ⟨g0,0,none⟩,s2),(some ⟨gl,0,none⟩,l2)⟩) rfl rfl rfl h0 hl) ?hp fun _=>?_
 case hp=>exact .cons (by repeat constructor) (.cons (by repeat constructor) .nil)
 refine aq ?_
 refine aY ?_;refine aY ?_
 refine' aj (zy (b:=b) (s:=⟨st,up,prs,true,pre++[L]⟩) (ln:=ln) (q:=⟨qu,qp,(some ⟨g0,0,none⟩,s2),(some ⟨gl,0,none⟩,l2)⟩) rfl rfl rfl h0 hl) ?hp fun _=>?_
 case hp=>exact .cons (by repeat constructor) (.cons (by repeat constructor) .nil)
 refine aq ?_
 refine aY ?_;refine aY ?_;refine t_ ah (t_ dP (dN (by(repeat constructor):Pick _ (Sl 12 101 (some ⟨gl,0,none⟩) l2 _ _) _) (by rw[n6 hpf (by simp[hL])];simp only[List.length_append,List.length_cons,List.length_nil];omega) ?_))
 rw[show(pre++[L]).length=(pre++[L]).length from dU,jg hpf (by simp[hL]) (by omega),show(pre++[L]).length=(pre++[L]).length from dU]
 refine t_ ah (t_ dP (dN (by(repeat constructor):Pick _ (Sl 12 101 (some ⟨gl,0,none⟩) l2 _ _) _) (by rw[n6 hpf (by simp[hL])];simp only[List.length_append,List.length_cons,List.length_nil];omega) ?_))
 rw[show(pre++[L]).length=(pre++[L.set 1 (.int .i64 2)]).length from dU,jg hpf (by simp[hL]) (by omega),show(pre++[L.set 1 (.int .i64 2)]).length=(pre++[L]).length from dU]
 refine aO () ?_
 refine .ex ⟨qu,qp,(some ⟨g0,0,none⟩,s2),(some ⟨gl,0,none⟩,l2)⟩ (.all ?_)
 unfold mY lh
 refine aq ?_
 (try dsimp only)
 simp only[dU (M:=_) (L:=L)]
 exact aA
theorem Fj [hG:Gl W]{w1 w2:List UInt8}{v:Int}(hs:s.sv=true)(he:s.lcs=pre++[L])(hL:L.length=12)(hl:s.lcs.length<=32)(hA:RdB W A a 2 ([w1,w2].map az))(hw:w1.length<=65536)(hv:cS w1=(v,0)):Cn p_ 222 [.pointer (some ⟨b,0,none⟩),.slice a 2 c] W [dF b s ln,A] (fun _:Unit=> .tuple #[]) (fun _=>[dF b {s with lcs:=pre++[((L.set 1 (.int .i64 3)).set 10 (.int .i64 v)).set 11 (az w2)]} ln,A]):=by
 obtain⟨ga,oa,rfl,_⟩:=hA.at_ (by omega)
 obtain⟨st,up,prs,sv,lcs⟩:=s
 dsimp only at hs he hl ⊢
 subst hs he
 have h0:0<(pre++[L]).length:=by simp
 (refine Shp.cn (Sg.g_ Tryz.call222 Tryz.func222 (an:={drs:=[(0,.ofL [(0,1),(2,2),(4,2),(5,2),(6,3),(7,3),(1,0),(3,0),(8,0),(9,1),(10,1),(11,0),(12,1),(13,1),(14,0)]),(2,.ofL [(0,1),(2,2),(3,3),(4,3),(1,0),(5,1),(6,1),(7,0)])]}) (os:=[(0,[(1,[7,6]),(3,[7,6])]),(2,[(1,[4,3])])])) fun F=>?_;simp only[ca_,na_])
 refine oL (by repeat constructor) fun q=>?_
 unfold mY
 refine be (by(repeat constructor):Pick _ (Sl 3 200 q.s.1 q.s.2 _ _) _) Nat.zero_lt_one fun g0 hg=>?_
 refine be (by(repeat constructor):Pick _ (Sl 12 101 q.l.1 q.l.2 _ _) _) h0 fun gl hgl=>?_
 refine aN (by(repeat constructor):Pick _ (Sl 12 101 q.l.1 q.l.2 _ _) _) fun hfl _ _ _=>?_
 have hpf:pre.flatten.length=pre.length * 12:=by
  rw[List.flatten_append,List.length_append,List.length_append,show [L].flatten=L from List.append_nil _,hL]at hfl
  simp only[List.length_cons,List.length_nil]at hfl
  omega
 obtain⟨qu,qp,⟨s1,s2⟩,⟨l1,l2⟩⟩:=q
 (try dsimp only at hg hgl)
 subst hg hgl
 refine aq ?_
 (try dsimp only)
 refine aV ?_;(((refine' ay (br 0 rfl ?hcq) .nil ?_);(case hcq=>(first|omega|decide|(simp;done)))))
 refine ay (dI (j:=0) hA (q_ (ws:=[w1,w2]) (j:=0) (by simp))) aA ?_
 refine' aj (zy (b:=b) (s:=⟨st,up,prs,true,pre++[L]⟩) (ln:=ln) (q:=⟨qu,qp,(some ⟨g0,0,none⟩,s2),(some ⟨gl,0,none⟩,l2)⟩) rfl rfl rfl h0 hl) ?hp fun _=>?_
 case hp=>exact .cons (by repeat constructor) (.cons (by repeat constructor) .nil)
 refine aq ?_
 refine aY ?_;refine aY ?_
 refine' aj (zy (b:=b) (s:=⟨st,up,prs,true,pre++[L]⟩) (ln:=ln) (q:=⟨qu,qp,(some ⟨g0,0,none⟩,s2),(some ⟨gl,0,none⟩,l2)⟩) rfl rfl rfl h0 hl) ?hp fun _=>?_
 case hp=>exact .cons (by repeat constructor) (.cons (by repeat constructor) .nil)
 refine aq ?_
 refine aY ?_;refine aY ?_
 refine' aj (kT (b:=b) hw hv) ?hp fun _=>?_
 case hp=>exact .nil
 refine aq ?_
 refine t_ ah (t_ dP (dN (by(repeat constructor):Pick _ (Sl 12 101 (some ⟨gl,0,none⟩) l2 _ _) _) (by rw[n6 hpf (by simp[hL])];simp only[List.length_append,List.length_cons,List.length_nil];omega) ?_))
 rw[show(pre++[L]).length=(pre++[L]).length from dU,jg hpf (by simp[hL]) (by omega),show(pre++[L]).length=(pre++[L]).length from dU]
 refine t_ ah (t_ dP (dN (by(repeat constructor):Pick _ (Sl 12 101 (some ⟨gl,0,none⟩) l2 _ _) _) (by rw[n6 hpf (by simp[hL])];simp only[List.length_append,List.length_cons,List.length_nil];omega) ?_))
 rw[show(pre++[L]).length=(pre++[L.set 1 (.int .i64 3)]).length from dU,jg hpf (by simp[hL]) (by omega),show(pre++[L.set 1 (.int .i64 3)]).length=(pre++[L]).length from dU]
 refine o_ aK ?_;(((refine o_ (Sl.cv ?hcq) ?_);(case hcq=>(first|omega|(simp only[List.length_nil,List.length_cons];omega)))));refine ai (aV ?_);(((refine' ay (br 1 rfl ?hcq) .nil ?_);(case hcq=>(first|omega|decide|(simp;done)))))
 refine ay (dI (j:=1) hA (q_ (ws:=[w1,w2]) (j:=1) (by simp))) aA ?_
 refine bu (M:=_) .refl ?_
 refine' aj (zy (b:=b) (s:=⟨st,up,prs,true,pre++[L]⟩) (ln:=ln) (q:=⟨qu,qp,(some ⟨g0,0,none⟩,s2),(some ⟨gl,0,none⟩,l2)⟩) rfl rfl rfl h0 hl) ?hp fun _=>?_
 case hp=>exact .cons (by repeat constructor) (.cons (by repeat constructor) .nil)
 refine aq ?_
 refine aY ?_;refine aY ?_;refine t_ ah (t_ dP (dN (by(repeat constructor):Pick _ (Sl 12 101 (some ⟨gl,0,none⟩) l2 _ _) _) (by rw[n6 hpf (by simp[hL])];simp only[List.length_append,List.length_cons,List.length_nil];omega) ?_))
 rw[show(pre++[L]).length=(pre++[(L.set 1 (.int .i64 3)).set 10 (.int .i64 v)]).length from dU,jg hpf (by simp[hL]) (by omega),show(pre++[(L.set 1 (.int .i64 3)).set 10 (.int .i64 v)]).length=(pre++[L]).length from dU]
 refine aO () ?_
 refine .ex ⟨qu,qp,(some ⟨g0,0,none⟩,s2),(some ⟨gl,0,none⟩,l2)⟩ (.all ?_)
 unfold mY lh
 refine aq ?_
 (try dsimp only)
 simp only[dU (M:=_) (L:=L)]
 exact aA
end Go.Proofs.YtdjkdjepjahjfaaGreatDoor.TP
namespace Go.Proofs.YtdjkdjepjahjfaaGreatDoor.TP
open Go Go.Proofs Go.RowKit Sh Sl T FD
theorem zC {s s':TS}{t:Tok}{r:List Tok}(h:qF s (t::r)=some s'):gA s=true/\∃s1,u7 s t=some s1/\qF s1 r=some s':=by
 rw[qF]at h
 cases hs:u7 s t with
 |none=>rw[hs]at h;cases h
 |some s1=>
  rw[hs]at h
  refine⟨?_,s1,rfl,h⟩
  unfold u7 at hs
  split at hs
  ·assumption
  ·cases hs
theorem Fk {ts:List Tok}{i j:Nat}(hi:i<ts.length)(hj:j<3):(ts.flatMap lf)[i * 3+j]? =(lf ts[i])[j]? :=i6 (f:=lf) (s:=3) (fun _=>rfl) ts i j hi hj
theorem CH {s:TS}{k j:Nat}:((s.upd k {s.nd k with block:=true}).nd j).kids=(s.nd j).kids:=by
 rw[wF]
 split
 ·rename_i h;rw[h.1]
 ·rfl
theorem yf {gs:Nat->Nat}:I8 gs none= .pointer none:=rfl
theorem vb {gs:Nat->Nat}{k:Nat}:I8 gs (some k)= .pointer (some ⟨gs k,0,none⟩):=rfl
theorem U2 {W:World}{l:List UInt8}{f0:Nat}{ts:List Tok}{s':TS}(hx:fO f0 1 l=some ts)(ha:∀c∈l,c.toNat<128)(hl:l.length<=65536)(htl:ts.length<=65536)(h:qF CA ts=some s')(hn:s'.now=none)(ho:s'.opn=[0]):
  Cn p_ 138 [az l] W [] (fun gs:Nat->Nat=>lZ (gs 0)) (fun gs=>[zw gs s']):=by
 (refine Shp.cn (Sg.g_ Tryz.call138 Tryz.func138 (an:={cuts:=[(14,[6]),(22,[5,6])],loops:=[(5,[5,6,21])],drs:=[(14,.ofL [(0,2),(1,2),(2,3),(3,3),(4,3),(5,1),(6,1),(7,0),(8,0),(9,1),(10,1),(11,0)])]}) (os:=[(14,[(7,[4,3,2])])])) fun F=>?_;simp only[ca_,na_])
 refine' aj (V1 hx ha hl) ?hp fun rt=>?_
 case hp=>exact .nil
 refine aq ?_
 refine bI ?_;refine bI ?_;refine o_ bM ?_;refine aU fun g=>?_;refine cZ fun g=>?_;refine o_ aK ?_
 rename_i g0
 refine f7 (fun m x y z=>[ex fun st:(Nat->Nat) × TS × AC × Nat=>all [pu (m+st.2.2.2=ts.length/\x= .slice st.2.2.1.1 st.2.1.opn.length st.2.2.1.2/\y=I8 st.1 st.2.1.now/\z= .int .i64 (st.2.2.2:Int)/\qF st.2.1 (ts.drop st.2.2.2)=some s'),zw st.1 st.2.1,Sl 1 270 st.2.2.1.1 st.2.2.1.2 st.2.1.opn.length (st.2.1.opn.map fun k=>lZ (st.1 k))]]++(Sl 3 360 rt.1 rt.2 ts.length (ts.flatMap lf)::F)) ts.length ?_ ?_
 ·refine Imp.ex (fun _=>g0,CA,(some ⟨g,0,none⟩,1),0) (.all ?_)
  refine aq ?_
  refine .pu ⟨rfl,rfl,rfl,rfl,h⟩ ?_
  unfold zw
  refine sy (n:=0) (F:=fun _=>pu True) (fun j hj=>by omega) (xh ?_)
  refine .ex ((none,0),(none,0)) (.all (.pick (by(repeat constructor):Pick _ (pt g0 (.cells #[.slice none 0 0,.int .i64 0,.bool false,.slice none 0 0] 269)) _) (bO (bO ?_))))
  refine w7 (cs:=[lZ g0]) .here rfl (by decide) ?_
  exact aA
 intro m ds x y z
 refine aq ?_
 refine bt Pick.here fun st=>aE Pick.here ?_
 obtain⟨gs,s,o,i⟩:=st
 refine aq ?_
 refine aX .here fun hi=>?_
 (try dsimp only at hi)
 obtain⟨hmi,rfl,rfl,rfl,hf⟩:=hi
 (try dsimp only)
 by_cases hlt:i<ts.length
 ·rw[List.drop_eq_getElem_cons hlt]at hf
  obtain⟨hok,s1,h1,h2⟩:=zC hf
  obtain⟨k1,k2,k3,k4,k5,k6⟩:=Ff hok
  have htop:s.top<s.nodes.length:=k4 _ (List.mem_of_getElem? (ye k1))
  obtain⟨go,hgo⟩:∃go,go=s.opn.length:=⟨_,rfl⟩
  refine be (by(repeat constructor):Pick _ (Sl 1 270 o.1 o.2 s.opn.length (s.opn.map fun k=>lZ (gs k))) _) k1 fun ga hga=>?_
  refine be (by(repeat constructor):Pick _ (Sl 3 360 rt.1 rt.2 ts.length (ts.flatMap lf)) _) (by omega) fun gt hgt=>?_
  refine aN (by(repeat constructor):Pick _ (Sl 1 270 o.1 o.2 s.opn.length (s.opn.map fun k=>lZ (gs k))) _) fun _ ho2 _ _=>?_
  obtain⟨o1,o2⟩:=o
  obtain⟨rt1,rt2⟩:=rt
  (try dsimp only at hga hgt ho2)
  subst hga hgt
  (try dsimp only)
  refine o_ (Sl.ce (by omega)) ?_
  refine ai (o_ (eA i rfl hlt) ?_)
  refine aB (dp (n:=3) (j:=i * 3) (vs:=lf ts[i]) (ef (n:=ts.length) (s:=3) (j_ (f:=lf) (s:=3) (fun _=>rfl) ts) fun _=>⟨gt,rfl⟩) rfl (fun j hj=>Fk hlt hj)) aA ?_
  generalize ts[i]=t at h1
  rw[show(Value.agg (lf t).toArray)= .agg #[.int .u8 (t.mark.toNat:Int),az t.s,.int .i64 (t.line:Int)]from rfl]
  refine aS fun g=>?_;(((refine' aG ?hp ?hn ?hv ?h1 ?_);(case hp=>(repeat constructor));(case hn=>rfl);(case hv=>rfl);(case h1=>simp[Value.oneCell',az])));refine o_ aK (kN ?_)
  refine o_ (br (s.opn.length-1) (by omega) (by omega)) ?_
  refine aB (bF (cs:=s.opn.map fun k=>lZ (gs k)) (v:=lZ (gs s.top)) (by rw[Nat.zero_add,List.getElem?_map,ye k1];rfl)) aA ?_
  unfold u7 at h1
  rw[if_pos hok]at h1
  by_cases m0:t.mark=0
  ·have m0':t.mark.toNat=0:=by rw[m0];rfl
   rw[if_pos m0]at h1
   refine o_ bP (fW (fun x y=>[pu False]) (fun ds x y=>aX .here fun h=>h.elim) ?_)
   refine o_ ae (aM ?_);(((refine o_ (Sl.cv ?hcq) ?_);(case hcq=>(first|omega|(simp only[List.length_nil,List.length_cons];omega)))));refine ai ?_
   rename_i gtk
   cases hnow:s.now with
   |none=>
    rw[hnow]at h1
    cases h1
    rw[yf]
    refine fA ?_
    refine o_ mw ?_;refine ai (o_ ae (aM ?_));refine o_ bM ?_;refine aU fun g=>?_
    refine ip fun ds=>?_
    rename Nat=>gnd
    refine aV (ay ah .nil ?_);refine ay ae .nil ?_;(((refine' ay (aQ ?hc) ?hi ?_);(case hi=>exact .pick (by repeat constructor) .nil);(case hc=>repeat constructor)));refine t_ ae (cu ?_);refine cZ fun g=>?_;refine aY ?_;refine aY ?_;refine aY ?_
    refine bu (bO (s:=1) (e:=9) .refl) ?_
    refine bV (m:=1) (news:=[az t.s]) .here (bR (s:=1) (e':=9) (by kernel_rfl) (by(repeat constructor):Pick _ (pt g _) _) (by rfl) (by intro u hu;rw[List.mem_singleton.1 hu];rfl)) (by omega) (by omega) fun a' c'=>?_
    refine t_ ah (t_ ae (bU ?_));refine bS ?_
    have hcong:(s.opn.map fun k=>lZ (if k=s.nodes.length then gnd else gs k))=s.opn.map fun k=>lZ (gs k):=List.map_congr_left fun k hk=>by rw[if_neg (by have:=k4 k hk;omega)]
    refine bu (M:=zw gs s::GJ gs ⟨[t.s],t.line,false,[]⟩ gnd::Sl 1 270 (some ⟨ga,0,none⟩) o2 s.opn.length (s.opn.map fun k=>lZ (gs k))::Sl 3 360 (some ⟨gt,0,none⟩) rt2 ts.length (ts.flatMap lf)::F) ?_ ?_
    ·exact .pick (by repeat constructor) (.ex ((a',c'),(none,0)) (.all (.pick (by(repeat constructor):Pick _ (pt gnd _) _) (.pick .here (bO aA)))))
    refine bu (Fg (fun i hi=>(k6 i hi).2.2) (by simp)) ?_
    refine cH (m-1) ?_ ?_
    ·omega
    refine .ex (fun i=>if i=s.nodes.length then gnd else gs i,{s with nodes:=s.nodes++[⟨[t.s],t.line,false,[]⟩],now:=some s.nodes.length},(some ⟨ga,0,none⟩,o2),i+1) (.all ?_)
    refine aq ?_
    refine .pu ⟨by omega,rfl,by rw[vb,if_pos rfl],by simp,h2⟩ ?_
    (try dsimp only)
    rw[hcong]
    exact .pick .here aA
   |some k=>
    rw[hnow]at h1
    cases h1
    have hk:=k5 k hnow
    have hkw:=(k6 k hk).1
    rw[vb]
    refine fA ?_
    refine o_ cp ?_;refine af (ip fun ds=>?_)
    refine Fc (i:=k) (by repeat constructor) hk fun w kk=>?_
    unfold zv
    refine aV (ay ah .nil ?_);refine ay ae .nil ?_;(((refine' ay (aQ ?hc) ?hi ?_);(case hi=>exact .pick (by repeat constructor) .nil);(case hc=>repeat constructor)));refine t_ ae (cu ?_);refine cZ fun g=>?_;refine aY ?_;refine aY ?_;refine aY ?_
    refine bV (m:=1) (news:=[az t.s]) (by(repeat constructor):Pick _ (Sl 1 9 w.1 w.2 _ _) _) (bR (s:=1) (e':=9) (by kernel_rfl) (by(repeat constructor):Pick _ (pt g _) _) (by rfl) (by intro u hu;rw[List.mem_singleton.1 hu];rfl)) (by omega) (by omega) fun a' c'=>?_
    refine t_ ah (t_ ae (bU ?_));refine bS ?_
    refine cH (m-1) ?_ ?_
    ·omega
    refine .ex (gs,s.upd k {s.nd k with words:=(s.nd k).words++[t.s]},(some ⟨ga,0,none⟩,o2),i+1) (.all ?_)
    refine aq ?_
    refine .pu ⟨by omega,rfl,by(try dsimp only);rw[show(s.upd k {s.nd k with words:=(s.nd k).words++[t.s]}).now=s.now from rfl,hnow,vb],by simp,h2⟩ ?_
    (try dsimp only)
    refine Fe (n:={s.nd k with words:=(s.nd k).words++[t.s]}) (w:=(a',c')) (k:=kk) hk (by unfold zv;rw[List.length_append];(repeat constructor)) (by rw[List.length_append,List.map_append];(repeat constructor)) (by repeat constructor) (by repeat constructor) ?_
    exact aA
  rw[if_neg m0]at h1
  have m0':¬(t.mark.toNat:Int)=0:=fun e=>m0 (UInt8.toNat_inj.1 (by show t.mark.toNat=0;omega))
  by_cases m1:t.mark=125
  ·have m1':t.mark.toNat=125:=by rw[m1];rfl
   rw[if_pos m1]at h1
   split at h1
   rotate_left
   ·cases h1
   rename_i hc
   cases h1
   rw[hc.1,yf]
   refine o_ bP (fW (fun x y=>[pu False]) (fun ds x y=>aX .here fun h=>h.elim) ?_)
   refine o_ ae (aM ?_);(((refine o_ (Sl.bL ?hcq) ?_);(case hcq=>(first|omega|(simp only[List.length_nil,List.length_cons];omega)))));refine af ?_;(((refine o_ (Sl.cv ?hcq) ?_);(case hcq=>(first|omega|(simp only[List.length_nil,List.length_cons];omega)))));refine ai (o_ jZ ?_);refine ab (ab (o_ aK (ab ?_)));(((refine o_ (Sl.bL ?hcq) ?_);(case hcq=>(first|omega|(simp only[List.length_nil,List.length_cons];omega)))));refine o_ am (bB CD (.cons .here .nil) fun _=>?_)
   refine aq ?_
   refine o_ aK (kN ?_)
   refine o_ (pL (s.opn.length-1) (by omega) (by omega)) ?_
   refine bS ?_
   refine mz (m:=s.opn.length-1) (by(repeat constructor):Pick _ (Sl 1 270 _ _ _ (s.opn.map fun k=>lZ (gs k))) _) (by omega) ?_
   refine cH (m-1) ?_ ?_
   ·omega
   refine .ex (gs,{s with opn:=s.opn.dropLast},(some ⟨ga,0,none⟩,o2),i+1) (.all ?_)
   refine aq ?_
   refine .pu ⟨by omega,by simp,by(try dsimp only);rw[hc.1,yf],by simp,h2⟩ ?_
   (try dsimp only)
   rw[List.length_dropLast,List.dropLast_eq_take,Nat.mul_one,<- List.map_take]
   exact aA
  rw[if_neg m1]at h1
  have m1':¬(t.mark.toNat:Int)=125:=fun e=>m1 (UInt8.toNat_inj.1 (by show t.mark.toNat=125;omega))
  by_cases m2:t.mark=123
  ·have m2':t.mark.toNat=123:=by rw[m2];rfl
   rw[if_pos m2]at h1
   cases hnow:s.now with
   |none=>rw[hnow]at h1;cases h1
   |some k=>
    rw[hnow]at h1
    simp only at h1
    split at h1
    rotate_left
    ·cases h1
    rename_i hc
    cases h1
    have hk:=k5 k hnow
    rw[vb]
    refine o_ bP (oT ?_)
    refine o_ ae (aM ?_);(((refine o_ (Sl.bL ?hcq) ?_);(case hcq=>(first|omega|(simp only[List.length_nil,List.length_cons];omega)))));refine af ?_;(((refine o_ (Sl.bL ?hcq) ?_);(case hcq=>(first|omega|(simp only[List.length_nil,List.length_cons];omega)))));refine af ?_;(((refine o_ (Sl.cv ?hcq) ?_);(case hcq=>(first|omega|(simp only[List.length_nil,List.length_cons];omega)))));refine ai (o_ cp ?_);refine ab (ab (o_ aK (ab ?_)));(((refine o_ (Sl.bL ?hcq) ?_);(case hcq=>(first|omega|(simp only[List.length_nil,List.length_cons];omega)))));refine o_ am (bB CD (.cons .here .nil) fun _=>?_)
    refine aq ?_
    refine Fc (i:=k) (by repeat constructor) hk fun w kk=>?_
    unfold zv
    refine o_ ah (o_ ae (bU ?_));refine cZ fun g=>?_
    refine bV (m:=1) (news:=[lZ (gs k)]) (by(repeat constructor):Pick _ (Sl 1 270 (some ⟨ga,0,none⟩) o2 _ _) _) (bR (s:=1) (e':=270) (by kernel_rfl) .here (by rfl) (by intro u hu;rw[List.mem_singleton.1 hu];rfl)) (by omega) (by omega) fun a' c'=>?_
    refine ip fun ds=>?_
    refine bu (Fe (n:={s.nd k with block:=true}) (w:=w) (k:=kk) hk (by repeat constructor) (by repeat constructor) (by repeat constructor) (by repeat constructor) .refl) ?_
    have hkk:=CH (s:=s) (k:=k) (j:=s.top)
    have htk:=(k6 _ htop).2.1
    obtain⟨s2,hs2⟩:∃s2,s2=s.upd k {s.nd k with block:=true}:=⟨_,rfl⟩
    have hl2:s2.nodes.length=s.nodes.length:=by rw[hs2,yd]
    have ht2:s2.top=s.top:=by rw[hs2];rfl
    rw[<- hs2]at hkk h2 ⊢
    refine Fc (s:=s2) (i:=s.top) (by repeat constructor) (by omega) fun w2 kk2=>?_
    unfold zv
    rw[hkk,show lZ (gs s.top)= .pointer (some ⟨gs s.top,0,none⟩)from rfl]
    refine o_ ah (o_ ae (aM ?_));refine cZ fun g=>?_
    refine bV (m:=1) (news:=[lZ (gs k)]) (by(repeat constructor):Pick _ (Sl 1 270 kk2.1 kk2.2 _ _) _) (bR (s:=1) (e':=270) (by kernel_rfl) .here (by rfl) (by intro u hu;rw[List.mem_singleton.1 hu];rfl)) (by omega) (by omega) fun a2 c2=>?_
    refine o_ ah (o_ ae (bU ?_));refine bS ?_
    refine cH (m-1) ?_ ?_
    ·omega
    refine .ex (gs,{s2.kid k with opn:=s.opn++[k],now:=none},(a',c'),i+1) (.all ?_)
    refine aq ?_
    refine .pu ⟨by omega,by simp,rfl,by simp,h2⟩ ?_
    (try dsimp only)
    change Imp W _ (zw gs (s2.upd s2.top {s2.nd s2.top with kids:=(s2.nd s2.top).kids++[k]})::_)
    rw[ht2]
    refine Fe (n:={s2.nd s.top with kids:=(s2.nd s.top).kids++[k]}) (w:=w2) (k:=(a2,c2)) (by omega) (by unfold zv;rw[List.length_append,hkk];(repeat constructor)) (by repeat constructor) (by rw[List.length_append,List.map_append,hkk];(repeat constructor)) (by repeat constructor) ?_
    rw[List.length_append,List.map_append]
    exact aA
  rw[if_neg m2]at h1
  have m2':¬(t.mark.toNat:Int)=123:=fun e=>m2 (UInt8.toNat_inj.1 (by show t.mark.toNat=123;omega))
  split at h1
  rotate_left
  ·cases h1
  rename_i m3
  cases hnow:s.now with
  |none=>rw[hnow]at h1;cases h1
  |some k=>
   rw[hnow]at h1
   cases h1
   have hk:=k5 k hnow
   have m3':t.mark.toNat=59:=by rw[m3];rfl
   rw[vb]
   refine o_ bP (oT ?_)
   refine o_ ae (aM ?_);(((refine o_ (Sl.bL ?hcq) ?_);(case hcq=>(first|omega|(simp only[List.length_nil,List.length_cons];omega)))));refine af ?_;(((refine o_ (Sl.bL ?hcq) ?_);(case hcq=>(first|omega|(simp only[List.length_nil,List.length_cons];omega)))));refine af ?_;(((refine o_ (Sl.bL ?hcq) ?_);(case hcq=>(first|omega|(simp only[List.length_nil,List.length_cons];omega)))));refine af (o_ cp ?_)
   refine bB CD (.cons .here .nil) fun _=>?_
   refine aq ?_
   refine ip fun ds=>?_
   have htk:=(k6 _ htop).2.1
   refine Fc (i:=s.top) (by repeat constructor) htop fun w2 kk2=>?_
   unfold zv
   rw[show lZ (gs s.top)= .pointer (some ⟨gs s.top,0,none⟩)from rfl]
   refine o_ ah (o_ ae (aM ?_));refine cZ fun g=>?_
   refine bV (m:=1) (news:=[lZ (gs k)]) (by(repeat constructor):Pick _ (Sl 1 270 kk2.1 kk2.2 _ _) _) (bR (s:=1) (e':=270) (by kernel_rfl) .here (by rfl) (by intro u hu;rw[List.mem_singleton.1 hu];rfl)) (by omega) (by omega) fun a2 c2=>?_
   refine o_ ah (o_ ae (bU ?_));refine bS ?_
   refine cH (m-1) ?_ ?_
   ·omega
   refine .ex (gs,{s.kid k with now:=none},(some ⟨ga,0,none⟩,o2),i+1) (.all ?_)
   refine aq ?_
   refine .pu ⟨by omega,rfl,rfl,by simp,h2⟩ ?_
   (try dsimp only)
   change Imp W _ (zw gs (s.upd s.top {s.nd s.top with kids:=(s.nd s.top).kids++[k]})::_)
   refine Fe (n:={s.nd s.top with kids:=(s.nd s.top).kids++[k]}) (w:=w2) (k:=(a2,c2)) htop (by unfold zv;rw[List.length_append];(repeat constructor)) (by repeat constructor) (by rw[List.length_append,List.map_append];(repeat constructor)) (by repeat constructor) ?_
   change Imp W _ (Sl 1 _ _ _ s.opn.length (s.opn.map fun k=>lZ (gs k))::_)
   exact aA
 ·have hend:ts.drop i=[]:=List.drop_eq_nil_of_le (by omega)
  rw[hend]at hf
  cases hf
  rw[hn,ho]
  refine be (by(repeat constructor):Pick _ (Sl 1 270 o.1 o.2 [0].length ([0].map fun k=>lZ (gs k))) _) (by simp) fun ga hga=>?_
  obtain⟨o1,o2⟩:=o
  (try dsimp only at hga)
  subst hga
  refine o_ (Sl.bJ (by omega)) ?_
  rw[yf]
  refine af ?_;(((refine o_ (Sl.bZ ?hcq) ?_);(case hcq=>(first|omega|(simp only[List.length_nil,List.length_cons];omega)))));refine ab (ab (o_ jZ ?_));refine o_ am (ab (ab (o_ aK (ab ?_))));(((refine o_ (Sl.bZ ?hcq) ?_);(case hcq=>(first|omega|(simp only[List.length_nil,List.length_cons];omega)))));refine o_ am (af ?_);(((refine' aB (br 0 rfl ?hcq) .nil ?_);(case hcq=>(first|omega|decide|(simp;done)))));(((refine' aB (bF ?hc) ?hi ?_);(case hi=>exact aA);(case hc=>rfl)))
  refine aO gs ?_
  exact aA
abbrev FM:=List UInt8->Option Value
def lU (b1 b2 b3 b4 b5 b6:Nat)(f:FM):FM:=dS (dS (dS (dS (dS (dS (dS (dS (dS (dS (dS (dS (f) [107,101,101,112] (some (dV [] 1 1 false false (kI b1)))) [98,111,100,121] (some (dV [] 1 1 false false (kI b2)))) [115,116,111,114,101] (some (dV [] 1 1 false false (kI b3)))) [99,111,110,110,115] (some (dV [] 1 1 false false (kI b4)))) [117,112,115,116,114,101,97,109] (some (dV [] 1 1 true true (fn 317)))) [112,101,101,114] (some (dV [117,112,115,116,114,101,97,109] 1 2 false true (fn 318)))) [116,105,109,101,111,117,116] (some (dV [117,112,115,116,114,101,97,109] 1 1 false false (kI b5)))) [114,101,116,114,105,101,115] (some (dV [117,112,115,116,114,101,97,109] 1 1 false false (kI b6)))) [115,101,114,118,101,114] (some (dV [] 0 0 true true (fn 322)))) [110,97,109,101] (some (dV [115,101,114,118,101,114] 1 65536 false true (fn 323)))) [100,101,102,97,117,108,116] (some (dV [115,101,114,118,101,114] 0 0 false false (fn 325)))) [108,111,99,97,116,105,111,110] (some (dV [115,101,114,118,101,114] 1 1 true true (fn 326)))
def VK (c1 c2:Nat)(f:FM):FM:=dS (dS (dS (dS (dS (dS (dS (dS (f) [114,111,111,116] (some (dV n5 1 1 false false (fn 212)))) [105,110,100,101,120] (some (dV n5 1 1 false false (fn 214)))) [103,122,105,112] (some (dV n5 1 1 false false (kI c1)))) [101,120,112,105,114,101,115] (some (dV n5 1 1 false false (kI c2)))) [112,114,111,120,121] (some (dV n5 1 1 false false (fn 218)))) [99,97,99,104,101] (some (dV n5 0 0 false false (fn 219)))) [108,105,109,105,116] (some (dV n5 2 2 false false (fn 220)))) [114,101,116,117,114,110] (some (dV n5 1 2 false false (fn 222)))
theorem Jc {W:World}{g:Nat}{f:FM}:Cn p_ 210 [.map (some g)] W [bN g az f] (fun _:(Nat × Nat × Nat) × Nat × Nat × Nat=> .tuple #[]) (fun x=>[bN g az (lU x.2.1 x.2.2.1 x.1.1 x.2.2.2 x.1.2.1 x.1.2.2 f),pt x.1.1 (.cells #[fn 315] 355),pt x.1.2.1 (.cells #[fn 320] 355),pt x.1.2.2 (.cells #[fn 321] 355)]):=by
 (refine Shp.cn (Sg.g_ Tryz.call210 Tryz.func210) fun F=>?_;simp only[ca_,na_])
 refine' aj (u9 (f:=313)) ?hp fun b1=>?_
 case hp=>exact .nil
 unfold kI
 refine aq ?_
 refine o_ bM ?_
 refine dC (enc:=az) (q:=[107,101,101,112]) (fw Tryz.underlying9) (by repeat constructor) ?_
 refine' aj (u9 (f:=314)) ?hp fun b2=>?_
 case hp=>exact .nil
 unfold kI
 refine aq ?_
 refine o_ bM ?_
 refine dC (enc:=az) (q:=[98,111,100,121]) (fw Tryz.underlying9) (by repeat constructor) ?_
 refine' aj (u9 (f:=315)) ?hp fun b3=>?_
 case hp=>exact .nil
 unfold kI
 refine aq ?_
 refine o_ bM ?_
 refine dC (enc:=az) (q:=[115,116,111,114,101]) (fw Tryz.underlying9) (by repeat constructor) ?_
 refine' aj (u9 (f:=316)) ?hp fun b4=>?_
 case hp=>exact .nil
 unfold kI
 refine aq ?_
 refine o_ bM ?_
 refine dC (enc:=az) (q:=[99,111,110,110,115]) (fw Tryz.underlying9) (by repeat constructor) ?_
 refine o_ bM ?_
 refine dC (enc:=az) (q:=[117,112,115,116,114,101,97,109]) (fw Tryz.underlying9) (by repeat constructor) ?_
 refine o_ bM ?_
 refine dC (enc:=az) (q:=[112,101,101,114]) (fw Tryz.underlying9) (by repeat constructor) ?_
 refine' aj (u9 (f:=320)) ?hp fun b5=>?_
 case hp=>exact .nil
 unfold kI
 refine aq ?_
 refine o_ bM ?_
 refine dC (enc:=az) (q:=[116,105,109,101,111,117,116]) (fw Tryz.underlying9) (by repeat constructor) ?_
 refine' aj (u9 (f:=321)) ?hp fun b6=>?_
 case hp=>exact .nil
 unfold kI
 refine aq ?_
 refine o_ bM ?_
 refine dC (enc:=az) (q:=[114,101,116,114,105,101,115]) (fw Tryz.underlying9) (by repeat constructor) ?_
 refine o_ bM ?_
 refine dC (enc:=az) (q:=[115,101,114,118,101,114]) (fw Tryz.underlying9) (by repeat constructor) ?_
 refine o_ bM ?_
 refine dC (enc:=az) (q:=[110,97,109,101]) (fw Tryz.underlying9) (by repeat constructor) ?_
 refine o_ bM ?_
 refine dC (enc:=az) (q:=[100,101,102,97,117,108,116]) (fw Tryz.underlying9) (by repeat constructor) ?_
 refine o_ bM ?_
 refine dC (enc:=az) (q:=[108,111,99,97,116,105,111,110]) (fw Tryz.underlying9) (by repeat constructor) ?_
 refine aO (((b3,b5,b6),b1,b2,b4)) ?_
 exact aA
theorem Qa {W:World}:Cn p_ 137 [] W [] (fun x:Nat × (Nat × Nat × Nat) × Nat × Nat × Nat × Nat × Nat=> .map (some x.1)) (fun x=>[bN x.1 az (VK x.2.2.2.2.2.1 x.2.2.2.2.2.2 (lU x.2.2.1 x.2.2.2.1 x.2.1.1 x.2.2.2.2.1 x.2.1.2.1 x.2.1.2.2 fun _=>none)),pt x.2.1.1 (.cells #[fn 315] 355),pt x.2.1.2.1 (.cells #[fn 320] 355),pt x.2.1.2.2 (.cells #[fn 321] 355)]):=by
 (refine Shp.cn (Sg.g_ Tryz.call137 Tryz.func137) fun F=>?_;simp only[ca_,na_])
 refine jM (P:=p_) (t:=265) (kt:=9) az fun g=>?_
 refine dH fun g=>?_;refine bU ?_;refine aM ?_
 rename Nat=>bx
 refine' aj (Jc (g:=g) (f:=fun _=>none)) ?hp fun x=>?_
 case hp=>exact .cons (by repeat constructor) .nil
 refine aq ?_
 refine o_ bP (bB (u_ (b:=bx) (g:=g)) (.cons (by repeat constructor) (.cons (by repeat constructor) .nil)) fun _=>?_)
 refine aq ?_
 refine bB (u_ (b:=bx) (g:=g)) (.cons (by repeat constructor) (.cons (by repeat constructor) .nil)) fun _=>?_
 refine aq ?_
 refine' aj (u9 (f:=216)) ?hp fun c1=>?_
 case hp=>exact .nil
 unfold kI
 refine aq ?_
 refine bB (u_ (b:=bx) (g:=g)) (.cons (by repeat constructor) (.cons (by repeat constructor) .nil)) fun _=>?_
 refine aq ?_
 refine' aj (u9 (f:=217)) ?hp fun c2=>?_
 case hp=>exact .nil
 unfold kI
 refine aq ?_
 refine bB (u_ (b:=bx) (g:=g)) (.cons (by repeat constructor) (.cons (by repeat constructor) .nil)) fun _=>?_
 refine aq ?_
 refine bB (u_ (b:=bx) (g:=g)) (.cons (by repeat constructor) (.cons (by repeat constructor) .nil)) fun _=>?_
 refine aq ?_
 refine bB (u_ (b:=bx) (g:=g)) (.cons (by repeat constructor) (.cons (by repeat constructor) .nil)) fun _=>?_
 refine aq ?_
 refine bB (u_ (b:=bx) (g:=g)) (.cons (by repeat constructor) (.cons (by repeat constructor) .nil)) fun _=>?_
 refine aq ?_
 refine bB (u_ (b:=bx) (g:=g)) (.cons (by repeat constructor) (.cons (by repeat constructor) .nil)) fun _=>?_
 refine aq ?_
 refine aM ?_
 refine aO ((g,x.1,x.2.1,x.2.2.1,x.2.2.2,c1,c2)) ?_
 exact aA
end Go.Proofs.YtdjkdjepjahjfaaGreatDoor.TP
namespace Go.Proofs.YtdjkdjepjahjfaaGreatDoor.Sl
open Go Go.RowKit Sh
theorem jG {P:Program}{W:World}{κ:Type}[DecidableEq κ]{t kt e:TypeId}{enc:κ->Value}{z:Value}{g:Nat}{f:κ->Option Value}{q:κ}[ht:MapT P t kt e][hz:ZeroT P e z](K:KeyLaw P kt enc):aT P W [bN g enc f] (iW t (.map (some g)) (enc q) false) ((f q).getD z):=
 Cg (S:=fun w=>(iW t (.map (some g)) (enc q) false).run P w= .ok (.value ((f q).getD z)) w) .here fun m _ hq w hw=>by
  rw[<- hq q]
  exact vQ (m:=m) (q:=q) K w hw
theorem Jd {P:Program}{W:World}{t:TypeId}{ox oy:Operand}{a b:Bool}(ht:P.underlying t=some .bool):aT P W [] (eo .neq t ox oy (.bool a) (.bool b)) (.bool (decide (a≠b))):=fun w _=>by
 have h:(Op.equal t (.bool a) (.bool b)).run P w= .ok (a==b) w:=by
  unfold Op.equal Op.maxDepth Op.equalIn
  simp only[Sem.run_bind,run_underlying ht,Result.andThen_ok]
  rfl
 simp[eo,sv,eqGuard,binOp,h,Result.andThen]
 cases a <;> cases b <;> rfl
theorem GK {W:World}{α:Type}[Inhabited α]{A:Nat->α->HP}:∀(l:List Nat),l.Nodup->∀ {h:f_},all (l.map fun i=>ex (A i)) W h->∃f:Nat->α,all (l.map fun i=>A i (f i)) W h
 |[],_,h,_=>⟨fun _=>default,trivial⟩
 |i::l,hn,h,⟨h1,h2,⟨x,hx⟩,hl,d,t1,t2⟩=>by
  obtain⟨hi,hn⟩:=List.nodup_cons.1 hn
  obtain⟨f,hf⟩:=GK l hn hl
  refine⟨fun j=>if j=i then x else f j,h1,h2,by show A i (if i=i then x else f i) W h1;rw[if_pos rfl];exact hx,?_,d,t1,t2⟩
  have he:(l.map fun j=>A j (if j=i then x else f j))=l.map fun j=>A j (f j):=List.map_congr_left fun j hj=>by
   have:j≠i:=fun e=>hi (by rw[<- e];exact hj)
   rw[if_neg this]
  exact he▸hf
theorem Je {W:World}{L L':List HP}{α:Type}[Inhabited α]{A:Nat->α->HP}{n:Nat}{S:WP}(p:Pick L (BS n fun i=>ex (A i)) L')(h:∀f:Nat->α,aR W (BS n (fun i=>A i (f i))::L') S):aR W L S:=
 bt (A:=fun f:Nat->α=>BS n fun i=>A i (f i)) (L:=ex (fun f:Nat->α=>BS n fun i=>A i (f i))::L') (L':=L') .here (fun f=>h f) |> fun hh=>nh p (fun h H=>GK _ List.nodup_range H) hh
end Go.Proofs.YtdjkdjepjahjfaaGreatDoor.Sl
namespace Go.Proofs.YtdjkdjepjahjfaaGreatDoor.TP
open Go Go.Proofs Go.RowKit Sh Sl T FD
theorem jR {W:World}{a b c:Int}(h1:b<=a)(h2:a<=c):Cn p_ 209 [.int .i64 a,.int .i64 b,.int .i64 c] W [] (fun _:Unit=> .bool true) (fun _=>[]):=by
 (refine Shp.cn (Sg.g_ Tryz.call209 Tryz.func209) fun F=>?_;simp only[ca_,na_])
 (((refine o_ (Sl.jJ ?hcq) ?_);(case hcq=>(first|omega|(simp only[List.length_nil,List.length_cons];omega)))));refine ab ?_;refine ab ?_;refine ab ?_;(((refine o_ (Sl.gN ?hcq) ?_);(case hcq=>(first|omega|(simp only[List.length_nil,List.length_cons];omega)))));refine o_ av ?_
 refine aO () ?_
 exact .refl
def qI (l:List (List UInt8)):FM:=fun q=>if q∈l then some (.bool true)else none
theorem Fl {l:List (List UInt8)}{k:List UInt8}:dS (qI l) k (some (.bool true))=qI (l++[k]):=by
 funext q
 unfold dS qI
 by_cases h:q=k <;> simp[h]
def V3 (gs:Nat->Nat)(n:NdR)(g:Nat)(q:AC × AC):HP:=all [pt g (.cells (zv n q.1 q.2).toArray 269),Sl 1 9 q.1.1 q.1.2 n.words.length (n.words.map az),Sl 1 270 q.2.1 q.2.2 n.kids.length (n.kids.map fun k=>lZ (gs k))]
def zY (gs:Nat->Nat)(f:Nat->AC × AC)(s:TS):HP:=BS s.nodes.length fun i=>V3 gs (s.nd i) (gs i) (f i)
theorem Qb {W:World}{L L':List HP}{gs:Nat->Nat}{s:TS}{S:WP}(p:Pick L (zw gs s) L')(h:∀f,aR W (zY gs f s::L') S):aR W L S:=Je p h
end Go.Proofs.YtdjkdjepjahjfaaGreatDoor.TP
namespace Go.Proofs.YtdjkdjepjahjfaaGreatDoor.TP
open Go Go.Proofs Go.RowKit Sh Sl T FD
variable {W:World} {L L':List HP} {gs:Nat->Nat} {f:Nat->AC × AC} {T:TS} {j:Nat}
theorem GL {S:WP}(p:Pick L (zY gs f T) L')(hj:j<T.nodes.length)(h:(0<(T.nd j).words.length->∃g,(f j).1.1=some ⟨g,0,none⟩)->(T.nd j).words.length<=(f j).1.2->(0<(T.nd j).kids.length->∃g,(f j).2.1=some ⟨g,0,none⟩)->aR W L S):aR W L S:=fun w hw=>by
 have hf:aR W L (fun _=>(0<(T.nd j).words.length->∃g,(f j).1.1=some ⟨g,0,none⟩)/\(T.nd j).words.length<=(f j).1.2/\(0<(T.nd j).kids.length->∃g,(f j).2.1=some ⟨g,0,none⟩)):=by
  refine oq p j hj (aE .here ?_)
  refine aq ?_
  refine aN (.there .here) fun _ a1 _ a2=>?_
  refine aN (.there (.there .here)) fun _ _ _ a3=>?_
  exact fun _ _=>⟨a2,a1,a3⟩
 obtain⟨h1,h2,h3⟩:=hf w hw
 exact h h1 h2 h3 w hw
theorem r8 {t:TypeId}{o:Nat}{v:Value}[ht:OneT p_ t](hj:j<T.nodes.length)(hv:(zv (T.nd j) (f j).1 (f j).2)[o]? =some v):aT p_ W [zY gs f T] (aL t (.pointer (some ⟨gs j,o,none⟩))) v:=
 oq (S:=fun w=>(aL t (.pointer (some ⟨gs j,o,none⟩))).run p_ w= .ok (.value v) w) .here j hj (aE .here (by
  refine aq ?_
  intro w hw
  exact iX (W:=W) (cs:=(zv (T.nd j) (f j).1 (f j).2).toArray) (T:=269) (fz:=(0,0)) (by simpa using hv) w (hw.pick .here).only))
theorem Qc {t:TypeId}{g i:Nat}[ht:OneT p_ t](hj:j<T.nodes.length)(hg:(f j).2.1=some ⟨g,0,none⟩)(hi:i<(T.nd j).kids.length):aT p_ W [zY gs f T] (aL t (.pointer (some ⟨g,0+i,none⟩))) (lZ (gs (T.nd j).kids[i])):=
 oq (S:=fun w=>(aL t (.pointer (some ⟨g,0+i,none⟩))).run p_ w= .ok (.value (lZ (gs (T.nd j).kids[i]))) w) .here j hj (aE .here (by
  refine aq ?_
  rw[hg]
  intro w hw
  refine bF (cs:=(T.nd j).kids.map fun k=>lZ (gs k)) (by simp[hi]) w ((hw.pick (.there (.there .here))).only)))
theorem CI {g:Nat}(hj:j<T.nodes.length)(hg:(f j).1.1=some ⟨g,0,none⟩):RdB W (zY gs f T) (some ⟨g,0,none⟩) (T.nd j).words.length ((T.nd j).words.map az):=⟨by simp,fun _=>⟨g,0,rfl,fun w L hw i v hv=>
 oq (S:=fun w=>w.cell? ⟨g,0+i,none⟩=some v) (L:=zY gs f T::L) .here j hj (aE .here (by
  refine aq ?_
  rw[hg]
  intro w hw
  exact((fD (cap:=(f j).1.2) (n:=(T.nd j).words.length) (cs:=(T.nd j).words.map az) (by simp) (fun _=>⟨g,rfl⟩)).at_ (by
   rcases Nat.eq_zero_or_pos (T.nd j).words.length with h|h
   ·have:(T.nd j).words=[]:=List.eq_nil_of_length_eq_zero h
    rw[this]at hv;simp at hv
   ·exact h)).elim fun g' h=>h.elim fun o' h=>by
    obtain⟨he,hc⟩:=h
    injection he with he;injection he with e1 e2;subst e1;subst e2
    exact hc w _ (hw.pick (.there .here)) i v hv)) w hw⟩⟩
end Go.Proofs.YtdjkdjepjahjfaaGreatDoor.TP
namespace Go.Proofs.YtdjkdjepjahjfaaGreatDoor.TP
open Go Go.Proofs Go.RowKit Sh Sl T FD
def qJ:List UInt8:=[112,114,111,120,121]
def yg:List UInt8:=[114,101,116,117,114,110]
def Qd:List UInt8:=[114,111,111,116]
def mZ (nm:List UInt8):List UInt8:=if nm=qJ\/nm=yg then Qd else nm
structure dq where
 gs:Nat->Nat
 f:Nat->AC × AC
 T:TS
 b:Nat
 gd:Nat
 dir:FM
 R:HP
def GM (W:World)(E:dq)(k:Nat)(blk:List UInt8)(s s':Bs):Prop:=∀ln:Int,Cn p_ 136 [.pointer (some ⟨E.b,0,none⟩),.map (some E.gd),az blk,.slice (E.f k).2.1 (E.T.nd k).kids.length (E.f k).2.2] W [dF E.b s ln,zY E.gs E.f E.T,bN E.gd az E.dir,E.R] (fun _:Int=> .tuple #[]) (fun ln'=>[dF E.b s' ln',zY E.gs E.f E.T,bN E.gd az E.dir,E.R])
structure StepC (W:World)(E:dq)(blk:List UInt8)(pre:List (List UInt8))(j:Nat)(nm:List UInt8)(s s1:Bs):Prop where
 hj:j<E.T.nodes.length
 ex:∃(ws:List (List UInt8)) (least most:Int) (many:Bool) (fid:FuncId) (cap:List Value) (sm:Bs),
  (E.T.nd j).words=nm::ws/\ws.length<=1000/\E.dir nm=some (dV blk least most (E.T.nd j).block many (.func (.func fid) #[] cap.toArray))/\least<=(ws.length:Int)/\(ws.length:Int)<=most/\(many=true\/mZ nm∉pre)/\
  (∀(ln:Int) (a:Option Addr) (c:Nat) (A:HP),RdB W A a ws.length (ws.map az)->Cn p_ fid ([.pointer (some ⟨E.b,0,none⟩),.slice a ws.length c]++cap) W [dF E.b s ln,A,E.R] (fun _:Unit=> .tuple #[]) (fun _=>[dF E.b sm ln,A,E.R]))/\GM W E j nm sm s1
inductive Steps (W:World)(E:dq)(blk:List UInt8):List (List UInt8)->List Nat->Bs->Bs->Prop
 |nil {pre:List (List UInt8)} {s:Bs}:Steps W E blk pre [] s s
 |cons {pre:List (List UInt8)} {j:Nat} {nm:List UInt8} {r:List Nat} {s s1 s2:Bs} (h:StepC W E blk pre j nm s s1) (t:Steps W E blk (pre++[mZ nm]) r s1 s2):Steps W E blk pre (j::r) s s2
theorem wG {W:World}{E:dq}{blk:List UInt8}{pre:List (List UInt8)}{j:Nat}{r:List Nat}{s s2:Bs}(h:Steps W E blk pre (j::r) s s2):∃nm s1,StepC W E blk pre j nm s s1/\Steps W E blk (pre++[mZ nm]) r s1 s2:=by
 cases h with
 |cons h t=>exact⟨_,_,h,t⟩
theorem zD {W:World}{E:dq}{blk:List UInt8}{pre:List (List UInt8)}{s s2:Bs}(h:Steps W E blk pre [] s s2):s2=s:=by
 cases h with
 |nil=>rfl
theorem Fm {pre:List (List UInt8)}{k:List UInt8}:(qI pre k).getD (.bool false)= .bool (decide (k∈pre)):=by
 unfold qI
 by_cases h:k∈pre <;> simp[h]
theorem build {W:World}{E:dq}{k:Nat}{blk:List UInt8}{s s':Bs}(hk:k<E.T.nodes.length)(hl:(E.T.nd k).kids.length<=1000)(h:Steps W E blk [] (E.T.nd k).kids s s'):GM W E k blk s s':=fun ln=>by
 obtain⟨gs,f,T,b,gd,dir,R⟩:=E
 dsimp only at hk hl h ⊢
 (refine Shp.cn (Sg.g_ Tryz.call136 Tryz.func136 (an:={cuts:=[(10,[15]),(12,[])],loops:=[(2,[19])],drs:=[(5,.ofL [(0,1),(1,1),(2,1),(3,1),(4,1),(5,1),(6,1),(7,1),(8,1),(9,1),(10,1),(11,1),(12,1)]),(10,.ofL [(0,1),(1,1),(2,1),(3,1),(4,1),(5,1),(6,1),(7,1),(8,1),(9,1),(10,1),(11,1),(12,1),(13,1),(14,1),(15,0),(16,1),(17,1),(18,1),(19,1),(20,1),(21,1),(22,1),(23,1),(24,1),(25,1),(26,1),(27,1),(28,1),(29,1),(30,1),(31,1),(32,1),(33,1),(34,1),(35,1),(36,1)])]})) fun F=>?_;simp only[ca_,na_])
 refine jM (P:=p_) (t:=343) (kt:=9) az fun gm=>?_
 refine GL (j:=k) (by repeat constructor) hk fun _ _ hkk=>?_
 refine o_ aK (a_ (fun m y=>[ex fun st:Nat × List (List UInt8) × Bs × Int=>all [pu (m+st.1=(T.nd k).kids.length/\y= .int .i64 (st.1:Int)/\Steps W ⟨gs,f,T,b,gd,dir,R⟩ blk st.2.1 ((T.nd k).kids.drop st.1) st.2.2.1 s'),dF b st.2.2.1 st.2.2.2,bN gm az (qI st.2.1)]]++(zY gs f T::bN gd az dir::R::F)) (T.nd k).kids.length ?_ ?_)
 ·refine Imp.ex (0,[],s,ln) (.all ?_)
  refine aq ?_
  refine .pu ⟨rfl,rfl,h⟩ ?_
  rw[show qI []=fun _=>none by funext q;simp[qI]]
  exact aA
 intro m ds y
 refine aq ?_
 refine bt Pick.here fun st=>aE Pick.here ?_
 obtain⟨i,pre,s0,ln0⟩:=st
 refine aq ?_
 refine aX .here fun hi=>?_
 (try dsimp only at hi)
 obtain⟨hm,rfl,hst⟩:=hi
 (try dsimp only)
 by_cases hlt:i<(T.nd k).kids.length
 ·rw[List.drop_eq_getElem_cons hlt]at hst
  obtain⟨nm,s1,⟨hj,ws,least,most,many,fid,cap,sm,hw,hwl,hd,hl1,hl2,hmn,hdo,hsub⟩,hrest⟩:=wG hst
  dsimp only at hj hw hd hdo
  obtain⟨gk,hgk⟩:=hkk (by omega)
  rw[hgk]
  have hwn:(T.nd (T.nd k).kids[i]).words.length=ws.length+1:=by rw[hw];rfl
  refine GL (j:=(T.nd k).kids[i]) (by repeat constructor) hj fun hw1 hw2 hk2=>?_
  obtain⟨gw,hgw⟩:=hw1 (by omega)
  have hrd:=CI (W:=W) (gs:=gs) hj hgw
  refine o_ (Sl.ce (by omega)) ?_
  refine ai (o_ (br i rfl hlt) ?_)
  refine aB (Qc hk hgk hlt) aA ?_
  generalize (T.nd k).kids[i]=j at hj hw hd hdo hsub hwn hgw hw1 hw2 hk2 hrd
  unfold lZ
  refine o_ ah (o_ ae (aB (r8 (o:=1) hj rfl) aA ?_))
  refine oL (by repeat constructor) fun q=>?_
  unfold mY lh
  refine aq ?_
  refine o_ ah (o_ ae (bU ?_));refine aV (t_ ah (t_ ae (bu (M:=dF b s0 ((T.nd j).line:Int)::bN gm az (qI pre)::zY gs f T::bN gd az dir::R::F) ?_ ?_)))
  ·refine .ex q (.all ?_)
   unfold mY lh
   refine aq ?_
   exact aA
  refine aP (r8 (o:=0) hj rfl) aA ?_
  rw[hgw,hwn]
  refine t_ (br 0 rfl (by omega)) ?_
  refine aP (dI (j:=0) hrd (by rw[hw];rfl)) aA ?_
  refine t_ ah (t_ ae (aP (r8 (o:=0) hj rfl) aA ?_))
  rw[hgw,hwn]
  refine t_ (lj 1 rfl (by omega)) ?_
  have hcut:=hrd.cut (cap:=(f j).1.2) (l:=1) (h:=ws.length+1) (by omega) (by omega) (by omega)
  rw[hw]at hcut
  rw[show((nm::ws).map az).drop 1=ws.map az from rfl,show ws.length+1-1=ws.length by omega,List.take_of_length_le (by simp)]at hcut
  rw[show ws.length+1-1=ws.length by omega]
  obtain⟨aw,haw⟩:∃aw,aw=(if(f j).1.2=1 then(some ⟨gw,0,none⟩:Option Addr)else(some ⟨gw,0,none⟩:Option Addr).map (·.add (1 * 1))):=⟨_,rfl⟩
  rw[<- haw]at hcut ⊢
  refine rU (fw Tryz.underlying9) (by(repeat constructor):Pick _ (bN gd az dir) _) ?_
  rw[hd,Option.getD_some,Option.isSome_some]
  unfold dV
  refine bI ?_;refine bI ?_;refine aS fun g=>?_;(((refine' aG ?hp ?hn ?hv ?h1 ?_);(case hp=>(repeat constructor));(case hn=>rfl);(case hv=>rfl);(case h1=>simp[Value.oneCell',az])))
  refine dt (fun x=>pu (x=az (mZ nm))::pt g (.cells #[az blk,.int .i64 least,.int .i64 most,.bool (T.nd j).block,.bool many,.func (.func fid) #[] cap.toArray] 346)::dF b s0 ((T.nd j).line:Int)::bN gm az (qI pre)::zY gs f T::bN gd az dir::R::F) ?_ ?_
  rotate_left
  ·unfold mZ
   by_cases hp1:nm=qJ
   ·rw[if_pos (.inl hp1)]
    refine o_ (Sl.kr (m:=qJ) hp1) ?_
    refine aC (aC (o_ av (ai (aI (.pu rfl ?_)))))
    exact aA
   by_cases hp2:nm=yg
   ·rw[if_pos (.inr hp2)]
    refine o_ (Sl.fK (m:=qJ) hp1) ?_
    refine ab (ab ?_);(((refine' aB (Sl.kr ?hcq) .nil ?_);(case hcq=>(first|rfl|assumption))));refine o_ am (ai (aI (.pu rfl ?_)))
    exact aA
   rw[if_neg (fun h=>h.elim hp1 hp2)]
   refine o_ (Sl.fK (m:=qJ) hp1) ?_
   refine ab (ab ?_);(((refine' aB (Sl.fK ?hcq) .nil ?_);(case hcq=>(first|assumption|simp_all;done))));refine o_ am (af (aI (.pu rfl ?_)))
   exact aA
  intro ds z
  refine aX .here fun hz=>?_
  subst hz
  refine eb ?_
  refine aV (t_ bA (ab (t_ ae (ab (cu ?_)))));refine ab (ab ?_);(((refine' aP (Sl.pW ?hcq) .nil ?_);(case hcq=>(intro hh;exact hh (by first|rfl|assumption)))));refine t_ am (ab (ab (t_ aK (ab (t_ ae (ab (cu ?_)))))));refine ab (t_ ae (ab (cu ?_)));refine ab ?_
  refine' aj (jR hl1 hl2) ?hp fun _=>?_
  case hp=>exact .nil
  refine aq ?_
  refine ab (t_ bA (t_ am (ab (t_ ae (ab (cu ?_))))));refine ab (ab (t_ ah (ab (t_ ae (ab (aP (r8 (o:=2) hj rfl) aA ?_))))))
  refine ab (t_ (Jd Tryz.underlying4) ?_)
  rw[dF_ (by simp)]
  refine t_ am (ab (ab (ab (aP (Sl.jG (fw Tryz.underlying9)) aA ?_))))
  rw[Fm]
  have hfin:∀x85:Bool,x85=decide (mZ nm∈pre)->(x85=true->many=true):=fun x h1 h2=>hmn.resolve_right fun h=>h (of_decide_eq_true (h1▸h2))
  obtain⟨mt,hmt⟩:∃mt,mt=decide (mZ nm∈pre):=⟨_,rfl⟩
  rw[<- hmt]
  rcases(show mt=false\/(mt=true/\many=true) by cases mt with|false=>exact .inl rfl|true=>exact .inr ⟨rfl,hfin true hmt rfl⟩)with rfl|⟨rfl,rfl⟩
  all_goals
   (first|((refine ab ?_);refine ao ?_;refine ao ?_;refine ao ?_;refine ab ?_;refine t_ am ?_;refine t_ am ?_;(refine af ?_))|((refine ab ?_);refine ab ?_;refine t_ ae ?_;refine ab ?_;refine cu ?_;refine ab ?_;refine t_ bA ?_;refine ab ?_;refine t_ av ?_;refine t_ am ?_;(refine af ?_)))
   refine ip fun ds=>?_
   refine dC (enc:=az) (q:=mZ nm) (fw Tryz.underlying9) (by(repeat constructor):Pick _ (bN gm az (qI pre)) _) ?_
   rw[Fl]
   refine o_ ae (aM ?_)
   refine bB (hdo _ _ _ _ hcut) (.cons (by repeat constructor) (.cons (by repeat constructor) (.cons (by repeat constructor) .nil))) fun _=>?_
   refine aq ?_
   refine o_ ah (o_ ae (aB (r8 (o:=3) hj rfl) aA ?_))
   have hsub2:=hsub ((T.nd j).line:Int)
   dsimp only at hsub2
   refine' aj hsub2 ?hp fun ln2=>?_
   case hp=>(repeat(first|exact Picks.nil|(apply Picks.cons;(focus repeat constructor))))
   refine aq ?_
   refine bS ?_
   refine bq (m-1) ?_ ?_
   ·omega
   refine .ex (i+1,pre++[mZ nm],s1,ln2) (.all ?_)
   refine aq ?_
   refine .pu ⟨by omega,by simp,hrest⟩ ?_
   exact aA
 ·rw[List.drop_eq_nil_of_le (by omega)]at hst
  have:=zD hst
  subst this
  refine o_ (Sl.bJ (by omega)) ?_
  refine af (aO ln0 ?_)
  exact aA
structure Els (s n:Nat)(cs:List Value)(E:Nat->List Value):Prop where
 len:cs.length=n * s
 el:∀i,i<n->(E i).length=s
 one:∀i,i<n->∀u∈E i,u.oneCell'=true
 get:∀i k,i<n->k<s->cs[i * s+k]? =(E i)[k]?
theorem wH {W:World}{f:FuncId}{cap:List Value}{A:HP}{G c n:Nat}{cs:List Value}{E:Nat->List Value}{v:Nat->Bool}(h:Els 4 n cs E)(hn:n<=1000)(hv:∀i,i<n->v i=false)(hf:∀i,i<n->Cn p_ f ([.agg (E i).toArray]++cap) W [A] (fun _:Unit=> .bool (v i)) (fun _=>[A])):Cn p_ 332 [.slice (some ⟨G,0,none⟩) n c,.func (.func f) #[] cap.toArray] W [Sl 4 145 (some ⟨G,0,none⟩) c n cs,A] (fun _:Unit=> .bool false) (fun _=>[Sl 4 145 (some ⟨G,0,none⟩) c n cs,A]):=by
 have h2:Cn p_ 123 [.slice (some ⟨G,0,none⟩) n c,.func (.func f) #[] cap.toArray] W [Sl 4 145 (some ⟨G,0,none⟩) c n cs,A] (fun _:Unit=> .int .i64 (-1)) (fun _=>[Sl 4 145 (some ⟨G,0,none⟩) c n cs,A]):=by
  (refine Shp.cn (Sg.g_ Tryz.call123 Tryz.func123 (an:={loops:=[(2,[8])]})) fun F=>?_;simp only[ca_,na_])
  refine o_ aK (a_ (fun m y=>[ex fun i:Nat=>pu (m+i=n/\y= .int .i64 (i:Int))]++(Sl 4 145 (some ⟨G,0,none⟩) c n cs::A::F)) n ?_ ?_)
  ·exact Imp.ex 0 (.pu ⟨by omega,rfl⟩ .refl)
  intro m ds y
  refine aq ?_
  refine bt Pick.here fun i=>aX .here fun hi=>?_
  obtain⟨hm,rfl⟩:=hi
  by_cases hlt:i<n
  ·refine o_ (Sl.ce (by omega)) ?_
   refine ai (o_ (eA i rfl hlt) ?_)
   refine aB (dp (n:=4) (j:=i * 4) (vs:=E i) (ef (n:=n) (s:=4) h.len fun _=>⟨G,rfl⟩) (h.el i hlt) (fun k hk=>h.get i k hlt hk)) aA ?_
   refine bB (hf i hlt) (.cons (by repeat constructor) .nil) fun _=>?_
   rw[hv i hlt]
   refine aq ?_
   refine af (bS ?_)
   refine bq (m-1) ?_ ?_
   ·omega
   refine .ex (i+1) (.pu ⟨by omega,by simp⟩ ?_)
   exact aA
  ·refine o_ (Sl.bJ (by omega)) ?_
   refine af (aO () ?_)
   exact .refl
 (refine Shp.cn (Sg.g_ Tryz.call332 Tryz.func332) fun F=>?_;simp only[ca_,na_])
 refine' aj h2 ?hp fun _=>?_
 case hp=>(repeat(first|exact Picks.nil|(apply Picks.cons;(focus repeat constructor))))
 refine aq ?_
 (((refine o_ (Sl.eW ?hcq) ?_);(case hcq=>(first|omega|(simp only[List.length_nil,List.length_cons];omega)))))
 refine aO () ?_
 exact aA
theorem vd {W:World}{f:FuncId}{cap:List Value}{A:HP}{G c n:Nat}{cs:List Value}{E:Nat->List Value}(h:Els 4 n cs E)(hn:n<=1000)(hf:∀i,i<n->Cn p_ f ([.agg (E i).toArray]++cap) W [A] (fun _:Unit=> .bool true) (fun _=>[A])):Cn p_ 225 [.slice (some ⟨G,0,none⟩) n c,.func (.func f) #[] cap.toArray] W [Sl 4 145 (some ⟨G,0,none⟩) c n cs,A] (fun _:Unit=> .bool true) (fun _=>[Sl 4 145 (some ⟨G,0,none⟩) c n cs,A]):=by
 have h1:∀bx i,i<n->Cn p_ 333 ([.agg (E i).toArray]++[.pointer (some ⟨bx,0,none⟩)]) W [all [pt bx (.cells #[.func (.func f) #[] cap.toArray] 245),A]] (fun _:Unit=> .bool false) (fun _=>[all [pt bx (.cells #[.func (.func f) #[] cap.toArray] 245),A]]):=by
  intro bx i hi
  (refine Shp.cn (Sg.g_ Tryz.call333 Tryz.func333) fun F=>?_;simp only[ca_,na_])
  refine aE .here ?_
  refine aq ?_
  refine aU fun b=>?_
  refine aM ?_
  refine aB (bK (n:=4) (by rw[List.size_toArray];exact h.el i hi)) aA ?_
  refine bB (hf i hi) (.cons (by repeat constructor) .nil) fun _=>?_
  refine aq ?_
  refine o_ bA (aO () ?_)
  refine .all ?_
  refine aq ?_
  exact aA
 (refine Shp.cn (Sg.g_ Tryz.call225 Tryz.func225) fun F=>?_;simp only[ca_,na_])
 refine cA fun g=>?_;refine o_ bP (bu (M:=Sl 4 145 (some ⟨G,0,none⟩) c n cs::all [pt g (.cells #[.func (.func f) #[] cap.toArray] 245),A]::F) ?_ ?_)
 ·refine .pick (by repeat constructor) (.all ?_)
  refine aq ?_
  exact aA
 refine' aj (wH (G:=G) (c:=c) (f:=333) (cap:=[.pointer (some ⟨g,0,none⟩)]) (v:=fun _=>false) h hn (fun _ _=>rfl) (h1 g)) ?hp fun _=>?_
 case hp=>(repeat(first|exact Picks.nil|(apply Picks.cons;(focus repeat constructor))))
 refine aq ?_
 refine aE (.there .here) ?_
 refine aq ?_
 refine o_ cP (aO () ?_)
 exact aA
theorem Jf {W:World}{f:FuncId}{cap:List Value}{A:HP}{G c n:Nat}{cs:List Value}{E:Nat->List Value}{v:Nat->Bool}(h:Els 2 n cs E)(hn:n<=1000)(hv:∀i,i<n->v i=false)(hf:∀i,i<n->Cn p_ f ([.agg (E i).toArray]++cap) W [A] (fun _:Unit=> .bool (v i)) (fun _=>[A])):Cn p_ 407 [.slice (some ⟨G,0,none⟩) n c,.func (.func f) #[] cap.toArray] W [Sl 2 315 (some ⟨G,0,none⟩) c n cs,A] (fun _:Unit=> .bool false) (fun _=>[Sl 2 315 (some ⟨G,0,none⟩) c n cs,A]):=by
 have h2:Cn p_ 470 [.slice (some ⟨G,0,none⟩) n c,.func (.func f) #[] cap.toArray] W [Sl 2 315 (some ⟨G,0,none⟩) c n cs,A] (fun _:Unit=> .int .i64 (-1)) (fun _=>[Sl 2 315 (some ⟨G,0,none⟩) c n cs,A]):=by
  (refine Shp.cn (Sg.g_ Tryz.call470 Tryz.func470 (an:={loops:=[(2,[8])]})) fun F=>?_;simp only[ca_,na_])
  refine o_ aK (a_ (fun m y=>[ex fun i:Nat=>pu (m+i=n/\y= .int .i64 (i:Int))]++(Sl 2 315 (some ⟨G,0,none⟩) c n cs::A::F)) n ?_ ?_)
  ·exact Imp.ex 0 (.pu ⟨by omega,rfl⟩ .refl)
  intro m ds y
  refine aq ?_
  refine bt Pick.here fun i=>aX .here fun hi=>?_
  obtain⟨hm,rfl⟩:=hi
  by_cases hlt:i<n
  ·refine o_ (Sl.ce (by omega)) ?_
   refine ai (o_ (eA i rfl hlt) ?_)
   refine aB (dp (n:=2) (j:=i * 2) (vs:=E i) (ef (n:=n) (s:=2) h.len fun _=>⟨G,rfl⟩) (h.el i hlt) (fun k hk=>h.get i k hlt hk)) aA ?_
   refine bB (hf i hlt) (.cons (by repeat constructor) .nil) fun _=>?_
   rw[hv i hlt]
   refine aq ?_
   refine af (bS ?_)
   refine bq (m-1) ?_ ?_
   ·omega
   refine .ex (i+1) (.pu ⟨by omega,by simp⟩ ?_)
   exact aA
  ·refine o_ (Sl.bJ (by omega)) ?_
   refine af (aO () ?_)
   exact .refl
 (refine Shp.cn (Sg.g_ Tryz.call407 Tryz.func407) fun F=>?_;simp only[ca_,na_])
 refine' aj h2 ?hp fun _=>?_
 case hp=>(repeat(first|exact Picks.nil|(apply Picks.cons;(focus repeat constructor))))
 refine aq ?_
 (((refine o_ (Sl.eW ?hcq) ?_);(case hcq=>(first|omega|(simp only[List.length_nil,List.length_cons];omega)))))
 refine aO () ?_
 exact aA
theorem Fo {W:World}{f:FuncId}{cap:List Value}{A:HP}{G c n:Nat}{cs:List Value}{E:Nat->List Value}(h:Els 2 n cs E)(hn:n<=1000)(hf:∀i,i<n->Cn p_ f ([.agg (E i).toArray]++cap) W [A] (fun _:Unit=> .bool true) (fun _=>[A])):Cn p_ 334 [.slice (some ⟨G,0,none⟩) n c,.func (.func f) #[] cap.toArray] W [Sl 2 315 (some ⟨G,0,none⟩) c n cs,A] (fun _:Unit=> .bool true) (fun _=>[Sl 2 315 (some ⟨G,0,none⟩) c n cs,A]):=by
 have h1:∀bx i,i<n->Cn p_ 408 ([.agg (E i).toArray]++[.pointer (some ⟨bx,0,none⟩)]) W [all [pt bx (.cells #[.func (.func f) #[] cap.toArray] 474),A]] (fun _:Unit=> .bool false) (fun _=>[all [pt bx (.cells #[.func (.func f) #[] cap.toArray] 474),A]]):=by
  intro bx i hi
  (refine Shp.cn (Sg.g_ Tryz.call408 Tryz.func408) fun F=>?_;simp only[ca_,na_])
  refine aE .here ?_
  refine aq ?_
  refine aU fun b=>?_
  refine aM ?_
  refine aB (bK (n:=2) (by rw[List.size_toArray];exact h.el i hi)) aA ?_
  refine bB (hf i hi) (.cons (by repeat constructor) .nil) fun _=>?_
  refine aq ?_
  refine o_ bA (aO () ?_)
  refine .all ?_
  refine aq ?_
  exact aA
 (refine Shp.cn (Sg.g_ Tryz.call334 Tryz.func334) fun F=>?_;simp only[ca_,na_])
 refine cA fun g=>?_;refine o_ bP (bu (M:=Sl 2 315 (some ⟨G,0,none⟩) c n cs::all [pt g (.cells #[.func (.func f) #[] cap.toArray] 474),A]::F) ?_ ?_)
 ·refine .pick (by repeat constructor) (.all ?_)
  refine aq ?_
  exact aA
 refine' aj (Jf (G:=G) (c:=c) (f:=408) (cap:=[.pointer (some ⟨g,0,none⟩)]) (v:=fun _=>false) h hn (fun _ _=>rfl) (h1 g)) ?hp fun _=>?_
 case hp=>(repeat(first|exact Picks.nil|(apply Picks.cons;(focus repeat constructor))))
 refine aq ?_
 refine aE (.there .here) ?_
 refine aq ?_
 refine o_ cP (aO () ?_)
 exact aA
theorem CJ {W:World}{f:FuncId}{cap:List Value}{A:HP}{G c n:Nat}{cs:List Value}{E:Nat->List Value}{v:Nat->Bool}(h:Els 3 n cs E)(hn:n<=1000)(hv:∀i,i<n->v i=false)(hf:∀i,i<n->Cn p_ f ([.agg (E i).toArray]++cap) W [A] (fun _:Unit=> .bool (v i)) (fun _=>[A])):Cn p_ 338 [.slice (some ⟨G,0,none⟩) n c,.func (.func f) #[] cap.toArray] W [Sl 3 200 (some ⟨G,0,none⟩) c n cs,A] (fun _:Unit=> .bool false) (fun _=>[Sl 3 200 (some ⟨G,0,none⟩) c n cs,A]):=by
 have h2:Cn p_ 409 [.slice (some ⟨G,0,none⟩) n c,.func (.func f) #[] cap.toArray] W [Sl 3 200 (some ⟨G,0,none⟩) c n cs,A] (fun _:Unit=> .int .i64 (-1)) (fun _=>[Sl 3 200 (some ⟨G,0,none⟩) c n cs,A]):=by
  (refine Shp.cn (Sg.g_ Tryz.call409 Tryz.func409 (an:={loops:=[(2,[8])]})) fun F=>?_;simp only[ca_,na_])
  refine o_ aK (a_ (fun m y=>[ex fun i:Nat=>pu (m+i=n/\y= .int .i64 (i:Int))]++(Sl 3 200 (some ⟨G,0,none⟩) c n cs::A::F)) n ?_ ?_)
  ·exact Imp.ex 0 (.pu ⟨by omega,rfl⟩ .refl)
  intro m ds y
  refine aq ?_
  refine bt Pick.here fun i=>aX .here fun hi=>?_
  obtain⟨hm,rfl⟩:=hi
  by_cases hlt:i<n
  ·refine o_ (Sl.ce (by omega)) ?_
   refine ai (o_ (eA i rfl hlt) ?_)
   refine aB (dp (n:=3) (j:=i * 3) (vs:=E i) (ef (n:=n) (s:=3) h.len fun _=>⟨G,rfl⟩) (h.el i hlt) (fun k hk=>h.get i k hlt hk)) aA ?_
   refine bB (hf i hlt) (.cons (by repeat constructor) .nil) fun _=>?_
   rw[hv i hlt]
   refine aq ?_
   refine af (bS ?_)
   refine bq (m-1) ?_ ?_
   ·omega
   refine .ex (i+1) (.pu ⟨by omega,by simp⟩ ?_)
   exact aA
  ·refine o_ (Sl.bJ (by omega)) ?_
   refine af (aO () ?_)
   exact .refl
 (refine Shp.cn (Sg.g_ Tryz.call338 Tryz.func338) fun F=>?_;simp only[ca_,na_])
 refine' aj h2 ?hp fun _=>?_
 case hp=>(repeat(first|exact Picks.nil|(apply Picks.cons;(focus repeat constructor))))
 refine aq ?_
 (((refine o_ (Sl.eW ?hcq) ?_);(case hcq=>(first|omega|(simp only[List.length_nil,List.length_cons];omega)))))
 refine aO () ?_
 exact aA
theorem zE {W:World}{f:FuncId}{cap:List Value}{A:HP}{G c n:Nat}{cs:List Value}{E:Nat->List Value}(h:Els 3 n cs E)(hn:n<=1000)(hf:∀i,i<n->Cn p_ f ([.agg (E i).toArray]++cap) W [A] (fun _:Unit=> .bool true) (fun _=>[A])):Cn p_ 229 [.slice (some ⟨G,0,none⟩) n c,.func (.func f) #[] cap.toArray] W [Sl 3 200 (some ⟨G,0,none⟩) c n cs,A] (fun _:Unit=> .bool true) (fun _=>[Sl 3 200 (some ⟨G,0,none⟩) c n cs,A]):=by
 have h1:∀bx i,i<n->Cn p_ 339 ([.agg (E i).toArray]++[.pointer (some ⟨bx,0,none⟩)]) W [all [pt bx (.cells #[.func (.func f) #[] cap.toArray] 367),A]] (fun _:Unit=> .bool false) (fun _=>[all [pt bx (.cells #[.func (.func f) #[] cap.toArray] 367),A]]):=by
  intro bx i hi
  (refine Shp.cn (Sg.g_ Tryz.call339 Tryz.func339) fun F=>?_;simp only[ca_,na_])
  refine aE .here ?_
  refine aq ?_
  refine aU fun b=>?_
  refine aM ?_
  refine aB (bK (n:=3) (by rw[List.size_toArray];exact h.el i hi)) aA ?_
  refine bB (hf i hi) (.cons (by repeat constructor) .nil) fun _=>?_
  refine aq ?_
  refine o_ bA (aO () ?_)
  refine .all ?_
  refine aq ?_
  exact aA
 (refine Shp.cn (Sg.g_ Tryz.call229 Tryz.func229) fun F=>?_;simp only[ca_,na_])
 refine cA fun g=>?_;refine o_ bP (bu (M:=Sl 3 200 (some ⟨G,0,none⟩) c n cs::all [pt g (.cells #[.func (.func f) #[] cap.toArray] 367),A]::F) ?_ ?_)
 ·refine .pick (by repeat constructor) (.all ?_)
  refine aq ?_
  exact aA
 refine' aj (CJ (G:=G) (c:=c) (f:=339) (cap:=[.pointer (some ⟨g,0,none⟩)]) (v:=fun _=>false) h hn (fun _ _=>rfl) (h1 g)) ?hp fun _=>?_
 case hp=>(repeat(first|exact Picks.nil|(apply Picks.cons;(focus repeat constructor))))
 refine aq ?_
 refine aE (.there .here) ?_
 refine aq ?_
 refine o_ cP (aO () ?_)
 exact aA
theorem wI {W:World}{f:FuncId}{cap:List Value}{A:HP}{G c n:Nat}{cs:List Value}{E:Nat->List Value}{v:Nat->Bool}(h:Els 12 n cs E)(hn:n<=1000)(hv:∀i,i<n->v i=false)(hf:∀i,i<n->Cn p_ f ([.agg (E i).toArray]++cap) W [A] (fun _:Unit=> .bool (v i)) (fun _=>[A])):Cn p_ 412 [.slice (some ⟨G,0,none⟩) n c,.func (.func f) #[] cap.toArray] W [Sl 12 101 (some ⟨G,0,none⟩) c n cs,A] (fun _:Unit=> .bool false) (fun _=>[Sl 12 101 (some ⟨G,0,none⟩) c n cs,A]):=by
 have h2:Cn p_ 472 [.slice (some ⟨G,0,none⟩) n c,.func (.func f) #[] cap.toArray] W [Sl 12 101 (some ⟨G,0,none⟩) c n cs,A] (fun _:Unit=> .int .i64 (-1)) (fun _=>[Sl 12 101 (some ⟨G,0,none⟩) c n cs,A]):=by
  (refine Shp.cn (Sg.g_ Tryz.call472 Tryz.func472 (an:={loops:=[(2,[8])]})) fun F=>?_;simp only[ca_,na_])
  refine o_ aK (a_ (fun m y=>[ex fun i:Nat=>pu (m+i=n/\y= .int .i64 (i:Int))]++(Sl 12 101 (some ⟨G,0,none⟩) c n cs::A::F)) n ?_ ?_)
  ·exact Imp.ex 0 (.pu ⟨by omega,rfl⟩ .refl)
  intro m ds y
  refine aq ?_
  refine bt Pick.here fun i=>aX .here fun hi=>?_
  obtain⟨hm,rfl⟩:=hi
  by_cases hlt:i<n
  ·refine o_ (Sl.ce (by omega)) ?_
   refine ai (o_ (eA i rfl hlt) ?_)
   refine aB (dp (n:=12) (j:=i * 12) (vs:=E i) (ef (n:=n) (s:=12) h.len fun _=>⟨G,rfl⟩) (h.el i hlt) (fun k hk=>h.get i k hlt hk)) aA ?_
   refine bB (hf i hlt) (.cons (by repeat constructor) .nil) fun _=>?_
   rw[hv i hlt]
   refine aq ?_
   refine af (bS ?_)
   refine bq (m-1) ?_ ?_
   ·omega
   refine .ex (i+1) (.pu ⟨by omega,by simp⟩ ?_)
   exact aA
  ·refine o_ (Sl.bJ (by omega)) ?_
   refine af (aO () ?_)
   exact .refl
 (refine Shp.cn (Sg.g_ Tryz.call412 Tryz.func412) fun F=>?_;simp only[ca_,na_])
 refine' aj h2 ?hp fun _=>?_
 case hp=>(repeat(first|exact Picks.nil|(apply Picks.cons;(focus repeat constructor))))
 refine aq ?_
 (((refine o_ (Sl.eW ?hcq) ?_);(case hcq=>(first|omega|(simp only[List.length_nil,List.length_cons];omega)))))
 refine aO () ?_
 exact aA
theorem ve {W:World}{f:FuncId}{cap:List Value}{A:HP}{G c n:Nat}{cs:List Value}{E:Nat->List Value}(h:Els 12 n cs E)(hn:n<=1000)(hf:∀i,i<n->Cn p_ f ([.agg (E i).toArray]++cap) W [A] (fun _:Unit=> .bool true) (fun _=>[A])):Cn p_ 342 [.slice (some ⟨G,0,none⟩) n c,.func (.func f) #[] cap.toArray] W [Sl 12 101 (some ⟨G,0,none⟩) c n cs,A] (fun _:Unit=> .bool true) (fun _=>[Sl 12 101 (some ⟨G,0,none⟩) c n cs,A]):=by
 have h1:∀bx i,i<n->Cn p_ 413 ([.agg (E i).toArray]++[.pointer (some ⟨bx,0,none⟩)]) W [all [pt bx (.cells #[.func (.func f) #[] cap.toArray] 479),A]] (fun _:Unit=> .bool false) (fun _=>[all [pt bx (.cells #[.func (.func f) #[] cap.toArray] 479),A]]):=by
  intro bx i hi
  (refine Shp.cn (Sg.g_ Tryz.call413 Tryz.func413) fun F=>?_;simp only[ca_,na_])
  refine aE .here ?_
  refine aq ?_
  refine aU fun b=>?_
  refine aM ?_
  refine aB (bK (n:=12) (by rw[List.size_toArray];exact h.el i hi)) aA ?_
  refine bB (hf i hi) (.cons (by repeat constructor) .nil) fun _=>?_
  refine aq ?_
  refine o_ bA (aO () ?_)
  refine .all ?_
  refine aq ?_
  exact aA
 (refine Shp.cn (Sg.g_ Tryz.call342 Tryz.func342) fun F=>?_;simp only[ca_,na_])
 refine cA fun g=>?_;refine o_ bP (bu (M:=Sl 12 101 (some ⟨G,0,none⟩) c n cs::all [pt g (.cells #[.func (.func f) #[] cap.toArray] 479),A]::F) ?_ ?_)
 ·refine .pick (by repeat constructor) (.all ?_)
  refine aq ?_
  exact aA
 refine' aj (wI (G:=G) (c:=c) (f:=413) (cap:=[.pointer (some ⟨g,0,none⟩)]) (v:=fun _=>false) h hn (fun _ _=>rfl) (h1 g)) ?hp fun _=>?_
 case hp=>(repeat(first|exact Picks.nil|(apply Picks.cons;(focus repeat constructor))))
 refine aq ?_
 refine aE (.there .here) ?_
 refine aq ?_
 refine o_ cP (aO () ?_)
 exact aA
def jh {κ:Type}[DecidableEq κ](key:Nat->κ)(i:Nat):κ->Option Value:=fun q=>if(List.range i).any (fun j=>decide (key j=q))then some (.int .i64 1)else none
theorem tw {κ:Type}[DecidableEq κ]{key:Nat->κ}{i:Nat}(h:∀j,j<i->key j≠key i):jh key i (key i)=none:=by
 unfold jh
 rw[if_neg]
 simp only[List.any_eq_true,List.mem_range,decide_eq_true_eq,not_exists,not_and]
 exact fun j hj=>h j hj
theorem kV {κ:Type}[DecidableEq κ]{key:Nat->κ}{i:Nat}:dS (jh key i) (key i) (some (.int .i64 1))=jh key (i+1):=by
 funext q
 unfold dS jh
 rw[List.range_succ,List.any_append]
 by_cases h:q=key i
 ·subst h;simp
 ·have:decide (key i=q)=false:=dF_ (fun e=>h e.symm)
  simp[h,this]
theorem qK {W:World}{f:FuncId}{G c n:Nat}{cs:List Value}{E:Nat->List Value}{key:Nat->List UInt8}(h:Els 4 n cs E)(hn:n<=1000)(hk:∀i j,i<n->j<i->key j≠key i)(hf:∀i,i<n->Cn p_ f ([.agg (E i).toArray]++[]) W [] (fun _:Unit=>az (key i)) (fun _=>[])):Cn p_ 227 [.slice (some ⟨G,0,none⟩) n c,.func (.func f) #[] #[]] W [Sl 4 145 (some ⟨G,0,none⟩) c n cs] (fun _:Unit=> .bool true) (fun _=>[Sl 4 145 (some ⟨G,0,none⟩) c n cs]):=by
 (refine Shp.cn (Sg.g_ Tryz.call227 Tryz.func227 (an:={loops:=[(3,[11])]})) fun F=>?_;simp only[ca_,na_])
 refine jM (P:=p_) (t:=477) (kt:=9) az fun gm=>?_
 refine o_ aK (a_ (fun m y=>[ex fun i:Nat=>all [pu (m+i=n/\y= .int .i64 (i:Int)),bN gm az (jh key i)]]++(Sl 4 145 (some ⟨G,0,none⟩) c n cs::F)) n ?_ ?_)
 ·refine Imp.ex 0 (.all ?_)
  refine aq ?_
  exact .pu ⟨by omega,rfl⟩ .refl
 intro m ds y
 refine aq ?_
 refine bt Pick.here fun i=>aE .here ?_
 refine aq ?_
 refine aX .here fun hi=>?_
 obtain⟨hm,rfl⟩:=hi
 by_cases hlt:i<n
 ·have hel:=h.el i hlt
  refine o_ (Sl.ce (by omega)) ?_
  refine ai (o_ (eA i rfl hlt) ?_)
  refine aB (dp (n:=4) (j:=i * 4) (vs:=E i) (ef (n:=n) (s:=4) h.len fun _=>⟨G,rfl⟩) hel (fun k hk=>h.get i k hlt hk)) aA ?_
  refine aS fun b=>?_
  refine aG .here (by rfl) (by rw[List.size_toArray];exact hel) (by simpa using h.one i hlt) ?_
  refine aB (bK (n:=4) (by rw[List.size_toArray];exact hel)) aA ?_
  refine bB (cap:=[]) (hf i hlt) .nil fun _=>?_
  refine aq ?_
  refine jC (fw Tryz.underlying9) (by(repeat constructor):Pick _ (bN gm az (jh key i)) _) ?_
  rw[tw (fun j hj=>hk i j hlt hj),Option.getD_none]
  refine bS ?_
  refine dC (fw Tryz.underlying9) (by(repeat constructor):Pick _ (bN gm az (jh key i)) _) ?_
  rw[Int.zero_add,kV]
  refine aB (bK (n:=4) (by rw[List.size_toArray];exact hel)) aA ?_
  refine bB (cap:=[]) (hf i hlt) .nil fun _=>?_
  refine aq ?_
  refine jC (fw Tryz.underlying9) (by(repeat constructor):Pick _ (bN gm az (jh key (i+1))) _) ?_
  rw[show(jh key (i+1) (key i)).getD (.int .i64 0)= .int .i64 1 by rw[<- kV];simp[dS]]
  (((refine o_ (Sl.bZ ?hcq) ?_);(case hcq=>(first|omega|(simp only[List.length_nil,List.length_cons];omega)))));refine af ?_;refine bS ?_
  refine bq (m-1) ?_ ?_
  ·omega
  refine .ex (i+1) (.all ?_)
  refine aq ?_
  refine .pu ⟨by omega,by simp⟩ ?_
  exact aA
 ·refine o_ (Sl.bJ (by omega)) ?_
  refine af (aO () ?_)
  exact aA
theorem wJ {W:World}{f:FuncId}{G c n:Nat}{cs:List Value}{E:Nat->List Value}{key:Nat->Int}(h:Els 2 n cs E)(hn:n<=1000)(hk:∀i j,i<n->j<i->key j≠key i)(hf:∀i,i<n->Cn p_ f ([.agg (E i).toArray]++[]) W [] (fun _:Unit=>fN (key i)) (fun _=>[])):Cn p_ 336 [.slice (some ⟨G,0,none⟩) n c,.func (.func f) #[] #[]] W [Sl 2 315 (some ⟨G,0,none⟩) c n cs] (fun _:Unit=> .bool true) (fun _=>[Sl 2 315 (some ⟨G,0,none⟩) c n cs]):=by
 (refine Shp.cn (Sg.g_ Tryz.call336 Tryz.func336 (an:={loops:=[(3,[11])]})) fun F=>?_;simp only[ca_,na_])
 refine jM (P:=p_) (t:=547) (kt:=3) fN fun gm=>?_
 refine o_ aK (a_ (fun m y=>[ex fun i:Nat=>all [pu (m+i=n/\y= .int .i64 (i:Int)),bN gm fN (jh key i)]]++(Sl 2 315 (some ⟨G,0,none⟩) c n cs::F)) n ?_ ?_)
 ·refine Imp.ex 0 (.all ?_)
  refine aq ?_
  exact .pu ⟨by omega,rfl⟩ .refl
 intro m ds y
 refine aq ?_
 refine bt Pick.here fun i=>aE .here ?_
 refine aq ?_
 refine aX .here fun hi=>?_
 obtain⟨hm,rfl⟩:=hi
 by_cases hlt:i<n
 ·have hel:=h.el i hlt
  refine o_ (Sl.ce (by omega)) ?_
  refine ai (o_ (eA i rfl hlt) ?_)
  refine aB (dp (n:=2) (j:=i * 2) (vs:=E i) (ef (n:=n) (s:=2) h.len fun _=>⟨G,rfl⟩) hel (fun k hk=>h.get i k hlt hk)) aA ?_
  refine aS fun b=>?_
  refine aG .here (by rfl) (by rw[List.size_toArray];exact hel) (by simpa using h.one i hlt) ?_
  refine aB (bK (n:=2) (by rw[List.size_toArray];exact hel)) aA ?_
  refine bB (cap:=[]) (hf i hlt) .nil fun _=>?_
  refine aq ?_
  refine jC (ER Tryz.underlying3) (by(repeat constructor):Pick _ (bN gm fN (jh key i)) _) ?_
  rw[tw (fun j hj=>hk i j hlt hj),Option.getD_none]
  refine bS ?_
  refine dC (ER Tryz.underlying3) (by(repeat constructor):Pick _ (bN gm fN (jh key i)) _) ?_
  rw[Int.zero_add,kV]
  refine aB (bK (n:=2) (by rw[List.size_toArray];exact hel)) aA ?_
  refine bB (cap:=[]) (hf i hlt) .nil fun _=>?_
  refine aq ?_
  refine jC (ER Tryz.underlying3) (by(repeat constructor):Pick _ (bN gm fN (jh key (i+1))) _) ?_
  rw[show(jh key (i+1) (key i)).getD (.int .i64 0)= .int .i64 1 by rw[<- kV];simp[dS]]
  (((refine o_ (Sl.bZ ?hcq) ?_);(case hcq=>(first|omega|(simp only[List.length_nil,List.length_cons];omega)))));refine af ?_;refine bS ?_
  refine bq (m-1) ?_ ?_
  ·omega
  refine .ex (i+1) (.all ?_)
  refine aq ?_
  refine .pu ⟨by omega,by simp⟩ ?_
  exact aA
 ·refine o_ (Sl.bJ (by omega)) ?_
  refine af (aO () ?_)
  exact aA
theorem qL {W:World}{f:FuncId}{G c n:Nat}{cs:List Value}{E:Nat->List Value}{key:Nat->List UInt8}(h:Els 12 n cs E)(hn:n<=1000)(hk:∀i j,i<n->j<i->key j≠key i)(hf:∀i,i<n->Cn p_ f ([.agg (E i).toArray]++[]) W [] (fun _:Unit=>az (key i)) (fun _=>[])):Cn p_ 345 [.slice (some ⟨G,0,none⟩) n c,.func (.func f) #[] #[]] W [Sl 12 101 (some ⟨G,0,none⟩) c n cs] (fun _:Unit=> .bool true) (fun _=>[Sl 12 101 (some ⟨G,0,none⟩) c n cs]):=by
 (refine Shp.cn (Sg.g_ Tryz.call345 Tryz.func345 (an:={loops:=[(3,[11])]})) fun F=>?_;simp only[ca_,na_])
 refine jM (P:=p_) (t:=477) (kt:=9) az fun gm=>?_
 refine o_ aK (a_ (fun m y=>[ex fun i:Nat=>all [pu (m+i=n/\y= .int .i64 (i:Int)),bN gm az (jh key i)]]++(Sl 12 101 (some ⟨G,0,none⟩) c n cs::F)) n ?_ ?_)
 ·refine Imp.ex 0 (.all ?_)
  refine aq ?_
  exact .pu ⟨by omega,rfl⟩ .refl
 intro m ds y
 refine aq ?_
 refine bt Pick.here fun i=>aE .here ?_
 refine aq ?_
 refine aX .here fun hi=>?_
 obtain⟨hm,rfl⟩:=hi
 by_cases hlt:i<n
 ·have hel:=h.el i hlt
  refine o_ (Sl.ce (by omega)) ?_
  refine ai (o_ (eA i rfl hlt) ?_)
  refine aB (dp (n:=12) (j:=i * 12) (vs:=E i) (ef (n:=n) (s:=12) h.len fun _=>⟨G,rfl⟩) hel (fun k hk=>h.get i k hlt hk)) aA ?_
  refine aS fun b=>?_
  refine aG .here (by rfl) (by rw[List.size_toArray];exact hel) (by simpa using h.one i hlt) ?_
  refine aB (bK (n:=12) (by rw[List.size_toArray];exact hel)) aA ?_
  refine bB (cap:=[]) (hf i hlt) .nil fun _=>?_
  refine aq ?_
  refine jC (fw Tryz.underlying9) (by(repeat constructor):Pick _ (bN gm az (jh key i)) _) ?_
  rw[tw (fun j hj=>hk i j hlt hj),Option.getD_none]
  refine bS ?_
  refine dC (fw Tryz.underlying9) (by(repeat constructor):Pick _ (bN gm az (jh key i)) _) ?_
  rw[Int.zero_add,kV]
  refine aB (bK (n:=12) (by rw[List.size_toArray];exact hel)) aA ?_
  refine bB (cap:=[]) (hf i hlt) .nil fun _=>?_
  refine aq ?_
  refine jC (fw Tryz.underlying9) (by(repeat constructor):Pick _ (bN gm az (jh key (i+1))) _) ?_
  rw[show(jh key (i+1) (key i)).getD (.int .i64 0)= .int .i64 1 by rw[<- kV];simp[dS]]
  (((refine o_ (Sl.bZ ?hcq) ?_);(case hcq=>(first|omega|(simp only[List.length_nil,List.length_cons];omega)))));refine af ?_;refine bS ?_
  refine bq (m-1) ?_ ?_
  ·omega
  refine .ex (i+1) (.all ?_)
  refine aq ?_
  refine .pu ⟨by omega,by simp⟩ ?_
  exact aA
 ·refine o_ (Sl.bJ (by omega)) ?_
  refine af (aO () ?_)
  exact aA
theorem Jg {W:World}{l:List UInt8}{f:FuncId}{cap:List Value}{A:HP}(ha:∀c∈l,c.toNat<128)(hf:∀c∈l,Cn p_ f ([.int .i32 (c.toNat:Int)]++cap) W [A] (fun _:Unit=> .bool false) (fun _=>[A])):
  Cn p_ 404 [az l,.func (.func f) #[] cap.toArray] W [A] (fun _:Unit=> .bool false) (fun _=>[A]):=by
 have hI:Cn p_ 406 [az l,.func (.func f) #[] cap.toArray,.bool true] W [A] (fun _:Unit=> .int .i64 (-1)) (fun _=>[A]):=by
  (refine Shp.cn (Sg.g_ Tryz.call406 Tryz.func406 (an:={loops:=[(2,[])]})) fun F=>?_;simp only[ca_,na_])
  refine GG fun g=>?_
  refine jl (fun m=>[ex fun i:Nat=>all [pu (m+i=l.length),pt g (.stringIter ⟨l.toArray⟩ i)]]++(A::F)) l.length ?_ ?_
  ·refine Imp.ex 0 (.all ?_)
   refine aq ?_
   exact .pu (by omega) .refl
  intro m ds
  refine aq ?_
  refine bt Pick.here fun i=>aE Pick.here ?_
  refine aq ?_
  refine aX .here fun hm=>?_
  by_cases hlt:i<l.length
  ·refine GH .here hlt (ha _ (List.getElem_mem hlt)) ?_
   refine bI ?_;refine ai (bI ?_);refine bI ?_
   refine bB (hf _ (List.getElem_mem hlt)) (.cons (by repeat constructor) .nil) fun _=>?_
   refine aq ?_
   refine o_ (xd (by kernel_rfl)) ?_
   rw[dF_ (by simp)]
   refine af (oS (m-1) ?_ ?_)
   ·omega
   refine .ex (i+1) (.all ?_)
   refine aq ?_
   refine .pu (by omega) ?_
   exact aA
  ·refine GI .here hlt ?_
   refine bI ?_;refine af (aO () ?_)
   exact aA
 have h2:Cn p_ 329 [az l,.func (.func f) #[] cap.toArray] W [A] (fun _:Unit=> .int .i64 (-1)) (fun _=>[A]):=by
  (refine Shp.cn (Sg.g_ Tryz.call329 Tryz.func329) fun F=>?_;simp only[ca_,na_])
  refine' aj hI ?hp fun _=>?_
  case hp=>(repeat(first|exact Picks.nil|(apply Picks.cons;(focus repeat constructor))))
  refine aq ?_
  refine aO () ?_
  exact aA
 (refine Shp.cn (Sg.g_ Tryz.call404 Tryz.func404) fun F=>?_;simp only[ca_,na_])
 refine' aj h2 ?hp fun _=>?_
 case hp=>(repeat(first|exact Picks.nil|(apply Picks.cons;(focus repeat constructor))))
 refine aq ?_
 (((refine o_ (Sl.eW ?hcq) ?_);(case hcq=>(first|omega|(simp only[List.length_nil,List.length_cons];omega)))))
 refine aO () ?_
 exact aA
def Qe (a:Nat)(c:UInt8):Bool:=decide (a<=c.toNat/\c.toNat<=126/\c.toNat≠34)
theorem CK {W:World}{l:List UInt8}{a:Nat}(ha:a<=100)(h:l.all (Qe a)=true):Cn p_ 328 [az l,.int .u8 (a:Int)] W [] (fun _:Unit=> .bool true) (fun _=>[]):=by
 have hall:∀c∈l,a<=c.toNat/\c.toNat<=126/\c.toNat≠34:=fun c hc=>of_decide_eq_true (List.all_eq_true.1 h c hc)
 have h1:∀(bx:Nat),∀c∈l,Cn p_ 405 ([.int .i32 (c.toNat:Int)]++[.pointer (some ⟨bx,0,none⟩)]) W [pt bx (.cells #[.int .u8 (a:Int)] 5)] (fun _:Unit=> .bool false) (fun _=>[pt bx (.cells #[.int .u8 (a:Int)] 5)]):=by
  intro bx c hc
  obtain⟨c1,c2,c3⟩:=hall c hc
  (refine Shp.cn (Sg.g_ Tryz.call405 Tryz.func405) fun F=>?_;simp only[ca_,na_])
  refine aM ?_
  refine o_ (eG (q:= .i32)) ?_
  rw[show IntKind.i32.wrap (a:Int)=(a:Int) by simp only[IntKind.wrap,IntKind.bits,IntKind.signed];simp;omega]
  (((refine o_ (Sl.bJ ?hcq) ?_);(case hcq=>(first|omega|(simp only[List.length_nil,List.length_cons];omega)))));refine ab ?_;refine ab ?_;(((refine o_ (Sl.bZ ?hcq) ?_);(case hcq=>(first|omega|(simp only[List.length_nil,List.length_cons];omega)))));refine o_ am ?_;refine ab ?_;refine ab ?_;(((refine o_ (Sl.bL ?hcq) ?_);(case hcq=>(first|omega|(simp only[List.length_nil,List.length_cons];omega)))));refine o_ am ?_
  refine aO () ?_
  exact .refl
 (refine Shp.cn (Sg.g_ Tryz.call328 Tryz.func328) fun F=>?_;simp only[ca_,na_])
 refine cA fun g=>?_;refine o_ bP ?_
 refine' aj (Jg (l:=l) (f:=405) (cap:=[.pointer (some ⟨g,0,none⟩)]) (fun c hc=>by have:=hall c hc;omega) (h1 g)) ?hp fun _=>?_
 case hp=>exact .cons .here .nil
 refine aq ?_
 refine o_ cP (aO () ?_)
 exact aA
theorem GN {W:World}{p r:List UInt8}(hp:p=47::r)(h:iK r=true)(hb:p.all (Qe 33)=true):Cn p_ 414 [az p] W [] (fun _:Unit=> .bool true) (fun _=>[]):=by
 (refine Shp.cn (Sg.g_ Tryz.call414 Tryz.func414) fun F=>?_;simp only[ca_,na_])
 refine c_ (BF hp h) fun _=>?_
 refine bI ?_;refine bI ?_;(((refine o_ (Sl.cv ?hcq) ?_);(case hcq=>(first|omega|(simp only[List.length_nil,List.length_cons];omega)))));refine ab (ab (ab ?_));(((refine' aB (Sl.kr ?hcq) .nil ?_);(case hcq=>(first|rfl|assumption))));refine o_ av (ab (ab ?_))
 refine' aj (CK (l:=p) (a:=33) (by decide) hb) ?hp fun _=>?_
 case hp=>exact .nil
 refine aq ?_
 refine o_ av (aO () ?_)
 exact .refl
theorem GO {W:World}{f:FuncId}{cap:List Value}{A:HP}{q:Ca}{g c:Nat}(hs:q.s=(some ⟨g,0,none⟩,c))(hf:Cn p_ f ([.agg (kR q).toArray]++cap) W [A] (fun _:Unit=> .int .i64 0) (fun _=>[A])):
  Cn p_ 257 [.slice (some ⟨g,0,none⟩) 1 c,.func (.func f) #[] cap.toArray] W [Sl 3 200 (some ⟨g,0,none⟩) c 1 (kR q),A] (fun _:Unit=> .int .i64 (-1)) (fun _=>[Sl 3 200 (some ⟨g,0,none⟩) c 1 (kR q),A]):=by
 (refine Shp.cn (Sg.g_ Tryz.call257 Tryz.func257 (an:={loops:=[(3,[5,6,12])]})) fun F=>?_;simp only[ca_,na_])
 refine o_ aK (f7 (fun m x y z=>[ex fun i:Nat=>pu (m+i=1/\x= .int .i64 (-1)/\y= .int .i64 0/\z= .int .i64 (i:Int))]++(Sl 3 200 (some ⟨g,0,none⟩) c 1 (kR q)::A::F)) 1 ?_ ?_)
 ·exact Imp.ex 0 (.pu ⟨rfl,rfl,rfl,rfl⟩ .refl)
 intro m ds x y z
 refine aq ?_
 refine bt Pick.here fun i=>aX .here fun hi=>?_
 obtain⟨hm,rfl,rfl,rfl⟩:=hi
 rcases Nat.lt_or_ge i 1 with hi|hi
 ·obtain rfl:i=0:=by omega
  (((refine o_ (Sl.ce ?hcq) ?_);(case hcq=>(first|omega|(simp only[List.length_nil,List.length_cons];omega)))));refine ai ?_
  refine o_ (eA 0 rfl (by decide)) ?_
  refine aB (dp (n:=3) (j:=0) (vs:=kR q) (ef (n:=1) (s:=3) rfl fun _=>⟨g,rfl⟩) rfl (fun i hi=>by rw[Nat.zero_add])) aA ?_
  unfold kR
  refine aS fun g=>?_;(((refine' aG ?hp ?hn ?hv ?h1 ?_);(case hp=>(repeat constructor));(case hn=>rfl);(case hv=>rfl);(case h1=>simp[Value.oneCell',az])));refine iS ?_
  refine bB hf (.cons (by repeat constructor) .nil) fun _=>?_
  refine aq ?_
  (((refine o_ (Sl.bZ ?hcq) ?_);(case hcq=>(first|omega|(simp only[List.length_nil,List.length_cons];omega)))));refine af ?_;refine bS ?_
  refine cH (m-1) ?_ ?_
  ·omega
  refine .ex 1 (.pu ⟨by omega,rfl,rfl,rfl⟩ ?_)
  exact aA
 ·(((refine o_ (Sl.bJ ?hcq) ?_);(case hcq=>(first|omega|(simp only[List.length_nil,List.length_cons];omega)))));refine af ?_
  refine aO () ?_
  exact .refl
def kJ (i:Nat):List Value:=if i=0 then dR else cj
theorem kK (i:Nat):(kJ i).length=12:=by unfold kJ;split <;> rfl
theorem vg {i k:Nat}(hi:i<2)(hk:k<12):(dR++cj)[i * 12+k]? =(kJ i)[k]? :=by
 have:=i6 (f:=kJ) (s:=12) kK [0,1] i k hi hk
 rw[show [0,1].flatMap kJ=dR++cj from rfl]at this
 rw[this]
 rcases(show i=0\/i=1 by omega)with rfl|rfl <;> rfl
theorem Qf {W:World}{f:FuncId}{cap:List Value}{A:HP}{g c:Nat}(hf:∀i,i<2->Cn p_ f ([.agg (kJ i).toArray]++cap) W [A] (fun _:Unit=> .int .i64 (if i=0 then 2 else 5)) (fun _=>[A])):
  Cn p_ 258 [.slice (some ⟨g,0,none⟩) 2 c,.func (.func f) #[] cap.toArray] W [Sl 12 101 (some ⟨g,0,none⟩) c 2 (dR++cj),A] (fun _:Unit=> .int .i64 1) (fun _=>[Sl 12 101 (some ⟨g,0,none⟩) c 2 (dR++cj),A]):=by
 (refine Shp.cn (Sg.g_ Tryz.call258 Tryz.func258 (an:={loops:=[(3,[5,6,12])]})) fun F=>?_;simp only[ca_,na_])
 refine o_ aK (f7 (fun m x y z=>[ex fun i:Nat=>pu (m+i=2/\x= .int .i64 ((i:Int)-1)/\y= .int .i64 (if i=0 then 0 else if i=1 then 2 else 5)/\z= .int .i64 (i:Int))]++(Sl 12 101 (some ⟨g,0,none⟩) c 2 (dR++cj)::A::F)) 2 ?_ ?_)
 ·exact Imp.ex 0 (.pu ⟨rfl,rfl,rfl,rfl⟩ .refl)
 intro m ds x y z
 refine aq ?_
 refine bt Pick.here fun i=>aX .here fun hi=>?_
 obtain⟨hm,rfl,rfl,rfl⟩:=hi
 rcases Nat.lt_or_ge i 2 with hi|hi
 ·obtain⟨j,hj⟩:∃j,j=i:=⟨_,rfl⟩
  have hfi:=hf i hi
  refine o_ (ce (by omega)) ?_
  refine ai (o_ (eA i rfl hi) ?_)
  refine aB (dp (n:=12) (j:=i * 12) (vs:=kJ i) (ef (n:=2) (s:=12) rfl fun _=>⟨g,rfl⟩) (kK i) (fun k hk=>vg hi hk)) aA ?_
  have hlo:∀u∈(kJ i),u.oneCell'=true:=by
   rcases(show i=0\/i=1 by omega)with rfl|rfl <;> decide
  have hln:=kK i
  generalize hL:kJ i=LL at hlo hln hfi ⊢
  refine aS fun g=>?_
  refine aG (by repeat constructor) (by rfl) (by rw[List.size_toArray];exact hln) (by simpa using hlo) ?_
  refine aB (bK (by rw[List.size_toArray];exact hln)) aA ?_
  refine bB hfi (.cons (by repeat constructor) .nil) fun _=>?_
  refine aq ?_
  rcases(show i=0\/i=1 by omega)with rfl|rfl
  ·(((refine o_ (Sl.gO ?hcq) ?_);(case hcq=>(first|omega|(simp only[List.length_nil,List.length_cons];omega)))));refine ai ?_;refine bS ?_
   refine cH (m-1) ?_ ?_
   ·omega
   refine .ex 1 (.pu ⟨by omega,rfl,rfl,rfl⟩ ?_)
   exact aA
  ·(((refine o_ (Sl.gO ?hcq) ?_);(case hcq=>(first|omega|(simp only[List.length_nil,List.length_cons];omega)))));refine ai ?_;refine bS ?_
   refine cH (m-1) ?_ ?_
   ·omega
   refine .ex 2 (.pu ⟨by omega,rfl,rfl,rfl⟩ ?_)
   exact aA
 ·obtain rfl:i=2:=by omega
  (((refine o_ (Sl.bJ ?hcq) ?_);(case hcq=>(first|omega|(simp only[List.length_nil,List.length_cons];omega)))));refine af ?_
  refine aO () ?_
  exact .refl
end Go.Proofs.YtdjkdjepjahjfaaGreatDoor.TP
