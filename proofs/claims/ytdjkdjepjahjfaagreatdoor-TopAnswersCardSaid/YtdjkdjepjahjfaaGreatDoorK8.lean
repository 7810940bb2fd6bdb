/- The head's parser: bytes that are no response's first line: it gives up. (15 texts made one; each says below what it is.) -/
import Derived.Test.YtdjkdjepjahjfaaGreatDoorK7
import Derived.KernelRfl
import Derived.Test.YtdjkdjepjahjfaaGreatDoorRows
import Derived.Deep.DeepHandedRow
import Derived.LaidMore
import Derived.Lay
import Derived.MakeChecks
set_option linter.unusedVariables false
set_option linter.unusedSimpArgs false
set_option linter.unusedSectionVars false
set_option maxRecDepth 9999
namespace Go.Proofs.YtdjkdjepjahjfaaGreatDoor.TP
open Go Go.Proofs Go.RowKit Sh Sl T FD
theorem CY {P:Program} {W:World} {L:List HP} {Kp:PK} {k:Value->WP} {α β:Type} {f:FuncId} {first args:List Value} {A F:List HP} {r:α->Value} {B:α->List HP} {pc:β->List PanicEntry} {Bp:β->List HP} (hf:CnP P f (first++args++[]) W A r B pc Bp) (p:Picks L A F)
  (h:∀x,aJ W (B x++F) (k (r x))) (hp:∀y,aJ W (Bp y++F) (Kp (pc y))):aJ W L (opN P (bG (.func (.func f) first.toArray #[]) args) Kp k):=fun w hw=>by
 refine⟨?_⟩
 have hr:(bG (.func (.func f) first.toArray #[]) args).run P w= .ok (.enter f (first++args++[]).toArray) w:=by
  unfold bG Deferred.ofValue
  simp[invoke,hf.call]
 rw[hr]
 refine(hf.run F w (p.sat hw)).mono fun e w' he=>?_
 rcases he with ⟨x,he,hs⟩|⟨y,he,hs⟩
 ·subst he;exact h x w' hs
 ·subst he;exact hp y w' hs
def SY (e:Int):List PanicEntry:=pe (.iface 29 (.int .i64 e))
theorem CZ {W:World}{e:Int}:CnP p_ 189 [.bool false,.int .i64 e] W [] (fun _:Empty=> .tuple #[]) (fun _=>[]) (fun _:Unit=>SY e) (fun _=>[]):=by
 (refine Shp.cnP (Sg.g_ Tryz.call189 Tryz.func189) fun F=>?_;simp only[ca_,na_,-eq_self])
 refine o_ cL (ai (o_ wG (Dy ?_)))
 exact z8 () rfl .refl
def qz:List UInt8:=[110,111,110,115,101,110,115,101]
def qd (i:Nat):Ps:=⟨true,qz.take i,decide (i=9),false,i,0,.res,[],[],0,0,[],[]⟩
def pM:Ps:=⟨true,[],false,false,10,0,.fld,[],[],0,0,[],[]⟩
theorem wu {W:World}[hG:Gl W]{g:Nat}:CnP p_ 114 [.pointer (some ⟨g,0,none⟩),ay qz] W [cV g {pM with nx:= .res}] (fun _:Empty=> .tuple #[]) (fun _=>[]) (fun _:Unit=>SY 43) (fun _=>[cV g pM]):=by
 (refine Shp.cnP (Sg.g_ Tryz.call114 Tryz.func114) fun F=>?_;simp only[ca_,na_,-eq_self])
 refine lT (g:=g) (p:={pM with nx:= .res}) .here fun l f=>?_
 unfold ov pM
 refine o_ bC (o_ ag (o_ ae (bR ?_)))
 refine' ah (vI (l:=qz) (c:=32) (n:=3) (by decide) (by decide)) ?hp fun r=>?_
 case hp=>(repeat(first|exact Picks.nil|(apply Picks.cons;(focus repeat constructor))))
 rw[show cy 32 3 qz=[qz] by decide]
 refine am ?_
 refine o_ aI ?_;(((refine o_ (Sl.bA ?hcq) ?_);(case hcq=>(first|omega|(simp only[List.length_nil,List.length_cons];omega)))));refine aj (aj (aj (aj (aj (o_ ak (wF CZ .nil (fun x=>x.elim) fun _=>?_))))))
 refine z8 () rfl ?_
 exact jw (p:=pM) (l:=l) (f:=f) (by repeat constructor) (by repeat constructor) (by repeat constructor) az
theorem JP {W:World}[hG:Gl W]{g:Nat}:CnP p_ 116 [.pointer (some ⟨g,0,none⟩),.int .u8 10] W [cV g (qd 9)] (fun _:Empty=> .tuple #[]) (fun _=>[]) (fun _:Unit=>SY 43) (fun _=>[cV g pM]):=by
 (refine Shp.cnP (Sg.g_ Tryz.call116 Tryz.func116) fun F=>?_;simp only[ca_,na_,-eq_self])
 refine lT (g:=g) (p:=qd 9) .here fun l f=>?_
 unfold ov
 refine Gi (a:=l.1) (by repeat constructor) fun hla=>?_
 rw[show(qd 9).line=qz from rfl,show(qd 9).cr=true from rfl,show(qd 9).all=9 from rfl,show(qd 9).done=false from rfl,show(qd 9).reply=true from rfl,show(qd 9).nx= .res from rfl,show(qd 9).fs=[]from rfl,show(qd 9).empty=0 from rfl,show(qd 9).meth=[]from rfl,show(qd 9).targ=[]from rfl,show(qd 9).minor=0 from rfl,show(qd 9).status=0 from rfl,show(qd 9).reason=[]from rfl]
 refine o_ ag (o_ ae (aH ?_));refine bP ?_;refine o_ ag (o_ ae (bR ?_));refine o_ ag (o_ ae (aH ?_));(((refine o_ (Sl.f7 ?hcq) ?_);(case hcq=>(first|omega|(simp only[List.length_nil,List.length_cons];omega)))))
 refine c_ eK fun _=>?_
 refine o_ ag (o_ ae (aH ?_));refine ai (o_ ag (o_ ae (bR ?_)));(((refine o_ (Sl.ce ?hcq) ?_);(case hcq=>(first|omega|(simp only[List.length_nil,List.length_cons];omega)))))
 refine c_ eK fun _=>?_
 refine o_ ag (o_ ae (aH ?_))
 refine aE sq az ?_
 refine o_ ag (o_ ae (aH ?_))
 refine o_ (wI 0 rfl (by omega)) ?_
 rw[AO hla]
 refine i9 (m:=0) (by(repeat constructor):Pick _ (Sl 1 5 l.1 l.2 qz.length (qz.map Sl.B)) _) (by omega) ?_
 refine o_ ag (o_ ae (bR ?_));refine o_ ag (o_ ae (aH ?_))
 refine bf (jw (p:={pM with nx:= .res}) (l:=l) (f:=f) (by unfold ov pM;(repeat constructor)) (by repeat constructor) (by repeat constructor) .refl) ?_
 refine CY (first:=[.pointer (some ⟨g,0,none⟩)]) (args:=[ay qz]) wu (.cons .here .nil) (fun x=>x.elim) fun _=>?_
 exact z8 () rfl .refl
theorem U0 {W:World}{L:List HP}{Q:Value->WP}(h:∀p0,aJ W L (Q p0)):aJ W L (fun w=>∀p0,Q p0 w):=fun w hw p0=>h p0 w hw
def iy:List UInt8:=qz++[13,10]
theorem Fv:∀i<9,sj (qd i) (iy.getD i 0)=some (qd (i+1)):=by decide
theorem JQ {W:World}[hG:Gl W]{G:Nat}{a:Option Addr}{cap:Nat}{A:HP}(hA:RdB W A a iy.length (iy.map Sl.B)):
  Cn p_ 48 [.pointer (some ⟨G,0,none⟩),.slice a iy.length cap] W [cV G (ef true),A] (fun p0:Value=> .tuple #[p0,.bool false,.int .i64 43]) (fun _=>[A]):=by
 (refine S.gS.cn fun F=>?_;unfold S.fM;simp only[ca_,na_])
 refine lT (g:=G) (p:=ef true) .here fun l f=>?_
 unfold ov
 rw[show(ef true).done=false from rfl]
 refine b_ fun g=>?_;refine de fun g=>?_;refine de fun g=>?_;refine aH ?_;refine o_ bM ?_;refine ab (aH ?_);refine ab (o_ ag (ab (o_ ae (ab (aH ?_)))));refine ab (o_ bB (o_ ak (af (aH ?_))));refine o_ ag (o_ ae (aH ?_));refine ab (aH ?_);refine ab (o_ ag (ab (o_ ae (ab (aH ?_)))));refine ab ?_;(((refine o_ (Sl.cq ?hcq) ?_);(case hcq=>(first|omega|(simp only[List.length_nil,List.length_cons];omega)))));refine o_ ak (af (o_ bC ?_))
 rename_i b2 b5
 refine k7 ?_
 refine dK (fun z=>pu False::[]) ?_ ?_
 rotate_left
 ·(refine o_ aI ?_)
  refine cp (fun m y4 y40=>(ex fun s:Nat=>all [pu (m+s=9/\y4= .int .i64 (s:Int)/\y40= .int .i64 (s:Int)),cV G (qd s)])::A::pt g (.cells #[.int .i64 0] 29)::pt b5 (.cells #[.bool false] 4)::pt b2 (.cells #[.pointer (some ⟨G,0,none⟩)] 119)::F) 9 ?_ ?_
  ·refine .ex 0 (.all ?_)
   refine am ?_
   refine .pu ⟨rfl,rfl,rfl⟩ ?_
   exact jw (p:=qd 0) (l:=l) (f:=f) (by unfold ov;(repeat constructor)) (by repeat constructor) (by repeat constructor) az
  intro m ds y4 y40
  refine am ?_
  refine a8 .here fun i=>aB .here ?_
  refine am ?_
  refine aT .here fun hi=>?_
  obtain⟨hm,rfl,rfl⟩:=hi
  refine o_ (Sl.bY (by have:iy.length=10:=rfl;omega)) ?_
  have hlt:i<iy.length:=by have:iy.length=10:=rfl;omega
  have hv:(iy.map Sl.B)[i]? =some (.int .u8 ((iy.getD i 0).toNat:Int)):=by simp[hlt,Sl.B]
  have hA':=hA
  obtain⟨ga,oa,ha,_⟩:=hA'.at_ (by omega)
  subst ha
  refine ai (o_ (bq i rfl hlt) ?_)
  refine aE (dv hA hv) az ?_
  refine bP ?_;refine aH ?_
  by_cases h9:i=9
  ·subst h9
   refine wF JP (.cons (by repeat constructor) .nil) (fun x=>x.elim) fun _=>?_
   unfold S.bk
   refine U0 fun p0=>?_
   refine tz (f:=115) (A:=[.pointer (some ⟨b2,0,none⟩),.pointer (some ⟨b5,0,none⟩),.pointer (some ⟨g,0,none⟩)]) (shape:=fun rv=>S.cM (.pointer (some ⟨b2,0,none⟩)) (.pointer (some ⟨b5,0,none⟩)) (.pointer (some ⟨g,0,none⟩)) rv) (fun c=>by cases c) ⟨_,_,rfl⟩ (fX (cs:=[.pointer (some ⟨b2,0,none⟩),.pointer (some ⟨b5,0,none⟩),.pointer (some ⟨g,0,none⟩)]) (bs:=[]) Tryz.call115) (fun h=>S.f5 h) ?_
   unfold S.cM SY
   rw[Dz,Hj]
   refine o_ (vB (by kernel_rfl)) ?_
   refine ai (aW (lT (g:=G) (p:=pM) .here fun l f=>?_))
   unfold ov
   refine cm ?_
   refine t_ (Ui (k:= .i64) (by kernel_rfl)) ?_
   refine t_ ag (t_ ae (bR ?_));refine aH ?_;refine o_ ag (o_ ae (aH ?_));refine bR ?_;refine bR ?_
   unfold S.dD
   (((refine' be (cX ?hc) ?hi ?_);(case hi=>exact az);(case hc=>repeat constructor)));(((refine' be (cX ?hc) ?hi ?_);(case hi=>exact az);(case hc=>repeat constructor)))
   refine aR p0 ?_
   exact az
  ·refine c_ (Gj (Fv i (by omega))) fun _=>?_
   refine aH ?_;refine o_ ag (o_ ae (lT (g:=G) (p:=qd (i+1)) .here fun l f=>?_))
   unfold ov
   rw[show(qd (i+1)).done=false from rfl]
   refine aH ?_;refine af (bP ?_)
   refine bI (m-1) (by omega) ?_
   refine .ex (i+1) (.all ?_)
   refine am ?_
   refine .pu ⟨by omega,by simp,by simp⟩ ?_
   exact jw (p:=qd (i+1)) (l:=l) (f:=f) (by unfold ov;(repeat constructor)) (by repeat constructor) (by repeat constructor) az
 intro ds z
 exact aT .here fun hz=>hz.elim
theorem JR {W:World}[hG:Gl W]{x i gn H:Nat}{jb:Value}{si kd nn:Int}{ba:Option Addr}{cap:Nat}{A:HP}(hA:RdB W A ba iy.length (iy.map Sl.B)):
  Cn p_ 43 [pC x,.slice ba iy.length cap] W [cE x i gn jb ⟨si,false,pC H,.pointer none,kd,nn,.slice none 0 0⟩,cV H (ef true),A] (fun _:Unit=> .tuple #[.bool false,.int .i64 0,.int .i64 43])
   (fun _=>[cE x i gn jb ⟨si,true,pC H,.pointer none,kd,nn,.slice none 0 0⟩,A]):=by
 have hlen:iy.length=10:=rfl
 (refine Shp.cn (Sg.g_ Tryz.call43 Tryz.func43 (an:={loops:=[(2,[1])]})) fun F=>?_;simp only[ca_,na_])
 unfold cE nW
 refine am ?_
 (try dsimp only)
 refine o_ ag (o_ ae (aH ?_));refine ab (ab (o_ aI (ab ?_)));(((refine o_ (Sl.gi ?hcq) ?_);(case hcq=>(first|omega|(simp only[List.length_nil,List.length_cons];omega)))));refine o_ ak (o_ ag (o_ ae (bR ?_)))
 refine aY (fun m y=>pu (y= .slice ba iy.length cap)::_) 0 (.pu rfl .refl) ?_
 intro m ds y
 refine aT .here fun hy=>?_
 subst hy
 refine o_ ag (o_ ae (aH ?_));refine o_ iG ?_;refine ai (o_ ag (o_ ae (aH ?_)))
 refine' ah (JQ (G:=H) (cap:=cap) hA) ?hp fun p0=>?_
 case hp=>(repeat(first|exact Picks.nil|(apply Picks.cons;(focus repeat constructor))))
 refine am ?_
 refine bE ?_;refine bE ?_;refine bE ?_;(((refine o_ (Sl.eI ?hcq) ?_);(case hcq=>(first|omega|(simp only[List.length_nil,List.length_cons];omega)))));refine aC (aC (o_ av (ai (aR () ?_))))
 exact az
theorem Fw {W:World}[hG:Gl W][hP:Gp W]{f:TF}{z:TC}{i j:Nat}{m fl:List UInt8}{ba:Option Addr}{cap:Nat}{A:HP}(h:PcOk f z)(hi:z.ls i=1)(hN:z.N<500)(hu: -500<z.us)(hm:z.m<190)(hr:RsP 502 m j)(hy:SayOk f i (mq 502 fl m))(hA:RdB W A ba iy.length (iy.map Sl.B)):
  Cn p_ 15 [pC f.v,.int .i64 (i:Int),.slice ba iy.length cap] W (eh f z++[A]) (fun _:Unit=> .int .i64 0) (fun _=>eh f (evA f (evF z i) i (mq 502 fl m))++[A]):=by
 obtain⟨hmem,hlt,hlq⟩:=h.at_ hi
 have hE:=h.evF hi hN hu
 obtain⟨Q,hQ⟩:∃Q,Q=eh f (evA f (evF z i) i (mq 502 fl m)):=⟨_,rfl⟩
 (refine Shp.cn (Sg.g_ Tryz.call15 Tryz.func15) fun F=>?_;simp only[ca_,na_])
 rw[<- hQ]
 unfold eh
 refine am ?_
 refine c_ mh fun _=>?_
 refine af ?_
 refine' ah (wm (v:=f.v) (k:=f.k) (n:=f.n) (s:=f.sv z) (l:=f.l) (X:=f.X) (J:=f.J) (T:=f.T) (now:=f.sn) (ls:=z.ls) (L:=z.L) (gn:=f.g) rfl (fun j hj=>⟨h.l.m j hj,by have:=h.l.s j hj;omega⟩) hmem (by have:=h.l.l;omega)) ?hp fun _=>?_
 case hp=>(repeat(first|exact Picks.nil|(apply Picks.cons;(focus repeat constructor))))
 refine am ?_
 refine ki hlt hi (by(repeat constructor):Pick _ (et f.X f.J f.T f.k f.g f.sn f.n z.ls) _) fun y=>?_
 unfold j_ cE nW
 refine am ?_
 (try dsimp only)
 refine o_ bM ?_;refine af (o_ ag (o_ ae (aH ?_)));refine o_ bM ?_;refine af ?_
 refine' ah (JR (x:=f.X i) (i:=i) (gn:=f.g) (jb:=pC (f.J i)) (H:=y.H) (si:=f.sn) (kd:=y.kd) (nn:=y.nn) hA) ?hp fun _=>?_
 case hp=>unfold cE nW;(repeat(first|exact Picks.nil|(apply Picks.cons;(focus repeat constructor))))
 refine am ?_
 (try dsimp only)
 refine bE ?_;refine bE ?_;refine bE ?_;(((refine o_ (Sl.eI ?hcq) ?_);(case hcq=>(first|omega|(simp only[List.length_nil,List.length_cons];omega)))));refine ai ?_
 refine' ah (QF (f:=f) (z:=z) (i:=i) (j:=j) (st:=502) (m:=m) (fl:=fl) (r:=⟨f.sn,true,pC y.H,.pointer none,y.kd,y.nn,.slice none 0 0⟩) (fr:=y.f) (bb:=y.bb) h hi hN hu hm hr hy) ?hp fun _=>?_
 case hp=>unfold GT;refine am ?_;(repeat(first|exact Picks.nil|(apply Picks.cons;(focus repeat constructor))))
 refine iY (hE.1.evA hlq hlt hE.2 hy.ok hm) ?_
 rw[<- hQ]
 refine aR () ?_
 rw[List.append_assoc]
 exact fV az _
theorem Fx {n lo:Nat}{O:List UInt8}{sa:Sa}(h:SaOk n lo O sa):cY sa (n-lo) lo=(lo,[]):=by
 match hz:n-lo with
 |0=>rfl
 |k+1=>simp only[cY,h.w (by omega)]
theorem Fy {n lo:Nat}{O:List UInt8}{sa:Sa}(h:SaOk n lo O sa):jk lo sa=sa:=by
 funext i
 by_cases c:i<lo
 ·rw[fT c,h.b i c]
 ·exact ee (by omega)
theorem JS {W:World}[hG:Gp W]{c n lo:Nat}{A:Nat->Nat}{T:Nat->List UInt8}{O:List UInt8}{sa:Sa}{now d:Int}(h:SaOk n lo O sa)(hd:0<=d)(hd1:d<=5)(hnow:now=784111777)(hd0:0<d):Cn p_ 55 [pC c,.int .i64 (now+d)] W [xQ c n A T lo O sa now] (fun _:Unit=> .tuple #[]) (fun _=>[xQ c n A T lo O sa (now+d)]):=by
 have hol:=h.ol
 have hn:=h.c2
 have hlo:=h.c1
 (refine Shp.cn (Sg.g_ Tryz.call55 Tryz.func55 (an:={drs:=[(2,.ofL [(0,1),(1,1),(2,1),(3,1),(4,1),(5,1),(6,1),(7,1),(8,1),(9,1),(10,1),(11,1),(12,1),(13,1),(14,1),(15,1),(16,1),(17,1),(18,1),(19,1),(20,1),(21,1),(22,1),(23,1),(24,1),(25,1),(26,1),(27,1),(28,1)])]})) fun F=>?_;simp only[ca_,na_])
 refine a8 (by(repeat constructor):Pick _ (xQ c n A T lo O sa now) _) fun x=>aB .here ?_
 obtain⟨cn,r,o⟩:=x
 refine am ?_
 refine aT .here fun hx=>?_
 (try dsimp only at hx ⊢)
 obtain⟨hnx,hrd,hbg,hrow,hout,hke,hs0,hs1,hck,hsk⟩:=hx
 have hsk:=hsk (by omega)
 refine' ah (t6 (c:=c) hnx) ?hp fun _=>?_
 case hp=>(repeat(first|exact Picks.nil|(apply Picks.cons;(focus repeat constructor))))
 refine am ?_
 refine af ?_
 refine' ah (A9 (c:=c) (s:=cn) (by omega) (by omega)) ?hp fun _=>?_
 case hp=>(repeat(first|exact Picks.nil|(apply Picks.cons;(focus repeat constructor))))
 refine am ?_
 cases cn
 (try dsimp only at *)
 subst hrd hrow hke hbg hout
 (unfold cD oB;(try dsimp only))
 refine aW (t_ ag (t_ ae (t_ ae (cm ?_))));(((refine t_ (Sl.gi ?hcq) ?_);(case hcq=>(first|omega|(simp only[List.length_nil,List.length_cons];omega)))));refine ab (ab (t_ ag (ab (t_ ae (ab (cm ?_))))));refine t_ av (ab (ab (t_ ag (ab (t_ ae (ab (cm ?_)))))));refine ab (ab (t_ ag (ab (t_ ae (ab (cm ?_))))));refine ab ?_;(refine t_ (hO (by omega) (by omega)) ?_);refine ab (ab (t_ ag (ab (t_ ae (ab (t_ ae (ab (cm ?_))))))));refine ab ?_;(((refine t_ (Sl.eS ?hcq) ?_);(case hcq=>(first|omega|(simp only[List.length_nil,List.length_cons];omega)))));refine t_ av (af (iv (by repeat constructor) ?_))
 refine' ah (sS (c:=c) (lo:=lo) (n:=n) (A:=A) (T:=T) (sa:=sa) (O:=O) (r:=r) (o:=o) hlo (by omega) ?h1 ?h2 ?h3 ?h4 h.ok h.b h.h (by omega)) ?hp fun x=>?_
 case hp=>(repeat(first|exact Picks.nil|(apply Picks.cons;(focus repeat constructor))))
 case h1=>rfl
 case h2=>rfl
 case h3=>rfl
 case h4=>rfl
 rw[Fx h,Fy h,List.append_nil]
 refine am ?_
 refine aR () ?_
 refine .ex (_,x.1.2,x.1.1) (.all (.pu ⟨?_,rfl,rfl,rfl,rfl,rfl,?_,?_,?_,?_⟩ az))
 ·exact hnx
 ·(try dsimp only);split <;> omega
 ·(try dsimp only);split <;> omega
 ·exact Int.le_refl _
 ·intro h;omega
theorem QO {W:World}{L L':List HP}{S:WP}{p N:Nat}{B:Nat->Bool}{fl:Bool}{now t:Int}(P:Pick L (uZ p N B fl now) L')(h:aJ W (uZ p N B false t::L') S):aJ W L S:=by
 refine a8 P fun q=>aB .here ?_
 refine am ?_
 refine aT .here fun hq=>?_
 refine bf (.ex q (.all ?_)) h
 refine am ?_
 exact .pu ⟨hq.1,fun c=>by cases c⟩ .refl
def TF.at_ (f:TF)(t:Int):TF:={f with now:=t}
def TC.unf (z:TC):TC:={z with fl:=false}
theorem AnsW.mono {f:TF}{G:An->Prop}{e d:Nat}{z:TC}(h:AnsW f G e z)(hd:e<=d):AnsW f G d z:=
 ⟨h.ok,h.op,h.sd,h.od,by have:=h.e1;omega,by have:=h.e2;omega,by have:=h.e3;omega⟩
theorem AnsW.tick {f:TF}{G:An->Prop}{e:Nat}{z:TC}{t:Int}(h:AnsW f G e z):AnsW (f.at_ t) G e z.unf:=
 ⟨⟨h.ok.s,h.ok.l,h.ok.b,h.ok.n,h.ok.m,h.ok.u0,h.ok.u1⟩,h.op,h.sd,h.od,h.e1,h.e2,h.e3⟩
theorem wv {f:TF}{z:TC}{t:Int}:eh (f.at_ t) z=[ci f.v (f.sv z),pY f.X f.l z.L,et f.X f.J f.T f.k f.g f.sn f.n z.ls,dB f.g f.st f.q f.pa f.mm z.us,nH f.pa f.p,uZ f.p z.N z.B z.fl t,jH f.w t,eF f.k f.c f.nm f.jb,xQ f.c f.n f.A f.T z.lq z.O z.sa t,m6 f.lg z.m,eJ f.q f.tm f.rt]:=rfl
theorem JT {W:World}[hG:Gl W][hP:Gp W]{f:TF}{z:TC}{e j:Nat}{m fl:List UInt8}{G:An->Prop}(h:AnsW f G e z)(he:e<=60)(hn:f.now=784111777)(hsn:f.sn=f.now)(htm:f.tm=5)(hr:RsP 504 m j)(hy:∀i,i<f.n->SayOk (f.at_ (f.now+5)) i (mq 504 fl m))(hGa:G (mq 504 fl m)):
  Cn p_ 20 [pC f.v,.int .i64 5] W (eh f z++[kQ f.a f.k]) (fun y:{y:TC // AnsW (f.at_ (f.now+5)) G 140 y/\∀i,y.ls i≠1}=> .int .i64 0) (fun y=>eh (f.at_ (f.now+5)) y.1++[kQ f.a f.k]):=by
 generalize hQ:eh (f.at_ (f.now+5))=Q
 have hL:=h.ok.l
 (refine Shp.cn (Sg.g_ Tryz.call20 Tryz.func20 (an:={loops:=[(7,[26]),(12,[47])],drs:=[(9,.ofL [(0,2),(1,3),(2,3),(3,3),(4,1),(5,1),(6,1),(7,1),(8,0),(9,0)]),(14,.ofL [(0,1),(1,1),(2,1),(3,1),(4,1),(5,1),(6,1),(7,1),(8,1),(9,1),(11,2),(12,3),(13,3),(14,3),(16,2),(17,3),(18,3),(19,3),(20,3),(21,3),(22,3),(23,3),(24,2),(25,3),(26,3),(27,3),(28,3),(29,3),(30,3),(10,0),(15,1),(31,1),(32,1)])]}) (os:=[(9,[(8,[3,2,1])]),(14,[(10,[30,29,28,27,26,25,23,22,21,20,19,18,17,14,13,12])])])) fun F=>?_;simp only[ca_,na_])
 unfold eh
 refine am ?_
 refine c_ mh fun _=>?_
 obtain⟨aa,ha⟩:∃aa,aa=f.a:=⟨_,rfl⟩
 rw[<- ha]
 obtain⟨aa,ac⟩:=aa
 unfold ci nF TF.sv kQ
 (try dsimp only)
 refine a9 (by(repeat constructor):Pick _ (Sl 1 72 aa ac 1 _) _) (by decide) fun G1 hG1=>?_
 subst hG1
 rw[<- ha]
 refine af (o_ ag (o_ ae (aH ?_)))
 refine c_ (PS (now:=f.now) (n:=5) (by omega) (by decide) (by omega)) fun _=>?_
 unfold eF
 (((refine o_ (Sl.cq ?hcq) ?_);(case hcq=>(first|omega|(simp only[List.length_nil,List.length_cons];omega)))));refine af ?_;refine o_ ag ?_;refine o_ ae ?_;refine aH ?_;refine o_ aI ?_
 refine aY (fun m_ y=>match m_ with|0=>[pu (y= .int .i64 1),ci f.v (f.sv z),jH f.w (f.now+5),kQ f.a f.k,eF f.k f.c f.nm f.jb,xQ f.c f.n f.A f.T z.lq z.O z.sa (f.now+5),pY f.X f.l z.L,et f.X f.J f.T f.k f.g f.sn f.n z.ls,dB f.g f.st f.q f.pa f.mm z.us,nH f.pa f.p,uZ f.p z.N z.B z.fl f.now,m6 f.lg z.m,eJ f.q f.tm f.rt]++F|_=>pu (y= .int .i64 0)::_) 1 (.pu rfl .refl) ?_
 intro m_ ds y
 cases m_ with
 |succ m_=>
  refine aT .here fun hy=>?_
  subst hy
  (((refine o_ (Sl.bY ?hcq) ?_);(case hcq=>(first|omega|(simp only[List.length_nil,List.length_cons];omega)))));refine ai ?_;(((refine' aE (bq 0 rfl ?hcq) .nil ?_);(case hcq=>(first|omega|decide|(simp;done)))));(((refine' aE (bw ?hc) ?hi ?_);(case hi=>exact az);(case hc=>rfl)));refine aW ?_;refine aq ag .nil ?_;refine aq ae .nil ?_;(((refine' aq (aS ?hc) ?hi ?_);(case hi=>exact .pick (by repeat constructor) .nil);(case hc=>repeat constructor)));refine t_ ag ?_;refine t_ ae ?_;refine cm ?_
  refine c_ mZ fun _=>?_
  (repeat((refine' cB (aN ?hcs) ?_);(case hcs=>(repeat(first|exact .refl|exact .nil|(apply Imp.pick;(focus ((repeat constructor);done)))|refine .drop ?_)))))
  refine' ah (JS (c:=f.c) (d:=5) h.ok.s (by decide) (by decide) hn (by decide)) ?hp fun _=>?_
  case hp=>(repeat(first|exact Picks.nil|(apply Picks.cons;(focus repeat constructor))))
  refine am ?_
  refine bP ?_
  refine aZ 0 (by omega) ?_
  unfold ci nF TF.sv kQ eF
  rw[<- ha]
  (try dsimp only)
  exact .pu rfl az
 |zero=>
  refine am ?_
  refine aT .here fun hy=>?_
  subst hy
  (((refine o_ (Sl.bF ?hcq) ?_);(case hcq=>(first|omega|(simp only[List.length_nil,List.length_cons];omega)))));refine af ?_;refine o_ ag ?_;refine o_ ae ?_;refine aH ?_
  unfold pY
  refine' ah (Js (a:=f.l.1) (c:=f.l.2) (l:=z.L.map f.X) (by rw[List.length_map];have:=hL.l;omega)) ?hp fun u=>?_
  case hp=>(repeat(first|exact Picks.nil|(apply Picks.cons;(focus repeat constructor))))
  have hlen:(z.L.map f.X).length=z.L.length:=List.length_map _
  obtain⟨ua,uc⟩:=u
  refine am ?_
  (try dsimp only)
  refine QO (t:=f.now+5) (by repeat constructor) ?_
  refine o_ aI (aY (fun m_ y=>(ex fun x:TC × Nat=>all (pu (m_+x.2=z.L.length/\y= .int .i64 (x.2:Int)/\AnsW (f.at_ (f.now+5)) G (e+x.2) x.1/\(∀j∈z.L,x.1.ls j≠0)/\∀j,x.1.ls j=1->j∈z.L.drop x.2)::Q x.1))::kQ f.a f.k::Sl 1 115 ua uc (z.L.map f.X).length ((z.L.map f.X).map pC)::F) z.L.length ?_ ?_)
  ·refine .ex (z.unf,0) (.all ?_)
   rw[<- hQ]
   unfold eh pY
   refine am ?_
   (try dsimp only)
   exact .pu ⟨rfl,rfl,h.tick,fun j hj=>by have:=hL.s j hj;show z.ls j≠0;omega,fun j hj=>(h.ok.at_ hj).1⟩ az
  intro m_ ds y
  refine am ?_
  refine a8 .here fun x=>aB .here ?_
  obtain⟨z',q⟩:=x
  refine am ?_
  refine aT .here fun hx=>?_
  (try dsimp only at hx)
  obtain⟨hm,rfl,hz,hne,hd⟩:=hx
  rw[hlen]
  refine o_ bD ?_
  have hl60:=hL.l
  by_cases hq:q<z.L.length
  ·rw[dT_ (by omega)]
   refine ai ?_
   have hin:=hL.m _ (List.getElem_mem hq)
   have hne0:=hne _ (List.getElem_mem hq)
   rw[show Q z'=eh (f.at_ (f.now+5)) z' by rw[hQ],wv]
   refine am ?_
   refine a9 (by(repeat constructor):Pick _ (Sl 1 115 ua uc _ _) _) (by omega) fun G2 hG2=>?_
   subst hG2
   refine o_ (bq q rfl (by omega)) ?_
   refine aE (bw (cs:=(z.L.map f.X).map pC) (v:=pC (f.X z.L[q])) (by simp[List.getElem?_map,hq])) az ?_
   by_cases hc:z'.ls z.L[q]=1
   ·refine ki hin hc (by(repeat constructor):Pick _ (et f.X f.J f.T f.k f.g f.sn f.n z'.ls) _) fun y=>?_
    unfold j_ cE nW
    refine am ?_
    (try dsimp only)
    rcases hfq:f.q with ⟨⟨ua_,uc_⟩,⟨pa_,pc_⟩,⟨sa,sc⟩,la,lc⟩
    refine aB (by(repeat constructor):Pick _ (eJ _ f.tm f.rt) _) ?_
    unfold iT
    refine am ?_
    (try dsimp only)
    refine a9 (by(repeat constructor):Pick _ (Sl 4 145 ua_ uc_ 1 _) _) (by decide) fun G3 hG3=>?_
    subst hG3
    unfold dB wk ci nF TF.sv
    (try dsimp only)
    refine aW (t_ ag (t_ ae (cm ?_)));refine t_ oY ?_;refine ab (ab (t_ ag (ab (t_ ae (ab (cm ?_))))));refine ab (db (aq ag .nil ?_));refine db (aq ae .nil ?_);refine db ?_;(((refine' aq (aS ?hc) ?hi ?_);(case hi=>exact .pick (by repeat constructor) .nil);(case hc=>repeat constructor)));refine ab (db (aq ag .nil ?_));refine db (aq ae .nil ?_);refine db ?_;(((refine' aq (aS ?hc) ?hi ?_);(case hi=>exact .pick (by repeat constructor) .nil);(case hc=>repeat constructor)));refine db (aq ag .nil ?_);refine db (aq ae .nil ?_);refine db (aq ae .nil ?_);refine db ?_;(((refine' aq (aS ?hc) ?hi ?_);(case hi=>exact .pick (by repeat constructor) .nil);(case hc=>repeat constructor)));refine ab (db (aq ag .nil ?_));refine db (aq ae .nil ?_);refine db ?_;(((refine' aq (aS ?hc) ?hi ?_);(case hi=>exact .pick (by repeat constructor) .nil);(case hc=>repeat constructor)));refine db (aq (dR 0 rfl (by decide)) .nil ?_)
    refine db (aq ae .nil ?_);refine db ?_;(((refine' aq (bw ?hc) ?hi ?_);(case hi=>exact az);(case hc=>rfl)));refine ab (c_ mZ fun _=>?_)
    (repeat((refine' cB (aN ?hcs) ?_);(case hcs=>(repeat(first|exact .refl|exact .nil|(apply Imp.pick;(focus ((repeat constructor);done)))|refine .drop ?_)))))
    refine ab ?_;(refine t_ (hO (by omega) (by omega)) ?_);refine ab ?_;(((refine t_ (Sl.iP ?hcq) ?_);(case hcq=>(first|omega|(simp only[List.length_nil,List.length_cons];omega)))));refine t_ av (ai (sU (A:=[Sl 4 145 (some ⟨G3,0,none⟩) uc_ 1 [ay oJ,.slice pa_ 1 pc_,.int .i64 f.tm,.int .i64 f.rt],Sl 2 315 pa_ pc_ 1 [.int .i64 1,.int .i64 64],Sl 3 200 sa sc 1 (jy ⟨(some ⟨G3,0,none⟩,uc_),(pa_,pc_),(sa,sc),la,lc⟩),Sl 12 101 la lc 2 (dy++bX)]) (by(repeat(first|exact Picks.nil|(apply Picks.cons;(focus repeat constructor))))) ?_))
    refine rC (y:=y) hin hc (by unfold j_ cE nW;(repeat(first|exact Picks.nil|(apply Picks.cons;(focus repeat constructor))))) ?_
    refine fj (A:=eh (f.at_ (f.now+5)) z') (by rw[wv,hfq];unfold dB wk ci nF TF.sv;(try dsimp only);(repeat(first|exact Picks.nil|(apply Picks.cons;(focus repeat constructor))))) ?_
    refine ah (GW (f:=f.at_ (f.now+5)) hz.ok hc (by have:=hz.e1;omega) (by have:=hz.e3;omega) (by have:=hz.e2;omega) hr (hy _ hin)) (gK _ _) fun _=>?_
    refine bP ?_
    refine aZ (m_-1) (by omega) (.ex (evA (f.at_ (f.now+5)) (evF z' z.L[q]) z.L[q] (mq 504 fl m),q+1) (.all ?_))
    rw[hQ]
    refine .pu ⟨by omega,by norm_cast,hz.fail hc (by omega) hGa (hy _ hin).ok,fun i hi=>?_,fun i hi=>?_⟩ (fV .refl _)
    ·show fw z'.ls z.L[q] 2 i≠0
     by_cases c:i=z.L[q]
     ·rw[c,dC];decide
     ·rw[eM c];exact hne i hi
    ·have hi:fw z'.ls z.L[q] 2 i=1:=hi
     by_cases c:i=z.L[q]
     ·rw[c,dC]at hi;cases hi
     ·rw[eM c]at hi
      have:=hd i hi
      rw[List.drop_eq_getElem_cons hq]at this
      exact(List.mem_cons.1 this).resolve_left c
   ·(refine aW ?_);refine t_ ag ?_;refine t_ ae ?_
    refine be (Cr hin hne0) az ?_
    rw[if_neg hc]
    refine t_ iH ?_;refine aj (aj (aj (aj (aj (dI (dI (dI (aj (dI (dI (dI (dI (dI (dI (dI (aj (dI (dI (dI (dI (dI (dI (aj (eA (eA (eA (eA (eA (eA (eA (eA (eA (eA (eA (eA (eA (eA (eA (eA (aj (aj (t_ ak (af (bP ?_))))))))))))))))))))))))))))))))))))))))))))
    refine aZ (m_-1) (by omega) (.ex (z',q+1) (.all ?_))
    rw[show Q (z',q+1).1=eh (f.at_ (f.now+5)) z' by rw[hQ],wv]
    refine am ?_
    refine .pu ⟨by omega,by norm_cast,hz.mono (by omega),hne,fun j hj=>?_⟩ az
    have:=hd j hj
    rw[List.drop_eq_getElem_cons hq]at this
    rcases List.mem_cons.1 this with c|c
    ·subst c;exact absurd hj hc
    ·exact c
  ·rw[dF_ (by omega)]
   refine af ?_
   have hno:∀j,z'.ls j≠1:=fun j hj=>by
    have:=hd j hj
    rw[List.drop_eq_nil_of_le (by omega)]at this
    cases this
   rw[<- hQ]
   refine iY (f:=f.at_ (f.now+5)) hz.ok ?_
   rw[hQ]
   refine aR ((⟨z',hz.mono (by omega),hno⟩:{y:TC // AnsW (f.at_ (f.now+5)) G 140 y/\∀i,y.ls i≠1})) ?_
   rw[List.append_assoc]
   refine fV ?_ _
   unfold kQ
   rw[<- ha]
   exact az
theorem JU {W:World}{G:Nat}{most:Int}{l rest:List UInt8}{a:Option Addr}{cap:Nat}{A:HP}(hA:RdB W A a (l++rest).length ((l++rest).map Sl.B))(h0:0<l.length)(hm:(l.length:Int)<=most)(h1:most<=1048576):Cn p_ 119 [.pointer (some ⟨G,0,none⟩),.slice a (l++rest).length cap] W [pt G (.cells (jx 1 l.length most 0 (none,0) 0 false).toArray 234),A] (fun _:Option Addr × Nat=> .int .i64 (l.length:Int))
  (fun r=>[pt G (.cells (jx 1 l.length most l.length r l.length true).toArray 234),Sl 1 5 r.1 r.2 l.length (l.map Sl.B),A]):=by
 have hll:(l++rest).length=l.length+rest.length:=List.length_append
 obtain⟨ga,oa,rfl,_⟩:=hA.at_ (by rw[List.length_append];omega)
 (refine S.d9.cn fun F=>?_;unfold S.dJ;simp only[ca_,na_])
 unfold jx
 refine b_ fun g=>?_;refine aH ?_;refine o_ ag (o_ ae (aH ?_));refine ab (aH ?_);refine ab (o_ ag (ab (o_ ae (ab (aH ?_)))));refine ab ?_;(((refine o_ (Sl.cq ?hcq) ?_);(case hcq=>(first|omega|(simp only[List.length_nil,List.length_cons];omega)))));refine o_ ak (af (o_ bC (k7 ?_)))
 refine aH ?_
 refine' ah (vO (g:=G) (k:=1) (n:=l.length) (most:=most) (.inr ⟨rfl,by omega⟩) hm) ?hp fun _=>?_
 case hp=>exact .cons (by repeat constructor) .nil
 rw[dF_ (by omega:¬(l.length:Int)=0)]
 unfold jx
 refine am ?_
 refine aH ?_;refine o_ bC (aH ?_);refine o_ bC (aH ?_);refine o_ bC (aH ?_);refine o_ bC (aH ?_);refine o_ bC (o_ bO ?_);refine aU fun g=>?_;(((refine' aK ?hp ?hn ?hv ?h1 ?_);(case hp=>(repeat constructor));(case hn=>rfl);(case hv=>rfl);(case h1=>simp[Value.oneCell',ay])));refine o_ aI ?_
 rename_i bx _
 refine cp (fun m y4 y35=>(ex fun st:Nat × (Option Addr × Nat)=>all [pu (m+st.1=l.length/\y4= .int .i64 (st.1:Int)/\y35= .int .i64 (st.1:Int)),pt G (.cells (jx 1 l.length most st.1 st.2 st.1 (decide ((st.1:Int)=l.length))).toArray 234),Sl 1 5 st.2.1 st.2.2 st.1 ((l.take st.1).map Sl.B)])::pt g (.cells #[.func (.func 196) #[.pointer (some ⟨G,0,none⟩)] #[],.func (.func 197) #[.pointer (some ⟨G,0,none⟩)] #[],.func (.func 198) #[.pointer (some ⟨G,0,none⟩)] #[],.func (.func 199) #[.pointer (some ⟨G,0,none⟩)] #[],.func (.func 200) #[.pointer (some ⟨G,0,none⟩)] #[]] 332)::pt bx (.cells #[.pointer (some ⟨G,0,none⟩)] 120)::A::F) l.length ?_ ?_
 ·refine .ex (0,(none,0)) (.all ?_)
  refine am ?_
  refine .pu ⟨by omega,rfl,rfl⟩ ?_
  rw[show decide (((0:Nat):Int)=(l.length:Int))=false from dF_ (by omega)]
  refine .pick (by(repeat constructor):Pick _ (pt G _) _) (bJ ?_)
  exact az
 intro m ds y4 y35
 refine a8 .here fun st=>aB .here ?_
 obtain⟨i,r⟩:=st
 refine am ?_
 refine aT .here fun hi=>?_
 (try dsimp only at hi)
 obtain⟨hmi,rfl,rfl⟩:=hi
 (try dsimp only)
 by_cases hlt:i<l.length
 ·rw[dF_ (by omega:¬(i:Int)=(l.length:Int))]
  have hv:((l++rest).map Sl.B)[i]? =some (.int .u8 (l[i].toNat:Int)):=by rw[List.map_append,List.getElem?_append_left (by simpa using hlt)];simp[hlt,Sl.B]
  unfold jx
  (((refine o_ (Sl.bY ?hcq) ?_);(case hcq=>(first|omega|(simp only[List.length_nil,List.length_cons];omega)))));refine ai ?_
  refine o_ (bq i rfl (by omega)) ?_
  refine aE (dv hA hv) az ?_
  refine aH ?_;refine o_ ag (o_ ae (aH ?_));refine af (bP ?_);refine aH ?_;refine o_ ag (o_ ae (aH ?_))
  refine o_ (ib 0 rfl (by decide)) ?_
  refine aH ?_
  refine dW (first:=[.pointer (some ⟨G,0,none⟩)]) (cap:=[]) (A5 (g:=G) (n:=l.length) (most:=most) (i:=i) (bo:=r) (cs:=(l.take i).map Sl.B) (c:=l[i]) (by omega) hm h1) (.cons (by repeat constructor) (.cons (by repeat constructor) .nil)) fun r2=>?_
  refine am ?_
  refine bP ?_
  refine bI (m-1) ?_ ?_
  ·omega
  refine .ex (i+1,r2) (.all ?_)
  refine am ?_
  refine .pu ⟨by omega,by simp,by simp⟩ ?_
  (try dsimp only)
  have e1:((i+1:Nat):Int)=(i:Int)+1:=by omega
  rw[e1,List.take_succ_eq_append_getElem hlt,List.map_append]
  exact .pick .here (.pick .here az)
 ·have he:i=l.length:=by omega
  subst he
  rw[dT_ (rfl:(l.length:Int)=(l.length:Int)),List.take_length]
  unfold jx
  by_cases hr:l.length<(l++rest).length
  ·have hv:∃c:UInt8,((l++rest).map Sl.B)[l.length]? =some (.int .u8 (c.toNat:Int)):=⟨(l++rest)[l.length],by rw[List.getElem?_map,List.getElem?_eq_getElem hr];rfl⟩
   obtain⟨c,hv⟩:=hv
   (((refine o_ (Sl.bY ?hcq) ?_);(case hcq=>(first|omega|(simp only[List.length_nil,List.length_cons];omega)))));refine ai ?_
   refine o_ (bq l.length rfl hr) ?_
   refine aE (dv hA hv) az ?_
   refine aH ?_;refine o_ ag (o_ ae (aH ?_));refine ai (Ec ?_)
   unfold S.bV
   refine aR r ?_
   exact az
  ·(((refine o_ (Sl.bF ?hcq) ?_);(case hcq=>(first|omega|(simp only[List.length_nil,List.length_cons];omega)))));refine af ?_
   refine Ec ?_
   unfold S.bV
   refine aR r ?_
   exact az
theorem JV {W:World}{G:Nat}{most:Int}{l rest:List UInt8}{a:Option Addr}{cap:Nat}{A:HP}(hA:RdB W A a (l++rest).length ((l++rest).map Sl.B))(h0:0<l.length)(hm:(l.length:Int)<=most)(h1:most<=1048576):Cn p_ 52 [.pointer (some ⟨G,0,none⟩),.slice a (l++rest).length cap] W [pt G (.cells (jx 1 l.length most 0 (none,0) 0 false).toArray 234),A] (fun r:Option Addr × Nat=> .tuple #[.int .i64 (l.length:Int),.slice r.1 l.length r.2,.bool true,.int .i64 0])
  (fun r=>[Sl 1 5 r.1 r.2 l.length (l.map Sl.B),A]):=by
 (refine Shp.cn (Sg.g_ Tryz.call52 Tryz.func52 (an:={drs:=[(5,.ofL [(0,1),(1,1),(2,1),(3,1),(4,1),(5,1),(6,1),(7,1),(8,1),(9,1),(10,1),(11,1),(12,1),(13,1)])]})) fun F=>?_;simp only[ca_,na_])
 unfold jx
 refine o_ bM ?_;refine ab (ab (o_ ag (ab (o_ ae (ab (aH ?_))))));refine ab (o_ bB (o_ ak (af ?_)))
 refine' ah (JU (G:=G) (most:=most) (a:=a) (cap:=cap) hA h0 hm h1) ?hp fun r=>?_
 case hp=>exact .cons (by repeat constructor) (.cons (by repeat constructor) .nil)
 unfold jx
 refine am ?_
 refine o_ ag (o_ ae (aH ?_));refine o_ ag (o_ ae (bR ?_));refine aW (t_ ag (t_ ae (cm ?_)));refine t_ ag (t_ ae (cm ?_))
 refine aR r ?_
 exact az
structure RpS (st:Int)(b:List UInt8)(P:Ps)(X:List FD.Fd)(D:List UInt8):Prop where
 fd:dM (ef true) b=some (P,D)
 sp:∃h,b=h++D
 dn:P.done=true
 rp:P.reply=true
 sa:P.status=st
 mi:P.minor=1
 fs:P.fs=X
 hk:qS X
 ln:uj X=some (1,(D.length:Int))
 d0:0<D.length
 fl:X.length<=1000
 s1:200<=st
 s2:st≠204
 s3:st≠304
theorem rF {q:Ps}{r x:List UInt8}(hq:q.done=true):∀(b:List UInt8) (p:Ps),p.done=false->dM p b=some (q,r)->dM p (b++x)=some (q,r++x)
 |[],p,hp,h=>by
  rw[dM]at h
  cases h
  rw[hq]at hp;cases hp
 |c::b,p,hp,h=>by
  rw[List.cons_append]
  cases hc:sj p c with
  |none=>rw[qV hc]at h;cases h
  |some q1=>
   rw[qU hc]at h ⊢
   cases h1:q1.done with
   |true=>rw[h1,if_pos rfl]at h;cases h;rw[if_pos rfl]
   |false=>
    rw[h1,if_neg (by decide)]at h
    rw[if_neg (by decide)]
    exact rF hq b q1 h1 h
theorem G6 {W:World}[hG:Gl W]{st:Int}{b D rest:List UInt8}{P:Ps}{X:List FD.Fd}{ba:Option Addr}{cap:Nat}{A:HP}(hA:RdB W A ba (b++rest).length ((b++rest).map Sl.B))(hcap:(b++rest).length<=cap)(hbl:(b++rest).length<=1048576)(h:RpS st b P X D):
  Cn p_ 18 [.slice ba (b++rest).length cap] W [A] (fun y:{y:On // RdB W A y.t.1 rest.length (rest.map Sl.B)/\rest.length<=y.t.2}=> .tuple #[.agg #[.int .i64 st,.slice y.1.x.1 X.length y.1.x.2,.slice y.1.d.1 D.length y.1.d.2],.slice y.1.t.1 rest.length y.1.t.2,.bool true])
   (fun y=>[A,Sl 2 192 y.1.x.1 y.1.x.2 X.length (X.flatMap cS),Sl 1 5 y.1.d.1 y.1.d.2 D.length (D.map Sl.B)]):=by
 obtain⟨hd,hb⟩:=h.sp
 have hlen:b.length=hd.length+D.length:=by rw[hb,List.length_append]
 have hl2:(b++rest).length=b.length+rest.length:=List.length_append
 have hl3:(D++rest).length=D.length+rest.length:=List.length_append
 have hd0:=h.d0
 have hs1:=h.s1
 have hfd:dM (ef true) (b++rest)=some (P,D++rest):=rF h.dn b _ rfl h.fd
 have hT:RdB W A (if cap=hd.length then ba else ba.map (·.add (hd.length * 1))) (D++rest).length ((D++rest).map Sl.B):=by
  have:=hA.cut (cap:=cap) (l:=hd.length) (h:=(b++rest).length) (by omega) (Nat.le_refl _) hcap
  rw[show(b++rest).length-hd.length=(D++rest).length by omega,hb,List.append_assoc,List.map_append,List.drop_left' (by simp),List.take_of_length_le (by simp)]at this
  exact this
 obtain⟨ta,hta⟩:∃ta,ta=(if cap=hd.length then ba else ba.map (·.add (hd.length * 1))):=⟨_,rfl⟩
 rw[<- hta]at hT
 have hU:RdB W A (if cap-hd.length=D.length then ta else ta.map (·.add (D.length * 1))) rest.length (rest.map Sl.B):=by
  have:=hT.cut (cap:=cap-hd.length) (l:=D.length) (h:=(D++rest).length) (by omega) (Nat.le_refl _) (by omega)
  rw[show(D++rest).length-D.length=rest.length by omega,List.map_append,List.drop_left' (by simp),List.take_of_length_le (by simp)]at this
  exact this
 (refine Shp.cn (Sg.g_ Tryz.call18 Tryz.func18 (an:={loops:=[(1,[0])],drs:=[(15,.ofL [(0,2),(1,2),(2,2),(3,3),(4,2),(5,2),(6,3),(7,1),(8,1),(9,1),(10,0),(11,3),(12,3),(13,0),(14,1),(15,1)])]}) (os:=[(15,[(10,[6,3]),(13,[12,11,6])])])) fun F=>?_;simp only[ca_,na_])
 refine aU fun g=>?_
 refine aY (fun m y=>pu (y= .slice ba (b++rest).length cap)::_) 0 (.pu rfl .refl) ?_
 intro m ds y
 refine aT .here fun hy=>?_
 subst hy
 refine' ah (DZ (r:=true)) ?hp fun H=>?_
 case hp=>exact .nil
 refine am ?_
 refine' ah (AS (G:=H) (cap:=cap) hA hfd rfl hbl) ?hp fun _=>?_
 case hp=>(repeat(first|exact Picks.nil|(apply Picks.cons;(focus repeat constructor))))
 rw[h.dn,show((b++rest).length:Int)-((D++rest).length:Int)=(hd.length:Int) by omega]
 refine am ?_
 refine bE ?_;refine bE ?_;refine bE ?_
 refine c_ qx fun _=>?_
 (((refine o_ (Sl.cq ?hcq) ?_);(case hcq=>(first|omega|(simp only[List.length_nil,List.length_cons];omega)))));refine ab ?_;refine ab ?_;refine o_ bB ?_;refine o_ ak ?_;refine af ?_
 refine o_ (jK hd.length rfl (by omega)) ?_
 rw[show(b++rest).length-hd.length=(D++rest).length by omega,<- hta]
 refine' ah (mR (g:=H) (p:=P) h.dn h.rp (by rw[h.fs];have:=h.fl;omega)) ?hp fun r=>?_
 case hp=>(repeat(first|exact Picks.nil|(apply Picks.cons;(focus repeat constructor))))
 obtain⟨ra,rc⟩:=r
 rw[h.sa,h.mi,h.fs]
 refine am ?_
 (try dsimp only)
 refine aP (by(repeat constructor):Pick _ (Sl 2 192 ra rc _ _) _) fun _ _ _ hs=>?_
 refine bE ?_;refine bE ?_;refine bE ?_;refine bE ?_;(((refine o_ (Sl.bF ?hcq) ?_);(case hcq=>(first|omega|(simp only[List.length_nil,List.length_cons];omega)))));refine af ?_
 refine' ah (rz (m:=cU) (st:=st) (n:=(D.length:Int)) (c:=rc) (cJ hs) h.hk h.ln h.s1 h.s2 h.s3 rfl) ?hp fun _=>?_
 case hp=>(repeat(first|exact Picks.nil|(apply Picks.cons;(focus repeat constructor))))
 refine am ?_
 refine bE ?_;refine bE ?_;refine aU fun g=>?_;(((refine' aK ?hp ?hn ?hv ?h1 ?_);(case hp=>(repeat constructor));(case hn=>rfl);(case hv=>rfl);(case h1=>simp[Value.oneCell',ay])))
 refine c_ qx fun _=>?_
 (((refine o_ (Sl.cq ?hcq) ?_);(case hcq=>(first|omega|(simp only[List.length_nil,List.length_cons];omega)))));refine af ?_;refine jL ?_
 refine' ah (If (k:=1) (n:=(D.length:Int)) (most:=1048576) (.inr ⟨rfl,by omega⟩) (by decide) (by decide)) ?hp fun R=>?_
 case hp=>exact .nil
 refine am ?_
 refine bE ?_;refine bE ?_
 refine c_ qx fun _=>?_
 (((refine o_ (Sl.cq ?hcq) ?_);(case hcq=>(first|omega|(simp only[List.length_nil,List.length_cons];omega)))));refine af ?_
 refine' ah (JV (rest:=rest) (G:=R) (most:=1048576) (cap:=cap-hd.length) hT hd0 (by omega) (by decide)) ?hp fun r=>?_
 case hp=>(repeat(first|exact Picks.nil|(apply Picks.cons;(focus repeat constructor))))
 obtain⟨oa,oc⟩:=r
 refine am ?_
 (try dsimp only)
 refine bE ?_;refine bE ?_;refine bE ?_;refine bE ?_;refine aW (aq bO .nil ?_)
 refine aq (jK D.length rfl (by omega)) .nil ?_
 rw[show(D++rest).length-D.length=rest.length by omega]
 refine ab (ab (c_ qx fun _=>?_))
 (repeat((refine' cB (aN ?hcs) ?_);(case hcs=>(repeat(first|exact .refl|exact .nil|(apply Imp.pick;(focus ((repeat constructor);done)))|refine .drop ?_)))))
 refine db ?_;(((refine aq (Sl.ce ?hcq) .nil ?_);(case hcq=>(first|omega|(simp only[List.length_nil,List.length_cons];omega)))));refine aq av .nil ?_;(((refine' aK ?hp ?hn ?hv ?h1 ?_);(case hp=>(repeat constructor));(case hn=>rfl);(case hv=>rfl);(case h1=>simp[Value.oneCell',ay])));refine bj ?_;refine bj ?_;refine bj ?_;(((refine' be (cQ ?hn) ?hi ?_);(case hi=>exact az);(case hn=>rfl)))
 refine aR ((⟨⟨(ra,rc),(oa,oc),(if cap-hd.length=D.length then ta else ta.map (·.add (D.length * 1)),cap-hd.length-D.length)⟩,hU,by show rest.length<=cap-hd.length-D.length;omega⟩:{y:On // RdB W A y.t.1 rest.length (rest.map Sl.B)/\rest.length<=y.t.2})) ?_
 exact az
def zt (st:Int)(m:List UInt8):List UInt8:=[72,84,84,80,47,49,46,49,32]++eg st++[32]++m
def Fz:List UInt8:=[79,75]
def FA:List UInt8:=[66,97,100,32,71,97,116,101,119,97,121]
def JW:List UInt8:=[83,101,114,118,105,99,101,32,85,110,97,118,97,105,108,97,98,108,101]
def JX:List UInt8:=[71,97,116,101,119,97,121,32,84,105,109,101,111,117,116]
def kj:List UInt8:=[100,111,110,101]
def FB:An:=⟨200,zt 200 Fz,sX 0,kj⟩
def C0:An:=mq 502 (zt 502 FA) FA
def FC:An:=mq 503 (zt 503 JW) JW
def JY:An:=mq 504 (zt 504 JX) JX
def uT:List UInt8:=[104,101,108,108,111]
def zG:An:=⟨200,zt 200 Fz,sX 5,uT⟩
def FF:List (An × Nat × List UInt8):=[(FB,1,Fz),(zG,1,Fz),(C0,22,FA),(FC,23,JW),(JY,24,JX)]
def VG (h:List UInt8)(st:Int)(X:List FD.Fd)(n:Nat):Bool:=match dM (ef true) h with
 |some (P,[])=>P.done&&(P.reply&&(decide (P.status=st)&&(decide (P.minor=1)&&(decide (P.fs=X)&&(decide (uj X=some (1,(n:Int)))&&JA X)))))
 |_=>false
def U1 (x:An × Nat × List UInt8):Bool:=vN x.1.st x.2.1 x.2.2&&(decide (x.1.fl=zt x.1.st x.2.2)&&(JA x.1.X&&(kI x.1.fl (EA x.1.X x.1.D)&&(VG (mQ x.1.fl (EA x.1.X x.1.D)) x.1.st (EA x.1.X x.1.D) x.1.D.length&&(decide ((jj x.1).length<=300)&&decide (200<=x.1.st/\x.1.st<=599/\x.1.st≠204/\x.1.st≠304/\x.2.2.length<=100/\0<x.1.D.length/\x.1.D.length<=100))))))
theorem JZ:FF.all U1=true:=by decide+kernel
structure An4 (a:An):Prop where
 ok:AnOk a
 rp:∃P X,RpS a.st (jj a) P X a.D
 ln:(jj a).length<=300
 dl:a.D.length<=100
theorem J0 {x:An × Nat × List UInt8}(h:U1 x=true):An4 x.1:=by
 simp only[U1,Bool.and_eq_true,decide_eq_true_eq]at h
 obtain⟨h1,h2,h3,h4,h5,h6,h7,h8,h9,h10,h11,h12,h13⟩:=h
 refine⟨⟨(p6 h3).1,h4,by omega,h7,h8,h9,h10,x.2.1,x.2.2,h1,h11,h2⟩,?_,h6,h13⟩
 unfold VG at h5
 cases hf:dM (ef true) (mQ x.1.fl (EA x.1.X x.1.D))with
 |none=>rw[hf]at h5;cases h5
 |some q=>
  obtain⟨P,r⟩:=q
  rw[hf]at h5
  cases r with
  |cons c r=>cases h5
  |nil=>
   simp only[Bool.and_eq_true,decide_eq_true_eq]at h5
   obtain⟨c1,c2,c3,c4,c5,c6,c7⟩:=h5
   obtain⟨k1,k2⟩:=p6 c7
   exact⟨P,EA x.1.X x.1.D,⟨p5 hf rfl c1,⟨_,rfl⟩,c1,c2,c3,c4,c5,k1,c6,h12,k2,h7,h9,h10⟩⟩
theorem J4 {x:An × Nat × List UInt8}(h:x∈FF):An4 x.1:=J0 (List.all_eq_true.1 JZ x h)
def GA (a:An):Prop:=∃x∈FF,a=x.1
theorem kS {a:An}(h:GA a):An4 a:=by
 obtain⟨x,hx,rfl⟩:=h
 exact J4 hx
theorem QP {a:An}(h:GA a):a.st=200\/a.st=502\/a.st=503\/a.st=504:=by
 obtain⟨x,hx,rfl⟩:=h
 have:FF.all (fun x=>decide (x.1.st=200\/x.1.st=502\/x.1.st=503\/x.1.st=504))=true:=by decide+kernel
 exact of_decide_eq_true (List.all_eq_true.1 this x hx)
theorem U2:GA FB:=⟨(FB,1,Fz),by simp[FF],rfl⟩
theorem SZ:GA zG:=⟨(zG,1,Fz),by simp[FF],rfl⟩
theorem MM:GA C0:=⟨(C0,22,FA),by simp[FF],rfl⟩
theorem U3:GA FC:=⟨(FC,23,JW),by simp[FF],rfl⟩
theorem VH:GA JY:=⟨(JY,24,JX),by simp[FF],rfl⟩
theorem C1 {f:TF}{i:Nat}{a:An}(h:GA a)(ht:TgOk (f.T i))(hnm:f.nm=[99])(h0:0<=f.now)(h1:f.now<=1000000000000):SayOk f i a:=by
 have ha:=kS h
 have hd:=ha.dl
 have d1:=eL (i:=f.now) (by omega) (by omega)
 have d2:=eL (i:=(a.D.length:Int)) (by omega) (by omega)
 have d3:=eL (i:=a.st) (by have:=ha.ok.s1;omega) (by have:=ha.ok.s2;omega)
 have htl:=ht.tl
 refine⟨ha.ok,⟨⟨h0,by show f.now<=_;omega⟩,⟨by show(0:Int)<=a.st;have:=ha.ok.s1;omega,by show a.st<=_;have:=ha.ok.s2;omega⟩,⟨by show(0:Int)<=(a.D.length:Int);omega,by show(a.D.length:Int)<=_;omega⟩,⟨by show lZ f.nm=true;rw[hnm];decide+kernel,by show f.nm.length<=8192;rw[hnm];decide⟩,⟨by show lZ cU=true;decide+kernel,by show 3<=8192;decide⟩,⟨by show lZ [97]=true;decide+kernel,by show 1<=8192;decide⟩,⟨ht.es,by show(f.T i).length<=8192;omega⟩,⟨by show lZ kR=true;decide+kernel,by show kR.length<=8192;decide⟩⟩,?_⟩
 rw[hnm]
 simp[l_,yR,ik,MI,cU,kR]
 omega
theorem G7:RsP 502 FA 22:=⟨by decide+kernel,by decide,by decide,by decide⟩
theorem QQ:RsP 503 JW 23:=⟨by decide+kernel,by decide,by decide,by decide⟩
theorem QR:RsP 504 JX 24:=⟨by decide+kernel,by decide,by decide,by decide⟩
theorem FG:(∃P,RpOk (CB 0 kj) P (wn 0 4) kj)/\kg (wn 0 4)=sX 0/\ToOk 4000 (wn 0 4) kj:=by
 have h:MK (MJ 0 4) (wn 0 4) 4=true:=by decide+kernel
 refine⟨CI (D:=kj) h (by decide) (by decide),by decide+kernel,⟨by decide+kernel,by decide+kernel,(p6 (by decide+kernel)).1,by decide+kernel,by decide+kernel,by decide⟩⟩
theorem J5:(∃P,RpOk (CB 5 uT) P (wn 5 5) uT)/\kg (wn 5 5)=sX 5/\ToOk 4000 (wn 5 5) uT:=by
 have h:MK (MJ 5 5) (wn 5 5) 5=true:=by decide+kernel
 refine⟨CI (D:=uT) h (by decide) (by decide),by decide+kernel,⟨by decide+kernel,by decide+kernel,(p6 (by decide+kernel)).1,by decide+kernel,by decide+kernel,by decide⟩⟩
def U4 (d t r:Nat):Bool:=decide (dh (eg (d:Int))=((d:Int),0)/\dh (eg (t:Int))=((t:Int),0)/\dh (eg (r:Int))=((r:Int),0)/\(eg (d:Int)).length<=100/\(eg (t:Int)).length<=100/\(eg (r:Int)).length<=100/\jB (eg (d:Int))=true/\jB (eg (t:Int))=true/\jB (eg (r:Int))=true/\d<=1048576/\1<=t/\t<=3600/\r<=8)
theorem C2 {d t r:Nat}(h:U4 d t r=true):CfOk (eg (d:Int)) (eg (t:Int)) (eg (r:Int)) d t r:=by
 obtain⟨h1,h2,h3,h4,h5,h6,h7,h8,h9,h10,h11,h12,h13⟩:=of_decide_eq_true h
 exact⟨h1,h2,h3,h4,h5,h6,h7,h8,h9,h10,by omega,by omega,by omega,by omega⟩
theorem C3:(U4 1000 3 0&&(List.range 4).all (U4 0 5))=true:=by decide+kernel
theorem J6 {r:Nat}(h:r<4):CfOk (eg 0) (eg 5) (eg (r:Int)) 0 5 r:=C2 (d:=0) (t:=5) (by
 have:=C3
 simp only[Bool.and_eq_true,List.all_eq_true,List.mem_range]at this
 exact this.2 r h)
theorem J7:CfOk (eg 1000) (eg 3) (eg 0) 1000 3 0:=C2 (d:=1000) (t:=3) (r:=0) (by
 have:=C3
 simp only[Bool.and_eq_true]at this
 exact this.1)
theorem sY:∀ {l:List An},(∀a∈l,GA a)->(l.flatMap jj).length<=300 * l.length
 |[],_=>by simp
 |a::l,h=>by
  have h1:=(kS (h a (List.mem_cons_self ..))).ln
  have h2:=sY fun b hb=>h b (List.mem_cons_of_mem _ hb)
  rw[List.flatMap_cons,List.length_append,List.length_cons]
  omega
theorem Cn.exI {P:Program}{α β:Type}{f:FuncId}{args:List Value}{W:World}{R:List HP}{r:α->Value}{B:α->List HP}{φ:β->Prop}{A:β->List HP}(y:β)(hy:φ y)(h:∀z,φ z->Cn P f args W (A z++R) r B):Cn P f args W (ex (fun z=>all (pu (φ z)::A z))::R) r B:=
 ⟨(h y hy).call,fun F w hw=>(a8 .here fun z=>aB .here (aT .here fun hz=>fun w hw=>(h z hz).run F w (by rw[List.append_assoc];exact hw)):aJ W ((ex (fun z=>all (pu (φ z)::A z))::R)++F) _) w hw⟩
theorem Cn.out {P:Program}{α:Type}{f:FuncId}{args:List Value}{W:World}{A B':List HP}{v:Value}{B:α->List HP}(h:Cn P f args W A (fun _:α=>v) B)(ho:∀x,Imp W (B x) B'):Cn P f args W A (fun _:Unit=>v) (fun _=>B'):=
 ⟨h.call,fun F w hw=>(h.run F w hw).mono fun e w' ⟨x,he,hs⟩=>⟨(),he,kD (ho x) hs⟩⟩
def qe (f:TF)(e i:Nat)(z:TC):Prop:=AnsW f GA e z/\∀j,i<=j->j<f.n->z.ls j=1
def FS (f:TF)(e i:Nat):HP:=ex fun z:TC=>all (pu (qe f e i z)::eh f z)
structure FOk (f:TF):Prop where
 n:f.n<=60
 tg:∀i,i<f.n->TgOk (f.T i)
 nm:f.nm=[99]
 w0:0<=f.now
 w1:f.now<=1000000000
theorem qe.z0 {f:TF}{e i:Nat}(h:f.n<=60):qe f e i (z0 f.n):=⟨(QN h).mono (Nat.zero_le _),fun j _ hj=>if_pos hj⟩
theorem qe.up {f:TF}{e i:Nat}{z y:TC}(h:qe f e i z)(ha:AnsW f GA (e+1) y)(hl:y.ls=fw z.ls i 2):qe f (e+1) (i+1) y:=⟨ha,fun j h1 h2=>by
 rw[hl,eM (by omega)];exact h.2 j (by omega) h2⟩
theorem qe.skip {f:TF}{e i:Nat}{z:TC}(h:qe f e i z):qe f (e+1) (i+1) z:=⟨h.1.mono (by omega),fun j h1 h2=>h.2 j (by omega) h2⟩
theorem FOk.say {f:TF}(h:FOk f){i:Nat}{a:An}(hi:i<f.n)(ha:GA a):SayOk f i a:=C1 ha (h.tg i hi) h.nm h.w0 (by have:=h.w1;omega)
theorem qe.b {f:TF}{e i:Nat}{z:TC}(h:qe f e i z)(he:e<100):z.N<500/\ -500<z.us/\z.m<190:=by
 have h1:=h.1.e1
 have h2:=h.1.e2
 have h3:=h.1.e3
 omega
theorem U5 {W:World}[hG:Gl W][hP:Gp W]{f:TF}{e i:Nat}{ba:Option Addr}{cap:Nat}{A:HP}(h:FOk f)(hi:i<f.n)(he:e<100)(hA:RdB W A ba (CB 0 kj).length ((CB 0 kj).map Sl.B))(hcap:(CB 0 kj).length<=cap):
  Cn p_ 15 [pC f.v,.int .i64 (i:Int),.slice ba (CB 0 kj).length cap] W [FS f e i,A,gf f.ca (cv 0)] (fun _:Unit=> .int .i64 0) (fun _=>[FS f (e+1) (i+1),A,gf f.ca (cv 0)]):=
 Cn.exI (φ:=qe f e i) (A:=eh f) (z0 f.n) (qe.z0 h.n) fun z hz=>by
  obtain⟨⟨P,h1⟩,h2,h3⟩:=FG
  obtain⟨b1,b2,b3⟩:=hz.b he
  have hb:=hz.2 i (Nat.le_refl _) hi
  have ht:=(h.tg i hi).tl
  have hs:=xY (W:=W) (f:=f) (z:=z) (i:=i) (T:=4000) (fl:=zt 200 Fz) (X:=wn 0 4) (D:=kj) (Z:=cv 0) hz.1.ok hb b1 b2 b3 (by rw[h2];exact h.say hi U2) (by omega) hA hcap ((mf (b:=0) (by decide) (by decide)).up (by decide) (by decide)) h1 h3
  rw[h2]at hs
  refine Cn.out hs fun y=>?_
  rw[UX y]
  exact .ex (evA f (evD z i) i FB) (.all (.pu (hz.up (hz.1.done hb (by omega) U2 (kS U2).ok) rfl) .refl))
theorem U6 {W:World}[hG:Gl W][hP:Gp W]{f:TF}{e i:Nat}{ba:Option Addr}{cap:Nat}{A:HP}(h:FOk f)(hi:i<f.n)(he:e<100)(hA:RdB W A ba iy.length (iy.map Sl.B)):
  Cn p_ 15 [pC f.v,.int .i64 (i:Int),.slice ba iy.length cap] W [FS f e i,A] (fun _:Unit=> .int .i64 0) (fun _=>[FS f (e+1) (i+1),A]):=
 Cn.exI (φ:=qe f e i) (A:=eh f) (z0 f.n) (qe.z0 h.n) fun z hz=>by
  obtain⟨b1,b2,b3⟩:=hz.b he
  have hb:=hz.2 i (Nat.le_refl _) hi
  refine Cn.out (Fw (W:=W) (f:=f) (z:=z) (i:=i) (j:=22) (m:=FA) (fl:=zt 502 FA) hz.1.ok hb b1 b2 b3 G7 (h.say hi MM) hA) fun _=>?_
  exact .ex (evA f (evF z i) i C0) (.all (.pu (hz.up (hz.1.fail hb (by omega) MM (kS MM).ok) rfl) .refl))
theorem QS {W:World}[hG:Gl W][hP:Gp W]{f:TF}{e i:Nat}(h:FOk f)(hi:i<f.n)(he:e<100):
  Cn p_ 22 [pC f.v,.int .i64 (i:Int)] W [FS f e i] (fun _:Unit=> .int .i64 0) (fun _=>[FS f (e+1) (i+1)]):=
 Cn.exI (φ:=qe f e i) (A:=eh f) (z0 f.n) (qe.z0 h.n) fun z hz=>by
  obtain⟨b1,b2,b3⟩:=hz.b he
  have hb:=hz.2 i (Nat.le_refl _) hi
  rw[List.append_nil]
  by_cases c:0<f.rt
  ·have hs:=GX (W:=W) (f:=f) (z:=z) (i:=i) (j:=23) (m:=JW) (fl:=zt 503 JW) hz.1.ok hb b1 b2 b3 (by rw[if_pos c];exact QQ) (by rw[if_pos c];exact h.say hi U3)
   rw[if_pos c]at hs
   refine Cn.out hs fun _=> .ex (evA f (evF z i) i FC) (.all ?_)
   rw[List.append_nil]
   exact .pu (hz.up (hz.1.fail hb (by omega) U3 (kS U3).ok) rfl) .refl
  ·have hs:=GX (W:=W) (f:=f) (z:=z) (i:=i) (j:=22) (m:=FA) (fl:=zt 502 FA) hz.1.ok hb b1 b2 b3 (by rw[if_neg c];exact G7) (by rw[if_neg c];exact h.say hi MM)
   rw[if_neg c]at hs
   refine Cn.out hs fun _=> .ex (evA f (evF z i) i C0) (.all ?_)
   rw[List.append_nil]
   exact .pu (hz.up (hz.1.fail hb (by omega) MM (kS MM).ok) rfl) .refl
theorem C4 {W:World}{L L':List HP}{S:WP}{f:TF}{e i:Nat}(P:Pick L (FS f e i) L')(h:aJ W (FS f (e+1) (i+1)::L') S):aJ W L S:=by
 refine a8 P fun z=>aB .here (aT .here fun hz=>?_)
 exact bf (.ex z (.all (.pu hz.skip .refl))) h
def FE (f:TF):HP:=ex fun z:TC=>all (pu (AnsW f GA 140 z/\∀j,z.ls j≠1)::eh f z)
theorem QT {W:World}[hG:Gl W][hP:Gp W]{f:TF}{e i:Nat}(h:FOk f)(he:e<=60)(hn:f.now=784111777)(hsn:f.sn=f.now)(htm:f.tm=5):
  Cn p_ 20 [pC f.v,.int .i64 5] W [FS f e i,kQ f.a f.k] (fun _:Unit=> .int .i64 0) (fun _=>[FE (f.at_ (f.now+5)),kQ f.a f.k]):=
 Cn.exI (φ:=qe f e i) (A:=eh f) (z0 f.n) (qe.z0 h.n) fun z hz=>
  Cn.out (JT (W:=W) (f:=f) (z:=z) (e:=e) (j:=24) (m:=JX) (fl:=zt 504 JX) hz.1 he hn hsn htm QR (fun i hi=>C1 (f:=f.at_ (f.now+5)) VH (h.tg i hi) h.nm (by have:=h.w0;show 0<=f.now+5;omega) (by have:=h.w1;show f.now+5<=_;omega)) VH) fun y=> .ex y.1 (.all (.pu y.2 .refl))
theorem rG {W:World}{L L':List HP}{S:WP}{r:AC}{b:List UInt8}(p:Pick L (u7 r b) L')(h0:0<b.length)(h:RdB W (u7 r b) r.1 b.length (b.map Sl.B)->b.length<=r.2->aJ W L S):aJ W L S:=by
 refine Sl.eP p fun _ hc _ hs=>?_
 obtain⟨g,o,hg⟩:=hs h0
 refine h ?_ hc
 have:=vK (W:=W) (e:=5) (g:=g) (o:=o) (cap:=r.2) (n:=b.length) (s:=1) (cs:=b.map Sl.B) (by simp)
 rw[Nat.mul_one,<- hg]at this
 exact this
theorem G8 {W:World}{L L':List HP}{S:WP}{r:AC}{b:List UInt8}(p:Pick L (q4 r b) L')(h:RdB W (q4 r b) r.1 b.length (b.map Sl.B)->b.length<=r.2->aJ W L S):aJ W L S:=by
 rcases Nat.eq_zero_or_pos b.length with c|c
 ·obtain rfl:=List.eq_nil_of_length_eq_zero c
  exact Sl.eP p fun _ hc _ _=>h ⟨rfl,fun h0=>absurd h0 (by simp)⟩ hc
 ·exact rG p c h
theorem C5 {W:World}{L:List HP}{S:WP}{s:Nat}{e:TypeId}(h:aJ W (jr s e none 0 0 []::L) S):aJ W L S:=bf (ph .refl) h
theorem yd {W:World}{L:List HP}{S:WP}{X J:Nat->Nat}{T:Nat->List UInt8}{k gn n:Nat}{now:Int}(h:aJ W (et X J T k gn now n (qb 0)::L) S):aJ W L S:=
 bf (sV n (fun i _=>by unfold fh qb;rw[if_neg (by omega)];rfl) .refl) h
theorem FH {W:World}[hG:Gl W][hP:Gp W]:Cn p_ 7 [] W [] (fun _:Unit=> .bool true) (fun _=>[]):=by
 (refine Shp.cn (Sg.g_ Tryz.call7 Tryz.func7 (an:={drs:=[(8,.ofL [(0,1),(1,1),(2,1),(3,1),(4,2),(5,2),(6,3),(7,3),(8,3),(9,0),(10,0),(11,0),(12,1),(13,1)])]}) (os:=[(8,[(9,[8,7,6])])])) fun F=>?_;simp only[ca_,na_])
 refine c_ (GS (a:=3) (b:=0) (c:=1000) (by decide) (by decide) (by decide) (by decide) (by decide) (by decide)) fun _=>?_
 refine' ah (CH (now:=5) J7 (by decide) (by decide)) ?hp fun x=>?_
 case hp=>exact .nil
 obtain⟨w,v,g,q,pa,p,m,ca,lg⟩:=x
 refine am ?_
 (try dsimp only)
 refine bE ?_;refine bE ?_;refine o_ bM ?_;refine af ?_
 refine' ah (uL (v:=v) (nm:=[99]) (now:=5) (by decide) (by decide)) ?hp fun x=>?_
 case hp=>(repeat(first|exact Picks.nil|(apply Picks.cons;(focus repeat constructor))))
 obtain⟨c,H,k,a⟩:=x
 refine am ?_
 (try dsimp only)
 refine bE ?_;refine bE ?_
 refine c_ qx fun _=>?_
 refine' ah (QB (t:=eE) (by decide)) ?hp fun b=>?_
 case hp=>exact .nil
 refine am ?_
 refine rG (by(repeat constructor):Pick _ (u7 b (zm eE)) _) (by decide) fun hb hcap=>?_
 refine C5 (s:=1) (e:=97) ?_
 refine uS (c:=c) (H:=H) (now:=5) (A:=fun _=>0) (T:=fun _=>eE) (by(repeat(first|exact Picks.nil|(apply Picks.cons;(focus repeat constructor))))) ?_
 refine' ah (xZ (v:=v) (w:=w) (g:=g) (st:=1000) (k:=k) (c:=c) (n:=0) (q:=q) (pa:=pa) (a:=a) (js:=(none,0)) (m:=m) (s:=⟨w,g,.slice a.1 1 a.2,.slice none 0 0,0,pE ca,pC lg,.slice none 0 0⟩) (us:=0) (now:=5) (nm:=[99]) (A:=fun _=>0) (T:=fun _=>eE) (ps:=[]) rfl (by decide) rfl rfl rfl hb QD.rq hcap (by decide) (by decide) (by decide)) ?hp fun u=>?_
 case hp=>(repeat(first|exact Picks.nil|(apply Picks.cons;(focus repeat constructor))))
 obtain⟨⟨ask,j⟩,⟨fr,bb⟩,js⟩:=u
 refine am ?_
 (try dsimp only)
 refine c_ qx fun _=>?_
 refine bP ?_;(((refine o_ (Sl.cq ?hcq) ?_);(case hcq=>(first|omega|(simp only[List.length_nil,List.length_cons];omega)))));refine ab (ab (ab (e_ (s:=1) (e:=115) (e_ (s:=4) (e:=42) ?_))))
 refine yd (X:=fun _=>0) (J:=fun _=>j) (T:=fun _=>eE) (k:=k) (gn:=g) (now:=5) (n:=1) ?_
 refine' ah (GZ (v:=v) (w:=w) (gn:=g) (k:=k) (p:=p) (st:=1000) (n:=0) (N:=1) (M:=0) (c:=c) (ca:=ca) (T_:=4000) (s:=⟨w,g,.slice a.1 1 a.2,.slice none 0 0,0,pE ca,pC lg,.slice none 0 0⟩) (now:=5) (us:=0) (tm:=3) (rt:=0) (nm:=[99]) (f:=fr) (b:=bb) (pa:=pa) (l:=(none,0)) (o0:=(none,0)) (a:=a) (js:=js) (m:=m) (q:=q) (ps:=[]) (vs:=[]) (Z:=cv 1000) (X:=fun _=>0) (J:=fun _=>j) (T:=fun _=>eE) GY ((mf (by decide) (by decide)).up (by decide) (by decide)) (by decide) (by decide) rfl rfl QD.tg rfl rfl rfl rfl rfl rfl rfl (by decide) (by decide) (by decide) QD.tf QD.wr) ?hp fun y=>?_
 case hp=>(repeat(first|exact Picks.nil|(apply Picks.cons;(focus repeat constructor))))
 obtain⟨⟨l,x,H2,kd,nn,⟨oa,oc⟩,sb⟩,js2⟩:=y
 refine am ?_
 (try dsimp only)
 simp only[Nat.zero_add]
 refine ab (o_ bB (o_ ak (af ?_)))
 refine' ah (GC (v:=v)) ?hp fun u=>?_
 case hp=>(repeat(first|exact Picks.nil|(apply Picks.cons;(focus repeat constructor))))
 refine am ?_
 (try dsimp only)
 refine a9 (by(repeat constructor):Pick _ (Sl 4 42 oa oc 1 _) _) (by decide) fun G hG=>?_
 subst hG
 refine G5 (f:=⟨v,w,g,k,c,q,pa,p,m,ca,lg,a,1000,3,0,1,fun _=>j,fun _=>eE,[99],5,cv 1000⟩) (x:=⟨dH (fun _=>0) 0 x,l,js2,(none,0),fun _=> .nilIface⟩) (A:=dH (fun _=>0) 0 ask) (out:= .slice none 0 0) (show(0:Int)<=5 by decide) (by(repeat(first|exact Picks.nil|(apply Picks.cons;(focus repeat constructor))))) ?_
 have hF:FOk (nZ ⟨v,w,g,k,c,q,pa,p,m,ca,lg,a,1000,3,0,1,fun _=>j,fun _=>eE,[99],5,cv 1000⟩ ⟨dH (fun _=>0) 0 x,l,js2,(none,0),fun _=> .nilIface⟩ (dH (fun _=>0) 0 ask) (.slice none 0 0)):=⟨show 1<=60 by decide,fun _ _=>QD,rfl,show(0:Int)<=5 by decide,show(5:Int)<=1000000000 by decide⟩
 have hz:AnsW (nZ ⟨v,w,g,k,c,q,pa,p,m,ca,lg,a,1000,3,0,1,fun _=>j,fun _=>eE,[99],5,cv 1000⟩ ⟨dH (fun _=>0) 0 x,l,js2,(none,0),fun _=> .nilIface⟩ (dH (fun _=>0) 0 ask) (.slice none 0 0)) (fun a=>a=zG) 0 (z0 1):=QN (f:=(nZ ⟨v,w,g,k,c,q,pa,p,m,ca,lg,a,1000,3,0,1,fun _=>j,fun _=>eE,[99],5,cv 1000⟩ ⟨dH (fun _=>0) 0 x,l,js2,(none,0),fun _=> .nilIface⟩ (dH (fun _=>0) 0 ask) (.slice none 0 0))) (show 1<=60 by decide)
 unfold eh
 refine am ?_
 refine aW (t_ aI ?_);(((refine t_ (Sl.cq ?hcq) ?_);(case hcq=>(first|omega|(simp only[List.length_nil,List.length_cons];omega)))));refine ab (ab (db (aq (dR 0 rfl (by decide)) .nil ?_)))
 refine am ?_
 refine db (aq ae .nil ?_);refine db ?_;(((refine' aq (bw ?hc) ?hi ?_);(case hi=>exact az);(case hc=>rfl)));refine ab ?_
 refine' ah (CC (W:=W) (a:=5) (D:=uT) (by decide) (by decide) (by decide)) ?hp fun rb=>?_
 case hp=>exact .nil
 refine am ?_
 (repeat((refine' cB (aN ?hcs) ?_);(case hcs=>(repeat(first|exact .refl|exact .nil|(apply Imp.pick;(focus ((repeat constructor);done)))|refine .drop ?_)))))
 obtain⟨⟨P,hP1⟩,hP2,hP3⟩:=J5
 refine rG (by(repeat constructor):Pick _ (u7 rb _) _) (by decide) fun hrb hrc=>?_
 refine ab ?_
 have hs:=xY (W:=W) (f:=(nZ ⟨v,w,g,k,c,q,pa,p,m,ca,lg,a,1000,3,0,1,fun _=>j,fun _=>eE,[99],5,cv 1000⟩ ⟨dH (fun _=>0) 0 x,l,js2,(none,0),fun _=> .nilIface⟩ (dH (fun _=>0) 0 ask) (.slice none 0 0))) (z:=z0 1) (i:=0) (T:=4000) (fl:=zt 200 Fz) (X:=wn 5 5) (D:=uT) (Z:=cv 1000) hz.ok rfl (show 1<500 by decide) (show(-500:Int)<1 by decide) (show 0<190 by decide) (by rw[hP2];exact hF.say (show 0<1 by decide) SZ) (show 4<=1000 by decide) hrb hrc ((mf (by decide) (by decide)).up (by decide) (by decide)) hP1 hP3
 rw[hP2]at hs
 refine' ah hs ?hp fun y=>?_
 case hp=>
  unfold eh
  refine am ?_
  (repeat(first|exact Picks.nil|(apply Picks.cons;(focus repeat constructor))))
 have hz2:=hz.done (i:=0) (a:=zG) rfl (by decide) rfl (kS SZ).ok
 obtain⟨L,hL1,hL2,hL3⟩:=hz2.all (by
  intro i hi
  have hi:fw (qb 1) 0 2 i=1:=hi
  by_cases c:i=0
  ·subst c;rw[dC]at hi;cases hi
  ·rw[eM c]at hi
   unfold qb at hi
   rw[if_neg (by omega)]at hi
   cases hi)
 obtain⟨b0,rfl⟩:=List.length_eq_one_iff.1 hL1
 obtain rfl:b0=zG:=hL2 b0 (by simp)
 obtain⟨z,hzz⟩:∃z,z=evA (nZ ⟨v,w,g,k,c,q,pa,p,m,ca,lg,a,1000,3,0,1,fun _=>j,fun _=>eE,[99],5,cv 1000⟩ ⟨dH (fun _=>0) 0 x,l,js2,(none,0),fun _=> .nilIface⟩ (dH (fun _=>0) 0 ask) (.slice none 0 0)) (evD (z0 1) 0) 0 zG:=⟨_,rfl⟩
 rw[show(⟨200,zt 200 Fz,sX 5,uT⟩:An)=zG from rfl,<- hzz]
 rw[<- hzz]at hL3
 unfold eh
 refine am ?_
 refine ab (c_ qx fun _=>?_)
 refine ab ?_;(((refine t_ (Sl.cq ?hcq) ?_);(case hcq=>(first|omega|(simp only[List.length_nil,List.length_cons];omega)))));refine t_ ak (af ?_)
 refine' ah (G4 (v:=v) (k:=k) (c:=c) (O:=z.O) (lo:=z.lq) (sa:=z.sa) ?h1) ?hp fun o=>?_
 case hp=>(repeat(first|exact Picks.nil|(apply Picks.cons;(focus repeat constructor))))
 case h1=>rfl
 rw[hL3]
 refine am ?_
 refine bE ?_;refine bE ?_;refine bE ?_
 refine G8 (by(repeat constructor):Pick _ (q4 o _) _) fun hro hrc2=>?_
 obtain⟨P2,X2,hR⟩:=(kS SZ).rp
 have hln:=(kS SZ).ln
 rw[show [zG].flatMap jj=jj zG++[]from rfl]at hro hrc2 ⊢
 refine' ah (G6 hro hrc2 (by rw[List.append_nil];omega) hR) ?hp fun y=>?_
 case hp=>(repeat(first|exact Picks.nil|(apply Picks.cons;(focus repeat constructor))))
 obtain⟨⟨x3,d,tl⟩,hy1,hy2⟩:=y
 simp only[show zG.st=200 from rfl,show zG.D=[104,101,108,108,111]from rfl]
 refine am ?_
 (try dsimp only)
 refine bE ?_;refine bE ?_;refine bE ?_;refine aU fun g=>?_;(((refine' aK ?hp ?hn ?hv ?h1 ?_);(case hp=>(repeat constructor));(case hn=>rfl);(case hv=>rfl);(case h1=>simp[Value.oneCell',ay])))
 refine c_ qx fun _=>?_
 (((refine o_ (Sl.ce ?hcq) ?_);(case hcq=>(first|omega|(simp only[List.length_nil,List.length_cons];omega)))));refine ab ?_;refine o_ av ?_;refine ab ?_;refine o_ ae ?_;refine ab ?_;refine aH ?_;refine ab ?_;(((refine o_ (Sl.ce ?hcq) ?_);(case hcq=>(first|omega|(simp only[List.length_nil,List.length_cons];omega)))));refine o_ av ?_;refine ab ?_;refine o_ ae ?_;refine ab ?_;refine aH ?_;refine ab ?_
 refine aE (sq (e:=5) (cap:=d.2) (l:=[104,101,108,108,111])) az ?_
 refine ab ?_;(((refine' aE (Sl.jq ?hcq) .nil ?_);(case hcq=>(first|rfl|assumption))));refine o_ av (aR () ?_)
 exact az
theorem ms {b:Nat->Value}{j:Nat}:∀ {n:Nat},j<n->(nr b n)[0+j * 4]? =some (.int .i64 (j:Int))
 |n+1,h=>by
  have e:nr b (n+1)=nr b n++[.int .i64 (n:Int),.int .i64 1,.bool true,b n]:=by
   unfold nr
   rw[List.range_succ,List.flatMap_append]
   simp
  have hl:=p8 (b:=b) n
  rw[e]
  rcases Nat.lt_or_ge j n with c|c
  ·rw[List.getElem?_append_left (by omega)]
   exact ms c
  ·obtain rfl:j=n:=by omega
   rw[List.getElem?_append_right (by omega),hl,show 0+j * 4-j * 4=0 by omega]
   rfl
theorem QU {J:Nat->Nat}{i j:Nat}:(List.range i).map J++[j]=(List.range (i+1)).map (dH J i j):=by
 rw[List.range_succ,List.map_append]
 congr 1
 ·exact List.map_congr_left fun x hx=>(kE (by have:=List.mem_range.1 hx;omega)).symm
 ·simp[dH]
theorem QV {W:World}{f:TF}{x:RF}{y:RV}{A:Nat->Nat}{o:Value}{e i:Nat}(hn:f.n<=60)(hf:f=nZ x y A o):
  Cn p_ 14 [pC f.v] W [FS f e i] (fun _:Unit=>o) (fun _=>[FS (nZ x y A (.slice none 0 0)) e i]):=by
 subst hf
 exact Cn.exI (φ:=qe (nZ x y A o) e i) (A:=eh (nZ x y A o)) (z0 (nZ x y A o).n) (qe.z0 hn) fun z hz=>by
  refine Cn.imp (GC (v:=(nZ x y A o).v) (s:=(nZ x y A o).sv z)) ((eh (nZ x y A o) z).tail) .refl fun _=>?_
  refine .ex z (.all (.pu ⟨⟨⟨hz.1.ok.s,hz.1.ok.l,hz.1.ok.b,hz.1.ok.n,hz.1.ok.m,hz.1.ok.u0,hz.1.ok.u1⟩,hz.1.op,hz.1.sd,hz.1.od,hz.1.e1,hz.1.e2,hz.1.e3⟩,hz.2⟩ .refl))
def md (n k:Int):Int:=(n.tmod k+k).tmod k
theorem J8 {n k:Int}(h:0<k):0<=md n k/\md n k<k:=by
 have h1:=Int.lt_tmod_of_pos n h
 exact⟨Int.tmod_nonneg _ (by omega),Int.tmod_lt_of_pos _ h⟩
theorem FI {W:World}{L:List HP}{body:(Value->WP)->WP}{rest:List Value->Value->WP}(φ:Value->Prop)(hb:aJ W L (body fun x w=>φ x/\sat W L w))(hr:∀ds x,φ x->aJ W L (rest ds x)):aJ W L (rQ body rest):=fun w hw=>⟨fun x w=>φ x/\sat W L w,fun ds x w' h=>hr ds x h.1 w' h.2,hb w hw⟩
theorem C6 {W:World}{L:List HP}{φ:Prop}(h:φ):aJ W L (fun w=>φ/\sat W L w):=fun w hw=>⟨h,hw⟩
theorem J9 {W:World}{M:List HP}{S:WP}{f:TF}(hn:f.n<=60)(h:aJ W (FS f 0 0::M) S):aJ W (eh f (z0 f.n)++M) S:=bf (.ex (z0 f.n) (.all (.pu (qe.z0 hn) .refl))) h
theorem J_ {W:World}{L:List HP}{S:WP}{J:Nat->Nat}{T:Nat->List UInt8}{k g n:Nat}(h:aJ W (JJ J T k g n 0 0::L) S):aJ W L S:=bf (sV n (fun i _=>by unfold WJ;rw[if_neg (by omega)]) .refl) h
structure TR where
 ln:Nat
 o:AC
 e:Nat
 i:Nat
 st:Nat
 rd:Nat
theorem topAnswers {W:World}[hG:Gl W][hP:Gp W]{a1:Option Addr}{c1:Nat}{l1:List Int}{n0 r0:Int}(h1:∀A,RdB W A a1 l1.length (l1.map I)):
  Cn p_ 4 [.int .i64 n0,.slice a1 l1.length c1,.int .i64 r0] W [] (fun _:Unit=> .bool true) (fun _=>[]):=by
 have t1: -30<n0.tmod 30/\n0.tmod 30<30:=⟨Int.lt_tmod_of_pos n0 (by decide),Int.tmod_lt_of_pos n0 (by decide)⟩
 have t2: -4<r0.tmod 4/\r0.tmod 4<4:=⟨Int.lt_tmod_of_pos r0 (by decide),Int.tmod_lt_of_pos r0 (by decide)⟩
 obtain⟨b1,b2⟩:=J8 (n:=n0) (k:=30) (by decide)
 obtain⟨b3,b4⟩:=J8 (n:=r0) (k:=4) (by decide)
 obtain⟨n,hn⟩:∃n:Nat,md n0 30=n:=⟨(md n0 30).toNat,by omega⟩
 obtain⟨r,hr⟩:∃n:Nat,md r0 4=n:=⟨(md r0 4).toNat,by omega⟩
 have hn30:n<30:=by omega
 have hr4:r<4:=by omega
 (refine Shp.cn (Sg.g_ Tryz.call4 Tryz.func4 (an:={cuts:=[(25,[16])],loops:=[(10,[11]),(16,[12,13]),(20,[12,15]),(37,[17,20])],drs:=[(28,.ofL [(0,2),(1,2),(2,2),(3,3),(4,3),(5,3),(6,0),(7,0)]),(32,.ofL [(0,2),(1,2),(2,2),(3,3),(4,3),(5,3),(6,0),(7,1),(8,0),(9,0)])]}) (os:=[(28,[(6,[5,4,3])]),(32,[(6,[5,4,3]),(8,[5,4,3])])])) fun F=>?_;simp only[ca_,na_])
 refine o_ (kZ (by decide)) ?_
 refine bP ?_
 refine o_ (kZ (by decide)) ?_
 rw[show(n0.tmod 30+30).tmod 30=(n:Int)from hn]
 refine o_ (kZ (by decide)) ?_
 refine bP ?_
 refine o_ (kZ (by decide)) ?_
 rw[show(r0.tmod 4+4).tmod 4=(r:Int)from hr]
 refine c_ (GS (a:=5) (b:=(r:Int)) (c:=0) (by decide) (by decide) (by omega) (by omega) (by decide) (by decide)) fun _=>?_
 refine' ah (CH (now:=784111777) (J6 (r:=r) hr4) (by decide) (by decide)) ?hp fun x=>?_
 case hp=>exact .nil
 obtain⟨w,v,g,q,pa,p,m,ca,lg⟩:=x
 refine am ?_
 (try dsimp only)
 refine bE ?_;refine bE ?_;refine o_ bM ?_;refine ab (c_ FH fun _=>?_)
 refine ab (o_ bB (o_ ak (af ?_)))
 refine' ah (uL (v:=v) (nm:=[99]) (now:=784111777) (by decide) (by decide)) ?hp fun x=>?_
 case hp=>(repeat(first|exact Picks.nil|(apply Picks.cons;(focus repeat constructor))))
 obtain⟨c,H,k,a⟩:=x
 refine am ?_
 (try dsimp only)
 refine bE ?_;refine bE ?_
 refine c_ qx fun _=>?_
 (((refine o_ (Sl.cq ?hcq) ?_);(case hcq=>(first|omega|(simp only[List.length_nil,List.length_cons];omega)))));refine af ?_
 refine C5 (s:=1) (e:=97) ?_
 refine uS (c:=c) (H:=H) (now:=784111777) (A:=fun _=>0) (T:=tK) (by(repeat(first|exact Picks.nil|(apply Picks.cons;(focus repeat constructor))))) ?_
 refine J_ (J:=fun _=>0) (T:=tK) (k:=k) (g:=g) (n:=n) ?_
 refine aY (fun mm y=>[ex fun x:(Nat × (Nat->Nat) × (Nat->Nat)) × AC=>all [pu (mm+x.1.1=n/\y= .int .i64 (x.1.1:Int)),ci v ⟨w,g,.slice a.1 1 a.2,.slice none 0 0,0,pE ca,pC lg,.slice none 0 0⟩,kQ a k,eF k c [99] (.slice x.2.1 x.1.1 x.2.2),E7 x.2 ((List.range x.1.1).map x.1.2.1),Fo c x.1.1 x.1.2.2 tK 784111777,jH w 784111777,dB g 0 q pa m (x.1.1:Int),JJ x.1.2.1 tK k g n 0 x.1.1,nH pa p,uD p 0,eJ q 5 r,gf ca (cv 0),m6 lg 0]]++F) n (.ex ((0,fun _=>0,fun _=>0),(none,0)) (.all (.pu ⟨rfl,rfl⟩ ?_))) ?_
 ·exact az
 intro mm ds y
 refine a8 .here fun x=>aB .here ?_
 obtain⟨⟨i,J,A⟩,js⟩:=x
 refine am ?_
 refine aT .here fun hx=>?_
 (try dsimp only at hx ⊢)
 obtain⟨hm,rfl⟩:=hx
 rcases Nat.lt_or_ge i n with hi|hi
 ·have htg:=SX (k:=i) (by omega)
  have htl:=htg.tl
  have dl:=eL (i:=(i:Int)) (by omega) (by omega)
  (((refine o_ (Sl.bY ?hcq) ?_);(case hcq=>(first|omega|(simp only[List.length_nil,List.length_cons];omega)))));refine ai ?_
  refine c_ (fP (i:=(i:Int)) (by omega) (by omega)) fun _=>?_
  refine o_ (cA (a:=[47,97,112,105,47]) (b:=eg (i:Int)) (by simp;omega)) ?_
  rw[show [47,97,112,105,47]++eg (i:Int)=tK i from rfl]
  refine' ah (QB (t:=tK i) (by omega)) ?hp fun b=>?_
  case hp=>exact .nil
  refine am ?_
  refine rG (by(repeat constructor):Pick _ (u7 b (zm (tK i))) _) (by simp[zm]) fun hb hcap=>?_
  refine' ah (xZ (v:=v) (w:=w) (g:=g) (st:=0) (k:=k) (c:=c) (n:=i) (q:=q) (pa:=pa) (a:=a) (js:=js) (m:=m) (s:=⟨w,g,.slice a.1 1 a.2,.slice none 0 0,0,pE ca,pC lg,.slice none 0 0⟩) (us:=(i:Int)) (now:=784111777) (nm:=[99]) (A:=A) (T:=tK) (ps:=(List.range i).map J) (by simp) (by omega) rfl rfl rfl hb htg.rq hcap (by decide) (by omega) (by omega)) ?hp fun u=>?_
  case hp=>(repeat(first|exact Picks.nil|(apply Picks.cons;(focus repeat constructor))))
  obtain⟨⟨ask,j⟩,⟨fr,bb⟩,js2⟩:=u
  refine am ?_
  (try dsimp only)
  rw[QU]
  refine Fq (lo:=0) (i:=i) (j:=j) (f:=fr) (b:=bb) (Nat.zero_le _) hi (by(repeat(first|exact Picks.nil|(apply Picks.cons;(focus repeat constructor))))) ?_
  refine bP ?_
  refine aZ (mm-1) (by omega) (.ex ((i+1,dH J i j,dH A i ask),js2) (.all (.pu ⟨by show mm-1+(i+1)=n;omega,rfl⟩ ?_)))
  (try dsimp only)
  rw[show((i+1:Nat):Int)=(i:Int)+1 from rfl]
  exact az
 obtain rfl:i=n:=by omega
 (((refine o_ (Sl.bF ?hcq) ?_);(case hcq=>(first|omega|(simp only[List.length_nil,List.length_cons];omega)))));refine af ?_
 refine e_ (s:=1) (e:=115) (e_ (s:=4) (e:=42) ?_)
 refine yd (X:=fun _=>0) (J:=J) (T:=tK) (k:=k) (gn:=g) (now:=784111777) (n:=i) ?_
 refine' ah (QK (f:=⟨v,w,g,k,c,q,pa,p,m,ca,lg,a,0,5,r,i,J,tK,[99],784111777,cv 0⟩) (x0:=⟨fun _=>0,(none,0),js,(none,0),fun _=> .nilIface⟩) (T_:=4000) (by show i<60;omega) (fun _ _=>GY) ((mf (by decide) (by decide)).up (by decide) (by decide)) (fun j hj=>have h:=SX (k:=j) (Nat.lt_trans hj hn30);⟨h.tg,h.tf,h.wr⟩) (show(0:Int)<=784111777 by decide)) ?hp fun x=>?_
 case hp=>
  unfold RB
  (try dsimp only)
  rw[Nat.sub_zero,<- List.range_eq_range']
  refine am ?_
  (repeat(first|exact Picks.nil|(apply Picks.cons;(focus repeat constructor))))
 unfold RB
 (try dsimp only)
 rw[Nat.sub_self]
 refine am ?_
 (try dsimp only)
 refine G5 (f:=⟨v,w,g,k,c,q,pa,p,m,ca,lg,a,0,5,r,i,J,tK,[99],784111777,cv 0⟩) (x:=x) (A:=A) (out:= .slice x.o.1 i x.o.2) (show(0:Int)<=784111777 by decide) (by(repeat(first|exact Picks.nil|(apply Picks.cons;(focus repeat constructor))))) ?_
 refine J9 (f:=nZ ⟨v,w,g,k,c,q,pa,p,m,ca,lg,a,0,5,r,i,J,tK,[99],784111777,cv 0⟩ x A (.slice x.o.1 i x.o.2)) (by show i<=60;omega) ?_
 have hF:FOk (nZ ⟨v,w,g,k,c,q,pa,p,m,ca,lg,a,0,5,r,i,J,tK,[99],784111777,cv 0⟩ x A (.slice none 0 0)):=⟨by show i<=60;omega,fun j hj=>SX (Nat.lt_trans hj hn30),rfl,show(0:Int)<=784111777 by decide,show(784111777:Int)<=1000000000 by decide⟩
 refine cp (fun mm X Y=>[ex fun s:TR=>all [pu (mm+s.rd=6/\X= .int .i64 (s.st:Int)/\Y= .int .i64 (s.rd:Int)/\s.e+s.ln<=30/\s.st+s.ln<=30/\(s.ln=0\/s.ln=i/\s.i=0/\s.o=x.o)),FS (nZ ⟨v,w,g,k,c,q,pa,p,m,ca,lg,a,0,5,r,i,J,tK,[99],784111777,cv 0⟩ x A (.slice s.o.1 s.ln s.o.2)) s.e s.i,gf ca (cv 0),kQ a k,Sl 4 42 x.o.1 x.o.2 i (nr x.b i)]]++F) 6 (.ex ⟨i,x.o,0,0,0,0⟩ (.all (.pu ⟨rfl,rfl,rfl,by(try dsimp only);omega,by(try dsimp only);omega,.inr ⟨rfl,rfl,rfl⟩⟩ (by(try dsimp only);(repeat(first|exact .refl|exact .nil|(apply Imp.pick;(focus ((repeat constructor);done)))|refine .drop ?_)))))) ?_
 intro mm2 ds X Y
 refine a8 .here fun s=>aB .here ?_
 obtain⟨ln,⟨oa,oc⟩,e,i0,st,rd⟩:=s
 refine am ?_
 refine aT .here fun hx=>?_
 (try dsimp only at hx ⊢)
 obtain⟨hm2,rfl,rfl,he,hst,hc⟩:=hx
 rcases Nat.lt_or_ge rd 6 with hrd|hrd
 ·(((refine o_ (Sl.bY ?hcq) ?_);(case hcq=>(first|omega|(simp only[List.length_nil,List.length_cons];omega)))));refine ai ?_
  refine' ah (QV (f:=nZ ⟨v,w,g,k,c,q,pa,p,m,ca,lg,a,0,5,r,i,J,tK,[99],784111777,cv 0⟩ x A (.slice oa ln oc)) (x:=⟨v,w,g,k,c,q,pa,p,m,ca,lg,a,0,5,r,i,J,tK,[99],784111777,cv 0⟩) (y:=x) (A:=A) (o:= .slice oa ln oc) (e:=e) (i:=i0) (by show i<=60;omega) rfl) ?hp fun _=>?_
  case hp=>(repeat(first|exact Picks.nil|(apply Picks.cons;(focus repeat constructor))))
  refine am ?_
  refine cp (fun m3 X Y=>[ex fun z:Nat=>all [pu (m3+z=ln/\X= .int .i64 ((st+z:Nat):Int)/\Y= .int .i64 (z:Int)),FS (nZ ⟨v,w,g,k,c,q,pa,p,m,ca,lg,a,0,5,r,i,J,tK,[99],784111777,cv 0⟩ x A (.slice none 0 0)) (e+z) (z+i0),gf ca (cv 0),kQ a k,Sl 4 42 x.o.1 x.o.2 i (nr x.b i)]]++F) ln (.ex 0 (.all (.pu ⟨rfl,rfl,rfl⟩ (by rw[Nat.zero_add];(repeat(first|exact .refl|exact .nil|(apply Imp.pick;(focus ((repeat constructor);done)))|refine .drop ?_)))))) ?_
  intro m3 ds2 X Y
  refine a8 .here fun z=>aB .here ?_
  refine am ?_
  refine aT .here fun hq=>?_
  obtain⟨hm3,rfl,rfl⟩:=hq
  rcases Nat.lt_or_ge z ln with hql|hql
  rotate_left
  ·obtain rfl:z=ln:=by omega
   refine o_ aI ?_;(((refine o_ (Sl.bF ?hcq) ?_);(case hcq=>(first|omega|(simp only[List.length_nil,List.length_cons];omega)))));refine af (bP ?_)
   refine bI (mm2-1) (by omega) (.ex ⟨0,(none,0),e+z,z+i0,st+z,rd+1⟩ (.all (.pu ⟨by(try dsimp only);omega,rfl,rfl,by(try dsimp only);omega,by(try dsimp only);omega,.inl rfl⟩ (by(try dsimp only);(repeat(first|exact .refl|exact .nil|(apply Imp.pick;(focus ((repeat constructor);done)))|refine .drop ?_))))))
  obtain⟨hln,hi0,ho⟩:ln=i/\i0=0/\(oa,oc)=x.o:=hc.resolve_left (by omega)
  obtain rfl:oa=x.o.1:=congrArg Prod.fst ho
  obtain rfl:oc=x.o.2:=congrArg Prod.snd ho
  subst hi0
  rw[show z+0=z from rfl]
  have hzi:z<i:=by omega
  refine a9 (by(repeat constructor):Pick _ (Sl 4 42 x.o.1 x.o.2 i _) _) (by omega) fun G hG=>?_
  rw[hG]
  refine o_ aI ?_;(((refine o_ (Sl.bY ?hcq) ?_);(case hcq=>(first|omega|(simp only[List.length_nil,List.length_cons];omega)))));refine ai (FI (fun y=>y= .int .i64 0\/y= .int .i64 1\/y= .int .i64 2\/y= .int .i64 3) ?_ ?_)
  ·rcases Nat.lt_or_ge (st+z) l1.length with hl|hl
   ·(refine o_ aI ?_);(((refine o_ (Sl.bY ?hcq) ?_);(case hcq=>(first|omega|(simp only[List.length_nil,List.length_cons];omega)))));refine ai ?_
    have rd1:=h1 (pu True)
    obtain⟨ga,o2,rfl,_⟩:=rd1.at_ (by omega)
    refine o_ (bq (st+z) rfl hl) ?_
    refine aE (dv rd1 (Ar hl)) (.pu trivial .nil) ?_
    obtain⟨q0,hq0⟩:∃q,q=l1[st+z]:=⟨_,rfl⟩
    have u1: -4<q0.tmod 4/\q0.tmod 4<4:=⟨Int.lt_tmod_of_pos q0 (by decide),Int.tmod_lt_of_pos q0 (by decide)⟩
    obtain⟨b5,b6⟩:=J8 (n:=q0) (k:=4) (by decide)
    rw[<- hq0]
    refine o_ (kZ (by decide)) ?_
    refine bP ?_
    refine o_ (kZ (by decide)) ?_
    rw[show(q0.tmod 4+4).tmod 4=md q0 4 from rfl]
    have hv:md q0 4=0\/md q0 4=1\/md q0 4=2\/md q0 4=3:=by omega
    refine C6 ?_
    rcases hv with h|h|h|h
    ·exact .inl (by rw[h])
    ·exact .inr (.inl (by rw[h]))
    ·exact .inr (.inr (.inl (by rw[h])))
    ·exact .inr (.inr (.inr (by rw[h])))
   ·(refine o_ aI ?_);(((refine o_ (Sl.bF ?hcq) ?_);(case hcq=>(first|omega|(simp only[List.length_nil,List.length_cons];omega)))));refine af ?_
    exact C6 (.inl rfl)
  intro ds3 y hy
  rcases hy with rfl|rfl|rfl|rfl
  ·refine bP ?_;(((refine o_ (Sl.ce ?hcq) ?_);(case hcq=>(first|omega|(simp only[List.length_nil,List.length_cons];omega)))));refine ai (aW (aq (dR z rfl hql) .nil ?_))
   refine aq dm .nil ?_
   refine aq (bw (ms hzi)) az ?_
   refine' ah (CC (W:=W) (a:=0) (D:=kj) (by decide) (by decide) (by decide)) ?hp fun rb=>?_
   case hp=>exact .nil
   refine am ?_
   (repeat((refine' cB (aN ?hcs) ?_);(case hcs=>(repeat(first|exact .refl|exact .nil|(apply Imp.pick;(focus ((repeat constructor);done)))|refine .drop ?_)))))
   refine rG (by(repeat constructor):Pick _ (u7 rb _) _) (by decide) fun hrb hrc=>?_
   refine' ah (U5 (f:=nZ ⟨v,w,g,k,c,q,pa,p,m,ca,lg,a,0,5,r,i,J,tK,[99],784111777,cv 0⟩ x A (.slice none 0 0)) (e:=e+z) (i:=z) hF hzi (by omega) hrb hrc) ?hp fun _=>?_
   case hp=>(repeat(first|exact Picks.nil|(apply Picks.cons;(focus repeat constructor))))
   refine am ?_
   refine bP ?_
   refine bI (m3-1) (by omega) (.ex (z+1) (.all (.pu ⟨by omega,rfl,rfl⟩ az)))
  ·refine bP ?_;(((refine o_ (Sl.bA ?hcq) ?_);(case hcq=>(first|omega|(simp only[List.length_nil,List.length_cons];omega)))));refine af ?_;(((refine o_ (Sl.ce ?hcq) ?_);(case hcq=>(first|omega|(simp only[List.length_nil,List.length_cons];omega)))));refine ai (o_ (dR z rfl hql) ?_)
   refine o_ dm (aE (bw (ms hzi)) az ?_)
   refine' ah (QS (f:=nZ ⟨v,w,g,k,c,q,pa,p,m,ca,lg,a,0,5,r,i,J,tK,[99],784111777,cv 0⟩ x A (.slice none 0 0)) (e:=e+z) (i:=z) hF hzi (by omega)) ?hp fun _=>?_
   case hp=>(repeat(first|exact Picks.nil|(apply Picks.cons;(focus repeat constructor))))
   refine am ?_
   refine bP ?_
   refine bI (m3-1) (by omega) (.ex (z+1) (.all (.pu ⟨by omega,rfl,rfl⟩ az)))
  ·refine bP ?_;(((refine o_ (Sl.bA ?hcq) ?_);(case hcq=>(first|omega|(simp only[List.length_nil,List.length_cons];omega)))));refine af ?_;(((refine o_ (Sl.bA ?hcq) ?_);(case hcq=>(first|omega|(simp only[List.length_nil,List.length_cons];omega)))));refine af ?_;(((refine o_ (Sl.ce ?hcq) ?_);(case hcq=>(first|omega|(simp only[List.length_nil,List.length_cons];omega)))));refine ai (aW (aq (dR z rfl hql) .nil ?_))
   refine aq dm .nil ?_
   refine aq (bw (ms hzi)) az ?_
   refine c_ uQ fun _=>?_
   (repeat((refine' cB (aN ?hcs) ?_);(case hcs=>(repeat(first|exact .refl|exact .nil|(apply Imp.pick;(focus ((repeat constructor);done)))|refine .drop ?_)))))
   refine t_ (cA (a:=[110,111,110,115,101,110,115,101]) (b:=[13,10]) (by decide)) ?_
   refine iQ Tryz.underlying35 Tryz.underlying5 (by decide) fun rr=>?_
   (repeat((refine' cB (aN ?hcs) ?_);(case hcs=>(repeat(first|exact .refl|exact .nil|(apply Imp.pick;(focus ((repeat constructor);done)))|refine .drop ?_)))))
   refine rG (by(repeat constructor):Pick _ (u7 rr iy) _) (by decide) fun hrb hrc=>?_
   refine' ah (U6 (f:=nZ ⟨v,w,g,k,c,q,pa,p,m,ca,lg,a,0,5,r,i,J,tK,[99],784111777,cv 0⟩ x A (.slice none 0 0)) (e:=e+z) (i:=z) hF hzi (by omega) hrb) ?hp fun _=>?_
   case hp=>(repeat(first|exact Picks.nil|(apply Picks.cons;(focus repeat constructor))))
   refine am ?_
   refine bP ?_
   refine bI (m3-1) (by omega) (.ex (z+1) (.all (.pu ⟨by omega,rfl,rfl⟩ az)))
  ·refine bP ?_;(((refine o_ (Sl.bA ?hcq) ?_);(case hcq=>(first|omega|(simp only[List.length_nil,List.length_cons];omega)))));refine af ?_;(((refine o_ (Sl.bA ?hcq) ?_);(case hcq=>(first|omega|(simp only[List.length_nil,List.length_cons];omega)))));refine af ?_;(((refine o_ (Sl.bA ?hcq) ?_);(case hcq=>(first|omega|(simp only[List.length_nil,List.length_cons];omega)))));refine af (bP ?_)
   refine C4 (by(repeat constructor):Pick _ (FS _ _ _) _) ?_
   refine bI (m3-1) (by omega) (.ex (z+1) (.all (.pu ⟨by omega,rfl,rfl⟩ az)))
 (((refine o_ (Sl.bF ?hcq) ?_);(case hcq=>(first|omega|(simp only[List.length_nil,List.length_cons];omega)))));refine af ?_
 refine' ah (QT (f:=nZ ⟨v,w,g,k,c,q,pa,p,m,ca,lg,a,0,5,r,i,J,tK,[99],784111777,cv 0⟩ x A (.slice oa ln oc)) (e:=e) (i:=i0) ⟨by show i<=60;omega,fun j hj=>SX (Nat.lt_trans hj hn30),rfl,show(0:Int)<=784111777 by decide,show(784111777:Int)<=1000000000 by decide⟩ (by omega) rfl rfl rfl) ?hp fun _=>?_
 case hp=>(repeat(first|exact Picks.nil|(apply Picks.cons;(focus repeat constructor))))
 refine am ?_
 refine c_ qx fun _=>?_
 (((refine o_ (Sl.cq ?hcq) ?_);(case hcq=>(first|omega|(simp only[List.length_nil,List.length_cons];omega)))));refine af ?_
 refine a8 (by(repeat constructor):Pick _ (FE _) _) fun z=>aB .here ?_
 refine am ?_
 refine aT .here fun hz=>?_
 obtain⟨L,hL1,hL2,hL3⟩:=hz.1.all hz.2
 have hL1:L.length=i:=hL1
 unfold eh
 refine am ?_
 dsimp only[TF.at_,nZ,TF.sv]
 refine' ah (G4 (v:=v) (k:=k) (c:=c) (O:=z.O) (lo:=z.lq) (sa:=z.sa) ?h1) ?hp fun o=>?_
 case hp=>(repeat(first|exact Picks.nil|(apply Picks.cons;(focus repeat constructor))))
 case h1=>rfl
 rw[hL3]
 refine am ?_
 refine bE ?_;refine bE ?_;refine bE ?_
 refine G8 (by(repeat constructor):Pick _ (q4 o _) _) fun hro hrc=>?_
 have hlen:=sY hL2
 refine cp (fun m4 X Y=>[ex fun y:AC × Nat=>all [pu (m4+y.2=i/\X= .slice y.1.1 ((L.drop y.2).flatMap jj).length y.1.2/\Y= .int .i64 (y.2:Int)/\RdB W (q4 o (L.flatMap jj)) y.1.1 ((L.drop y.2).flatMap jj).length (((L.drop y.2).flatMap jj).map Sl.B)/\((L.drop y.2).flatMap jj).length<=y.1.2),q4 o (L.flatMap jj),ci v ⟨w,g,.slice a.1 1 a.2,.slice x.l.1 (z.L.map x.X).length x.l.2,(i:Int),pE ca,pC lg,.slice oa ln oc⟩,kQ a k,eF k c [99] (.slice x.js.1 0 x.js.2)]]++F) i (.ex (o,0) (.all (.pu ⟨rfl,rfl,rfl,hro,hrc⟩ az))) ?_
 intro m4 ds4 X Y
 refine a8 .here fun y=>aB .here ?_
 obtain⟨t,s⟩:=y
 refine am ?_
 refine aT .here fun hy=>?_
 (try dsimp only at hy ⊢)
 obtain⟨hm4,rfl,rfl,hrd2,hcap2⟩:=hy
 rcases Nat.lt_or_ge s i with hs|hs
 ·have hsl:s<L.length:=by omega
  have hG:=hL2 _ (List.getElem_mem hsl)
  obtain⟨P2,X2,hR⟩:=(kS hG).rp
  have hd:(L.drop s).flatMap jj=jj L[s]++(L.drop (s+1)).flatMap jj:=by rw[List.drop_eq_getElem_cons hsl,List.flatMap_cons]
  have hdl:((L.drop s).flatMap jj).length<=300 * L.length:=by
   have h2:=sY (l:=L.drop s) fun b hb=>hL2 b (List.mem_of_mem_drop hb)
   rw[List.length_drop]at h2
   omega
  rw[hd]at hrd2 hcap2 hdl ⊢
  (((refine o_ (Sl.bY ?hcq) ?_);(case hcq=>(first|omega|(simp only[List.length_nil,List.length_cons];omega)))));refine ai ?_
  refine' ah (G6 hrd2 hcap2 (by omega) hR) ?hp fun y=>?_
  case hp=>(repeat(first|exact Picks.nil|(apply Picks.cons;(focus repeat constructor))))
  obtain⟨⟨x3,d,t⟩,hy1,hy2⟩:=y
  refine am ?_
  (try dsimp only at hy1 hy2 ⊢)
  refine bE ?_;refine bE ?_;refine bE ?_;refine aU fun g=>?_;(((refine' aK ?hp ?hn ?hv ?h1 ?_);(case hp=>(repeat constructor));(case hn=>rfl);(case hv=>rfl);(case h1=>simp[Value.oneCell',ay])));refine o_ bB (ab (o_ ae (ab (aH ?_))));refine ab ?_
  rcases QP hG with hs|hs|hs|hs
  ·rw[hs]
   (((refine o_ (Sl.cq ?hcq) ?_);(case hcq=>(first|omega|(simp only[List.length_nil,List.length_cons];omega)))));refine ab ?_;refine aj ?_;refine aj ?_;refine aj ?_;refine ab ?_;refine o_ ak ?_;refine ab ?_;refine aj ?_;refine aj ?_;refine aj ?_;refine ab ?_;refine o_ ak ?_;refine ab ?_;refine aj ?_;refine aj ?_;refine aj ?_;refine ab ?_;refine o_ ak ?_;refine o_ ak ?_;refine af ?_;refine bP ?_
   refine bI (m4-1) (by omega) (.ex (t,s+1) (.all (.pu ⟨by(try dsimp only);omega,rfl,rfl,hy1,hy2⟩ az)))
  ·rw[hs]
   (((refine o_ (Sl.eI ?hcq) ?_);(case hcq=>(first|omega|(simp only[List.length_nil,List.length_cons];omega)))));refine ab ?_;refine ab ?_;refine o_ ae ?_;refine ab ?_;refine aH ?_;refine ab ?_;(((refine o_ (Sl.cq ?hcq) ?_);(case hcq=>(first|omega|(simp only[List.length_nil,List.length_cons];omega)))));refine ab ?_;refine o_ av ?_;refine ab ?_;refine aj ?_;refine aj ?_;refine aj ?_;refine ab ?_;refine o_ ak ?_;refine ab ?_;refine aj ?_;refine aj ?_;refine aj ?_;refine ab ?_;refine o_ ak ?_;refine o_ ak ?_;refine af ?_;refine bP ?_
   refine bI (m4-1) (by omega) (.ex (t,s+1) (.all (.pu ⟨by(try dsimp only);omega,rfl,rfl,hy1,hy2⟩ az)))
  ·rw[hs]
   (((refine o_ (Sl.eI ?hcq) ?_);(case hcq=>(first|omega|(simp only[List.length_nil,List.length_cons];omega)))));refine ab ?_;refine ab ?_;refine o_ ae ?_;refine ab ?_;refine aH ?_;refine ab ?_;(((refine o_ (Sl.eI ?hcq) ?_);(case hcq=>(first|omega|(simp only[List.length_nil,List.length_cons];omega)))));refine ab ?_;refine o_ av ?_;refine ab ?_;refine ab ?_;refine o_ ae ?_;refine ab ?_;refine aH ?_;refine ab ?_;(((refine o_ (Sl.cq ?hcq) ?_);(case hcq=>(first|omega|(simp only[List.length_nil,List.length_cons];omega)))));refine ab ?_;refine o_ av ?_;refine ab ?_;refine aj ?_;refine aj ?_;refine aj ?_;refine ab ?_;refine o_ ak ?_;refine o_ ak ?_;refine af ?_;refine bP ?_
   refine bI (m4-1) (by omega) (.ex (t,s+1) (.all (.pu ⟨by(try dsimp only);omega,rfl,rfl,hy1,hy2⟩ az)))
  ·rw[hs]
   (((refine o_ (Sl.eI ?hcq) ?_);(case hcq=>(first|omega|(simp only[List.length_nil,List.length_cons];omega)))));refine ab ?_;refine ab ?_;refine o_ ae ?_;refine ab ?_;refine aH ?_;refine ab ?_;(((refine o_ (Sl.eI ?hcq) ?_);(case hcq=>(first|omega|(simp only[List.length_nil,List.length_cons];omega)))));refine ab ?_;refine o_ av ?_;refine ab ?_;refine ab ?_;refine o_ ae ?_;refine ab ?_;refine aH ?_;refine ab ?_;(((refine o_ (Sl.eI ?hcq) ?_);(case hcq=>(first|omega|(simp only[List.length_nil,List.length_cons];omega)))));refine ab ?_;refine o_ av ?_;refine ab ?_;refine ab ?_;refine o_ ae ?_;refine ab ?_;refine aH ?_;refine ab ?_;(((refine o_ (Sl.cq ?hcq) ?_);(case hcq=>(first|omega|(simp only[List.length_nil,List.length_cons];omega)))));refine ab ?_;refine o_ av ?_;refine o_ ak ?_;refine af ?_;refine bP ?_
   refine bI (m4-1) (by omega) (.ex (t,s+1) (.all (.pu ⟨by(try dsimp only);omega,rfl,rfl,hy1,hy2⟩ az)))
 obtain rfl:s=L.length:=by omega
 rw[List.drop_eq_nil_of_le (Nat.le_refl _)]
 rw[show(([]:List An).flatMap jj).length=0 from rfl]
 (((refine o_ (Sl.bF ?hcq) ?_);(case hcq=>(first|omega|(simp only[List.length_nil,List.length_cons];omega)))));refine af ?_;refine o_ aI ?_;(((refine o_ (Sl.ce ?hcq) ?_);(case hcq=>(first|omega|(simp only[List.length_nil,List.length_cons];omega)))));refine ab ?_;refine ab ?_
 refine' ah (CW (v:=v) (k:=k) (c:=c) (n:=0) (a:=a) (js:=x.js) (nm:=[99]) ?h2 (by decide)) ?hp fun u=>?_
 case hp=>(repeat(first|exact Picks.nil|(apply Picks.cons;(focus repeat constructor))))
 case h2=>rfl
 rw[show mr 0=[]from rfl]
 refine am ?_
 refine ab (o_ aI (ab ?_));(((refine o_ (Sl.ce ?hcq) ?_);(case hcq=>(first|omega|(simp only[List.length_nil,List.length_cons];omega)))));refine o_ av (ab (ab ?_))
 refine' ah (QM (v:=v)) ?hp fun _=>?_
 case hp=>(repeat(first|exact Picks.nil|(apply Picks.cons;(focus repeat constructor))))
 refine am ?_
 refine ab ?_;(((refine o_ (Sl.ce ?hcq) ?_);(case hcq=>(first|omega|(simp only[List.length_nil,List.length_cons];omega)))));refine o_ av (aR () ?_)
 exact az
end Go.Proofs.YtdjkdjepjahjfaaGreatDoor.TP
namespace Go.Proofs.YtdjkdjepjahjfaaGreatDoor.FD
open Go Go.Proofs Go.RowKit Go.ChangeShapes Sh Sl T
theorem lA {H : Type} {enc : TypeId × Value → H} {C : Checked} {os : Os} {f : FuncId} {fn : Func} {s : OpenSpec} {conds : List PathCond} {apart : Bool} {laid : List (String × DataW Unit)} (modest : Bool) (w0 : World) (args : Array Value) (hos : w0.os = os)
  (hsh : (w0.forCall (fun _ _ => 0) ⟨#[], args, []⟩).Shaped C.prog)
  (hok : Input.okWideB C.prog (w0.forCall (fun _ _ => 0) ⟨#[], args, []⟩) f ⟨#[], args, []⟩ = true)
  (hrow : s.preRow enc C.prog fn conds apart laid (w0.forCall (fun _ _ => 0) ⟨#[], args, []⟩).memory args) :
  ∃ (w : World) (tape : Tape) (i : Input), w.os = os ∧ (w.forCall tape i).Shaped C.prog ∧ i.vars = [] ∧ Input.okWide C.prog (w.forCall tape i) .any w.heap.size f i ∧
   s.preRow enc C.prog fn conds apart laid (w.forCall tape i).memory i.args ∧ ({ modest := modest } : Assume).holds C.prog (lone (Frame.enter C.prog f i.args .normal) [] (w.forCall tape i)) :=
 ⟨w0, fun _ _ => 0, ⟨#[], args, []⟩, hos, hsh, (Input.okWide_of_okWideB (base := 0) hok).1, (Input.okWide_of_okWideB hok).2, hrow, by
  simp only [Assume.holds]
  exact ⟨by simp, by simp, fun _ => Modest.zero, by simp, by simp⟩⟩
theorem sZ {P:Program}{W:World}{n:String}{d:DataW Unit}:∀ {l:List (String × DataW Unit)} {ps:List MemPlace},DataW.LaidVars P W l ps->(n,d)∈l->
  ∃g t cs fuel p,P.globalNamed n=some g/\(P.globals[g]?).map (·.type)=some t/\W.var? P n=some cs/\DataW.trod (fun _=>()) P W 0 (fun _=>true) false fuel t cs.toList=some (d,p)
 |[],_,_,h=>by cases h
 |(n',d')::r,ps,h,hm=>by
  obtain⟨g,t,cs,fuel,p,q,h1,h2,h3,h4,h5,_⟩:=h
  rcases List.mem_cons.1 hm with e|hm
  ·obtain⟨rfl,rfl⟩:=Prod.mk.inj e
   exact⟨g,t,cs,fuel,p,h1,h2,h3,h4⟩
  ·exact sZ h5 hm
theorem uU {α β:Type}{f:α->Option β}:∀ {l:List α} {ys:List β},l.mapM f=some ys->ys.length=l.length/\∀(i:Nat) (a:α),l[i]? =some a->∃y,ys[i]? =some y/\f a=some y
 |[],ys,h=>by
  simp at h
  subst h
  exact⟨rfl,fun i a hi=>by simp at hi⟩
 |a::l,ys,h=>by
  rw[List.mapM_cons]at h
  cases ha:f a with
  |none=>rw[ha]at h;cases h
  |some y=>
   cases hl:l.mapM f with
   |none=>rw[ha,hl]at h;cases h
   |some zs=>
    rw[ha,hl]at h
    have h:some (y::zs)=some ys:=h
    obtain rfl:=Option.some.inj h
    obtain⟨h1,h2⟩:=uU hl
    refine⟨by rw[List.length_cons,List.length_cons,h1],fun i b hi=>?_⟩
    cases i with
    |zero=>exact⟨y,rfl,by rw[<- ha];congr 1;simpa using hi.symm⟩
    |succ i=>exact h2 i b (by simpa using hi)
theorem C7 {P:Program}{H:Type}{enc:TypeId × Value->H}{W:World}{sp:Nat->Bool}{held:Bool}{t e:TypeId}{n fuel:Nat}{cs:List Value}{x:DataW H × List MemPlace}(ht:P.underlying t=some (.array n e))(hce:P.cellsOf e=1)(h:DataW.trod enc P W 0 sp held fuel t cs=some x):
  ∃(xs:List (DataW H × List MemPlace)) (m:Nat),x.1= .agg (xs.map (·.1))/\xs.length=n/\∀i,i<n->∃y,xs[i]? =some y/\DataW.trod enc P W 0 sp held m e ((cs.drop i).take 1)=some y:=by
 cases fuel with
 |zero=>simp[DataW.trod]at h
 |succ m=>
  unfold DataW.trod at h
  rw[ht]at h
  simp only[hce,Nat.mul_one]at h
  split at h
  ·cases hm:(List.range n).mapM fun i=>DataW.trod enc P W 0 sp held m e ((cs.drop i).take 1)with
   |none=>rw[hm]at h;cases h
   |some xs=>
    rw[hm]at h
    have h:=Option.some.inj h
    obtain⟨h1,h2⟩:=uU hm
    refine⟨xs,m,by rw[<- h],by rw[h1,List.length_range],fun i hi=>h2 i i (List.getElem?_range hi)⟩
  ·cases h
theorem QW {W:World}{l:List (String × DataW Unit)}(h:laidMet p_ l W)(hm:("internal/strconv.uint64pow10",Rows.laid_internal_strconv_uint64pow10)∈l):Gp W:=by
 obtain⟨ps,hv,_,_⟩:=h
 obtain⟨g,t,cs,fuel,p,h1,h2,h3,h4⟩:=sZ hv hm
 obtain rfl:=Option.some.inj ((show p_.globalNamed "internal/strconv.uint64pow10" =some 0 by kernel_rfl).symm.trans h1)
 obtain rfl:=Option.some.inj ((show(p_.globals[0]?).map (·.type)=some 483 by kernel_rfl).symm.trans h2)
 obtain⟨xs,m,hx,hl,hf⟩:=C7 (n:=20) (e:=374) (by kernel_rfl) (by kernel_rfl) h4
 have key:∀j,j<20->cs[j]? =some (.int .u64 ((10^j:Nat):Int)):=by
  intro j hj
  obtain⟨y,hy,hyt⟩:=hf j hj
  have hlt:∃c,(cs.toList.drop j).take 1=[c]:=by
   cases hd:(cs.toList.drop j).take 1 with
   |nil=>rw[hd]at hyt;cases m <;> simp[DataW.trod]at hyt <;> (split at hyt <;> simp_all)
   |cons c r=>
    have:((cs.toList.drop j).take 1).length<=1:=by rw[List.length_take];omega
    rw[hd]at this
    simp at this
    subst this
    exact⟨c,rfl⟩
  obtain⟨c,hc⟩:=hlt
  rw[hc]at hyt
  obtain⟨n,h0,hx0,_⟩:=DataW.trod_int (by kernel_rfl:p_.underlying 374=some (.int .u64)) hyt
  have hcj:cs[j]? =some c:=by
   have:=congrArg (fun l=>l[0]?) hc
   simpa using this
  have hya:(xs.map (·.1))[j]? =some (.lit (.int .u64 n)):=by rw[List.getElem?_map,hy];simp only[Option.map_some];rw[(Prod.mk.inj hx0).1]
  have hlist:xs.map (·.1)=(List.range 20).map fun j=>(.lit (.int .u64 ((10^j:Nat):Int)):DataW Unit):=by
   have:(DataW.agg (xs.map (·.1)))= .agg ((List.range 20).map fun j=>(.lit (.int .u64 ((10^j:Nat):Int)):DataW Unit)):=by rw[<- hx];rfl
   injection this
  rw[hlist,List.getElem?_map,List.getElem?_range hj]at hya
  simp only[Option.map_some,Option.some.injEq,DataW.lit.injEq,Lit.int.injEq,true_and]at hya
  rw[hcj,hya]
  have:c= .int .u64 n:=by injection h0
  rw[this]
 have hc:=fun j=>World.var?_cell h1 h3 j
 refine⟨?_,fun j hj=>?_⟩
 ·have h0:=hc 0
  rw[key 0 (by decide)]at h0
  unfold World.cell? at h0
  rcases Nat.lt_or_ge 0 W.heap.size with c|c
  ·exact c
  ·rw[Array.getElem?_eq_none c]at h0;cases h0
 ·rw[hc j,key j hj]
theorem QX {W:World}{l:List (String × DataW Unit)}(h:laidMet p_ l W)(hm:("strconv.ErrRange",Rows.laid_strconv_ErrRange)∈l):Gl W:=by
 obtain⟨ps,hv,_,_⟩:=h
 obtain⟨g,t,cs,fuel,p,h1,h2,h3,h4⟩:=sZ hv hm
 obtain rfl:=Option.some.inj ((show p_.globalNamed "strconv.ErrRange" =some 5 by kernel_rfl).symm.trans h1)
 obtain rfl:=Option.some.inj ((show(p_.globals[5]?).map (·.type)=some 462 by kernel_rfl).symm.trans h2)
 obtain⟨f1,u,v,hcs,_,_⟩:=iface_of_trod Tryz.underlying462 h4
 have hc:=World.var?_cell h1 h3 0
 have hc0:cs[0]? =some (.iface u v):=by
  rw[<- Array.getElem?_toList,hcs];rfl
 rw[hc0]at hc
 refine⟨?_,u,v,hc⟩
 unfold World.cell? at hc
 rcases Nat.lt_or_ge 5 W.heap.size with c|c
 ·exact c
 ·rw[Array.getElem?_eq_none c]at hc;cases hc
end Go.Proofs.YtdjkdjepjahjfaaGreatDoor.FD
