/- What may stand in a configuration: an upstream; a location. (28 texts made one; each says below what it is.) -/
import Derived.Test.YtdjkdjepjahjfaaGreatDoorK6
set_option linter.unusedVariables false
set_option linter.unusedSimpArgs false
set_option linter.unusedSectionVars false
set_option maxRecDepth 9999
namespace Go.Proofs.YtdjkdjepjahjfaaGreatDoor.TP
open Go Go.Proofs Go.RowKit Sh Sl T FD
def zG:List Value:=[.int .i64 1,.int .i64 64]
theorem CL {s:Nat}{cs:List Value}(h:cs.length=s)(h1:∀u∈cs,u.oneCell'=true):Els s 1 cs (fun _=>cs):=⟨by omega,fun _ _=>h,fun _ _=>h1,fun i k hi _=>by rw[show i=0 by omega,Nat.zero_mul,Nat.zero_add]⟩
theorem V4 {W:World}{A:HP}:Cn p_ 335 ([.agg zG.toArray]++[]) W [A] (fun _:Unit=> .bool true) (fun _=>[A]):=by
 (refine Shp.cn (Sg.g_ Tryz.call335 Tryz.func335) fun F=>?_;simp only[ca_,na_])
 unfold zG
 refine aU fun g=>?_;refine o_ ae (aM ?_)
 refine c_ (jR (a:=1) (b:=0) (c:=999) (by decide) (by decide)) fun _=>?_
 refine ab (o_ ae (ab (aM ?_)));refine ab (c_ (jR (a:=64) (b:=1) (c:=64) (by decide) (by decide)) fun _=>?_)
 refine o_ av (aO () ?_)
 exact aA
theorem V5 {W:World}:Cn p_ 337 ([.agg zG.toArray]++[]) W [] (fun _:Unit=>fN 1) (fun _=>[]):=by
 (refine Shp.cn (Sg.g_ Tryz.call337 Tryz.func337) fun F=>?_;simp only[ca_,na_])
 unfold zG
 refine aU fun g=>?_;refine o_ ae (aM ?_)
 refine aO () ?_
 exact aA
theorem V6 {W:World}{q:Ca}{tm rt:Int}{G c:Nat}(hq:q.p=(some ⟨G,0,none⟩,c))(h1:1<=tm)(h2:tm<=3600)(h3:0<=rt)(h4:rt<=8):Cn p_ 226 ([.agg (jS q tm rt).toArray]++[]) W [Sl 2 315 (some ⟨G,0,none⟩) c 1 zG] (fun _:Unit=> .bool true) (fun _=>[Sl 2 315 (some ⟨G,0,none⟩) c 1 zG]):=by
 (refine Shp.cn (Sg.g_ Tryz.call226 Tryz.func226) fun F=>?_;simp only[ca_,na_])
 unfold jS
 rw[hq]
 (try dsimp only)
 refine aU fun g=>?_;refine o_ ae (aM ?_)
 refine c_ (ov (l:=q8) (by decide)) fun _=>?_
 rw[show kZ q8=true by decide]
 refine ab (o_ ae (ab (aM ?_)));refine ab (o_ aK (ab (c_ (jR (a:=1) (b:=1) (c:=16) (by decide) (by decide)) fun _=>?_)))
 refine o_ av (ab (o_ ae (ab (aM ?_))));refine ab (c_ (jR h1 h2) fun _=>?_)
 refine o_ av (ab (o_ ae (ab (aM ?_))));refine ab (c_ (jR h3 h4) fun _=>?_)
 refine o_ av (ab (o_ ae (ab (aM ?_))));refine ab (bu (M:=Sl 2 315 (some ⟨G,0,none⟩) c 1 zG::pu True::_) (.pick (by repeat constructor) (.pu trivial .refl)) ?_)
 refine' aj (Fo (G:=G) (c:=c) (n:=1) (cs:=zG) (E:=fun _=>zG) (cap:=[]) (f:=335) (A:=pu True) (CL rfl (by simp[zG,Value.oneCell'])) (by decide) (fun i hi=>V4)) ?hp fun _=>?_
 case hp=>(repeat(first|exact Picks.nil|(apply Picks.cons;(focus repeat constructor))))
 refine aq ?_
 refine o_ av (ab (o_ ae (ab (aM ?_))));refine ab ?_
 refine' aj (wJ (G:=G) (c:=c) (n:=1) (cs:=zG) (E:=fun _=>zG) (f:=337) (key:=fun _=>1) (CL rfl (by simp[zG,Value.oneCell'])) (by decide) (fun i j h1 h2=>by omega) (fun i hi=>V5)) ?hp fun _=>?_
 case hp=>(repeat(first|exact Picks.nil|(apply Picks.cons;(focus repeat constructor))))
 refine aq ?_
 refine o_ av (aO () ?_)
 exact aA
def zH:Array Value:=#[az [],.int .i64 0,az [],az [],.int .i64 0,.int .i64 0,az [],.bool false,.int .i64 0,.int .i64 0,.int .i64 0,az []]
theorem CM {W:World}{ox oy:Operand}:aT p_ W [] (eo .eql 101 ox oy (.agg zH) (.agg zH)) (.bool true):=
 AW (by kernel_rfl) (by kernel_rfl) (by kernel_rfl) fun w=>by
  have hf:(p_.fieldsOf 101).toList=(#[⟨"Prefix",9,0,false,"","",0⟩,⟨"Kind",3,1,false,"","",16⟩,⟨"Root",9,2,false,"","",24⟩,⟨"Index",9,3,false,"","",40⟩,⟨"Gzip",3,4,false,"","",56⟩,⟨"Expires",3,5,false,"","",64⟩,⟨"Upstream",9,6,false,"","",72⟩,⟨"Cache",4,7,false,"","",88⟩,⟨"Rate",3,8,false,"","",96⟩,⟨"Burst",3,9,false,"","",104⟩,⟨"Status",3,10,false,"","",112⟩,⟨"To",9,11,false,"","",120⟩]:Array Field).toList:=by kernel_rfl
  rw[hf]
  exact OX [] [] (by decide) (by rfl) (by rfl) (by rfl) (Gh 0 0 (by decide) (by rfl) (by rfl) (by rfl) (OX [] [] (by decide) (by rfl) (by rfl) (by rfl) (OX [] [] (by decide) (by rfl) (by rfl) (by rfl) (Gh 0 0 (by decide) (by rfl) (by rfl) (by rfl) (Gh 0 0 (by decide) (by rfl) (by rfl) (by rfl) (OX [] [] (by decide) (by rfl) (by rfl) (by rfl) (VW false false (by decide) (by rfl) (by rfl) (by rfl) (Gh 0 0 (by decide) (by rfl) (by rfl) (by rfl) (Gh 0 0 (by decide) (by rfl) (by rfl) (by rfl) (Gh 0 0 (by decide) (by rfl) (by rfl) (by rfl) (OX [] [] (by decide) (by rfl) (by rfl) (by rfl) Gg)))))))))))
theorem Qg {W:World}{A:HP}{v:Value}:Cn p_ 344 [.agg dR.toArray,v] W [A] (fun _:Unit=> .bool true) (fun _=>[A]):=by
 (refine Shp.cn (Sg.g_ Tryz.call344 Tryz.func344 (an:={cuts:=[(16,[5])],drs:=[(14,.ofL [(0,1),(1,1),(2,1),(3,1),(4,0),(5,1),(6,1),(7,1),(8,1),(9,1),(10,1),(11,1),(12,1),(13,1),(14,1),(15,0),(16,1),(17,1),(18,1),(19,1),(21,3),(22,3),(20,0),(23,1),(24,1),(25,1)])]}) (os:=[(14,[(20,[22,21])])])) fun F=>?_;simp only[ca_,na_])
 unfold dR
 refine aU fun g=>?_;refine o_ ae (aM ?_)
 refine c_ (GN (p:=[47]) (r:=[]) rfl (by decide+kernel) (by decide)) fun _=>?_
 refine ab (o_ ae (ab (aM ?_)));refine ab (c_ (jR (a:=0) (b:=0) (c:=1000000) (by decide) (by decide)) fun _=>?_)
 refine o_ av (ab (o_ ae (ab (aM ?_))));refine ab (c_ (jR (a:=0) (b:=0) (c:=1000000) (by decide) (by decide)) fun _=>?_)
 refine o_ av (ab (o_ ae (ab (aM ?_))));refine ab ?_;(((refine o_ (Sl.bZ ?hcq) ?_);(case hcq=>(first|omega|(simp only[List.length_nil,List.length_cons];omega)))));refine ab (ab (o_ ae (ab (aM ?_))));refine ab ?_;(((refine o_ (Sl.cv ?hcq) ?_);(case hcq=>(first|omega|(simp only[List.length_nil,List.length_cons];omega)))));refine ab (o_ am (o_ av (iS ?_)));refine aS fun g=>?_;(((refine' aG ?hp ?hn ?hv ?h1 ?_);(case hp=>(repeat constructor));(case hn=>rfl);(case hv=>rfl);(case h1=>simp[Value.oneCell',az])));refine o_ ae (bU ?_);refine o_ ae (bU ?_);refine o_ ae (bU ?_);refine o_ ae (bU ?_)
 refine dt (fun x=>pu (x= .bool true)::pt g (.cells zH 101)::A::F) ?_ ?_
 rotate_left
 ·(refine o_ ae ?_);refine aM ?_;(((refine o_ (Sl.bL ?hcq) ?_);(case hcq=>(first|omega|(simp only[List.length_nil,List.length_cons];omega)))));refine af ?_;(((refine o_ (Sl.bL ?hcq) ?_);(case hcq=>(first|omega|(simp only[List.length_nil,List.length_cons];omega)))));refine af ?_;(((refine o_ (Sl.cv ?hcq) ?_);(case hcq=>(first|omega|(simp only[List.length_nil,List.length_cons];omega)))));refine ai ?_;refine aV ?_;refine ab ?_;refine t_ ae ?_;refine ab ?_;refine cu ?_;refine ab ?_
  refine c_ (jR (a:=200) (b:=200) (c:=599) (by decide) (by decide)) fun _=>?_
  refine t_ av (ab (t_ ae (ab (cu ?_))));refine ab (t_ bC (ab (t_ (gN (by decide)) ?_)))
  refine t_ av (ab (t_ ae (ab (cu ?_))));refine ab (c_ (CK (l:=rO) (a:=32) (by decide) (by decide)) fun _=>?_)
  refine t_ av (ab (t_ ae (ab (cu ?_))));refine jV (ay ae .nil ?_);refine jV ?_;(((refine' ay (aQ ?hc) ?hi ?_);(case hi=>exact .pick (by repeat constructor) .nil);(case hc=>repeat constructor)));refine ab (c_ (uf (l:=rO) (by decide)) fun _=>?_)
  rw[show de rO=rO by decide]
  refine aY ?_;refine aY ?_;refine ab ?_;(((refine' aP (Sl.kr ?hcq) .nil ?_);(case hcq=>(first|rfl|assumption))));refine t_ av (o_ ae (bU ?_));refine o_ ae (bU ?_)
  refine aI (.pu rfl ?_)
  unfold zH
  exact aA
 intro ds z
 refine aX .here fun hz=>?_
 subst hz
 refine ab (iS ?_);refine ab (o_ bM ?_);refine ab (o_ CM ?_)
 refine o_ av (aO () ?_)
 exact aA
theorem Qh {W:World}{q:Ca}{tm rt:Int}{G c:Nat}:Cn p_ 344 [.agg cj.toArray,.slice (some ⟨G,0,none⟩) 1 c] W [Sl 4 145 (some ⟨G,0,none⟩) c 1 (jS q tm rt)] (fun _:Unit=> .bool true) (fun _=>[Sl 4 145 (some ⟨G,0,none⟩) c 1 (jS q tm rt)]):=by
 have h1:∀bx,Cn p_ 416 ([.agg (jS q tm rt).toArray]++[.pointer (some ⟨bx,0,none⟩)]) W [pt bx (.cells cj.toArray 101)] (fun _:Unit=> .bool true) (fun _=>[pt bx (.cells cj.toArray 101)]):=by
  intro bx
  (refine Shp.cn (Sg.g_ Tryz.call416 Tryz.func416) fun F=>?_;simp only[ca_,na_])
  unfold jS cj
  refine aU fun g=>?_;refine o_ ae (aM ?_);refine o_ ae (aM ?_);(((refine' aB (Sl.kr ?hcq) .nil ?_);(case hcq=>(first|rfl|assumption))))
  refine aO () ?_
  exact aA
 have h2:∀bx,Cn p_ 332 [.slice (some ⟨G,0,none⟩) 1 c,.func (.func 416) #[] #[.pointer (some ⟨bx,0,none⟩)]] W [Sl 4 145 (some ⟨G,0,none⟩) c 1 (jS q tm rt),pt bx (.cells cj.toArray 101)] (fun _:Unit=> .bool true) (fun _=>[Sl 4 145 (some ⟨G,0,none⟩) c 1 (jS q tm rt),pt bx (.cells cj.toArray 101)]):=by
  intro bx
  have h3:Cn p_ 123 [.slice (some ⟨G,0,none⟩) 1 c,.func (.func 416) #[] #[.pointer (some ⟨bx,0,none⟩)]] W [Sl 4 145 (some ⟨G,0,none⟩) c 1 (jS q tm rt),pt bx (.cells cj.toArray 101)] (fun _:Unit=> .int .i64 0) (fun _=>[Sl 4 145 (some ⟨G,0,none⟩) c 1 (jS q tm rt),pt bx (.cells cj.toArray 101)]):=by
   (refine Shp.cn (Sg.g_ Tryz.call123 Tryz.func123 (an:={loops:=[(2,[8])]})) fun F=>?_;simp only[ca_,na_])
   refine o_ aK (a_ (fun m y=>pu (y= .int .i64 0)::_) 0 (.pu rfl .refl) ?_)
   intro m ds y
   refine aX .here fun hz=>?_
   subst hz
   (((refine o_ (Sl.ce ?hcq) ?_);(case hcq=>(first|omega|(simp only[List.length_nil,List.length_cons];omega)))));refine ai ?_
   refine o_ (eA 0 rfl (by decide)) ?_
   refine aB (dp (n:=4) (j:=0) (vs:=jS q tm rt) (ef (n:=1) (s:=4) rfl fun _=>⟨G,rfl⟩) rfl (fun k hk=>by rw[Nat.zero_add])) aA ?_
   refine bB (cap:=[.pointer (some ⟨bx,0,none⟩)]) (h1 bx) (.cons (by repeat constructor) .nil) fun _=>?_
   refine aq ?_
   refine ai (aO () ?_)
   exact aA
  (refine Shp.cn (Sg.g_ Tryz.call332 Tryz.func332) fun F=>?_;simp only[ca_,na_])
  refine' aj h3 ?hp fun _=>?_
  case hp=>(repeat(first|exact Picks.nil|(apply Picks.cons;(focus repeat constructor))))
  refine aq ?_
  (((refine o_ (Sl.jJ ?hcq) ?_);(case hcq=>(first|omega|(simp only[List.length_nil,List.length_cons];omega)))))
  refine aO () ?_
  exact aA
 (refine Shp.cn (Sg.g_ Tryz.call344 Tryz.func344 (an:={cuts:=[(16,[5])],drs:=[(14,.ofL [(0,1),(1,1),(2,1),(3,1),(4,0),(5,1),(6,1),(7,1),(8,1),(9,1),(10,1),(11,1),(12,1),(13,1),(14,1),(15,0),(16,1),(17,1),(18,1),(19,1),(21,3),(22,3),(20,0),(23,1),(24,1),(25,1)])]}) (os:=[(14,[(20,[22,21])])])) fun F=>?_;simp only[ca_,na_])
 unfold cj
 refine aU fun g=>?_;refine o_ ae (aM ?_)
 rename Nat=>g1
 refine c_ (GN (p:=eY) (r:=[97,112,105]) rfl (by decide+kernel) (by decide)) fun _=>?_
 refine ab (o_ ae (ab (aM ?_)));refine ab (c_ (jR (a:=0) (b:=0) (c:=1000000) (by decide) (by decide)) fun _=>?_)
 refine o_ av (ab (o_ ae (ab (aM ?_))));refine ab (c_ (jR (a:=0) (b:=0) (c:=1000000) (by decide) (by decide)) fun _=>?_)
 refine o_ av (ab (o_ ae (ab (aM ?_))));refine ab ?_;(((refine o_ (Sl.bZ ?hcq) ?_);(case hcq=>(first|omega|(simp only[List.length_nil,List.length_cons];omega)))));refine ab (ab (o_ ae (ab (aM ?_))));refine ab ?_;(((refine o_ (Sl.cv ?hcq) ?_);(case hcq=>(first|omega|(simp only[List.length_nil,List.length_cons];omega)))));refine ab (o_ am (o_ av (iS ?_)));refine aS fun g=>?_;(((refine' aG ?hp ?hn ?hv ?h1 ?_);(case hp=>(repeat constructor));(case hn=>rfl);(case hv=>rfl);(case h1=>simp[Value.oneCell',az])));refine o_ ae (bU ?_);refine o_ ae (bU ?_);refine o_ ae (bU ?_);refine o_ ae (bU ?_)
 refine dt (fun x=>pu (x= .bool true)::pt g (.cells zH 101)::Sl 4 145 (some ⟨G,0,none⟩) c 1 (jS q tm rt)::F) ?_ ?_
 rotate_left
 ·(refine o_ ae ?_);refine aM ?_;(((refine o_ (Sl.bL ?hcq) ?_);(case hcq=>(first|omega|(simp only[List.length_nil,List.length_cons];omega)))));refine af ?_;(((refine o_ (Sl.cv ?hcq) ?_);(case hcq=>(first|omega|(simp only[List.length_nil,List.length_cons];omega)))));refine ai ?_;refine ab ?_;refine ab ?_;refine o_ bP ?_;refine ab ?_
  refine' aj (h2 g1) ?hp fun _=>?_
  case hp=>exact .cons (by repeat constructor) (.cons (by repeat constructor) .nil)
  unfold cj
  refine aq ?_
  refine o_ av (ab (o_ ae (ab (aM ?_))));refine ab (c_ (jR (a:=0) (b:=0) (c:=9) (by decide) (by decide)) fun _=>?_)
  refine o_ av (o_ ae (bU ?_));refine o_ ae (bU ?_);refine o_ ae (bU ?_)
  refine aI (.pu rfl ?_)
  unfold zH
  exact aA
 intro ds z
 refine aX .here fun hz=>?_
 subst hz
 refine ab (iS ?_);refine ab (o_ bM ?_);refine ab (o_ CM ?_)
 refine o_ av (aO () ?_)
 exact aA
theorem yh {W:World}{L L1 L2:List HP}{A B:HP}{S:WP}(p1:Pick L A L1)(p2:Pick L1 B L2)(h:aR W (all [A,B]::L2) S):aR W L S:=bu (.all (.pick p1 (.pick p2 .refl))) h
theorem Qi {W:World}{f:FuncId}:Cn p_ 340 [.slice none 0 0,.func (.func f) #[] #[]] W [] (fun _:Unit=> .bool true) (fun _=>[]):=by
 have h1:∀bx:Nat,Cn p_ 177 [.slice none 0 0,.func (.func 410) #[] #[.pointer (some ⟨bx,0,none⟩)]] W [] (fun _:Unit=> .int .i64 (-1)) (fun _=>[]):=by
  intro bx
  (refine Shp.cn (Sg.g_ Tryz.call177 Tryz.func177 (an:={loops:=[(2,[8])]})) fun F=>?_;simp only[ca_,na_])
  refine o_ aK (a_ (fun m y=>pu (y= .int .i64 0)::_) 0 (.pu rfl .refl) ?_)
  intro m ds y
  refine aX .here fun hz=>?_
  subst hz
  (((refine o_ (Sl.bJ ?hcq) ?_);(case hcq=>(first|omega|(simp only[List.length_nil,List.length_cons];omega)))));refine af ?_
  refine aO () ?_
  exact aA
 have h2:∀bx:Nat,Cn p_ 104 [.slice none 0 0,.func (.func 410) #[] #[.pointer (some ⟨bx,0,none⟩)]] W [] (fun _:Unit=> .bool false) (fun _=>[]):=by
  intro bx
  (refine Shp.cn (Sg.g_ Tryz.call104 Tryz.func104) fun F=>?_;simp only[ca_,na_])
  refine c_ (h1 bx) fun _=>?_
  (((refine o_ (Sl.eW ?hcq) ?_);(case hcq=>(first|omega|(simp only[List.length_nil,List.length_cons];omega)))))
  refine aO () ?_
  exact aA
 (refine Shp.cn (Sg.g_ Tryz.call340 Tryz.func340) fun F=>?_;simp only[ca_,na_])
 refine cA fun g=>?_;refine o_ bP (c_ (h2 g) fun _=>?_)
 refine o_ cP (aO () ?_)
 exact aA
theorem CN {W:World}{f:FuncId}{a:Option Addr}{c:Nat}:Cn p_ 232 [.slice a 0 c,.func (.func f) #[] #[]] W [] (fun _:Unit=> .bool true) (fun _=>[]):=by
 (refine Shp.cn (Sg.g_ Tryz.call232 Tryz.func232 (an:={loops:=[(3,[11])]})) fun F=>?_;simp only[ca_,na_])
 refine jM (P:=p_) (t:=477) (kt:=9) az fun gm=>?_
 refine o_ aK (a_ (fun m y=>pu (y= .int .i64 0)::_) 0 (.pu rfl .refl) ?_)
 intro m ds y
 refine aX .here fun hz=>?_
 subst hz
 (((refine o_ (Sl.bJ ?hcq) ?_);(case hcq=>(first|omega|(simp only[List.length_nil,List.length_cons];omega)))));refine af ?_
 refine aO () ?_
 exact aA
theorem Qj:Els 12 2 (dR++cj) kJ:=⟨rfl,fun i _=>kK i,fun i hi=>by
 rcases(show i=0\/i=1 by omega)with rfl|rfl
 ·show ∀u∈dR,u.oneCell'=true
  simp[dR,Value.oneCell',az]
 ·show ∀u∈cj,u.oneCell'=true
  simp[cj,Value.oneCell',az],fun i k hi hk=>vg hi hk⟩
def Jh (i:Nat):List UInt8:=if i=0 then [47]else eY
theorem U3 {W:World}{i:Nat}:Cn p_ 346 ([.agg (kJ i).toArray]++[]) W [] (fun _:Unit=>az (Jh i)) (fun _=>[]):=by
 (refine Shp.cn (Sg.g_ Tryz.call346 Tryz.func346) fun F=>?_;simp only[ca_,na_])
 unfold kJ Jh
 split
 ·unfold dR
  refine aU fun g=>?_;refine o_ ae (aM ?_)
  refine aO () ?_
  exact aA
 ·unfold cj
  refine aU fun g=>?_;refine o_ ae (aM ?_)
  refine aO () ?_
  exact aA
theorem U4 {W:World}{q:Ca}{tm rt:Int}{G c bx i:Nat}(hi:i<2):Cn p_ 343 ([.agg (kJ i).toArray]++[.pointer (some ⟨bx,0,none⟩)]) W [all [pt bx (.cells #[.slice (some ⟨G,0,none⟩) 1 c] 77),Sl 4 145 (some ⟨G,0,none⟩) c 1 (jS q tm rt)]] (fun _:Unit=> .bool true) (fun _=>[all [pt bx (.cells #[.slice (some ⟨G,0,none⟩) 1 c] 77),Sl 4 145 (some ⟨G,0,none⟩) c 1 (jS q tm rt)]]):=by
 (refine Shp.cn (Sg.g_ Tryz.call343 Tryz.func343) fun F=>?_;simp only[ca_,na_])
 refine aE .here ?_
 refine aq ?_
 refine aU fun b=>?_
 refine aB (bK (n:=12) (by rw[List.size_toArray];exact kK i)) aA ?_
 refine aM ?_
 rcases(show i=0\/i=1 by omega)with rfl|rfl
 ·refine' aj (Qg (v:= .slice (some ⟨G,0,none⟩) 1 c) (A:=Sl 4 145 (some ⟨G,0,none⟩) c 1 (jS q tm rt))) ?hp fun _=>?_
  case hp=>exact .cons (by repeat constructor) .nil
  refine aq ?_
  refine aO () ?_
  refine .all ?_
  refine aq ?_
  exact aA
 ·refine' aj (Qh (q:=q) (tm:=tm) (rt:=rt) (G:=G) (c:=c)) ?hp fun _=>?_
  case hp=>exact .cons (by repeat constructor) .nil
  refine aq ?_
  refine aO () ?_
  refine .all ?_
  refine aq ?_
  exact aA
theorem V7 {W:World}{q:Ca}{tm rt:Int}{G c H d:Nat}(hq:q.l=(some ⟨H,0,none⟩,d)):Cn p_ 231 [.agg (kR q).toArray,.slice (some ⟨G,0,none⟩) 1 c] W [Sl 4 145 (some ⟨G,0,none⟩) c 1 (jS q tm rt),Sl 12 101 (some ⟨H,0,none⟩) d 2 (dR++cj)] (fun _:Unit=> .bool true) (fun _=>[Sl 4 145 (some ⟨G,0,none⟩) c 1 (jS q tm rt),Sl 12 101 (some ⟨H,0,none⟩) d 2 (dR++cj)]):=by
 (refine Shp.cn (Sg.g_ Tryz.call231 Tryz.func231) fun F=>?_;simp only[ca_,na_])
 unfold kR
 rw[hq]
 (try dsimp only)
 refine aU fun g=>?_;refine cA fun g=>?_;refine o_ ae (aM ?_);refine o_ aK ?_;(((refine o_ (Sl.gN ?hcq) ?_);(case hcq=>(first|omega|(simp only[List.length_nil,List.length_cons];omega)))));refine ab (o_ ae (ab (aM ?_)));refine ab (c_ (Qi (f:=341)) fun _=>?_)
 refine o_ av (ab (o_ ae (ab (aM ?_))));refine ab (o_ aK (ab (c_ (jR (a:=2) (b:=1) (c:=32) (by decide) (by decide)) fun _=>?_)))
 refine o_ av (ab (o_ ae (ab (aM ?_))));refine ab (o_ bP (ab (yh (by(repeat constructor):Pick _ (pt g (.cells #[.slice (some ⟨G,0,none⟩) 1 c] 77)) _) (by(repeat constructor):Pick _ (Sl 4 145 (some ⟨G,0,none⟩) c 1 (jS q tm rt)) _) ?_)))
 ·refine' aj (ve (G:=H) (c:=d) (n:=2) (cs:=dR++cj) (E:=kJ) (f:=343) (cap:=[.pointer (some ⟨g,0,none⟩)]) Qj (by decide) (fun i hi=>U4 hi)) ?hp fun _=>?_
  case hp=>(repeat(first|exact Picks.nil|(apply Picks.cons;(focus repeat constructor))))
  refine aq ?_
  refine aE (.there .here) ?_
  refine aq ?_
  refine o_ av (ab (o_ ae (ab (aM ?_))));refine ab ?_
  refine' aj (qL (G:=H) (c:=d) (n:=2) (cs:=dR++cj) (E:=kJ) (f:=346) (key:=Jh) Qj (by decide) (fun i j h1 h2=>by
   rcases(show i=1/\j=0 by omega)with ⟨rfl,rfl⟩
   decide) (fun i hi=>U3)) ?hp fun _=>?_
  case hp=>(repeat(first|exact Picks.nil|(apply Picks.cons;(focus repeat constructor))))
  refine aq ?_
  refine o_ av (aO () ?_)
  exact aA
theorem V8 {W:World}{q:Ca}{tm rt:Int}:Cn p_ 228 ([.agg (jS q tm rt).toArray]++[]) W [] (fun _:Unit=>az q8) (fun _=>[]):=by
 (refine Shp.cn (Sg.g_ Tryz.call228 Tryz.func228) fun F=>?_;simp only[ca_,na_])
 unfold jS
 refine aU fun g=>?_;refine o_ ae (aM ?_)
 refine aO () ?_
 exact aA
theorem yi {W:World}{L L1 L2 L3:List HP}{A B C:HP}{S:WP}(p1:Pick L A L1)(p2:Pick L1 B L2)(p3:Pick L2 C L3)(h:aR W (all [A,B,C]::L3) S):aR W L S:=bu (.all (.pick p1 (.pick p2 (.pick p3 .refl)))) h
def Qk (st:Nat)(q:Ca)(bx:Nat)(G c H d:Nat)(tm rt:Int):HP:=all [pt bx (.cells (vz st q).toArray 80),Sl 4 145 (some ⟨G,0,none⟩) c 1 (jS q tm rt),Sl 12 101 (some ⟨H,0,none⟩) d 2 (dR++cj)]
theorem V9 {W:World}{st:Nat}{q:Ca}{bx G c H d:Nat}{tm rt:Int}(hu:q.u=(some ⟨G,0,none⟩,c))(hl:q.l=(some ⟨H,0,none⟩,d)):Cn p_ 230 ([.agg (kR q).toArray]++[.pointer (some ⟨bx,0,none⟩)]) W [Qk st q bx G c H d tm rt] (fun _:Unit=> .bool true) (fun _=>[Qk st q bx G c H d tm rt]):=by
 (refine Shp.cn (Sg.g_ Tryz.call230 Tryz.func230) fun F=>?_;simp only[ca_,na_])
 unfold Qk
 refine aE .here ?_
 unfold kR vz
 rw[hu]
 refine aq ?_
 (try dsimp only)
 refine aU fun g=>?_;refine iS ?_;refine o_ ae (aM ?_)
 refine' aj (V7 (q:=q) (tm:=tm) (rt:=rt) (G:=G) (c:=c) hl) ?hp fun _=>?_
 case hp=>exact .cons (by repeat constructor) (.cons (by repeat constructor) .nil)
 refine aq ?_
 refine aO () ?_
 refine .all ?_
 refine aq ?_
 exact aA
theorem Ji {W:World}{st:Nat}{q:Ca}{tm rt:Int}(hst:st<=1048576)(h1:1<=tm)(h2:tm<=3600)(h3:0<=rt)(h4:rt<=8):Cn p_ 139 [.agg (vz st q).toArray] W [gH q tm rt] (fun _:Unit=> .int .i64 0) (fun _=>[gH q tm rt]):=by
 (refine Shp.cn (Sg.g_ Tryz.call139 Tryz.func139 (an:={loops:=[(4,[3,4,11])]})) fun F=>?_;simp only[ca_,na_])
 refine aE .here ?_
 refine aq ?_
 refine be (by(repeat constructor):Pick _ (Sl 4 145 q.u.1 q.u.2 _ _) _) (by decide) fun gu hu=>?_
 refine be (by(repeat constructor):Pick _ (Sl 2 315 q.p.1 q.p.2 _ _) _) (by decide) fun gp hp=>?_
 refine be (by(repeat constructor):Pick _ (Sl 3 200 q.s.1 q.s.2 _ _) _) (by decide) fun gs hs=>?_
 refine be (by(repeat constructor):Pick _ (Sl 12 101 q.l.1 q.l.2 _ _) _) (by decide) fun gl hl=>?_
 obtain⟨⟨u1,u2⟩,⟨p1,p2⟩,⟨s1,s2⟩,⟨l1,l2⟩⟩:=q
 dsimp only at hu hp hs hl ⊢
 subst hu hp hs hl
 unfold vz
 refine aU fun bx=>?_
 refine o_ ae (aM ?_);refine o_ aK (f7 (fun m x y z=>[ex fun st:Nat × AC=>all [pu (m+st.1=1/\x= .slice st.2.1 0 st.2.2/\y= .int .i64 0/\z= .int .i64 (st.1:Int)),Sl 1 9 st.2.1 st.2.2 0 []]]++(pt bx (.cells #[.int .i64 75,.int .i64 65536,.int .i64 (st:Int),.int .i64 1000,.slice (some ⟨gu,0,none⟩) 1 u2,.slice (some ⟨gs,0,none⟩) 1 s2] 80)::Sl 4 145 (some ⟨gu,0,none⟩) u2 1 (jS ⟨(some ⟨gu,0,none⟩,u2),(some ⟨gp,0,none⟩,p2),(some ⟨gs,0,none⟩,s2),(some ⟨gl,0,none⟩,l2)⟩ tm rt)::Sl 2 315 (some ⟨gp,0,none⟩) p2 1 [.int .i64 1,.int .i64 64]::Sl 3 200 (some ⟨gs,0,none⟩) s2 1 (kR ⟨(some ⟨gu,0,none⟩,u2),(some ⟨gp,0,none⟩,p2),(some ⟨gs,0,none⟩,s2),(some ⟨gl,0,none⟩,l2)⟩)::Sl 12 101 (some ⟨gl,0,none⟩) l2 2 (dR++cj)::F)) 1 ?_ ?_)
 ·refine Imp.ex (0,(none,0)) (.all ?_)
  refine aq ?_
  exact .pu ⟨rfl,rfl,rfl,rfl⟩ (bO .refl)
 intro m ds x y z
 refine aq ?_
 refine bt Pick.here fun st2=>aE .here ?_
 obtain⟨i,na,nc⟩:=st2
 refine aq ?_
 refine aX .here fun hi=>?_
 (try dsimp only at hi)
 obtain⟨hm,rfl,rfl,rfl⟩:=hi
 (try dsimp only)
 rcases Nat.lt_or_ge i 1 with hi|hi
 ·obtain rfl:i=0:=by omega
  (((refine o_ (Sl.ce ?hcq) ?_);(case hcq=>(first|omega|(simp only[List.length_nil,List.length_cons];omega)))));refine ai ?_
  refine o_ (eA 0 rfl (by decide)) ?_
  refine aB (dp (n:=3) (j:=0) (vs:=kR ⟨(some ⟨gu,0,none⟩,u2),(some ⟨gp,0,none⟩,p2),(some ⟨gs,0,none⟩,s2),(some ⟨gl,0,none⟩,l2)⟩) (ef (n:=1) (s:=3) rfl fun _=>⟨gs,rfl⟩) rfl (fun k hk=>by rw[Nat.zero_add])) aA ?_
  rw[show(Value.agg (kR ⟨(some ⟨gu,0,none⟩,u2),(some ⟨gp,0,none⟩,p2),(some ⟨gs,0,none⟩,s2),(some ⟨gl,0,none⟩,l2)⟩).toArray)= .agg #[.slice none 0 0,.bool false,.slice (some ⟨gl,0,none⟩) 2 l2]from rfl]
  refine aS fun g=>?_;(((refine' aG ?hp ?hn ?hv ?h1 ?_);(case hp=>(repeat constructor));(case hn=>rfl);(case hv=>rfl);(case h1=>simp[Value.oneCell',az])));refine o_ ae (aM ?_)
  refine bV (m:=0) (news:=[]) (by(repeat constructor):Pick _ (Sl 1 9 na nc 0 []) _) (fun w hw=>Src.ofNil (e':=9) w (by kernel_rfl) 0) (by decide) (by decide) fun a' c'=>?_
  refine o_ ae (aM ?_);refine af (bS ?_)
  refine cH (m-1) ?_ ?_
  ·omega
  refine .ex (1,(a',c')) (.all ?_)
  refine aq ?_
  refine .pu ⟨by omega,rfl,rfl,rfl⟩ ?_
  exact .pick .here aA
 ·obtain rfl:i=1:=by omega
  (((refine o_ (Sl.bJ ?hcq) ?_);(case hcq=>(first|omega|(simp only[List.length_nil,List.length_cons];omega)))));refine af ?_;refine o_ ae ?_;refine aM ?_
  refine c_ (jR (a:=75) (b:=0) (c:=3600) (by decide) (by decide)) fun _=>?_
  refine ab (o_ ae (ab (aM ?_)));refine ab (c_ (jR (a:=65536) (b:=0) (c:=1048576) (by decide) (by decide)) fun _=>?_)
  refine o_ av (ab (o_ ae (ab (aM ?_))));refine ab (c_ (jR (a:=(st:Int)) (b:=0) (c:=1048576) (by omega) (by omega)) fun _=>?_)
  refine o_ av (ab (o_ ae (ab (aM ?_))));refine ab (c_ (jR (a:=1000) (b:=1) (c:=1000) (by decide) (by decide)) fun _=>?_)
  refine o_ av (ab (o_ ae (ab (aM ?_))));refine ab (o_ aK (ab ?_));(((refine o_ (Sl.gN ?hcq) ?_);(case hcq=>(first|omega|(simp only[List.length_nil,List.length_cons];omega)))));refine o_ av (ab (o_ ae (ab (aM ?_))));refine ab ?_
  refine' aj (vd (G:=gu) (c:=u2) (n:=1) (cs:=jS ⟨(some ⟨gu,0,none⟩,u2),(some ⟨gp,0,none⟩,p2),(some ⟨gs,0,none⟩,s2),(some ⟨gl,0,none⟩,l2)⟩ tm rt) (E:=fun _=>jS ⟨(some ⟨gu,0,none⟩,u2),(some ⟨gp,0,none⟩,p2),(some ⟨gs,0,none⟩,s2),(some ⟨gl,0,none⟩,l2)⟩ tm rt) (cap:=[]) (f:=226) (CL rfl (by simp[jS,Value.oneCell',az])) (by decide) (fun i hi=>V6 (q:=⟨(some ⟨gu,0,none⟩,u2),(some ⟨gp,0,none⟩,p2),(some ⟨gs,0,none⟩,s2),(some ⟨gl,0,none⟩,l2)⟩) (tm:=tm) (rt:=rt) (G:=gp) (c:=p2) rfl h1 h2 h3 h4)) ?hp fun _=>?_
  case hp=>exact .cons (by repeat constructor) (.cons (by repeat constructor) .nil)
  refine aq ?_
  refine o_ av (ab (o_ ae (ab (aM ?_))));refine ab ?_
  refine' aj (qK (G:=gu) (c:=u2) (n:=1) (cs:=jS ⟨(some ⟨gu,0,none⟩,u2),(some ⟨gp,0,none⟩,p2),(some ⟨gs,0,none⟩,s2),(some ⟨gl,0,none⟩,l2)⟩ tm rt) (E:=fun _=>jS ⟨(some ⟨gu,0,none⟩,u2),(some ⟨gp,0,none⟩,p2),(some ⟨gs,0,none⟩,s2),(some ⟨gl,0,none⟩,l2)⟩ tm rt) (f:=228) (key:=fun _=>q8) (CL rfl (by simp[jS,Value.oneCell',az])) (by decide) (fun i j h1 h2=>by omega) (fun i hi=>V8)) ?hp fun _=>?_
  case hp=>(repeat(first|exact Picks.nil|(apply Picks.cons;(focus repeat constructor))))
  refine aq ?_
  refine o_ av (ab (o_ ae (ab (aM ?_))));refine ab (o_ aK (ab (c_ (jR (a:=1) (b:=1) (c:=32) (by decide) (by decide)) fun _=>?_)))
  refine o_ av (ab (o_ ae (ab (aM ?_))));refine ab (o_ bP (ab (yi (by(repeat constructor):Pick _ (pt bx _) _) (by(repeat constructor):Pick _ (Sl 4 145 (some ⟨gu,0,none⟩) u2 1 (jS ⟨(some ⟨gu,0,none⟩,u2),(some ⟨gp,0,none⟩,p2),(some ⟨gs,0,none⟩,s2),(some ⟨gl,0,none⟩,l2)⟩ tm rt)) _) (by(repeat constructor):Pick _ (Sl 12 101 (some ⟨gl,0,none⟩) l2 2 (dR++cj)) _) ?_)))
  refine' aj (zE (G:=gs) (c:=s2) (n:=1) (cs:=kR ⟨(some ⟨gu,0,none⟩,u2),(some ⟨gp,0,none⟩,p2),(some ⟨gs,0,none⟩,s2),(some ⟨gl,0,none⟩,l2)⟩) (E:=fun _=>kR ⟨(some ⟨gu,0,none⟩,u2),(some ⟨gp,0,none⟩,p2),(some ⟨gs,0,none⟩,s2),(some ⟨gl,0,none⟩,l2)⟩) (cap:=[.pointer (some ⟨bx,0,none⟩)]) (f:=230) (A:=Qk st ⟨(some ⟨gu,0,none⟩,u2),(some ⟨gp,0,none⟩,p2),(some ⟨gs,0,none⟩,s2),(some ⟨gl,0,none⟩,l2)⟩ bx gu u2 gl l2 tm rt) (CL rfl (by simp[kR,Value.oneCell',az])) (by decide) (fun i hi=>V9 rfl rfl)) ?hp fun _=>?_
  case hp=>exact .cons (by repeat constructor) (.cons (by repeat constructor) .nil)
  refine aq ?_
  unfold Qk
  refine aE (.there .here) ?_
  refine aq ?_
  refine o_ av (ab (ab ?_))
  refine' aj (CN (f:=233) (a:=na) (c:=nc)) ?hp fun _=>?_
  case hp=>exact .nil
  refine aq ?_
  refine o_ av (ab (ab ?_));(((refine o_ (Sl.gN ?hcq) ?_);(case hcq=>(first|omega|(simp only[List.length_nil,List.length_cons];omega)))));refine o_ av (o_ bA (af (aO () ?_)))
  refine .all ?_
  refine aq ?_
  exact aA
end Go.Proofs.YtdjkdjepjahjfaaGreatDoor.TP
namespace Go.Proofs.YtdjkdjepjahjfaaGreatDoor.Sl
open Go Go.RowKit Sh
theorem n7 {W:World}{A M F:List HP}{w:World}(i:Imp W A M)(h:sat W (A++F) w):sat W (M++F) w:=h.map fun h H=>by
 obtain⟨h1,h2,ha,hf,d,t1,t2⟩:=all_append H
 exact b_ ⟨h1,h2,i.all' _ ha,hf,d,t1,t2⟩
theorem Cn.imp {P:Program}{α:Type}{f:FuncId}{args:List Value}{W:World}{A A':List HP}{r:α->Value}{B B':α->List HP}(h:Cn P f args W A r B)(R:List HP)(hi:Imp W A' (A++R))(ho:∀x,Imp W (B x++R) (B' x)):Cn P f args W A' r B':=
 ⟨h.call,fun F w hw=>(h.run (R++F) w (by rw[<- List.append_assoc];exact n7 hi hw)).mono fun e w' ⟨x,he,hs⟩=>⟨x,he,by rw[<- List.append_assoc]at hs;exact n7 (ho x) hs⟩⟩
end Go.Proofs.YtdjkdjepjahjfaaGreatDoor.Sl
namespace Go.Proofs.YtdjkdjepjahjfaaGreatDoor.TP
open Go Go.Proofs Go.RowKit Sh Sl T FD
def Ql (x:(Nat × Nat × Nat) × Nat × Nat × Nat × Nat × Nat):FM:=VK x.2.2.2.2.1 x.2.2.2.2.2 (lU x.2.1 x.2.2.1 x.1.1 x.2.2.2.1 x.1.2.1 x.1.2.2 fun _=>none)
def cR (x:Nat × Nat × Nat):HP:=all [zA 315 x.1,zA 320 x.2.1,zA 321 x.2.2]
def n8 (gs:Nat->Nat)(f:Nat->AC × AC)(d t r:List UInt8)(b gd:Nat)(x:(Nat × Nat × Nat) × Nat × Nat × Nat × Nat × Nat):dq:=⟨gs,f,lV d t r,b,gd,Ql x,cR x.1⟩
theorem Mo {W:World}{A R:HP}{b:Nat}{s s':Bs}{ln:Int}{f:FuncId}{args:List Value}(h:Cn p_ f args W [dF b s ln,A] (fun _:Unit=> .tuple #[]) (fun _=>[dF b s' ln,A])):Cn p_ f args W [dF b s ln,A,R] (fun _:Unit=> .tuple #[]) (fun _=>[dF b s' ln,A,R]):=h.imp [R] .refl fun _=> .refl
theorem VL {W:World}{A R:HP}{b:Nat}{s s':Bs}{ln:Int}{f:FuncId}{args:List Value}(h:Cn p_ f args W [dF b s ln] (fun _:Unit=> .tuple #[]) (fun _=>[dF b s' ln])):Cn p_ f args W [dF b s ln,A,R] (fun _:Unit=> .tuple #[]) (fun _=>[dF b s' ln,A,R]):=h.imp [A,R] .refl fun _=> .refl
theorem U5 {W : World} {A X Y Z : HP} {N : List HP} {b : Nat} {s s' : Bs} {ln : Int} {f : FuncId} {args : List Value} (i : Imp W N [X, Y, Z]) (j : Imp W [X, Y, Z] N) (h : Cn p_ f args W [dF b s ln, A, X] (fun _ : Unit => .tuple #[]) (fun _ => [dF b s' ln, A, X])) : Cn p_ f args W [dF b s ln, A, all N] (fun _ : Unit => .tuple #[]) (fun _ => [dF b s' ln, A, all N]) :=
 ⟨h.call, fun F w hw => by
  have h1 : sat W (N ++ (dF b s ln :: A :: F)) w := sat.map (L := all N :: dF b s ln :: A :: F) (fun _ H => b_ H) (hw.pick (.there (.there .here)))
  have h2 := n7 i h1
  have h3 : sat W ([dF b s ln, A, X] ++ (Y :: Z :: F)) w := (show Imp W ([X, Y, Z] ++ (dF b s ln :: A :: F)) (dF b s ln :: A :: X :: Y :: Z :: F) by
   refine aq ?_
   (repeat (first | exact .refl | exact .nil | (apply Imp.pick; (focus ((repeat constructor); done))) | refine .drop ?_))).sat h2
  refine (h.run (Y :: Z :: F) w h3).mono fun e w' ⟨x, he, hs⟩ => ⟨x, he, ?_⟩
  refine (show Imp W ([dF b s' ln, A, X] ++ (Y :: Z :: F)) (dF b s' ln :: A :: all N :: F) from .pick .here (.pick .here (.conv (B := all [X, Y, Z]) (fun hh H => j.all' hh H) (.all ?_)))).sat hs
  exact .refl⟩
variable {W:World} {gs:Nat->Nat} {f:Nat->AC × AC} {d t r:List UInt8} {b gd:Nat} {x:(Nat × Nat × Nat) × Nat × Nat × Nat × Nat × Nat}
theorem e8 {k:Nat}{blk:List UInt8}{s:Bs}(hk:k<12)(h:((lV d t r).nd k).kids=[]):GM W (n8 gs f d t r b gd x) k blk s s:=
 build (E:=n8 gs f d t r b gd x) hk (by show((lV d t r).nd k).kids.length<=1000;rw[h];simp) (by show Steps W _ blk [] ((lV d t r).nd k).kids s s;rw[h];exact .nil)
def U6:Bs:=⟨0,none,[],false,[]⟩
theorem Jj:cS [49]=(1,0)/\cS [54,52]=(64,0)/\cS [50,48,48]=(200,0):=by decide+kernel
theorem V_ [hG:Gl W]{s:Bs}{tm rt:Int}(hp:s.prs=[])(hu:s.up=some (10,1))(ht:cS t=(tm,0))(hr:cS r=(rt,0))(htl:t.length<=65536)(hrl:r.length<=65536):GM W (n8 gs f d t r b gd x) 2 [117,112,115,116,114,101,97,109] s {s with up:=some (tm,rt),prs:=[(1,64)]}:=by
 refine build (E:=n8 gs f d t r b gd x) (by show 2<12;decide) (by show 3<=1000;decide) ?_
 obtain⟨st,up,prs,sv,lcs⟩:=s
 dsimp only at hp hu ⊢
 subst hp hu
 refine .cons (j:=3) (nm:=[112,101,101,114]) (s1:=⟨st,some (10,1),[(1,64)],sv,lcs⟩) ⟨by show 3<12;decide,[[49],[54,52]],1,2,true,318,[],⟨st,some (10,1),[(1,64)],sv,lcs⟩,rfl,by decide,by kernel_rfl,by decide,by decide,.inl rfl,fun ln a c A hA=>Mo (P_ (s:=⟨st,some (10,1),[],sv,lcs⟩) (u:=(10,1)) rfl (by show 0<=16;decide) hA (by decide) Jj.1 (by decide) Jj.2.1),e8 (by decide) rfl⟩ ?_
 refine .cons (j:=4) (nm:=[116,105,109,101,111,117,116]) (s1:=⟨st,some (tm,1),[(1,64)],sv,lcs⟩) ⟨by show 4<12;decide,[t],1,1,false,327,[.pointer (some ⟨x.1.2.1,0,none⟩)],⟨st,some (tm,1),[(1,64)],sv,lcs⟩,rfl,by show 1<=1000;decide,by kernel_rfl,by show(1:Int)<=1;decide,by show(1:Int)<=1;decide,.inr (by decide),fun ln a c A hA=>U5 aA aA (CF (s:=⟨st,some (10,1),[(1,64)],sv,lcs⟩) (u:=(10,1)) rfl hA htl ht),e8 (by decide) rfl⟩ ?_
 refine .cons (j:=5) (nm:=[114,101,116,114,105,101,115]) (s1:=⟨st,some (tm,rt),[(1,64)],sv,lcs⟩) ⟨by show 5<12;decide,[r],1,1,false,327,[.pointer (some ⟨x.1.2.2,0,none⟩)],⟨st,some (tm,rt),[(1,64)],sv,lcs⟩,rfl,by show 1<=1000;decide,by kernel_rfl,by show(1:Int)<=1;decide,by show(1:Int)<=1;decide,.inr (by decide),fun ln a c A hA=>U5 aA aA (CG (s:=⟨st,some (tm,1),[(1,64)],sv,lcs⟩) (u:=(tm,1)) rfl hA hrl hr),e8 (by decide) rfl⟩ ?_
 exact .nil
theorem Qm [hG:Gl W]{st:Int}{up:Option (Int × Int)}{prs:List (Int × Int)}:GM W (n8 gs f d t r b gd x) 7 n5 ⟨st,up,prs,true,[fP [47]]⟩ ⟨st,up,prs,true,[dR]⟩:=by
 refine build (E:=n8 gs f d t r b gd x) (by show 7<12;decide) (by show 1<=1000;decide) ?_
 refine .cons (j:=8) (nm:=[114,101,116,117,114,110]) (s1:=⟨st,up,prs,true,[dR]⟩) ⟨by show 8<12;decide,[[50,48,48],rO],1,2,false,222,[],⟨st,up,prs,true,[dR]⟩,rfl,by decide,by kernel_rfl,by decide,by decide,.inr (by decide),fun ln a c A hA=>Mo (Fj (s:=⟨st,up,prs,true,[fP [47]]⟩) (pre:=[]) (L:=fP [47]) rfl rfl rfl (by show 1<=32;decide) hA (by decide) Jj.2.2),e8 (by decide) rfl⟩ ?_
 exact .nil
theorem Qn {st:Int}{up:Option (Int × Int)}{prs:List (Int × Int)}:GM W (n8 gs f d t r b gd x) 9 n5 ⟨st,up,prs,true,[dR,fP eY]⟩ ⟨st,up,prs,true,[dR,cj]⟩:=by
 refine build (E:=n8 gs f d t r b gd x) (by show 9<12;decide) (by show 2<=1000;decide) ?_
 refine .cons (j:=10) (nm:=[112,114,111,120,121]) (s1:=⟨st,up,prs,true,[dR,((fP eY).set 1 (.int .i64 2)).set 6 (az q8)]⟩) ⟨by show 10<12;decide,[q8],1,1,false,218,[],⟨st,up,prs,true,[dR,((fP eY).set 1 (.int .i64 2)).set 6 (az q8)]⟩,rfl,by decide,by kernel_rfl,by decide,by decide,.inr (by decide),fun ln a c A hA=>Mo (Jb (s:=⟨st,up,prs,true,[dR,fP eY]⟩) (pre:=[dR]) (L:=fP eY) rfl rfl rfl (by show 2<=32;decide) hA),e8 (by decide) rfl⟩ ?_
 refine .cons (j:=11) (nm:=[99,97,99,104,101]) (s1:=⟨st,up,prs,true,[dR,cj]⟩) ⟨by show 11<12;decide,[],0,0,false,219,[],⟨st,up,prs,true,[dR,cj]⟩,rfl,by decide,by kernel_rfl,by decide,by decide,.inr (by decide),fun ln a c A hA=>VL (Ja (s:=⟨st,up,prs,true,[dR,((fP eY).set 1 (.int .i64 2)).set 6 (az q8)]⟩) (pre:=[dR]) (L:=((fP eY).set 1 (.int .i64 2)).set 6 (az q8)) rfl rfl rfl (by show 2<=32;decide)),e8 (by decide) rfl⟩ ?_
 exact .nil
theorem Fp [hG:Gl W]{st:Int}{up:Option (Int × Int)}{prs:List (Int × Int)}:GM W (n8 gs f d t r b gd x) 6 [115,101,114,118,101,114] ⟨st,up,prs,true,[]⟩ ⟨st,up,prs,true,[dR,cj]⟩:=by
 refine build (E:=n8 gs f d t r b gd x) (by show 6<12;decide) (by show 2<=1000;decide) ?_
 refine .cons (j:=7) (nm:=n5) (s1:=⟨st,up,prs,true,[dR]⟩) ⟨by show 7<12;decide,[[47]],1,1,true,326,[],⟨st,up,prs,true,[fP [47]]⟩,rfl,by decide,by kernel_rfl,by decide,by decide,.inl rfl,fun ln a c A hA=>Mo (r7 (s:=⟨st,up,prs,true,[]⟩) rfl (by show 0<=31;decide) hA),Qm⟩ ?_
 refine .cons (j:=9) (nm:=n5) (s1:=⟨st,up,prs,true,[dR,cj]⟩) ⟨by show 9<12;decide,[eY],1,1,true,326,[],⟨st,up,prs,true,[dR,fP eY]⟩,rfl,by decide,by kernel_rfl,by decide,by decide,.inl rfl,fun ln a c A hA=>Mo (r7 (s:=⟨st,up,prs,true,[dR]⟩) rfl (by show 1<=31;decide) hA),Qn⟩ ?_
 exact .nil
theorem Qo [hG:Gl W]{st tm rt:Int}(hd:cS d=(st,0))(ht:cS t=(tm,0))(hr:cS r=(rt,0))(hdl:d.length<=65536)(htl:t.length<=65536)(hrl:r.length<=65536):GM W (n8 gs f d t r b gd x) 0 [] U6 ⟨st,some (tm,rt),[(1,64)],true,[dR,cj]⟩:=by
 refine build (E:=n8 gs f d t r b gd x) (by show 0<12;decide) (by show 3<=1000;decide) ?_
 refine .cons (j:=1) (nm:=[115,116,111,114,101]) (s1:=⟨st,none,[],false,[]⟩) ⟨by show 1<12;decide,[d],1,1,false,327,[.pointer (some ⟨x.1.1,0,none⟩)],⟨st,none,[],false,[]⟩,rfl,by show 1<=1000;decide,by kernel_rfl,by show(1:Int)<=1;decide,by show(1:Int)<=1;decide,.inr (by decide),fun ln a c A hA=>U5 aA aA (I_ (s:=U6) hA hdl hd),e8 (by decide) rfl⟩ ?_
 refine .cons (j:=2) (nm:=[117,112,115,116,114,101,97,109]) (s1:=⟨st,some (tm,rt),[(1,64)],false,[]⟩) ⟨by show 2<12;decide,[q8],1,1,true,317,[],⟨st,some (10,1),[],false,[]⟩,rfl,by decide,by kernel_rfl,by decide,by decide,.inl rfl,fun ln a c A hA=>Mo (zB (s:=⟨st,none,[],false,[]⟩) rfl rfl hA),V_ (s:=⟨st,some (10,1),[],false,[]⟩) rfl rfl ht hr htl hrl⟩ ?_
 refine .cons (j:=6) (nm:=[115,101,114,118,101,114]) (s1:=⟨st,some (tm,rt),[(1,64)],true,[dR,cj]⟩) ⟨by show 6<12;decide,[],0,0,true,322,[],⟨st,some (tm,rt),[(1,64)],true,[]⟩,rfl,by decide,by kernel_rfl,by decide,by decide,.inl rfl,fun ln a c A hA=>VL (Fi (s:=⟨st,some (tm,rt),[(1,64)],false,[]⟩) rfl rfl),Fp⟩ ?_
 exact .nil
end Go.Proofs.YtdjkdjepjahjfaaGreatDoor.TP
namespace Go.Proofs.YtdjkdjepjahjfaaGreatDoor.TP
open Go Go.Proofs Go.RowKit Sh Sl T FD
theorem Qp {W:World}{L:List HP}{b2 b3 b4:Nat}{Kret:WP}{Kp:PK}(h:aR W L Kret):aR W L (dfS p_ {target:= .fn (.func 135) #[.pointer (some ⟨b2,0,none⟩),.pointer (some ⟨b3,0,none⟩),.pointer (some ⟨b4,0,none⟩)],args:=#[]++ #[]} .returning Kret Kp):=by
 refine rx (f:=135) (A:=[.pointer (some ⟨b2,0,none⟩),.pointer (some ⟨b3,0,none⟩),.pointer (some ⟨b4,0,none⟩)]) (shape:=fun rv=>S.fG (.pointer (some ⟨b2,0,none⟩)) (.pointer (some ⟨b3,0,none⟩)) (.pointer (some ⟨b4,0,none⟩)) rv) (fun c=>by cases c) ⟨_,_,rfl⟩ (fe (cs:=[.pointer (some ⟨b2,0,none⟩),.pointer (some ⟨b3,0,none⟩),.pointer (some ⟨b4,0,none⟩)]) (bs:=[]) Tryz.call135) (fun h=>S.ny h) ?_
 unfold S.fG
 rw[mx,pK]
 refine o_ (jw (by kernel_rfl)) ?_
 exact af h
theorem Jk {W:World}[hG:Gl W]{d t r:List UInt8}{st:Nat}{tm rt:Int}(hd:cS d=((st:Int),0))(ht:cS t=(tm,0))(hr:cS r=(rt,0))(hdl:d.length<=100)(htl:t.length<=100)(hrl:r.length<=100)(wd:kG d=true)(wt:kG t=true)(wr:kG r=true)(hst:st<=1048576)(h1:1<=tm)(h2:tm<=3600)(h3:0<=rt)(h4:rt<=8):
  Cn p_ 70 [az (kH d t r)] W [] (fun q:Ca=> .tuple #[.agg (vz st q).toArray,.int .i64 0,.int .i64 0]) (fun q=>[gH q tm rt]):=by
 have hlen:(kH d t r).length<=65536:=by simp[kH];omega
 have hasc:∀w:List UInt8,kG w=true->∀c∈w,c.toNat<128:=fun w hw c hc=>by
  simp only[kG,Bool.and_eq_true,List.all_eq_true]at hw
  have:=hw.2 c hc
  simp only[d9,Bool.and_eq_true,decide_eq_true_eq]at this
  have:=UInt8.lt_iff_toNat_lt.1 this.1.2
  simp at this;omega
 have hall:∀c∈kH d t r,c.toNat<128:=by
  intro c hc
  simp only[kH,List.mem_append]at hc
  rcases hc with (((((hc|hc)|hc)|hc)|hc)|hc)|hc
  ·revert hc;revert c;decide+kernel
  ·exact hasc d wd c hc
  ·revert hc;revert c;decide+kernel
  ·exact hasc t wt c hc
  ·revert hc;revert c;decide+kernel
  ·exact hasc r wr c hc
  ·revert hc;revert c;decide+kernel
 have hlex:=mX (I6 d t r) (P9 wd wt wr)
 rw[I7]at hlex
 (refine S.pQ.cn fun F=>?_;unfold S.mC;simp only[ca_,na_])
 refine aS fun b2=>?_
 refine dH fun b3=>?_
 refine dH fun b4=>?_
 refine o_ bC ?_;(((refine o_ (Sl.bZ ?hcq) ?_);(case hcq=>(first|omega|(simp only[List.length_nil,List.length_cons];omega)))));refine af (o_ bP (ni ?_))
 refine o_ bM ?_;refine o_ bM ?_;refine aU fun g=>?_
 rename Nat=>b
 refine' aj (Qa) ?hp fun x=>?_
 case hp=>exact .nil
 refine aq ?_
 refine' aj (U2 hlex hall hlen (Nat.le_trans (Nat.le_of_eq (show(Mn (I6 d t r)).length=37 from rfl)) (by decide)) (Fa d t r) rfl rfl) ?hp fun gs=>?_
 case hp=>exact .nil
 unfold lZ
 refine aq ?_
 refine Qb .here fun f=>?_
 refine o_ ah (o_ ae (aB (r8 (gs:=gs) (f:=f) (T:=lV d t r) (j:=0) (o:=3) (by show 0<12;decide) rfl) aA ?_))
 have hb:=Qo (W:=W) (gs:=gs) (f:=f) (b:=b) (gd:=x.1) (x:=x.2) hd ht hr (by omega) (by omega) (by omega) 0
 dsimp only[n8]at hb
 refine bu (M:=dF b U6 0::zY gs f (lV d t r)::bN x.1 az (Ql x.2)::cR x.2.1::pt b4 (.cells #[.int .i64 0] 29)::pt b3 (.cells #[.int .i64 0] 3)::pt b2 (.cells #[.int .i64 0,.int .i64 0,.int .i64 0,.int .i64 0,.slice none 0 0,.slice none 0 0] 80)::F) ?_ ?_
 ·refine .ex ⟨(none,0),(none,0),(none,0),(none,0)⟩ (.all ?_)
  refine .pick (by(repeat constructor):Pick _ (pt b _) _) (bO (bO (bO (bO ?_))))
  refine .pick (by repeat constructor) (.pick (by repeat constructor) (.all ?_))
  unfold zA
  refine aq ?_
  exact aA
 refine' aj hb ?hp fun ln=>?_
 case hp=>(repeat(first|exact Picks.nil|(apply Picks.cons;(focus repeat constructor))))
 refine aq ?_
 refine oL .here fun q=>?_
 unfold mY lh
 refine aq ?_
 refine bu (M:=pt b (.cells #[.int .i64 75,.int .i64 65536,.int .i64 (st:Int),.int .i64 1000,.slice q.u.1 1 q.u.2,.slice q.s.1 1 q.s.2,.int .i64 ln] 263)::gH q tm rt::pt b4 (.cells #[.int .i64 0] 29)::pt b3 (.cells #[.int .i64 0] 3)::pt b2 (.cells #[.int .i64 0,.int .i64 0,.int .i64 0,.int .i64 0,.slice none 0 0,.slice none 0 0] 80)::F) ?_ ?_
 ·refine .pick .here (.all ?_)
  refine .pick .here (.pick .here (.pick .here (.pick .here ?_)))
  exact aA
 refine eb ?_
 refine o_ ah (o_ ae ?_)
 refine' aB (jd (n:=6) (o:=0) (vs:=vz st q) rfl ?hcv) ?hiv ?_
 case hiv=>(repeat(first|exact .refl|exact .nil|(apply Imp.pick;(focus ((repeat constructor);done)))|refine .drop ?_))
 case hcv=>exact fun i hi=>match i,hi with|0,_=>rfl|1,_=>rfl|2,_=>rfl|3,_=>rfl|4,_=>rfl|5,_=>rfl
 refine' aj (Ji (q:=q) (tm:=tm) (rt:=rt) hst h1 h2 h3 h4) ?hp fun _=>?_
 case hp=>exact .cons (by repeat constructor) .nil
 refine aq ?_
 (((refine o_ (Sl.cE ?hcq) ?_);(case hcq=>(first|omega|(simp only[List.length_nil,List.length_cons];omega)))));refine af ?_
 refine ip fun ds=>?_
 refine o_ ah (o_ ae ?_)
 refine' aB (jd (n:=6) (o:=0) (vs:=vz st q) rfl ?hcv) ?hiv ?_
 case hiv=>(repeat(first|exact .refl|exact .nil|(apply Imp.pick;(focus ((repeat constructor);done)))|refine .drop ?_))
 case hcv=>exact fun i hi=>match i,hi with|0,_=>rfl|1,_=>rfl|2,_=>rfl|3,_=>rfl|4,_=>rfl|5,_=>rfl
 refine aG (by(repeat constructor):Pick _ (pt b2 _) _) (by rfl) (by rfl) (by simp[vz,Value.oneCell']) ?_
 refine bU ?_;refine bU ?_
 refine Qp ?_
 unfold S.aW
 (((refine' aP (cB ?hn) ?hi ?_);(case hi=>exact aA);(case hn=>rfl)));(((refine' aP (dh ?hc) ?hi ?_);(case hi=>exact aA);(case hc=>repeat constructor)));(((refine' aP (dh ?hc) ?hi ?_);(case hi=>exact aA);(case hc=>repeat constructor)))
 refine aO q ?_
 exact aA
def Fq (st:Nat)(q:Ca)(pa:AC)(m:Value)(us:Int):List Value:=[.int .i64 75,.int .i64 65536,.int .i64 (st:Int),.int .i64 1000,.slice q.u.1 1 q.u.2,.slice q.s.1 1 q.s.2,.slice pa.1 1 pa.2,m,.int .i64 us]
def ek (g st:Nat)(q:Ca)(pa:AC)(m:Value)(us:Int):HP:=pt g (.cells (Fq st q pa m us).toArray 84)
def pj (pa:AC)(p:Nat):HP:=Sl 1 216 pa.1 pa.2 1 [pC p]
def U7 (x:Int × Int):Value:= .agg #[.int .i64 x.1,.int .i64 x.2]
theorem yk {P:Program}{W:World}{t e:TypeId}{s G cap n:Nat}{cs:List Value}(j:Nat)(vs:List Value)[ht:AggT P t s](hl:cs.length=n * s)(hn:vs.length=s)(hc:(cs.drop (j * s)).take s=vs):aT P W [Sl s e (some ⟨G,0,none⟩) cap n cs] (aL t (.pointer (some ⟨G,0+j * s,none⟩))) (.agg vs.toArray):=
 dp (o:=0) (j:=j * s) (cs:=cs) (m:=n * s) (ef hl fun _=>⟨G,rfl⟩) hn fun i hi=>by
  subst hc
  rw[List.getElem?_take_of_lt hi,List.getElem?_drop]
theorem wK {P:Program}{W:World}{L L':List HP}{Kp:PK}{k:Value->WP}{t e:TypeId}{b g:Nat}{v:Value}[ht:SlT P t e 1 b][hv:OC v](hk:P.underlying t=some (.slice e))(p:Pick L (pt g (.cells #[v] e)) L')(hb:b<=1000)(h:∀a c,aR W (Sl 1 e a c 1 [v]::L) (k (.slice a 1 c))):aR W L (opN P (jU #[t,t] t [.slice none 0 0,.slice (some ⟨g,0,none⟩) 1 1]) Kp k):=by
 refine iZ (s:=1) (e:=e) ?_
 refine bV (m:=1) (news:=[v]) .here (bR (s:=1) (e':=e) hk (.there p) (by rfl) (by intro u hu;rw[List.mem_singleton.1 hu];exact hv.one)) (by omega) (by decide) fun a c=>h a c
theorem Fr {W:World}{st:Nat}{q:Ca}{tm rt:Int}(h1:1<=tm)(h2:tm<=3600):Cn p_ 71 [.agg (vz st q).toArray] W [gH q tm rt] (fun x:Nat × AC × Value × Nat=>pC x.1) (fun x=>[ek x.1 st q x.2.1 x.2.2.1 0,pj x.2.1 x.2.2.2,iu x.2.2.2 0,gH q tm rt]):=by
 (refine Shp.cn (Sg.g_ Tryz.call71 Tryz.func71 (an:={loops:=[(3,[15])]})) fun F=>?_;simp only[ca_,na_])
 refine aU fun b1=>?_
 obtain⟨⟨ua,uc⟩,⟨pa,pc⟩,⟨sa,sc⟩,la,lc⟩:=q
 refine aE (by(repeat constructor):Pick _ (gH _ tm rt) _) ?_
 unfold vz jS
 (try dsimp only)
 refine aq ?_
 refine be (by(repeat constructor):Pick _ (Sl 4 145 ua uc 1 _) _) (by decide) fun G hG=>?_
 subst hG
 refine iS ?_
 refine jM (P:=p_) (t:=82) (kt:=203) U7 fun m_=>?_
 refine o_ bM ?_;refine aU fun g=>?_;refine o_ ae (aM ?_);refine o_ aK (a_ (fun m y=>match m with|0=>[ex fun x:AC × Nat=>all [pu (y= .int .i64 1),ek g st ⟨(some ⟨G,0,none⟩,uc),(pa,pc),(sa,sc),la,lc⟩ x.1 (.map (some m_)) 0,pj x.1 x.2,iu x.2 0,gH ⟨(some ⟨G,0,none⟩,uc),(pa,pc),(sa,sc),la,lc⟩ tm rt]]++F|_=>pu (y= .int .i64 0)::_) 1 (.pu rfl .refl) ?_)
 intro m ds y
 cases m with
 |succ m=>
  refine aX .here fun hy=>?_
  subst hy
  (((refine o_ (Sl.ce ?hcq) ?_);(case hcq=>(first|omega|(simp only[List.length_nil,List.length_cons];omega)))));refine ai ?_
  refine o_ (eA 0 rfl (by decide)) ?_
  refine aB (yk 0 [az q8,.slice pa 1 pc,.int .i64 tm,.int .i64 rt] rfl rfl rfl) aA ?_
  refine aS fun g=>?_;(((refine' aG ?hp ?hn ?hv ?h1 ?_);(case hp=>(repeat constructor));(case hn=>rfl);(case hv=>rfl);(case h1=>simp[Value.oneCell',az])));refine iS ?_
  refine aN (by(repeat constructor):Pick _ (Sl 2 315 pa pc 1 _) _) fun _ _ _ hs=>?_
  refine' aj (PL.UX (us:=[(1,64)]) (ef (n:=1) (s:=2) (e:=315) (cap:=pc) rfl hs)) ?hp fun x=>?_
  case hp=>(repeat(first|exact Picks.nil|(apply Picks.cons;(focus repeat constructor))))
  obtain⟨x,hx⟩:=x
  cases x with
  |none=>exact absurd (I5 h1 h2) hx
  |some x=>
   obtain⟨p,gs⟩:=x
   unfold PL.I0 PL.E6
   refine aq ?_
   (try dsimp only)
   unfold PL.pv
   refine bI ?_;refine bI ?_;refine o_ ah (o_ ae (aM ?_));refine cZ fun g=>?_
   refine wK (by kernel_rfl) (by(repeat constructor):Pick _ (pt _ (.cells #[pC p] 216)) _) (by decide) fun oa oc=>?_
   refine o_ ah (o_ ae (bU ?_));refine bS ?_
   refine bq 0 (by omega) (.ex ((oa,oc),p) (.all ?_))
   unfold ek Fq pj
   refine aq ?_
   (try dsimp only)
   refine .pu rfl (.pick (by repeat constructor) (.pick (by repeat constructor) (.ex (gs,PL.k_ [(1,64)] tm 1) (.all ?_))))
   refine aq ?_
   refine .pu (I4 h1 h2) (.pick (by repeat constructor) (.all ?_))
   exact aA
 |zero=>
  refine bt .here fun x=>aE .here ?_
  refine aq ?_
  refine aX .here fun hy=>?_
  subst hy
  obtain⟨⟨oa,oc⟩,p⟩:=x
  (((refine o_ (Sl.bJ ?hcq) ?_);(case hcq=>(first|omega|(simp only[List.length_nil,List.length_cons];omega)))));refine af ?_
  refine aO ((g,(oa,oc),.map (some m_),p)) ?_
  exact aA
structure CfOk (d t r:List UInt8)(st:Nat)(tm rt:Int):Prop where
 hd:cS d=((st:Int),0)
 ht:cS t=(tm,0)
 hr:cS r=(rt,0)
 dl:d.length<=100
 tl:t.length<=100
 rl:r.length<=100
 wd:kG d=true
 wt:kG t=true
 wr:kG r=true
 st:st<=1048576
 t1:1<=tm
 t2:tm<=3600
 r1:0<=rt
 r2:rt<=8
structure Wh where
 v:Nat
 g:Nat
 q:Ca
 pa:AC
 p:Nat
 m:Value
 ca:Nat
 lg:Nat
theorem U8 {W:World}[hG:Gl W]{d t r:List UInt8}{st w:Nat}{tm rt now:Int}(h:CfOk d t r st tm rt):Cn p_ 27 [az (kH d t r),pC w] W [jf w now] (fun x:Wh=> .tuple #[pC x.v,.int .i64 0,.int .i64 0])
  (fun x=>[cG x.v ⟨w,x.g,.slice none 0 0,.slice none 0 0,0,pE x.ca,pC x.lg,.slice none 0 0⟩,jf w now,ek x.g st x.q x.pa x.m 0,pj x.pa x.p,iu x.p 0,gH x.q tm rt,fU x.ca (jF st),iz x.lg 0]):=by
 (refine Shp.cn (Sg.g_ Tryz.call27 Tryz.func27) fun F=>?_;simp only[ca_,na_])
 refine c_ PU fun _=>?_
 refine bI ?_;refine bI ?_;refine bI ?_;refine aS fun g=>?_;(((refine' aG ?hp ?hn ?hv ?h1 ?_);(case hp=>(repeat constructor));(case hn=>rfl);(case hv=>rfl);(case h1=>simp[Value.oneCell',az])));(((refine o_ (Sl.bL ?hcq) ?_);(case hcq=>(first|omega|(simp only[List.length_nil,List.length_cons];omega)))));refine af ?_
 refine' aj (Jk (d:=d) (t:=t) (r:=r) (st:=st) (tm:=tm) (rt:=rt) h.hd h.ht h.hr h.dl h.tl h.rl h.wd h.wt h.wr h.st h.t1 h.t2 h.r1 h.r2) ?hp fun q=>?_
 case hp=>(repeat(first|exact Picks.nil|(apply Picks.cons;(focus repeat constructor))))
 unfold vz
 refine aq ?_
 refine bI ?_;refine bI ?_;refine bI ?_;refine aS fun g=>?_;(((refine' aG ?hp ?hn ?hv ?h1 ?_);(case hp=>(repeat constructor));(case hn=>rfl);(case hv=>rfl);(case h1=>simp[Value.oneCell',az])));(((refine o_ (Sl.cE ?hcq) ?_);(case hcq=>(first|omega|(simp only[List.length_nil,List.length_cons];omega)))));refine af (iS ?_)
 refine' aj (Fr (st:=st) (q:=q) (tm:=tm) (rt:=rt) h.t1 h.t2) ?hp fun x=>?_
 case hp=>(repeat(first|exact Picks.nil|(apply Picks.cons;(focus repeat constructor))))
 obtain⟨g,pa,m,p⟩:=x
 refine aq ?_
 (try dsimp only)
 refine o_ bM ?_;refine aU fun g=>?_;refine o_ ae (aM ?_)
 rename Nat=>v
 refine' aj (FD.UX (b:=(st:Int)) (by omega) (by have:=h.st;omega)) ?hp fun ca=>?_
 case hp=>(repeat(first|exact Picks.nil|(apply Picks.cons;(focus repeat constructor))))
 refine aq ?_
 refine bI ?_;refine bI ?_;refine o_ ah (o_ ae (bU ?_))
 refine' aj UV ?hp fun lg=>?_
 case hp=>(repeat(first|exact Picks.nil|(apply Picks.cons;(focus repeat constructor))))
 refine aq ?_
 refine bI ?_;refine bI ?_;refine o_ ah (o_ ae (bU ?_))
 refine aO ((⟨v,g,q,pa,p,m,ca,lg⟩:Wh)) ?_
 unfold cG tI
 (try dsimp only)
 exact aA
theorem vh {W:World}{v w g st:Nat}{q:Ca}{pa:AC}{m lk ca lg out:Value}{us nu now:Int}{nm:List UInt8}(h0:0<=now)(h1:now<=1099511627776):Cn p_ 8 [pC v,az nm] W [cG v ⟨w,g,.slice none 0 0,lk,nu,ca,lg,out⟩,jf w now,ek g st q pa m us] (fun x:Nat × Nat × Nat × AC=> .tuple #[.int .i64 0,.int .i64 0])
  (fun x=>[cG v ⟨w,g,.slice x.2.2.2.1 1 x.2.2.2.2,lk,nu,ca,lg,out⟩,jf w now,ek g st q pa m us,r5 x.2.2.2 x.2.2.1,eD x.2.2.1 x.1 nm (.slice none 0 0),bQ x.1 (uv x.1 x.2.1 65536 75 now),dJ x.2.1 (fq false)]):=by
 (refine Shp.cn (Sg.g_ Tryz.call8 Tryz.func8 (an:={loops:=[(5,[6,18])],drs:=[(12,.ofL [(0,2),(1,3),(2,3),(3,3),(4,3),(5,3),(6,3),(7,3),(8,2),(9,3),(10,3),(11,3),(12,3),(13,3),(14,3),(15,3),(16,3),(17,1),(18,1),(19,1),(20,1),(21,0),(22,0),(23,1),(24,1),(25,1),(26,1),(27,1)])]}) (os:=[(12,[(21,[16,15,14,13,12,11,10,9,7,6,5,4,3,2,1])])])) fun F=>?_;simp only[ca_,na_])
 refine c_ rZ fun _=>?_
 unfold cG tI ek Fq
 (try dsimp only)
 refine af (o_ ah (o_ ae (aM ?_)));refine o_ aK (cz (fun m x y=>pu (x= .int .i64 0/\y= .int .i64 0)::_) 0 (.pu ⟨rfl,rfl⟩ .refl) ?_)
 intro m ds x y
 refine aX .here fun hz=>?_
 obtain⟨rfl,rfl⟩:=hz
 (((refine o_ (Sl.bJ ?hcq) ?_);(case hcq=>(first|omega|(simp only[List.length_nil,List.length_cons];omega)))));refine af ?_;refine o_ ah ?_;refine o_ ae ?_;refine aM ?_;refine o_ ah ?_;refine o_ ae ?_;refine o_ ae ?_;refine aM ?_;(((refine o_ (Sl.eW ?hcq) ?_);(case hcq=>(first|omega|(simp only[List.length_nil,List.length_cons];omega)))));refine af ?_;refine aV ?_;refine ay ah .nil ?_;refine ay ae .nil ?_;(((refine' ay (aQ ?hc) ?hi ?_);(case hi=>exact .pick (by repeat constructor) .nil);(case hc=>repeat constructor)));refine ay ah .nil ?_;refine ay ae .nil ?_;refine ay ae .nil ?_;(((refine' ay (aQ ?hc) ?hi ?_);(case hi=>exact .pick (by repeat constructor) .nil);(case hc=>repeat constructor)));refine ay ah .nil ?_;refine ay ae .nil ?_;(((refine' ay (aQ ?hc) ?hi ?_);(case hi=>exact .pick (by repeat constructor) .nil);(case hc=>repeat constructor)));refine ay ah .nil ?_;refine ay ae .nil ?_;refine ay ae .nil ?_;(((refine' ay (aQ ?hc) ?hi ?_);(case hi=>exact .pick (by repeat constructor) .nil);(case hc=>repeat constructor)));refine ay bM .nil ?_;refine t_ ah ?_;refine t_ ae ?_;refine cu ?_
 refine c_ ti fun _=>?_
 (repeat((refine' cU (aI ?hcs) ?_);(case hcs=>(repeat(first|exact .refl|exact .nil|(apply Imp.pick;(focus ((repeat constructor);done)))|refine .drop ?_)))))
 refine' aj (UD (bo:=65536) (ke:=75) (now:=now) (by decide) (by decide) (by decide) (by decide) h0 h1) ?hp fun x=>?_
 case hp=>(repeat(first|exact Picks.nil|(apply Picks.cons;(focus repeat constructor))))
 obtain⟨c,hd⟩:=x
 refine aq ?_
 (try dsimp only)
 refine zR ?_;refine zR ?_;refine o_ ah (o_ ae (aM ?_));refine o_ bM ?_;refine aU fun g=>?_;refine cZ fun g=>?_
 rename_i k
 refine wK (by kernel_rfl) (by(repeat constructor):Pick _ (pt _ (.cells #[pC k] 72)) _) (by decide) fun oa oc=>?_
 refine o_ ah (o_ ae (bU ?_));refine o_ ah (o_ ae (aM ?_));refine o_ aK (kN ?_)
 refine aO ((c,hd,k,(oa,oc))) ?_
 unfold r5 eD
 (try dsimp only)
 exact aA
def Fs:List Value:=[az [],.int .i64 0,az [],az [],.int .i64 0,.int .i64 0,az [],.bool false,.int .i64 0,.int .i64 0,.int .i64 0,az []]
def Qq:List Value:=[.int .i64 0,az [],.int .i64 0,az [],az [],.bool false]
def vi:List Value:=[az [],az [],.int .i64 0,.slice none 0 0]
def qM (k:Nat)(id:Int)(t:List UInt8)(f b:AC)(g:Nat)(tv:List Value)(ho pa ke:List UInt8)(lo se:List Value):List Value:=[pC k,.int .i64 id,az db,az t,.int .i64 1,.slice f.1 1 f.2,.slice b.1 0 b.2,pC g]++tv++[az ho,az pa,az ke]++lo++se++[.bool false,.int .i64 0]
def dW (j k:Nat)(id:Int)(t:List UInt8)(f b:AC)(g:Nat)(tv:List Value)(ho pa ke:List UInt8)(lo se:List Value):HP:=pt j (.cells (qM k id t f b g tv ho pa ke lo se).toArray 103)
def Ft (a:AC)(js:List Nat):HP:=jA 1 97 a.1 a.2 js.length (js.map pC)
theorem CO {W:World}[hG:Gl W]{v w g st k c H:Nat}{q:Ca}{pa a js r:AC}{m:Value}{s:SvS}{cn:CnS}{us now:Int}{nm b t:List UInt8}{ba:Option Addr}{cap:Nat}{A:HP}(hsw:s.w=w)(hsg:s.g=g)(hcl:s.cl= .slice a.1 1 a.2)(hA:RdB W A ba b.length (b.map Sl.B))(hr:Pv b t)(hcap:b.length<=cap)(hn:cn.nx=Ie c)(hh:cn.hd=pC H)(hrd:cn.rd=true)(hev:cn.ev= .slice none 0 0)(hrow:cn.row= .slice r.1 0 r.2)(hu0:0<=cn.nu)(hu:cn.nu<=1000000)(hb0:0<=cn.bo)(hb:cn.bo<=1048576)(hck:cn.ck<=now)(hnow:now<=1099511627776)(hus:0<=us)(hus1:us<=1000):
  Cn p_ 10 [pC v,.int .i64 0,.slice ba b.length cap] W [cG v s,r5 a k,eD k c nm (.slice js.1 0 js.2),Ft js [],bQ c cn,zj cn.rr,dJ H (fq false),A,d8 r [],jf w now,ek g st q pa m us]
   (fun _:(Nat × Nat × AC × Rq) × AC × Nat=> .int .i64 0)
   (fun x=>[cG v s,r5 a k,eD k c nm (.slice x.2.1.1 1 x.2.1.2),Ft x.2.1 [x.2.2],dW x.2.2 k cn.nu t x.1.2.2.2.f x.1.2.2.2.g g Qq [] [] [] Fs vi,bQ c (cn.inp c now t x.1),zj (pC x.1.2.1),dJ x.1.1 (fq false),A,jf w now,ek g st q pa m (us+1),lS x.1.2.2.1,lS x.1.2.2.2.f,d8 x.1.2.2.2.r [x.1.2.2.2.a],dZ x.1.2.2.2.a cn.nu t x.1.2.2.1 (.pointer none)]):=by
 (refine Shp.cn (Sg.g_ Tryz.call10 Tryz.func10 (an:={loops:=[(5,[32])],drs:=[(4,.ofL [(0,2),(1,3),(2,3),(3,3),(4,2),(5,1),(6,1),(7,1),(8,1),(12,2),(9,0),(10,0),(11,1)]),(7,.ofL [(0,2),(1,2),(2,3),(3,3),(4,3),(5,1),(6,1),(7,1),(8,1),(9,1),(10,1),(11,1),(12,0),(13,0),(14,0),(15,1),(16,1),(17,0)])]}) (os:=[(4,[(9,[3,2,1])]),(7,[(12,[4,3,2]),(13,[4,3,2])])])) fun F=>?_;simp only[ca_,na_])
 refine' aj (tn hcl) ?hp fun _=>?_
 case hp=>(repeat(first|exact Picks.nil|(apply Picks.cons;(focus repeat constructor))))
 refine aq ?_
 subst hsw hsg
 unfold eD cG tI ek Fq
 (try dsimp only)
 refine bI ?_;refine bI ?_;(((refine o_ (Sl.cE ?hcq) ?_);(case hcq=>(first|omega|(simp only[List.length_nil,List.length_cons];omega)))));refine af (aV (ay ah .nil ?_));refine ay ae .nil ?_;(((refine' ay (aQ ?hc) ?hi ?_);(case hi=>exact .pick (by repeat constructor) .nil);(case hc=>repeat constructor)));refine t_ ah (t_ ae (cu ?_))
 refine c_ ti fun _=>?_
 (repeat((refine' cU (aI ?hcs) ?_);(case hcs=>(repeat(first|exact .refl|exact .nil|(apply Imp.pick;(focus ((repeat constructor);done)))|refine .drop ?_)))))
 refine' aj (IH (c:=c) (t:=t) hA hr hcap hn hh hrd hev hrow hu0 hu hb0 hb hck hnow) ?hp fun x=>?_
 case hp=>(repeat(first|exact Picks.nil|(apply Picks.cons;(focus repeat constructor))))
 obtain⟨H2,R,f,x⟩:=x
 unfold Gy
 refine aq ?_
 (try dsimp only)
 obtain⟨xf,xg,⟨ea,ec⟩,xr,xa⟩:=x
 (try dsimp only)
 refine be (by(repeat constructor):Pick _ (Sl 6 96 ea ec 1 _) _) (by decide) fun G hG=>?_
 subst hG
 refine t_ aK (a_ (fun m_ y=>match m_ with|0=>[ex fun x:AC × Nat=>all [pu (y= .int .i64 1),cG v s,r5 a k,eD k c nm (.slice x.1.1 1 x.1.2),Ft x.1 [x.2],dW x.2 k cn.nu t xf xg s.g Qq [] [] [] Fs vi,bQ c (cn.inp c now t (H2,R,f,⟨xf,xg,(some ⟨G,0,none⟩,ec),xr,xa⟩)),zj (pC R),dJ H2 (fq false),A,jf s.w now,ek s.g st q pa m (us+1),lS f,lS xf,d8 xr [xa],dZ xa cn.nu t f (.pointer none)]]++F|_=>pu (y= .int .i64 0)::_) 1 (.pu rfl .refl) ?_)
 intro m_ ds y
 cases m_ with
 |succ m_=>
  refine aX .here fun hy=>?_
  subst hy
  (((refine o_ (Sl.ce ?hcq) ?_);(case hcq=>(first|omega|(simp only[List.length_nil,List.length_cons];omega)))));refine ai ?_
  refine o_ (eA 0 rfl (by decide)) ?_
  refine aB (yk 0 (PN cn.nu t xf xg) rfl rfl rfl) aA ?_
  unfold PN
  refine aS fun g=>?_;(((refine' aG ?hp ?hn ?hv ?h1 ?_);(case hp=>(repeat constructor));(case hn=>rfl);(case hv=>rfl);(case h1=>simp[Value.oneCell',az])));refine aV (ay ah .nil ?_);refine ay ae .nil ?_;(((refine' ay (aQ ?hc) ?hi ?_);(case hi=>exact .pick (by repeat constructor) .nil);(case hc=>repeat constructor)));(((refine' aP (bK ?hn) ?hi ?_);(case hi=>exact .pick (by repeat constructor) .nil);(case hn=>rfl)));refine t_ ah (t_ ae (cu ?_));refine t_ bM ?_;refine aU fun g=>?_;refine aY ?_;refine aY ?_;refine aY ?_;refine cZ fun g=>?_;refine aY ?_;refine aY ?_;refine aY ?_
  (repeat((refine' cU (aI ?hcs) ?_);(case hcs=>(repeat(first|exact .refl|exact .nil|(apply Imp.pick;(focus ((repeat constructor);done)))|refine .drop ?_)))))
  rename_i j
  (try dsimp only)
  obtain⟨ja,jc⟩:=js
  unfold Ft
  refine p8 (m:=1) (news:=[pC j]) (by(repeat constructor):Pick _ (jA 1 97 ja jc ([]:List Nat).length _) _) (bR (s:=1) (e':=97) (by kernel_rfl) .here (by rfl) (by intro u hu;rw[List.mem_singleton.1 hu];rfl)) (by decide) (by decide) fun ja' jc'=>?_
  refine t_ ah (t_ ae (bU ?_));refine o_ ah (o_ ae (aM ?_));refine o_ ah (o_ ae (aM ?_));refine bS ?_;refine o_ ah (o_ ae (bU ?_));refine bS ?_
  refine bq 0 (by omega) (.ex ((ja',jc'),j) (.all ?_))
  unfold dW qM Qq Fs vi eD cG ek
  refine aq ?_
  (try dsimp only)
  exact .pu rfl aA
 |zero=>
  refine bt .here fun x=>aE .here ?_
  refine aq ?_
  refine aX .here fun hy=>?_
  subst hy
  (((refine o_ (Sl.bJ ?hcq) ?_);(case hcq=>(first|omega|(simp only[List.length_nil,List.length_cons];omega)))));refine af ?_
  refine aO (((H2,R,f,⟨xf,xg,(some ⟨G,0,none⟩,ec),xr,xa⟩),x.1,x.2)) ?_
  unfold eD
  (try dsimp only)
  exact aA
theorem U9 {W:World}{q:Ca}{b:Nat}{h:List UInt8}:Cn p_ 254 ([.agg (kR q).toArray]++[.pointer (some ⟨b,0,none⟩)]) W [pt b (.cells #[az h] 9)] (fun _:Unit=> .int .i64 0) (fun _=>[pt b (.cells #[az h] 9)]):=by
 (refine Shp.cn (Sg.g_ Tryz.call254 Tryz.func254 (an:={loops:=[(3,[4,10])]})) fun F=>?_;simp only[ca_,na_])
 unfold kR
 refine aU fun g=>?_;refine o_ ae (aM ?_);refine o_ aK (cz (fun m x y=>pu (x= .int .i64 0/\y= .int .i64 0)::_) 0 (.pu ⟨rfl,rfl⟩ .refl) ?_)
 intro m ds x y
 refine aX .here fun hz=>?_
 obtain⟨rfl,rfl⟩:=hz
 (((refine o_ (Sl.bJ ?hcq) ?_);(case hcq=>(first|omega|(simp only[List.length_nil,List.length_cons];omega)))));refine af ?_
 refine aO () ?_
 exact aA
theorem U_ {W:World}{q:Ca}{A:HP}:Cn p_ 256 ([.agg (kR q).toArray]++[]) W [A] (fun _:Unit=> .int .i64 0) (fun _=>[A]):=by
 (refine Shp.cn (Sg.g_ Tryz.call256 Tryz.func256) fun F=>?_;simp only[ca_,na_])
 unfold kR
 refine aU fun g=>?_;refine o_ ae (aM ?_);refine af (aO () ?_)
 exact aA
theorem Wa {W:World}{p r:List UInt8}{b i:Nat}(hp:p=47::r)(ha:iw eY p=true)(hl:p.length<=1048576):Cn p_ 259 ([.agg (kJ i).toArray]++[.pointer (some ⟨b,0,none⟩)]) W [pt b (.cells #[az p] 9)] (fun _:Unit=> .int .i64 (if i=0 then 2 else 5)) (fun _=>[pt b (.cells #[az p] 9)]):=by
 have h1:iw [47] p=true:=by subst hp;simp[iw]
 (refine Shp.cn (Sg.g_ Tryz.call259 Tryz.func259) fun F=>?_;simp only[ca_,na_])
 unfold kJ
 by_cases hi:i=0
 ·rw[if_pos hi,if_pos hi]
  unfold dR
  refine aU fun g=>?_;refine aM ?_;refine o_ ae (aM ?_)
  refine' aj (o0 (l:=p) (p:=[47]) (by omega) (by decide)) ?hp fun _=>?_
  case hp=>exact .nil
  rw[h1]
  refine aq ?_
  refine ai (o_ ae (aM ?_));refine o_ bC ?_
  rw[show((([47]:List UInt8).length:Nat):Int)=1 from rfl]
  refine bS ?_
  refine aO () ?_
  exact aA
 ·rw[if_neg hi,if_neg hi]
  unfold cj
  refine aU fun g=>?_;refine aM ?_;refine o_ ae (aM ?_)
  refine' aj (o0 (l:=p) (p:=eY) (by omega) (by decide)) ?hp fun _=>?_
  case hp=>exact .nil
  rw[ha]
  refine aq ?_
  refine ai (o_ ae (aM ?_));refine o_ bC ?_
  rw[show((eY.length:Nat):Int)=4 from rfl]
  refine bS ?_
  refine aO () ?_
  exact aA
theorem zI {W:World}{q:Ca}{G c:Nat}{p r:List UInt8}(hq:q.l=(some ⟨G,0,none⟩,c))(hp:p=47::r)(ha:iw eY p=true)(hl:p.length<=1048576):Cn p_ 164 [.agg (kR q).toArray,az p] W [Sl 12 101 (some ⟨G,0,none⟩) c 2 (dR++cj)] (fun _:Unit=> .tuple #[.int .i64 1,.bool true]) (fun _=>[Sl 12 101 (some ⟨G,0,none⟩) c 2 (dR++cj)]):=by
 (refine Shp.cn (Sg.g_ Tryz.call164 Tryz.func164) fun F=>?_;simp only[ca_,na_])
 unfold kR
 rw[hq]
 (try dsimp only)
 refine aU fun g=>?_;refine cA fun g=>?_;refine o_ ae (aM ?_);refine o_ bP ?_
 rename Nat=>b
 refine' aj (Qf (g:=G) (c:=c) (f:=259) (cap:=[.pointer (some ⟨b,0,none⟩)]) (A:=pt b (.cells #[az p] 9)) fun i hi=>Wa hp ha hl) ?hp fun _=>?_
 case hp=>exact .cons (by repeat constructor) (.cons (by repeat constructor) .nil)
 refine aq ?_
 refine o_ pI ?_
 rw[if_neg (by decide)]
 (((refine o_ (Sl.jJ ?hcq) ?_);(case hcq=>(first|omega|(simp only[List.length_nil,List.length_cons];omega)))))
 refine aO () ?_
 exact aA
theorem Fu {W:World}{st:Nat}{q:Ca}{G c:Nat}{h:List UInt8}(hq:q.s=(some ⟨G,0,none⟩,c)):Cn p_ 163 [.agg (vz st q).toArray,az h] W [Sl 3 200 (some ⟨G,0,none⟩) c 1 (kR q)] (fun _:Unit=> .tuple #[.int .i64 0,.int .i64 0]) (fun _=>[Sl 3 200 (some ⟨G,0,none⟩) c 1 (kR q)]):=by
 (refine Shp.cn (Sg.g_ Tryz.call163 Tryz.func163 (an:={cuts:=[(12,[6])],loops:=[(3,[6,17]),(6,[6,25]),(14,[6,38])]})) fun F=>?_;simp only[ca_,na_])
 unfold vz
 rw[hq]
 (try dsimp only)
 refine aU fun g=>?_;refine cA fun g=>?_
 rename_i bc
 refine dt (fun x=>pu (x= .int .i64 (-1))::Sl 3 200 (some ⟨G,0,none⟩) c 1 (kR q)::pt bc (.cells #[.int .i64 75,.int .i64 65536,.int .i64 (st:Int),.int .i64 1000,.slice q.u.1 1 q.u.2,.slice (some ⟨G,0,none⟩) 1 c] 80)::pt g (.cells #[az h] 9)::F) ?_ ?_
 rotate_left
 ·(refine o_ ae ?_);refine aM ?_;refine o_ aK ?_
  refine cz (fun m x y=>[ex fun i:Nat=>pu (m+i=1/\x= .int .i64 (-1)/\y= .int .i64 (i:Int))]++(Sl 3 200 (some ⟨G,0,none⟩) c 1 (kR q)::pt bc (.cells #[.int .i64 75,.int .i64 65536,.int .i64 (st:Int),.int .i64 1000,.slice q.u.1 1 q.u.2,.slice (some ⟨G,0,none⟩) 1 c] 80)::pt g (.cells #[az h] 9)::F)) 1 ?_ ?_
  ·refine Imp.ex 0 (.pu ⟨rfl,rfl,rfl⟩ ?_)
   exact aA
  intro m ds x y
  refine aq ?_
  refine bt Pick.here fun i=>aX .here fun hi=>?_
  obtain⟨hm,rfl,rfl⟩:=hi
  rcases Nat.lt_or_ge i 1 with hi|hi
  ·obtain rfl:i=0:=by omega
   (((refine o_ (Sl.ce ?hcq) ?_);(case hcq=>(first|omega|(simp only[List.length_nil,List.length_cons];omega)))));refine ai ?_
   refine o_ (eA 0 rfl (by decide)) ?_
   refine aB (dp (n:=3) (j:=0) (vs:=kR q) (ef (n:=1) (s:=3) rfl fun _=>⟨G,rfl⟩) rfl (fun i hi=>by rw[Nat.zero_add])) aA ?_
   unfold kR
   refine aS fun g=>?_;(((refine' aG ?hp ?hn ?hv ?h1 ?_);(case hp=>(repeat constructor));(case hn=>rfl);(case hv=>rfl);(case h1=>simp[Value.oneCell',az])));refine o_ ae (aM ?_);refine o_ aK (cz (fun m' x y=>pu (x= .int .i64 (-1)/\y= .int .i64 0)::_) 0 (.pu ⟨rfl,rfl⟩ .refl) ?_)
   intro m' ds x y
   refine aX .here fun hz=>?_
   obtain⟨rfl,rfl⟩:=hz
   (((refine o_ (Sl.bJ ?hcq) ?_);(case hcq=>(first|omega|(simp only[List.length_nil,List.length_cons];omega)))));refine af ?_;refine bS ?_
   refine bX (m-1) ?_ ?_
   ·omega
   refine .ex 1 (.pu ⟨by omega,rfl,rfl⟩ ?_)
   exact aA
  ·(((refine o_ (Sl.bJ ?hcq) ?_);(case hcq=>(first|omega|(simp only[List.length_nil,List.length_cons];omega)))));refine af ?_
   refine aI (.pu rfl ?_)
   exact aA
 intro ds z
 refine aX .here fun hz=>?_
 subst hz
 rename Nat=>bh
 refine o_ bP (o_ bM ?_);refine aS fun g=>?_;refine VQ ?_;refine iS ?_
 refine cz (fun m x y=>[ex fun i:Nat=>pu (m+i=2/\x= .int .i64 (-1)/\y= .int .i64 (i:Int))]++(Sl 3 200 (some ⟨G,0,none⟩) c 1 (kR q)::pt bc (.cells #[.int .i64 75,.int .i64 65536,.int .i64 (st:Int),.int .i64 1000,.slice q.u.1 1 q.u.2,.slice (some ⟨G,0,none⟩) 1 c] 80)::pt bh (.cells #[az h] 9)::F)) 2 ?_ ?_
 ·refine Imp.ex 0 (.pu ⟨rfl,rfl,rfl⟩ ?_)
  exact aA
 intro m ds x y
 refine aq ?_
 refine bt Pick.here fun i=>aX .here fun hi=>?_
 obtain⟨hm,rfl,rfl⟩:=hi
 rcases(show i=0\/i=1\/2<=i by omega)with rfl|rfl|hi
 ·(((refine o_ (Sl.ce ?hcq) ?_);(case hcq=>(first|omega|(simp only[List.length_nil,List.length_cons];omega)))));refine ai ?_
  refine o_ (iC 0 rfl (by decide) (by rfl)) ?_
  (((refine o_ (Sl.ce ?hcq) ?_);(case hcq=>(first|omega|(simp only[List.length_nil,List.length_cons];omega)))));refine ai ?_;refine o_ ae ?_;refine aM ?_
  refine' aj (GO (q:=q) (g:=G) (c:=c) (f:=254) (cap:=[.pointer (some ⟨bh,0,none⟩)]) (A:=pt bh (.cells #[az h] 9)) hq U9) ?hp fun _=>?_
  case hp=>exact .cons (by repeat constructor) (.cons (by repeat constructor) .nil)
  refine aq ?_
  refine bS ?_
  refine bX (m-1) ?_ ?_
  ·omega
  refine .ex 1 (.pu ⟨by omega,rfl,rfl⟩ ?_)
  exact aA
 ·(((refine o_ (Sl.ce ?hcq) ?_);(case hcq=>(first|omega|(simp only[List.length_nil,List.length_cons];omega)))));refine ai ?_
  refine o_ (iC 1 rfl (by decide) (by rfl)) ?_
  (((refine o_ (Sl.ce ?hcq) ?_);(case hcq=>(first|omega|(simp only[List.length_nil,List.length_cons];omega)))));refine ai ?_;refine o_ ae ?_;refine aM ?_
  refine' aj (GO (q:=q) (g:=G) (c:=c) (f:=256) (cap:=[]) (A:=pt bh (.cells #[az h] 9)) hq U_) ?hp fun _=>?_
  case hp=>exact .cons (by repeat constructor) (.cons (by repeat constructor) .nil)
  refine aq ?_
  refine bS ?_
  refine bX (m-1) ?_ ?_
  ·omega
  refine .ex 2 (.pu ⟨by omega,rfl,rfl⟩ ?_)
  exact aA
 ·(((refine o_ (Sl.bJ ?hcq) ?_);(case hcq=>(first|omega|(simp only[List.length_nil,List.length_cons];omega)))));refine af ?_;refine o_ ae ?_;refine aM ?_;refine o_ aK ?_;(((refine o_ (Sl.bL ?hcq) ?_);(case hcq=>(first|omega|(simp only[List.length_nil,List.length_cons];omega)))));refine af ?_
  refine o_ pI ?_
  rw[if_pos (by decide)]
  refine aO () ?_
  exact aA
theorem Qr {W:World}{st:Nat}{q:Ca}{h p r:List UInt8}{tm rt:Int}(hp:p=47::r)(ha:iw eY p=true)(hl:p.length<=1048576):Cn p_ 90 [.agg (vz st q).toArray,az h,az p] W [gH q tm rt] (fun _:Unit=> .tuple #[.int .i64 0,.int .i64 1,.int .i64 0]) (fun _=>[gH q tm rt]):=by
 (refine Shp.cn (Sg.g_ Tryz.call90 Tryz.func90) fun F=>?_;simp only[ca_,na_])
 refine aE .here ?_
 refine aq ?_
 refine be (by(repeat constructor):Pick _ (Sl 3 200 q.s.1 q.s.2 1 (kR q)) _) (by decide) fun G hG=>?_
 refine be (by(repeat constructor):Pick _ (Sl 12 101 q.l.1 q.l.2 2 (dR++cj)) _) (by decide) fun G2 hG2=>?_
 obtain⟨u,pe,⟨s1,s2⟩,⟨l1,l2⟩⟩:=q
 dsimp only at hG hG2 ⊢
 subst hG hG2
 refine aU fun bc=>?_
 refine aB (bK (n:=6) rfl) aA ?_
 refine' aj (Fu (G:=G) (c:=s2) (h:=h) (st:=st) rfl) ?hp fun _=>?_
 case hp=>exact .cons (by repeat constructor) .nil
 unfold vz
 refine aq ?_
 refine bI ?_;refine bI ?_;(((refine o_ (Sl.cE ?hcq) ?_);(case hcq=>(first|omega|(simp only[List.length_nil,List.length_cons];omega)))));refine af (o_ ae (aM ?_))
 refine o_ (eA 0 rfl (by decide)) ?_
 refine aB (dp (n:=3) (j:=0) (vs:=kR ⟨u,pe,(some ⟨G,0,none⟩,s2),(some ⟨G2,0,none⟩,l2)⟩) (ef (n:=1) (s:=3) rfl fun _=>⟨G,rfl⟩) rfl (fun i hi=>by rw[Nat.zero_add])) aA ?_
 refine' aj (zI (G:=G2) (c:=l2) (p:=p) rfl hp ha hl) ?hp fun _=>?_
 case hp=>exact .cons (by repeat constructor) .nil
 refine aq ?_
 refine bI ?_;refine bI ?_;refine o_ bA (af (aO () ?_))
 refine .all ?_
 refine aq ?_
 exact aA
def VM:List UInt8:=[84,111,111,32,77,97,110,121,32,82,101,113,117,101,115,116,115]
theorem Jl {W:World}[hP:Gp W]:Cn p_ 88 [.int .i64 429,.slice none 0 0] W [] (fun x:AC × AC=> .agg #[.int .i64 429,.slice x.1.1 1 x.1.2,.slice x.2.1 18 x.2.2]) (fun _=>[]):=by
 (refine Shp.cn (Sg.g_ Tryz.call88 Tryz.func88) fun F=>?_;simp only[ca_,na_])
 refine aS fun g=>?_;refine o_ bM ?_
 refine iZ (s:=2) (e:=192) ?_
 refine GA (X:=[]) (n:=[67,111,110,116,101,110,116,45,84,121,112,101]) (v:=[116,101,120,116,47,112,108,97,105,110]) .here (by decide) fun a c=>?_
 refine c_ (xF (n:=429) (j:=18) (m:=VM) (by decide+kernel) (by decide) (by decide)) fun _=>?_
 refine o_ (bE (a:=VM) (b:=[10]) (by decide)) ?_
 refine mA Tryz.underlying35 Tryz.underlying5 fun gb c2 rest fz=>?_
 refine o_ bM ?_;(((refine' aG ?hp ?hn ?hv ?h1 ?_);(case hp=>(repeat constructor));(case hn=>rfl);(case hv=>rfl);(case h1=>simp[Value.oneCell',az])));(((refine' aP (cB ?hn) ?hi ?_);(case hi=>exact aA);(case hn=>rfl)))
 refine aO (((a,c),(some ⟨gb,0,none⟩,c2))) ?_
 exact aA
def Jm (t:List UInt8):Prop:=S4 t/\iK t.tail=true/\t.contains 37=false/\iw eY t=true
def iT (t:List UInt8):List Value:=[.int .i64 1,az [],.int .i64 (-1),az t,az [],.bool false]
theorem Fv {W : World} {m t : Value} {mi : Value} {f : AC} {p : List UInt8} : Cn p_ 36 [.agg #[m, t, mi, .slice f.1 1 f.2], .agg (iT p).toArray] W [lS f] (fun _ : Unit => az [97]) (fun _ => [lS f]) := by
 (refine Shp.cn (Sg.g_ Tryz.call36 Tryz.func36) fun F => ?_; simp only [ca_, na_])
 refine aU fun x => ?_
 refine aU fun y => ?_
 obtain ⟨fa, fc⟩ := f
 unfold lS iT
 (try dsimp only)
 refine aN (by (repeat constructor) : Pick _ (Sl 2 192 fa fc 1 (fH.flatMap cT)) _) fun _ _ _ hs => ?_
 have hA : gD W (Sl 2 192 fa fc 1 (fH.flatMap cT)) fa fH := cg (l := fH) hs
 refine o_ ae (aM ?_); (((refine o_ (Sl.bL ?hcq) ?_); (case hcq => (first | omega | (simp only [List.length_nil, List.length_cons]; omega))))); refine ab (o_ ae (ab (aM ?_))); refine ab ?_; (((refine o_ (Sl.bL ?hcq) ?_); (case hcq => (first | omega | (simp only [List.length_nil, List.length_cons]; omega))))); refine o_ am (af (o_ ae (aM ?_)))
 refine' aj (first (n := rL) hA oB (by decide)) ?hp fun _ => ?_
 case hp => (repeat (first | exact Picks.nil | (apply Picks.cons; (focus repeat constructor))))
 rw [show cL fH rL = ([97], true) by decide +kernel]
 refine aq ?_
 refine bI ?_; refine bI ?_
 refine c_ (Gn (l := [97]) (by decide) (by decide) (by decide +kernel)) fun _ => ?_
 rw [show fX [97] = [97] by decide +kernel]
 refine bI ?_; refine bI ?_; refine bI ?_
 refine aO () ?_
 exact aA
theorem CP {W:World}{v j k g:Nat}{id:Int}{t:List UInt8}{f b:AC}{ho pa ke:List UInt8}{sp:Array Value}:Cn p_ 91 [pC v,pC j,.agg sp] W [dW j k id t f b g (iT t) ho pa ke cj vi] (fun _:Unit=> .bool true) (fun _=>[dW j k id t f b g (iT t) ho pa ke cj vi]):=by
 (refine Shp.cn (Sg.g_ Tryz.call91 Tryz.func91 (an:={cuts:=[(7,[7])],drs:=[(3,.ofL [(0,1),(1,1),(2,1),(3,1),(4,1),(5,1),(6,1),(7,1),(8,1),(9,1)]),(5,.ofL [(0,1),(1,1),(2,1),(3,1),(4,1),(5,1),(6,1),(7,1),(8,1),(9,1),(10,0),(11,1),(12,1),(13,1),(14,1)]),(6,.ofL [(0,1),(1,1),(2,1),(3,1),(4,1),(5,1),(6,1),(7,1),(8,1),(9,0)]),(7,.ofL [(0,2),(1,2),(2,3),(3,3),(4,3),(5,3),(6,3),(7,3),(8,1),(9,1),(10,1),(11,1),(12,0),(13,0),(14,1)])]}) (os:=[(7,[(12,[7,6,5,4,3,2])])])) fun F=>?_;simp only[ca_,na_])
 refine aU fun x=>?_
 unfold dW qM iT cj vi
 refine aq ?_
 refine o_ ah (o_ ae (o_ dP (aM ?_)));(((refine o_ (Sl.cv ?hcq) ?_);(case hcq=>(first|omega|(simp only[List.length_nil,List.length_cons];omega)))));refine ai (aO () ?_)
 exact aA
theorem CQ {W:World}[hG:Gl W][hP:Gp W]{v j k gn st:Nat}{id:Int}{t:List UInt8}{f b pa:AC}{q:Ca}{tm rt us:Int}{m:Value}(ht:Jm t):Cn p_ 37 [pC v,pC j] W [dW j k id t f b gn (iT t) [97] [] [] Fs vi,ek gn st q pa m us,gH q tm rt]
  (fun x:AC × AC=> .tuple #[.agg #[.int .i64 429,.slice x.1.1 1 x.1.2,.slice x.2.1 18 x.2.2],.bool false]) (fun _=>[dW j k id t f b gn (iT t) [97] t [] cj vi,ek gn st q pa m us,gH q tm rt]):=by
 (refine Shp.cn (Sg.g_ Tryz.call37 Tryz.func37 (an:={drs:=[(11,.ofL [(0,1),(1,1),(2,1),(3,1),(4,1),(5,1),(6,1),(7,1),(8,1),(9,1),(10,1),(11,1),(12,1),(13,1),(14,1),(15,0),(16,1),(17,1),(18,1),(19,1),(20,1),(21,1),(22,1)])]})) fun F=>?_;simp only[ca_,na_])
 obtain⟨⟨⟨r,hr⟩,h2,h3⟩,h4,h5,h6⟩:=ht
 have hc:iK r=true:=by rw[hr]at h4;exact h4
 unfold dW qM iT Fs vi ek Fq
 refine aq ?_
 refine aS fun g=>?_;refine o_ bM ?_;refine aS fun g=>?_;(((refine' aG ?hp ?hn ?hv ?h1 ?_);(case hp=>(repeat constructor));(case hn=>rfl);(case hv=>rfl);(case h1=>simp[Value.oneCell',az])));refine o_ ah (o_ ae (o_ dP (aM ?_)));(((refine o_ (Sl.bL ?hcq) ?_);(case hcq=>(first|omega|(simp only[List.length_nil,List.length_cons];omega)))));refine af ?_;(((refine o_ (Sl.bL ?hcq) ?_);(case hcq=>(first|omega|(simp only[List.length_nil,List.length_cons];omega)))));refine af (o_ ah (o_ ae (o_ dP (aM ?_))))
 refine c_ (BG hr hc h5) fun _=>?_
 refine bI ?_;refine bI ?_;refine o_ ah (o_ ae (bU ?_));(((refine o_ (Sl.cE ?hcq) ?_);(case hcq=>(first|omega|(simp only[List.length_nil,List.length_cons];omega)))));refine af (aV (t_ ah (t_ ae (cu ?_))));refine t_ ah (t_ ae ?_)
 refine' aP (jd (n:=6) (o:=0) (vs:=vz st q) rfl ?hcv) ?hiv ?_
 case hiv=>(repeat(first|exact .refl|exact .nil|(apply Imp.pick;(focus ((repeat constructor);done)))|refine .drop ?_))
 case hcv=>exact fun i hi=>match i,hi with|0,_=>rfl|1,_=>rfl|2,_=>rfl|3,_=>rfl|4,_=>rfl|5,_=>rfl
 refine t_ ah (t_ ae (cu ?_));refine t_ ah (t_ ae (cu ?_))
 refine c_ (Qr hr h6 (by omega)) fun _=>?_
 obtain⟨⟨ua,uc⟩,⟨pa_,pc⟩,⟨sa,sc⟩,la,lc⟩:=q
 refine aE (by(repeat constructor):Pick _ (gH _ tm rt) _) ?_
 unfold jS kR
 refine aq ?_
 (try dsimp only)
 refine be (by(repeat constructor):Pick _ (Sl 3 200 sa sc 1 _) _) (by decide) fun G hG=>?_
 subst hG
 refine be (by(repeat constructor):Pick _ (Sl 12 101 la lc 2 _) _) (by decide) fun G2 hG2=>?_
 subst hG2
 refine zR ?_;refine zR ?_;refine zR ?_;(((refine o_ (Sl.cE ?hcq) ?_);(case hcq=>(first|omega|(simp only[List.length_nil,List.length_cons];omega)))));refine af (o_ ah (o_ ae (aM ?_)));refine o_ ah (o_ ae (o_ ae (aM ?_)))
 refine o_ (eA 0 rfl (by decide)) ?_
 refine o_ ae ?_;(((refine' aB (bF ?hc) ?hi ?_);(case hi=>exact aA);(case hc=>rfl)))
 refine o_ (eA 1 rfl (by decide)) ?_
 refine aB (yk 1 cj rfl rfl rfl) aA ?_
 refine o_ ah (o_ ae (mI (n:=12) (vs:=cj) (cs':=qM k id t f b gn (iT t) [97] t [] cj vi) (by repeat constructor) rfl (Nat.le_of_ble_eq_true rfl) (by simp[Value.oneCell',az,cj]) rfl ?_))
 refine' aj Jl ?hp fun x=>?_
 case hp=>(repeat(first|exact Picks.nil|(apply Picks.cons;(focus repeat constructor))))
 refine aq ?_
 refine o_ bM ?_
 refine c_ (CP (t:=t)) fun _=>?_
 refine o_ bA ?_;(((refine' aG ?hp ?hn ?hv ?h1 ?_);(case hp=>(repeat constructor));(case hn=>rfl);(case hv=>rfl);(case h1=>simp[Value.oneCell',az])));(((refine' aP (cB ?hn) ?hi ?_);(case hi=>exact aA);(case hn=>rfl)))
 refine aO x ?_
 refine .pick (by repeat constructor) (.pick (by repeat constructor) (.all ?_))
 unfold jS kR
 (try dsimp only)
 exact aA
def Mp (now:Int)(nm ho t:List UInt8)(n:Nat)(wd:List UInt8):En:=⟨now,nm,db,ho,t,200,(n:Int),wd⟩
theorem yl {W:World} [hG:Gl W] [hP:Gp W] {v w gn j k c p lgx n:Nat} {s:SvS} {cn:CnS} {id now:Int} {fn:Fn} {fa fb:Array Value} {nm t O wd ho pa ke:List UInt8} {f f0 b r o xx dd:AC} {jb:Value} {tv lo se:List Value} {X:List FD.Fd} {D:List UInt8} {AX AD:HP} (htv:tv.length=6) (hsw:s.w=w) (hlg:s.lg=pC lgx) (hn:cn.nx= .func fn fa fb) (hrow:cn.row= .slice r.1 1 r.2) (hrd:cn.rd=true) (hbg:cn.bg=false) (ho_:cn.out= .slice o.1 O.length o.2) (hX:gD W AX xx.1 X) (hx0:xx.1=none->X=[]) (hXk:oz X) (hD:RdB W AD dd.1 D.length (D.map Sl.B)) (hd0:dd.1=none->D=[]) (hh:jQ nH (Gz X D)=true) (hDl:D.length<=1048576) (hOl:O.length<=1000000000)
  (he:EnOk (Mp now nm ho t D.length wd)) (hl:(mU (Mp now nm ho t D.length wd)).length<=250) (hn2:n<=200):
  Cn p_ 38 [pC v,pC j,.agg (ir X D xx dd).toArray,az wd] W [cG v s,dW j k id t f b gn tv ho pa ke lo se,eD k c nm jb,bQ c cn,d8 r [p],mS o O,dZ p id t f0 (.pointer none),AX,AD,jf w now,iz lgx n] (fun _:AC × AC=> .tuple #[])
   (fun x=>[cG v s,dW j k id t f b gn tv ho pa ke lo se,eD k c nm jb,bQ c (cn.wrote (O++iy X D).length x),mS x.1 (O++iy X D),d8 x.2 [],AX,AD,jf w now,iz lgx (n+1)]):=by
 obtain⟨t0,t1,t2,t3,t4,t5,rfl⟩:∃a b c d e f,tv=[a,b,c,d,e,f]:=by
  match tv,htv with
  |[a,b,c,d,e,f],_=>exact⟨a,b,c,d,e,f,rfl⟩
 (refine Shp.cn (Sg.g_ Tryz.call38 Tryz.func38 (an:={drs:=[(1,.ofL [(0,1),(1,1),(2,1),(3,1),(4,1),(5,1),(6,1),(7,1),(8,1),(9,1),(10,1),(11,1),(12,1),(13,0)]),(2,.ofL [(0,2),(1,3),(2,3),(3,3),(4,1),(5,1),(6,1),(7,1),(9,2),(10,3),(11,3),(12,3),(13,3),(14,3),(15,3),(16,2),(17,3),(18,3),(19,3),(20,3),(21,3),(22,2),(23,3),(24,3),(25,3),(26,2),(27,3),(28,3),(29,3),(30,3),(31,3),(32,3),(33,3),(34,3),(35,3),(36,3),(37,2),(8,0),(38,1),(39,0)])]}) (os:=[(2,[(8,[36,35,34,33,32,31,30,29,28,27,25,24,23,21,20,19,18,17,15,14,13,12,11,10,3,2,1])])])) fun F=>?_;simp only[ca_,na_])
 refine aU fun x6=>?_
 subst hsw
 cases s
 (try dsimp only at *)
 subst hlg
 unfold cG tI dW qM eD ir
 refine aq ?_
 (try dsimp only)
 refine aV (t_ ah (t_ ae (cu ?_)));refine t_ ah (t_ ae (cu ?_));refine t_ ah (t_ ae (t_ dP (cu ?_)));(((refine' aP (bK ?hn) ?hi ?_);(case hi=>exact .pick (by repeat constructor) .nil);(case hn=>rfl)))
 refine' aj (EN (c:=c) (p:=p) (nu:=id) (r:=r) (o:=o) (O:=O) (X:=X) (D:=D) (xx:=xx) (dd:=dd) (t:=t) (f:=f0) hn hrow hrd hbg ho_ hX hx0 hXk hD hd0 hh hDl hOl) ?hp fun x=>?_
 case hp=>(repeat(first|exact Picks.nil|(apply Picks.cons;(focus repeat constructor))))
 refine aq ?_
 refine aV (ay ah .nil ?_);refine ay ae .nil ?_;(((refine' ay (aQ ?hc) ?hi ?_);(case hi=>exact .pick (by repeat constructor) .nil);(case hc=>repeat constructor)));refine t_ ah (t_ ae (cu ?_));refine ay ah .nil ?_;refine ay ae .nil ?_;(((refine' ay (aQ ?hc) ?hi ?_);(case hi=>exact .pick (by repeat constructor) .nil);(case hc=>repeat constructor)));refine ay ah .nil ?_;refine ay ae .nil ?_;(((refine' ay (aQ ?hc) ?hi ?_);(case hi=>exact .pick (by repeat constructor) .nil);(case hc=>repeat constructor)));refine ay ah .nil ?_;refine ay ae .nil ?_;refine ay dP .nil ?_;refine ay dP .nil ?_;(((refine' ay (aQ ?hc) ?hi ?_);(case hi=>exact .pick (by repeat constructor) .nil);(case hc=>repeat constructor)));refine ay ah .nil ?_;refine ay ae .nil ?_;(((refine' ay (aQ ?hc) ?hi ?_);(case hi=>exact .pick (by repeat constructor) .nil);(case hc=>repeat constructor)));refine ay ah .nil ?_;refine ay ae .nil ?_;refine ay dP .nil ?_;refine ay dP .nil ?_;(((refine' ay (aQ ?hc) ?hi ?_);(case hi=>exact .pick (by repeat constructor) .nil);(case hc=>repeat constructor)));refine ay ae .nil ?_;(((refine' ay (aQ ?hc) ?hi ?_);(case hi=>exact .pick (by repeat constructor) .nil);(case hc=>repeat constructor)));refine ay ae .nil ?_;(((refine' ay (aQ ?hc) ?hi ?_);(case hi=>exact .pick (by repeat constructor) .nil);(case hc=>repeat constructor)));refine ay aK .nil ?_
 refine c_ ti fun _=>?_
 (repeat((refine' cU (aI ?hcs) ?_);(case hcs=>(repeat(first|exact .refl|exact .nil|(apply Imp.pick;(focus ((repeat constructor);done)))|refine .drop ?_)))))
 refine t_ bM ?_
 refine' aj (EV (e:=Mp now nm ho t D.length wd) he hl hn2) ?hp fun _=>?_
 case hp=>(repeat(first|exact Picks.nil|(apply Picks.cons;(focus repeat constructor))))
 refine aq ?_
 refine aO x ?_
 exact aA
theorem GP {W:World}{L L':List HP}{k:Value->WP}{Kp:PK}{X:List FD.Fd}{a:Option Addr}{c:Nat}{A:HP}(hA:gD W A a X)(ha:a=none->X.length=0)(hX:X.length<=4194304)(p:Pick L A L')(h:∀a' c',aR W (Sl 2 192 a' c' X.length (X.flatMap cT)::L) (k (.slice a' X.length c'))):
  aR W L (opN p_ (jU #[46,46] 46 [.slice none 0 0,.slice a X.length c]) Kp k):=by
 refine iZ (s:=2) (e:=192) ?_
 refine bV (m:=X.length) (news:=X.flatMap cT) .here (w9 (s:=2) (e':=192) (by kernel_rfl) (by decide) (.there p) hA ha pf) (by omega) (by omega) fun a1 c1=>?_
 rw[Nat.zero_add,List.nil_append]
 exact h a1 c1
theorem ym {W:World}{L L':List HP}{k:Value->WP}{Kp:PK}{D:List UInt8}{a:Option Addr}{c:Nat}{A:HP}(hA:RdB W A a D.length (D.map Sl.B))(ha:a=none->D.length=0)(hX:D.length<=1099511627776)(p:Pick L A L')(h:∀a' c',aR W (Sl 1 5 a' c' D.length (D.map Sl.B)::L) (k (.slice a' D.length c'))):
  aR W L (opN p_ (jU #[35,35] 35 [.slice none 0 0,.slice a D.length c]) Kp k):=by
 refine iZ (s:=1) (e:=5) ?_
 refine bV (m:=D.length) (news:=D.map Sl.B) .here (nk (e':=5) (by kernel_rfl) (.there p) hA ha (by intro u hu;obtain⟨c,_,rfl⟩:=List.mem_map.1 hu;rfl)) (by omega) (by omega) fun a1 c1=>?_
 rw[Nat.zero_add,List.nil_append]
 exact h a1 c1
theorem Jn {W:World}{l x:Nat}:Cn p_ 278 [.pointer (some ⟨l,0,none⟩),.pointer (some ⟨x,0,none⟩)] W [pt l (.cells #[.int .i64 0] 3)] (fun _:Unit=> .bool false) (fun _=>[pt l (.cells #[.int .i64 0] 3)]):=by
 (refine Shp.cn (Sg.g_ Tryz.call278 Tryz.func278) fun F=>?_;simp only[ca_,na_])
 refine aM ?_;(((refine o_ (Sl.eW ?hcq) ?_);(case hcq=>(first|omega|(simp only[List.length_nil,List.length_cons];omega)))));refine ao (ao (o_ am (ao (ao (o_ am (aO () ?_))))))
 exact .refl
theorem CR {W:World}{l:Value}{X:List FD.Fd}{D:List UInt8}{xx dd:AC}{AX AD:HP}[OC l](hX:gD W AX xx.1 X)(hx0:xx.1=none->X.length=0)(hXl:X.length<=4194304)(hD:RdB W AD dd.1 D.length (D.map Sl.B))(hd0:dd.1=none->D.length=0)(hDl:D.length<=1048576):
  Cn p_ 171 [l,.agg (ir X D xx dd).toArray,.int .i64 0] W [AX,AD] (fun q:AC × AC=> .agg (ir X D q.1 q.2).toArray) (fun q=>[AX,AD,Sl 2 192 q.1.1 q.1.2 X.length (X.flatMap cT),Sl 1 5 q.2.1 q.2.2 D.length (D.map Sl.B)]):=by
 (refine Shp.cn (Sg.g_ Tryz.call171 Tryz.func171 (an:={loops:=[(4,[26])],drs:=[(1,(.op 0 3 (.op 1 3 (.op 2 3 (.op 3 3 (.op 5 3 (.op 6 3 (.alt ((.op 4 0 (.alt (.ofL [(7,0),(8,3),(9,0),(10,0)]) (.ofL [(9,0),(7,0),(8,1),(10,0)])))) (.ofL [(9,0),(4,0),(7,0),(8,1),(10,0)])))))))))],rcuts:=[(2,[7])]}) (os:=[(1,[(4,[6,5,1,0]),(7,[1,0]),(9,[8,6,5,3,2,1,0])])])) fun F=>?_;simp only[ca_,na_])
 obtain⟨xa,xc⟩:=xx
 obtain⟨da,dc⟩:=dd
 refine cA fun bl=>?_
 refine aU fun bx=>?_
 refine cA fun bv=>?_
 refine aS fun b6=>?_
 unfold ir
 (try dsimp only)
 refine dt (fun z=>(ex fun q:AC × AC=>ex fun o:Nat=>all [pu (z= .pointer (some ⟨o,0,none⟩)),ly o X D q.1 q.2,Sl 2 192 q.1.1 q.1.2 X.length (X.flatMap cT),Sl 1 5 q.2.1 q.2.2 D.length (D.map Sl.B)])::pt bv (.cells #[.int .i64 0] 3)::pt b6 (.cells #[.int .i64 0,.slice none 0 0,.slice none 0 0] 48)::AX::AD::F) ?_ ?_
 rotate_left
 ·(refine aV ?_);refine ay ae .nil ?_;(((refine' ay (aQ ?hc) ?hi ?_);(case hi=>exact .pick (by repeat constructor) .nil);(case hc=>repeat constructor)));refine ay ae .nil ?_;(((refine' ay (aQ ?hc) ?hi ?_);(case hi=>exact .pick (by repeat constructor) .nil);(case hc=>repeat constructor)));refine ay ae .nil ?_;(((refine' ay (aQ ?hc) ?hi ?_);(case hi=>exact .pick (by repeat constructor) .nil);(case hc=>repeat constructor)))
  refine e6 ?_ ?_
  ·refine GP hX hx0 hXl (by repeat constructor) fun a1 c1=>?_
   (repeat((refine' cU (aI ?hcs) ?_);(case hcs=>(repeat(first|exact .refl|exact .nil|(apply Imp.pick;(focus ((repeat constructor);done)))|refine .drop ?_)))))
   refine e6 ?_ ?_
   ·refine ym hD hd0 (by omega) (by repeat constructor) fun a2 c2=>?_
    (repeat((refine' cU (aI ?hcs) ?_);(case hcs=>(repeat(first|exact .refl|exact .nil|(apply Imp.pick;(focus ((repeat constructor);done)))|refine .drop ?_)))))
    refine ay bM .nil ?_;refine aS fun g=>?_;refine aY ?_;refine aY ?_;refine aY ?_;refine aY ?_;refine aY ?_;refine aY ?_;refine aY ?_;(((refine' aG ?hp ?hn ?hv ?h1 ?_);(case hp=>(repeat constructor));(case hn=>rfl);(case hv=>rfl);(case h1=>simp[Value.oneCell',az])))
    (repeat((refine' cU (aI ?hcs) ?_);(case hcs=>(repeat(first|exact .refl|exact .nil|(apply Imp.pick;(focus ((repeat constructor);done)))|refine .drop ?_)))))
    rename Nat=>b7
    refine aI (.ex ((a1,c1),(a2,c2)) (.ex b7 (.all ?_)))
    refine aq ?_
    exact .pu rfl aA
   ·refine aS fun b7=>?_
    (repeat((refine' cU (aI ?hcs) ?_);(case hcs=>(repeat(first|exact .refl|exact .nil|(apply Imp.pick;(focus ((repeat constructor);done)))|refine .drop ?_)))))
    refine ym hD hd0 (by omega) (by repeat constructor) fun a2 c2=>?_
    (repeat((refine' cU (aI ?hcs) ?_);(case hcs=>(repeat(first|exact .refl|exact .nil|(apply Imp.pick;(focus ((repeat constructor);done)))|refine .drop ?_)))))
    refine t_ bM ?_;(((refine' aG ?hp ?hn ?hv ?h1 ?_);(case hp=>(repeat constructor));(case hn=>rfl);(case hv=>rfl);(case h1=>simp[Value.oneCell',az])))
    refine aI (.ex ((a1,c1),(a2,c2)) (.ex b7 (.all ?_)))
    refine aq ?_
    exact .pu rfl aA
  ·refine aS fun b7=>?_
   (repeat((refine' cU (aI ?hcs) ?_);(case hcs=>(repeat(first|exact .refl|exact .nil|(apply Imp.pick;(focus ((repeat constructor);done)))|refine .drop ?_)))))
   refine GP hX hx0 hXl (by repeat constructor) fun a1 c1=>?_
   (repeat((refine' cU (aI ?hcs) ?_);(case hcs=>(repeat(first|exact .refl|exact .nil|(apply Imp.pick;(focus ((repeat constructor);done)))|refine .drop ?_)))))
   refine ym hD hd0 (by omega) (by repeat constructor) fun a2 c2=>?_
   (repeat((refine' cU (aI ?hcs) ?_);(case hcs=>(repeat(first|exact .refl|exact .nil|(apply Imp.pick;(focus ((repeat constructor);done)))|refine .drop ?_)))))
   refine t_ bM ?_;(((refine' aG ?hp ?hn ?hv ?h1 ?_);(case hp=>(repeat constructor));(case hn=>rfl);(case hv=>rfl);(case h1=>simp[Value.oneCell',az])))
   refine aI (.ex ((a1,c1),(a2,c2)) (.ex b7 (.all ?_)))
   refine aq ?_
   exact .pu rfl aA
 intro ds z
 refine bt .here fun q=>bt .here fun o=>aE .here ?_
 refine aq ?_
 refine aX .here fun hz=>?_
 subst hz
 refine o_ bP (o_ bP (o_ bP (o_ bP (o_ bM ?_))));refine aS fun g=>?_;(((refine' aG ?hp ?hn ?hv ?h1 ?_);(case hp=>(repeat constructor));(case hn=>rfl);(case hv=>rfl);(case h1=>simp[Value.oneCell',az])));refine iS ?_
 refine a_ (fun m y=>pu (y= .int .i64 0)::_) 0 (.pu rfl .refl) ?_
 intro m ds2 y
 refine aX .here fun hz=>?_
 subst hz
 (((refine o_ (Sl.ce ?hcq) ?_);(case hcq=>(first|omega|(simp only[List.length_nil,List.length_cons];omega)))));refine ai ?_
 refine o_ (iC 0 rfl (by decide) rfl) ?_
 refine bB (cap:=[.pointer (some ⟨bv,0,none⟩),.pointer (some ⟨bx,0,none⟩)]) Jn (by(repeat(first|exact Picks.nil|(apply Picks.cons;(focus repeat constructor))))) fun _=>?_
 unfold ly ir
 refine aq ?_
 (try dsimp only)
 refine o_ cP (ai (iS ?_));(((refine' aG ?hp ?hn ?hv ?h1 ?_);(case hp=>(repeat constructor));(case hn=>rfl);(case hv=>rfl);(case h1=>simp[Value.oneCell',az])));(((refine' aP (cB ?hn) ?hi ?_);(case hi=>exact aA);(case hn=>rfl)))
 refine aO q ?_
 exact aA
theorem Jo {W:World}{m t:List UInt8}{mi:Int}{f:AC}:Cn p_ 183 [.agg #[az m,az t,.int .i64 mi,.slice f.1 1 f.2]] W [] (fun _:Unit=> .agg #[az db,az t,.int .i64 mi,.slice f.1 1 f.2]) (fun _=>[]):=by
 (refine Shp.cn (Sg.g_ Tryz.call183 Tryz.func183) fun F=>?_;simp only[ca_,na_])
 refine aU fun g=>?_;refine aS fun g=>?_;refine o_ ae (bU ?_);refine iS ?_;(((refine' aG ?hp ?hn ?hv ?h1 ?_);(case hp=>(repeat constructor));(case hn=>rfl);(case hv=>rfl);(case h1=>simp[Value.oneCell',az])));(((refine' aP (cB ?hn) ?hi ?_);(case hi=>exact aA);(case hn=>rfl)))
 refine aO () ?_
 exact aA
theorem CS {W:World}:Cn p_ 184 [az db] W [] (fun _:Unit=> .bool true) (fun _=>[]):=by
 (refine Shp.cn (Sg.g_ Tryz.call184 Tryz.func184) fun F=>?_;simp only[ca_,na_])
 refine o_ (Sl.kr (m:=[71,69,84]) rfl) ?_
 refine aC (aC (o_ av (aO () ?_)))
 exact .refl
theorem Qs {W:World}{G c:Nat}{cs cap:List Value}{f:FuncId}{A:HP}(hl:cs.length=4)(hf:Cn p_ f ([.agg cs.toArray]++cap) W [A] (fun _:Unit=> .bool true) (fun _=>[A])):Cn p_ 123 [.slice (some ⟨G,0,none⟩) 1 c,.func (.func f) #[] cap.toArray] W [Sl 4 145 (some ⟨G,0,none⟩) c 1 cs,A] (fun _:Unit=> .int .i64 0) (fun _=>[Sl 4 145 (some ⟨G,0,none⟩) c 1 cs,A]):=by
 (refine Shp.cn (Sg.g_ Tryz.call123 Tryz.func123 (an:={loops:=[(2,[8])]})) fun F=>?_;simp only[ca_,na_])
 refine o_ aK (a_ (fun m y=>pu (y= .int .i64 0)::_) 0 (.pu rfl .refl) ?_)
 intro m ds y
 refine aX .here fun hz=>?_
 subst hz
 (((refine o_ (Sl.ce ?hcq) ?_);(case hcq=>(first|omega|(simp only[List.length_nil,List.length_cons];omega)))));refine ai ?_
 refine o_ (eA 0 rfl (by decide)) ?_
 refine aB (yk (n:=1) 0 cs (by rw[hl]) hl (by rw[Nat.zero_mul,List.drop_zero,List.take_of_length_le (by omega)])) aA ?_
 refine bB hf (by(repeat(first|exact Picks.nil|(apply Picks.cons;(focus repeat constructor))))) fun _=>?_
 refine aq ?_
 refine ai (aO () ?_)
 exact aA
theorem GQ {W:World}{G c x:Nat}{cap:List Value}{f:FuncId}{A:HP}{r:Bool}(hf:Cn p_ f ([pC x]++cap) W [A] (fun _:Unit=> .bool r) (fun _=>[A])):Cn p_ 126 [.slice (some ⟨G,0,none⟩) 1 c,.func (.func f) #[] cap.toArray] W [Sl 1 115 (some ⟨G,0,none⟩) c 1 [pC x],A] (fun _:Unit=> .int .i64 (if r then 0 else-1)) (fun _=>[Sl 1 115 (some ⟨G,0,none⟩) c 1 [pC x],A]):=by
 (refine Shp.cn (Sg.g_ Tryz.call126 Tryz.func126 (an:={loops:=[(2,[8])]})) fun F=>?_;simp only[ca_,na_])
 refine o_ aK (a_ (fun m y=>pu (m=1/\y= .int .i64 0\/m=0/\y= .int .i64 1/\r=false)::_) 1 (.pu (.inl ⟨rfl,rfl⟩) .refl) ?_)
 intro m ds y
 refine aX .here fun hz=>?_
 rcases hz with ⟨hm,rfl⟩|⟨hm,rfl,hr⟩
 ·(((refine o_ (Sl.ce ?hcq) ?_);(case hcq=>(first|omega|(simp only[List.length_nil,List.length_cons];omega)))));refine ai ?_;(((refine' aB (br 0 rfl ?hcq) .nil ?_);(case hcq=>(first|omega|decide|(simp;done)))));(((refine' aB (bF ?hc) ?hi ?_);(case hi=>exact aA);(case hc=>rfl)))
  refine bB hf (by(repeat(first|exact Picks.nil|(apply Picks.cons;(focus repeat constructor))))) fun _=>?_
  refine aq ?_
  cases r with
  |true=>
   refine ai (aO () ?_)
   exact aA
  |false=>
   refine af (bS ?_)
   refine bq 0 (by omega) (.pu (.inr ⟨rfl,rfl,rfl⟩) aA)
 ·subst hr
  (((refine o_ (Sl.bJ ?hcq) ?_);(case hcq=>(first|omega|(simp only[List.length_nil,List.length_cons];omega)))));refine af ?_
  refine aO () ?_
  exact aA
def oC (t:List UInt8)(f:AC):List Value:=[az db,az t,.int .i64 1,.slice f.1 1 f.2]
theorem Qt {W:World}{b3 j k gn:Nat}{id:Int}{t:List UInt8}{f b:AC}{tm rt:Int}{q:Ca}{ho pa ke:List UInt8}{se:List Value}:Cn p_ 124 ([.agg (jS q tm rt).toArray]++[.pointer (some ⟨b3,0,none⟩)]) W [all [pt b3 (.cells #[pC j] 97),dW j k id t f b gn (iT t) ho pa ke cj se]] (fun _:Unit=> .bool true) (fun _=>[all [pt b3 (.cells #[pC j] 97),dW j k id t f b gn (iT t) ho pa ke cj se]]):=by
 (refine Shp.cn (Sg.g_ Tryz.call124 Tryz.func124 (an:={drs:=[(1,.ofL [(0,1),(1,1),(2,1),(3,1),(4,1),(5,1),(6,1),(7,1),(8,1)])]})) fun F=>?_;simp only[ca_,na_])
 refine aE (by repeat constructor) ?_
 unfold dW qM iT cj jS
 refine aq ?_
 refine aU fun g=>?_;refine aV (t_ ae (cu ?_));refine cu ?_;refine t_ ah (t_ ae (t_ dP (cu ?_)));(((refine' aP (Sl.kr ?hcq) .nil ?_);(case hcq=>(first|rfl|assumption))))
 refine aO () ?_
 refine .all ?_
 refine aq ?_
 exact aA
def wL (gn:Nat)(jb:Value)(si:Int)(so:Bool)(hd bd:Value)(kd nn:Int)(gt:Value):List Value:=[.int .i64 0,.int .i64 0,pC gn,.int .i64 1,.int .i64 0,jb,.int .i64 si,.bool so,hd,bd,.int .i64 kd,.int .i64 nn,gt]
structure Ln where
 si:Int
 so:Bool
 hd:Value
 bd:Value
 kd:Int
 nn:Int
 gt:Value
def d4 (x gn:Nat)(jb:Value)(r:Ln):HP:=pt x (.cells (wL gn jb r.si r.so r.hd r.bd r.kd r.nn r.gt).toArray 124)
def tz (l:AC)(x:Nat):HP:=Sl 1 115 l.1 l.2 1 [pC x]
theorem Qu {W:World}{b3 b4 b5 j k gn x:Nat}{id:Int}{t:List UInt8}{f b:AC}{ho pa ke:List UInt8}{tv lo se:List Value}{jb:Value}{r:Ln}:Cn p_ 127 ([pC x]++[.pointer (some ⟨b3,0,none⟩),.pointer (some ⟨b4,0,none⟩),.pointer (some ⟨b5,0,none⟩)]) W [all [pt b3 (.cells #[pC j] 97),dW j k id t f b gn tv ho pa ke lo se,pt b4 (.cells #[.int .i64 0] 3),pt b5 (.cells #[.int .i64 1,.int .i64 0] 118),d4 x gn jb r]] (fun _:Unit=> .bool true)
  (fun _=>[all [pt b3 (.cells #[pC j] 97),dW j k id t f b gn tv ho pa ke lo se,pt b4 (.cells #[.int .i64 0] 3),pt b5 (.cells #[.int .i64 1,.int .i64 0] 118),d4 x gn jb r]]):=by
 (refine Shp.cn (Sg.g_ Tryz.call127 Tryz.func127 (an:={drs:=[(1,.ofL [(0,1),(1,1),(2,1),(3,1),(4,1),(5,1),(6,1),(7,1),(8,1),(9,1),(10,1),(11,1),(12,1),(13,1),(14,1),(15,1),(16,1),(17,1),(18,1),(19,1),(20,1),(21,1),(22,1),(23,1),(24,1),(25,1),(26,1),(27,1)])]})) fun F=>?_;simp only[ca_,na_])
 refine aE (by repeat constructor) ?_
 unfold dW qM d4 wL
 refine aq ?_
 refine aV (t_ ah (t_ ae (cu ?_)));refine cu ?_;refine t_ ah (t_ ae (cu ?_))
 refine t_ (PI (t:=64) (e:=84) (j:=Tryz.t84) (by kernel_rfl) (by kernel_rfl)) ?_
 refine ab (ab (t_ ah (ab (t_ ae (ab (cu ?_))))));refine ab (cu ?_);refine ab ?_;(((refine t_ (Sl.cv ?hcq) ?_);(case hcq=>(first|omega|(simp only[List.length_nil,List.length_cons];omega)))));refine t_ av (ab (ab (t_ ah (ab (t_ ae (ab (t_ dP (ab (cu ?_)))))))));refine ab (t_ ae (ab (cu ?_)));refine ab ?_;(((refine t_ (Sl.cv ?hcq) ?_);(case hcq=>(first|omega|(simp only[List.length_nil,List.length_cons];omega)))));refine t_ av (aO () ?_)
 refine .all ?_
 refine aq ?_
 exact aA
theorem Jp {W:World}{L:List HP}{body:(Value->Value->Value->WP)->WP}{rest:List Value->Value->Value->Value->WP}(J:Value->Value->Value->List HP)(hr:∀ds x y z,aR W (J x y z) (rest ds x y z))(hb:aR W L (body fun x y z w=>sat W (J x y z) w)):aR W L (Ah body rest):=fun w hw=>⟨fun x y z w=>sat W (J x y z) w,fun ds x y z w' hw'=>hr ds x y z w' hw',hb w hw⟩
theorem Fw {W:World}{L R:List HP}{body:(Value->Value->Value->WP)->WP}{rest:List Value->Value->Value->Value->WP}(J:Value->Value->Value->List HP)(hb:aR W L (body fun x y z w=>sat W (J x y z++R) w))(hr:∀ds x y z,aR W (J x y z++R) (rest ds x y z)):aR W L (Ah body rest):=Jp (fun x y z=>J x y z++R) hr hb
theorem yn {W:World}{L R:List HP}{body:(Value->WP)->WP}{rest:List Value->Value->WP}(J:Value->List HP)(hb:aR W L (body fun x w=>sat W (J x++R) w))(hr:∀ds x,aR W (J x++R) (rest ds x)):aR W L (sr body rest):=dt (fun x=>J x++R) hr hb
theorem Fx {W:World}{L R:List HP}{body:(Value->Value->WP)->WP}{rest:List Value->Value->Value->WP}(J:Value->Value->List HP)(hb:aR W L (body fun x y w=>sat W (J x y++R) w))(hr:∀ds x y,aR W (J x y++R) (rest ds x y)):aR W L (pB body rest):=fW (fun x y=>J x y++R) hr hb
def tJ (l:AC)(kk x gn:Nat):HP:=match kk with
 |0=>pu (l=(none,0))
 |_=>all [tz l x,ex fun r:Ln=>d4 x gn (.pointer none) r]
theorem tA {W:World}{L L':List HP}{Kp:PK}{k:Value->WP}{p kk:Nat}{now:Int}(hk:kk<=1)(hn:0<=now)(P:Pick L (iu p kk) L')(h:aR W (mW p::L') (k (.tuple #[.agg #[.int .i64 1,.int .i64 0],.bool (decide (kk=0)),.int .i64 0]))):aR W L (opN p_ (bT (fn 125) [pC p,.int .i64 now]) Kp k):=by
 refine bt P fun z=>aE .here ?_
 refine aq ?_
 refine aX .here fun hz=>?_
 obtain⟨ht,hs⟩:=E7 hz hk hn
 refine aj (PL.take (p:=p) (gs:=z.1) (Z:=z.2) (now:=now) (hz.wf hk (by omega) (by omega) (by decide) (by decide)) fun i hi=>by
  obtain rfl:i=0:=by have:=hz.n;omega
  rw[hz.idle,List.length_replicate];omega) (.cons .here .nil) fun _=>?_
 rw[ht]
 refine bu (.ex (z.1,(PL.kF z.2 now).2) (.all ?_)) h
 refine aq ?_
 exact .pu hs .refl
theorem Fy {W:World}{L L1 L2 L3 L4 L5:List HP}{A B C D E:HP}{S:WP}(p1:Pick L A L1)(p2:Pick L1 B L2)(p3:Pick L2 C L3)(p4:Pick L3 D L4)(p5:Pick L4 E L5)(h:aR W (all [A,B,C,D,E]::L5) S):aR W L S:=bu (.all (.pick p1 (.pick p2 (.pick p3 (.pick p4 (.pick p5 .refl)))))) h
def CT:List FD.Fd:=sU fH (Gq fH 1 [] (-1)) 1 none
def re (t:List UInt8):List UInt8:=db++[32]++t++[32,72,84,84,80,47,49,46]++ei 1
structure Snt where
 l:AC
 x:Nat
 H:Nat
 kd:Int
 nn:Int
 o:AC
 b:AC
def GR (gn j:Nat)(now:Int)(y:Snt):HP:=d4 y.x gn (pC j) ⟨now,false,pC y.H,.pointer none,y.kd,y.nn,.slice none 0 0⟩
def Mq (kk:Nat)(t:List UInt8)(y:Snt):HP:=Sl 4 42 y.o.1 y.o.2 1 [.int .i64 0,.int .i64 1,.bool (decide (kk=0)),.slice y.b.1 (qR (re t) CT).length y.b.2]
theorem GS {W:World}[hG:Gl W][hP:Gp W]{v w gn j k p st kk x:Nat}{s:SvS}{id now us tm rt:Int}{t ke:List UInt8}{f b pa l:AC}{m:Value}{q:Ca}(hk:kk<=1)(hsw:s.w=w)(hlk:s.lk= .slice l.1 kk l.2)(hnu:s.nu=kk)(hout:s.out= .slice none 0 0)(hn0:0<=now)(htl:t.length<=1000)(hus:0<=us)(hus1:us<=1000)(htg:pV t=true)(hwr:jQ (re t) CT=true):
  Cn p_ 59 [pC v,pC j] W [cG v s,dW j k id t f b gn (iT t) [97] t ke cj (oC t f),ek gn st q pa m us,gH q tm rt,pj pa p,iu p kk,jf w now,tJ l kk x gn,lS f] (fun _:Snt=> .tuple #[])
   (fun y=>[cG v {s with lk:= .slice y.l.1 1 y.l.2,nu:=1,out:= .slice y.o.1 1 y.o.2},dW j k id t f b gn (iT t) [97] t ke cj (oC t f),ek gn st q pa m (us+1),gH q tm rt,pj pa p,mW p,jf w now,tz y.l y.x,GR gn j now y,dJ y.H (fq true),lS f,Mq kk t y]):=by
 (refine Shp.cn (Sg.g_ Tryz.call59 Tryz.func59 (an:={cuts:=[(12,[8])],drs:=[(2,(.op 0 3 (.op 1 3 (.op 2 3 (.op 3 3 (.op 4 3 (.op 5 3 (.op 6 3 (.op 7 3 (.op 8 3 (.op 9 3 (.op 10 2 (.op 11 3 (.op 12 3 (.op 13 3 (.alt ((.op 14 0 (.alt (.ofL [(15,0),(16,2),(17,3),(18,3),(19,3),(20,0),(21,0),(22,1),(23,1)]) (.ofL [(20,0),(15,0),(16,1),(17,1),(18,3),(19,3),(21,0),(22,1),(23,1)])))) (.ofL [(20,0),(14,0),(15,0),(16,1),(17,1),(18,3),(19,3),(21,0),(22,1),(23,1)]))))))))))))))))),(4,.ofL [(0,2),(1,3),(2,0),(3,0)]),(7,.ofL [(0,1),(1,1),(2,1),(3,1),(4,1),(5,1),(6,1),(7,1),(8,1),(9,1),(10,1),(11,0),(12,1)]),(13,.ofL [(0,1),(1,1),(2,1),(3,1),(4,1),(5,1),(6,1),(7,1),(8,1),(9,1),(10,1),(11,1),(12,1),(13,1),(14,1),(15,1),(16,1),(17,0),(18,0),(19,1),(20,1),(21,1),(22,1),(23,1)]),(15,.ofL [(0,1),(2,3),(3,3),(1,0),(4,0)]),(16,.ofL [(0,2),(1,3),(2,0),(3,0)]),(17,.ofL [(0,2),(1,2),(2,2),(3,2),(4,2),(5,2),(6,3),(7,1),(8,1),(9,1),(10,1),(11,0),(12,0),(13,1),(14,1),(15,0),(16,1),(17,1),(18,0),(19,1),(20,1),(21,0),(22,1),(23,1),(24,0),(25,1),(26,1),(27,0),(28,1),(29,1),(30,0)]),(19,.ofL [(0,2),(1,2),(2,3),(3,3),(4,3),(5,2),(6,3),(7,3),(8,3),(9,3),(10,3),(11,2),(12,1),(13,1),(14,1),(15,1),(16,1),(17,1),(18,0),(19,1),(20,0),(21,0),(22,1),(23,1),(24,0)])],rcuts:=[(3,[5,6,7])]}) (os:=[(2,[(14,[9,8,7,6,5,4,3,2,1,0]),(20,[19,18,17,13,12,11,9,8,7,6,5,4,3,2,1,0]),(21,[19,18])]),(4,[(2,[1])]),(15,[(1,[3,2])]),(16,[(2,[1])]),(17,[(11,[6]),(12,[6])]),(19,[(18,[10,9,8,7,6,4,3,2]),(20,[4,3,2])])])) fun F=>?_;simp only[ca_,na_])
 refine cA fun b3=>?_
 cases s
 rename_i w_ g_ cl lk nu ca lg out
 (try dsimp only at *)
 subst hlk hnu hout
 obtain⟨⟨ua,uc⟩,⟨pa_,pc_⟩,⟨sa,sc⟩,la,lc⟩:=q
 obtain⟨pa,pc⟩:=pa
 refine aE (by(repeat constructor):Pick _ (gH _ tm rt) _) ?_
 unfold jS
 refine aq ?_
 (try dsimp only)
 refine be (by(repeat constructor):Pick _ (Sl 4 145 ua uc 1 _) _) (by decide) fun G hG=>?_
 subst hG hsw
 unfold dW qM iT ek Fq
 refine aq ?_
 refine aM ?_;refine o_ ah (o_ ae (aM ?_));refine o_ ah (o_ ae (o_ ae (aM ?_)));refine o_ bP (yh (A:=pt b3 (.cells #[pC j] 97)) (B:=dW j k id t f b gn (iT t) [97] t ke cj (oC t f)) (by repeat constructor) (by repeat constructor) ?_)
 refine' aj (Qs (cap:=[.pointer (some ⟨b3,0,none⟩)]) rfl (Qt (tm:=tm) (rt:=rt) (q:=⟨(some ⟨G,0,none⟩,uc),(pa_,pc_),(sa,sc),la,lc⟩))) ?hp fun _=>?_
 case hp=>(repeat(first|exact Picks.nil|(apply Picks.cons;(focus repeat constructor))))
 refine aq ?_
 refine aE (by(repeat constructor):Pick _ (all _) _) ?_
 refine aq ?_
 refine dH fun g=>?_;refine bU ?_
 rename Nat=>b4
 unfold pj
 (try dsimp only)
 refine be (by(repeat constructor):Pick _ (Sl 1 216 pa pc 1 _) _) (by decide) fun G2 hG2=>?_
 subst hG2
 refine' Fw (fun x y z=>[ex fun o:Nat=>all [pu (x=pC o/\y= .bool (decide (kk=0))/\z= .int .i64 0),pt o (.cells #[.int .i64 1,.int .i64 0] 118)],mW p]) ?hb ?hr
 case hb=>
  refine aV ?_;(((refine' ay (aQ ?hc) ?hi ?_);(case hi=>exact .pick (by repeat constructor) .nil);(case hc=>repeat constructor)));refine ay ah .nil ?_;refine ay ae .nil ?_;(((refine' ay (aQ ?hc) ?hi ?_);(case hi=>exact .pick (by repeat constructor) .nil);(case hc=>repeat constructor)));refine ay ah .nil ?_;refine ay ae .nil ?_;(((refine' ay (aQ ?hc) ?hi ?_);(case hi=>exact .pick (by repeat constructor) .nil);(case hc=>repeat constructor)));(((refine' ay (aQ ?hc) ?hi ?_);(case hi=>exact .pick (by repeat constructor) .nil);(case hc=>repeat constructor)));(((refine' ay (br 0 rfl ?hcq) .nil ?_);(case hcq=>(first|omega|decide|(simp;done)))));(((refine' ay (bF ?hc) ?hi ?_);(case hi=>exact aA);(case hc=>rfl)));refine ay ah .nil ?_;refine ay ae .nil ?_;(((refine' ay (aQ ?hc) ?hi ?_);(case hi=>exact .pick (by repeat constructor) .nil);(case hc=>repeat constructor)))
  refine e6 ?_ ?_
  ·refine c_ ti fun _=>?_
   (repeat((refine' cU (aI ?hcs) ?_);(case hcs=>(repeat(first|exact .refl|exact .nil|(apply Imp.pick;(focus ((repeat constructor);done)))|refine .drop ?_)))))
   refine e6 ?_ ?_
   ·refine tA hk hn0 (by repeat constructor) ?_
    (((refine' ay (bk ?hc) .nil ?_);(case hc=>repeat constructor)));(((refine' ay (bk ?hc) .nil ?_);(case hc=>repeat constructor)));(((refine' ay (bk ?hc) .nil ?_);(case hc=>repeat constructor)));refine aS fun g=>?_;refine aY ?_;refine aY ?_;refine aY ?_;refine aY ?_;refine aY ?_;refine aY ?_;refine aY ?_;refine aY ?_;refine aY ?_;refine aY ?_;refine aY ?_;refine aY ?_;refine aY ?_;refine aY ?_;refine aY ?_;refine aY ?_;(((refine' aG ?hp ?hn ?hv ?h1 ?_);(case hp=>(repeat constructor));(case hn=>rfl);(case hv=>rfl);(case h1=>simp[Value.oneCell',az])));refine aY ?_;refine aY ?_
    (repeat((refine' cU (aI ?hcs) ?_);(case hcs=>(repeat(first|exact .refl|exact .nil|(apply Imp.pick;(focus ((repeat constructor);done)))|refine .drop ?_)))))
    (repeat((refine' cU (aI ?hcs) ?_);(case hcs=>(repeat(first|exact .refl|exact .nil|(apply Imp.pick;(focus ((repeat constructor);done)))|refine .drop ?_)))))
    rename Nat=>o
    refine aI (.ex o (.all ?_))
    refine aq ?_
    exact .pu ⟨rfl,rfl,rfl⟩ (.pick .here (.pick .here .refl))
   ·refine aS fun o=>?_
    (repeat((refine' cU (aI ?hcs) ?_);(case hcs=>(repeat(first|exact .refl|exact .nil|(apply Imp.pick;(focus ((repeat constructor);done)))|refine .drop ?_)))))
    refine tA hk hn0 (by repeat constructor) ?_
    refine zR ?_;(((refine' ay (bk ?hc) .nil ?_);(case hc=>repeat constructor)));(((refine' ay (bk ?hc) .nil ?_);(case hc=>repeat constructor)));(((refine' aG ?hp ?hn ?hv ?h1 ?_);(case hp=>(repeat constructor));(case hn=>rfl);(case hv=>rfl);(case h1=>simp[Value.oneCell',az])));refine aY ?_;refine aY ?_
    (repeat((refine' cU (aI ?hcs) ?_);(case hcs=>(repeat(first|exact .refl|exact .nil|(apply Imp.pick;(focus ((repeat constructor);done)))|refine .drop ?_)))))
    refine aI (.ex o (.all ?_))
    refine aq ?_
    exact .pu ⟨rfl,rfl,rfl⟩ aA
  ·refine aS fun o=>?_
   (repeat((refine' cU (aI ?hcs) ?_);(case hcs=>(repeat(first|exact .refl|exact .nil|(apply Imp.pick;(focus ((repeat constructor);done)))|refine .drop ?_)))))
   refine c_ ti fun _=>?_
   (repeat((refine' cU (aI ?hcs) ?_);(case hcs=>(repeat(first|exact .refl|exact .nil|(apply Imp.pick;(focus ((repeat constructor);done)))|refine .drop ?_)))))
   refine tA hk hn0 (by repeat constructor) ?_
   refine zR ?_;(((refine' ay (bk ?hc) .nil ?_);(case hc=>repeat constructor)));(((refine' ay (bk ?hc) .nil ?_);(case hc=>repeat constructor)));(((refine' aG ?hp ?hn ?hv ?h1 ?_);(case hp=>(repeat constructor));(case hn=>rfl);(case hv=>rfl);(case h1=>simp[Value.oneCell',az])));refine aY ?_;refine aY ?_
   (repeat((refine' cU (aI ?hcs) ?_);(case hcs=>(repeat(first|exact .refl|exact .nil|(apply Imp.pick;(focus ((repeat constructor);done)))|refine .drop ?_)))))
   refine aI (.ex o (.all ?_))
   refine aq ?_
   exact .pu ⟨rfl,rfl,rfl⟩ aA
 case hr=>
 intro ds x y z
 refine aq ?_
 refine bt .here fun o=>aE .here ?_
 refine aq ?_
 refine aX .here fun hz=>?_
 obtain⟨rfl,rfl,rfl⟩:=hz
 (((refine o_ (Sl.cE ?hcq) ?_);(case hcq=>(first|omega|(simp only[List.length_nil,List.length_cons];omega)))));refine af ?_
 refine' yn (fun z=>[ex fun y:AC × Nat × Ln=>all [pu (z=pC y.2.1),cG v ⟨w_,g_,cl,.slice y.1.1 1 y.1.2,1,ca,lg,.slice none 0 0⟩,tz y.1 y.2.1,d4 y.2.1 gn (.pointer none) y.2.2]]) ?hb ?hr
 case hb=>
  obtain⟨la_,lc_⟩:=l
  unfold cG tI
  (try dsimp only)
  by_cases h:kk=0
  ·rw[h,dT_ rfl,show((0:Nat):Int)=0 from rfl]
   refine aX (by(repeat constructor):Pick _ (tJ (la_,lc_) 0 x gn) _) fun hl=>?_
   injection hl with hl1 hl2
   rw[hl1,hl2]
   refine ai (aV (t_ ah (t_ ae (cu ?_))));refine cu ?_;refine cu ?_;refine t_ ah (t_ ae (cu ?_));(((refine' aP (bK ?hn) ?hi ?_);(case hi=>exact .pick (by repeat constructor) .nil);(case hn=>rfl)));refine t_ bM ?_;refine aU fun g=>?_;refine o_ ah (o_ ae (aM ?_));refine bS ?_;refine o_ ah (o_ ae (bU ?_));refine o_ ah (o_ ae (aM ?_));refine cZ fun g=>?_
   rename_i y
   refine wK (by kernel_rfl) (by(repeat constructor):Pick _ (pt _ (.cells #[pC y] 115)) _) (by decide) fun oa oc=>?_
   refine o_ ah (o_ ae (bU ?_))
   refine aI (.ex ((oa,oc),y,⟨0,false,.pointer none,.pointer none,0,0,.slice none 0 0⟩) (.all ?_))
   unfold tz d4 wL
   refine aq ?_
   (try dsimp only)
   exact .pu rfl (.pick .here (.pick .here (.drop (.pick .here .refl))))
  ·have h1:kk=1:=by omega
   rw[h1,dF_ (by decide:¬1=0),show((1:Nat):Int)=1 from rfl]
   refine aE (by(repeat constructor):Pick _ (tJ (la_,lc_) 1 x gn) _) ?_
   refine aq ?_
   refine bt (by(repeat constructor):Pick _ (ex fun r:Ln=>d4 x gn (.pointer none) r) _) fun r=>?_
   unfold tz
   (try dsimp only)
   refine be (by(repeat constructor):Pick _ (Sl 1 115 la_ lc_ 1 _) _) (by decide) fun G3 hG3=>?_
   rw[hG3]
   refine af (o_ ah (o_ ae (aM ?_)));refine o_ bP (Fy (A:=pt b3 (.cells #[pC j] 97)) (B:=dW j k id t f b gn (iT t) [97] t ke cj (oC t f)) (C:=pt b4 (.cells #[.int .i64 0] 3)) (D:=pt o (.cells #[.int .i64 1,.int .i64 0] 118)) (E:=d4 x gn (.pointer none) r) (by repeat constructor) (by repeat constructor) (by repeat constructor) (by repeat constructor) (by repeat constructor) ?_)
   refine' aj (GQ (r:=true) (cap:=[.pointer (some ⟨b3,0,none⟩),.pointer (some ⟨b4,0,none⟩),.pointer (some ⟨o,0,none⟩)]) Qu) ?hp fun _=>?_
   case hp=>(repeat(first|exact Picks.nil|(apply Picks.cons;(focus repeat constructor))))
   refine aq ?_
   refine aE (by(repeat constructor):Pick _ (all _) _) ?_
   refine aq ?_
   refine o_ ah (o_ ae (aM ?_));(((refine' aB (br 0 rfl ?hcq) .nil ?_);(case hcq=>(first|omega|decide|(simp;done)))));(((refine' aB (bF ?hc) ?hi ?_);(case hi=>exact aA);(case hc=>rfl)))
   refine aI (.ex ((some ⟨G3,0,none⟩,lc_),x,r) (.all ?_))
   refine aq ?_
   exact .pu rfl aA
 case hr=>
 intro ds z
 refine aq ?_
 refine bt .here fun y=>aE .here ?_
 refine aq ?_
 refine aX .here fun hz=>?_
 obtain⟨⟨oa,oc⟩,y,r⟩:=y
 (try dsimp only at hz ⊢)
 subst hz
 obtain⟨fa,fc⟩:=f
 unfold cG tI dW qM iT oC lS cj
 refine aq ?_
 (try dsimp only)
 refine aN (by(repeat constructor):Pick _ (Sl 2 192 fa fc 1 (fH.flatMap cT)) _) fun _ _ _ hs=>?_
 have hA:gD W (Sl 2 192 fa fc 1 (fH.flatMap cT)) fa fH:=cg (l:=fH) hs
 refine aM ?_;refine o_ ah (o_ ae (o_ dP ?_))
 refine' aB (jd (n:=4) (o:=2) (vs:=[az db,az t,.int .i64 1,.slice fa 1 fc]) rfl ?hcv) ?hiv ?_
 case hiv=>(repeat(first|exact .refl|exact .nil|(apply Imp.pick;(focus ((repeat constructor);done)))|refine .drop ?_))
 case hcv=>exact fun i hi=>match i,hi with|0,_=>rfl|1,_=>rfl|2,_=>rfl|3,_=>rfl
 refine' aj (qn (c:=fc) hA oB BI) ?hp fun _=>?_
 case hp=>(repeat(first|exact Picks.nil|(apply Picks.cons;(focus repeat constructor))))
 refine aq ?_
 refine bI ?_;refine bI ?_;refine aS fun g=>?_;(((refine' aG ?hp ?hn ?hv ?h1 ?_);(case hp=>(repeat constructor));(case hn=>rfl);(case hv=>rfl);(case h1=>simp[Value.oneCell',az])));refine aV (cu ?_);refine t_ ah (t_ ae ?_)
 refine' aP (jd (n:=4) (o:=29) (vs:=[az db,az t,.int .i64 1,.slice fa 1 fc]) rfl ?hcv) ?hiv ?_
 case hiv=>(repeat(first|exact .refl|exact .nil|(apply Imp.pick;(focus ((repeat constructor);done)))|refine .drop ?_))
 case hcv=>exact fun i hi=>match i,hi with|0,_=>rfl|1,_=>rfl|2,_=>rfl|3,_=>rfl
 refine cu ?_;refine t_ ah (t_ ae ?_)
 refine' aP (jd (n:=6) (o:=8) (vs:=iT t) rfl ?hcv) ?hiv ?_
 case hiv=>(repeat(first|exact .refl|exact .nil|(apply Imp.pick;(focus ((repeat constructor);done)))|refine .drop ?_))
 case hcv=>exact fun i hi=>match i,hi with|0,_=>rfl|1,_=>rfl|2,_=>rfl|3,_=>rfl|4,_=>rfl|5,_=>rfl
 refine cu ?_;refine t_ ah (t_ ae (t_ dP (cu ?_)));refine t_ aK (t_ ae (cu ?_));(((refine t_ (Sl.cE ?hcq) ?_);(case hcq=>(first|omega|(simp only[List.length_nil,List.length_cons];omega)))))
 refine' aj (Ew (m:=db) (tg:=t) (l:=fH) (mi:=1) (fo:=1) (ho:=[]) (po:= -1) (pa:=t) (qu:=[]) (asked:=false) (sz:=((0:Nat):Int)) (sized:=false) (c:=fc) hA (by decide+kernel) (by simp;omega) (by decide) (by decide) (by decide) (by decide) (by decide)) ?hp fun u=>?_
 case hp=>(repeat(first|exact Picks.nil|(apply Picks.cons;(focus repeat constructor))))
 obtain⟨va,vc⟩:=u
 rw[show sU fH (Gq fH 1 [] (-1)) 1 (if false=true then some (ei ((0:Nat):Int))else none)=CT from rfl,show Mj t [] false=t from rfl]
 refine aq ?_
 (try dsimp only)
 refine aN (by(repeat constructor):Pick _ (Sl 2 192 va vc _ _) _) fun _ _ _ hs2=>?_
 refine' aj (q4 (m:=db) (tg:=t) (mi:=1) (fs:=CT) (c:=vc) (cg hs2) (by decide+kernel) (by decide) htg (by omega) (by decide) (by decide) hwr) ?hp fun u=>?_
 case hp=>(repeat(first|exact Picks.nil|(apply Picks.cons;(focus repeat constructor))))
 obtain⟨wa,wc⟩:=u
 rw[show db++[32]++t++[32,72,84,84,80,47,49,46]++ei 1=re t from rfl]
 refine aq ?_
 (try dsimp only)
 refine zR ?_;refine zR ?_;(((refine o_ (Sl.cE ?hcq) ?_);(case hcq=>(first|omega|(simp only[List.length_nil,List.length_cons];omega)))));refine af (aV ?_);(((refine' ay (aQ ?hc) ?hi ?_);(case hi=>exact .pick (by repeat constructor) .nil);(case hc=>repeat constructor)));refine t_ ah (t_ ae (cu ?_))
 refine c_ ti fun _=>?_
 (repeat((refine' cU (aI ?hcs) ?_);(case hcs=>(repeat(first|exact .refl|exact .nil|(apply Imp.pick;(focus ((repeat constructor);done)))|refine .drop ?_)))))
 refine' aj (Ed (r:=true)) ?hp fun H=>?_
 case hp=>(repeat(first|exact Picks.nil|(apply Picks.cons;(focus repeat constructor))))
 refine aq ?_
 (repeat((refine' cU (aI ?hcs) ?_);(case hcs=>(repeat(first|exact .refl|exact .nil|(apply Imp.pick;(focus ((repeat constructor);done)))|refine .drop ?_)))))
 unfold d4 wL
 (try dsimp only)
 refine t_ ah (t_ ae (bU ?_));refine t_ ah (t_ ae (bU ?_));refine t_ ah (t_ ae (bU ?_));refine t_ ah (t_ ae (bU ?_));refine t_ ah (t_ ae (bU ?_));refine t_ ah (t_ ae (bU ?_));refine o_ ah (o_ ae (aM ?_));refine o_ ah (o_ ae (aM ?_));refine bS ?_;refine o_ ah (o_ ae (bU ?_));refine aV (ay ah .nil ?_);refine ay ae .nil ?_;(((refine' ay (aQ ?hc) ?hi ?_);(case hi=>exact .pick (by repeat constructor) .nil);(case hc=>repeat constructor)));refine ay ah .nil ?_;refine ay ae .nil ?_;(((refine' ay (aQ ?hc) ?hi ?_);(case hi=>exact .pick (by repeat constructor) .nil);(case hc=>repeat constructor)));refine ay ae .nil ?_;(((refine' ay (aQ ?hc) ?hi ?_);(case hi=>exact .pick (by repeat constructor) .nil);(case hc=>repeat constructor)));refine cu ?_;refine t_ ah (t_ ae (t_ dP (cu ?_)))
 have hwl:(qR (re t) CT).length<=32768:=by
  simp only[jQ,Bool.and_eq_true,decide_eq_true_eq]at hwr
  exact hwr.2
 refine p8 (m:=0) (news:=[]) (by(repeat constructor):Pick _ (jA 1 5 wa wc _ _) _) (nk (A:=pt y _) (e':=5) (by kernel_rfl) (by repeat constructor) ⟨rfl,fun h=>absurd h (by decide)⟩ (fun _=>rfl) (by simp)) (by omega) (by omega) fun a' c'=>?_
 (repeat((refine' cU (aI ?hcs) ?_);(case hcs=>(repeat(first|exact .refl|exact .nil|(apply Imp.pick;(focus ((repeat constructor);done)))|refine .drop ?_)))))
 refine t_ bM ?_
 refine d7 (n:=1) (vs:=[.agg #[.int .i64 0,.int .i64 1,.bool (decide (kk=0)),.slice a' ((qR (re t) CT).length+0) c']]) rfl (by decide) rfl (by intro v hv;rw[List.mem_singleton.1 hv];rfl) (by decide) fun gb=>?_
 (repeat((refine' cU (aI ?hcs) ?_);(case hcs=>(repeat(first|exact .refl|exact .nil|(apply Imp.pick;(focus ((repeat constructor);done)))|refine .drop ?_)))))
 refine iZ (s:=4) (e:=42) ?_
 refine bV (m:=1) (news:=[.int .i64 0,.int .i64 1,.bool (decide (kk=0)),.slice a' ((qR (re t) CT).length+0) c']) .here (bR (s:=4) (e':=42) (by kernel_rfl) (by(repeat constructor):Pick _ (pt gb _) _) (by rfl) (by intro u hu;simp[Value.cells]at hu;rcases hu with rfl|rfl|rfl|rfl <;> rfl)) (by decide) (by decide) fun ea ec=>?_
 rw[Nat.zero_add,List.nil_append]
 refine t_ ah (t_ ae (bU ?_))
 refine aO ((⟨(oa,oc),y,H,r.kd,r.nn,(ea,ec),(a',c')⟩:Snt)) ?_
 unfold GR d4 wL Mq
 (try dsimp only)
 refine .pick (by repeat constructor) (.pick (by repeat constructor) (.pick (by repeat constructor) (.all ?_)))
 refine aq ?_
 exact aA
theorem Fz {W:World}{b1 v x:Nat}{s:SvS}{jb:Value}{r:Ln}:Cn p_ 99 ([pC x]++[.pointer (some ⟨b1,0,none⟩)]) W [all [pt b1 (.cells #[pC v] 23),cG v s,d4 x s.g jb r]] (fun _:Unit=> .bool false) (fun _=>[all [pt b1 (.cells #[pC v] 23),cG v s,d4 x s.g jb r]]):=by
 (refine Shp.cn (Sg.g_ Tryz.call99 Tryz.func99 (an:={drs:=[(1,.ofL [(0,1),(1,1),(2,1),(3,1),(4,1),(5,1),(6,1),(7,1),(8,1),(9,1),(10,1),(11,1),(12,1),(13,1),(14,1),(15,1),(16,1),(17,1),(18,1),(19,1)])]})) fun F=>?_;simp only[ca_,na_])
 refine aE (by repeat constructor) ?_
 unfold cG tI d4 wL
 refine aq ?_
 refine aV (t_ ah (t_ ae (cu ?_)));refine cu ?_;refine t_ ah (t_ ae (cu ?_))
 refine t_ (ID (t:=64) (e:=84) (j:=Tryz.t84) (by kernel_rfl) (by kernel_rfl)) ?_
 refine ao (ao (ao (ao (ao (ao (ao (ao (t_ am (aO () ?_)))))))))
 refine .all ?_
 refine aq ?_
 exact aA
theorem Qv {W:World}{v:Value}:Cn p_ 172 [.slice none 0 0,v] W [] (fun _:Unit=> .int .i64 (-1)) (fun _=>[]):=by
 (refine Shp.cn (Sg.g_ Tryz.call172 Tryz.func172 (an:={loops:=[(2,[8])]})) fun F=>?_;simp only[ca_,na_])
 refine o_ aK (a_ (fun m y=>pu (y= .int .i64 0)::_) 0 (.pu rfl .refl) ?_)
 intro m ds y
 refine aX .here fun hz=>?_
 subst hz
 (((refine o_ (Sl.bJ ?hcq) ?_);(case hcq=>(first|omega|(simp only[List.length_nil,List.length_cons];omega)))));refine af ?_
 refine aO () ?_
 exact aA
theorem Jq {W:World}{v:Value}:Cn p_ 96 [.slice none 0 0,v] W [] (fun _:Unit=> .slice none 0 0) (fun _=>[]):=by
 (refine Shp.cn (Sg.g_ Tryz.call96 Tryz.func96 (an:={loops:=[(5,[5,6])]})) fun F=>?_;simp only[ca_,na_])
 refine c_ Qv fun _=>?_
 (((refine o_ (Sl.cv ?hcq) ?_);(case hcq=>(first|omega|(simp only[List.length_nil,List.length_cons];omega)))));refine ai ?_
 refine aO () ?_
 exact aA
theorem Qw {W:World}{G c x:Nat}{cap:List Value}{f:FuncId}{A:HP}(hf:Cn p_ f ([pC x]++cap) W [A] (fun _:Unit=> .bool false) (fun _=>[A])):Cn p_ 98 [.slice (some ⟨G,0,none⟩) 1 c,.func (.func f) #[] cap.toArray] W [Sl 1 115 (some ⟨G,0,none⟩) c 1 [pC x],A] (fun _:Unit=> .slice (some ⟨G,0,none⟩) 1 c) (fun _=>[Sl 1 115 (some ⟨G,0,none⟩) c 1 [pC x],A]):=by
 (refine Shp.cn (Sg.g_ Tryz.call98 Tryz.func98 (an:={loops:=[(5,[5,6])]})) fun F=>?_;simp only[ca_,na_])
 refine c_ (GQ (r:=false) hf) fun _=>?_
 rw[if_neg (by decide:¬false=true)]
 (((refine o_ (Sl.cv ?hcq) ?_);(case hcq=>(first|omega|(simp only[List.length_nil,List.length_cons];omega)))));refine ai ?_
 refine aO () ?_
 exact aA
theorem pk {W:World}{v x:Nat}{s:SvS}{jb:Value}{r:Ln}{l:AC}(hl:s.lk= .slice l.1 1 l.2):Cn p_ 40 [pC v] W [cG v s,tz l x,d4 x s.g jb r] (fun _:Unit=> .tuple #[]) (fun _=>[cG v s,tz l x,d4 x s.g jb r]):=by
 (refine Shp.cn (Sg.g_ Tryz.call40 Tryz.func40 (an:={drs:=[(1,.ofL [(0,3),(1,1),(2,1),(3,1),(4,1),(5,0),(6,1),(7,1),(8,0)]),(2,.ofL [(0,3),(1,1),(2,1),(3,1),(4,1),(5,1),(6,0),(7,1),(8,1),(9,0)])]}) (os:=[(1,[(5,[0])]),(2,[(6,[0])])])) fun F=>?_;simp only[ca_,na_])
 refine cA fun b1=>?_
 obtain⟨la,lc⟩:=l
 unfold tz
 (try dsimp only at hl ⊢)
 refine be (by(repeat constructor):Pick _ (Sl 1 115 la lc 1 _) _) (by decide) fun G hG=>?_
 subst hG
 cases s
 (try dsimp only at *)
 subst hl
 unfold cG tI
 (try dsimp only)
 refine aV ?_;(((refine' ay (aQ ?hc) ?hi ?_);(case hi=>exact .pick (by repeat constructor) .nil);(case hc=>repeat constructor)));refine cu ?_;refine t_ ah (t_ ae (cu ?_))
 refine c_ Jq fun _=>?_
 (repeat((refine' cU (aI ?hcs) ?_);(case hcs=>(repeat(first|exact .refl|exact .nil|(apply Imp.pick;(focus ((repeat constructor);done)))|refine .drop ?_)))))
 refine t_ ah (t_ ae (bU ?_));refine aV ?_;(((refine' ay (aQ ?hc) ?hi ?_);(case hi=>exact .pick (by repeat constructor) .nil);(case hc=>repeat constructor)));refine cu ?_;refine t_ ah (t_ ae (cu ?_));refine t_ bP ?_
 rename_i w_ g_ cl nu ca lg out _
 refine yi (A:=pt b1 (.cells #[pC v] 23)) (B:=cG v ⟨w_,g_,cl,.slice (some ⟨G,0,none⟩) 1 lc,nu,ca,lg,out⟩) (C:=d4 x g_ jb r) (by repeat constructor) (by repeat constructor) (by repeat constructor) ?_
 refine' aj (Qw (cap:=[.pointer (some ⟨b1,0,none⟩)]) Fz) ?hp fun _=>?_
 case hp=>(repeat(first|exact Picks.nil|(apply Picks.cons;(focus repeat constructor))))
 refine aq ?_
 refine aE (by(repeat constructor):Pick _ (all _) _) ?_
 unfold cG tI
 refine aq ?_
 (try dsimp only)
 (repeat((refine' cU (aI ?hcs) ?_);(case hcs=>(repeat(first|exact .refl|exact .nil|(apply Imp.pick;(focus ((repeat constructor);done)))|refine .drop ?_)))))
 refine t_ ah (t_ ae (bU ?_))
 refine aO () ?_
 exact aA
def cO (t:List UInt8):List UInt8:=[97,32]++t
theorem Qx {W:World}{t:List UInt8}(hl:t.length<=1000):Cn p_ 600 [az [97],az t,az [],.bool false] W [] (fun _:Unit=>az (cO t)) (fun _=>[]):=by
 (refine Shp.cn (Sg.g_ Tryz.call600 Tryz.func600) fun F=>?_;simp only[ca_,na_])
 refine c_ (pT (l:=[97]) (by decide)) fun _=>?_
 rw[show fX [97]=[97] by decide+kernel]
 refine o_ (bE (a:=[97]) (b:=[32]) (by decide)) ?_
 refine o_ (bE (b:=t) (by simp;omega)) ?_
 refine af (aO () ?_)
 exact .refl
theorem Va {W:World}{a:Option Addr}{c:Nat}:Cn p_ 454 [.slice a 0 c,.func (.func 602) #[] #[]] W [] (fun _:Unit=> .bool false) (fun _=>[]):=by
 have h:=xL (W:=W) (n:=0) (a:=a) (c:=c) (v:=fun _=>undef) (p:=fun _=>false) (NA:=pu True) (C:=pu True) (k:=602) (cap:=[]) (by decide) (fun h=>absurd h (by decide)) (fun i g o h=>absurd h (by omega)) (fun i h=>absurd h (by omega))
 exact h.imp [] (.pu trivial (.pu trivial .refl)) fun _=>by(repeat(first|exact .refl|exact .nil|(apply Imp.pick;(focus ((repeat constructor);done)))|refine .drop ?_))
theorem CU {P:Program}{W:World}{t e:TypeId}{n s:Nat}{cs v:Array Value}{q:IntKind}{i:Int}(j:Nat)[ht:ArrT P t n e s][ho:AggT P e s](hi:i=(j:Int))(hj:j<n)(hz:j * s+s<=cs.size)(hv:cs.extract (j * s) (j * s+s)=v):aT P W [] (ms t (.agg cs) (.int q i)) (.agg v):=fun w _=>by
 subst hi
 simp[ms,Instr.index,asIntOf,ht.ut,ht.size,hj,part,ho.agg,hz,hv]
def Jr:List UInt8:=[73,102,45,78,111,110,101,45,77,97,116,99,104]
def Js:List UInt8:=[73,102,45,77,111,100,105,102,105,101,100,45,83,105,110,99,101]
theorem Jt {W : World} {j k gn : Nat} {id st : Int} {t : List UInt8} {f b : AC} {tv : List Value} {ho pa ke : List UInt8} {X : List FD.Fd} {xa : AC} {bd : Value} {AX : HP} [OC bd] (htv : tv.length = 6) (hX : gD W AX xa.1 X) (hXk : oz X) (h1 : cL X jK = ([], false)) (h2 : cL X gG = ([], false)) : Cn p_ 597 [pC j, .agg #[.int .i64 st, .slice xa.1 X.length xa.2, bd]] W [dW j k id t f b gn tv ho pa ke cj (oC t f), lS f, AX] (fun _ : Unit => .tuple #[]) (fun _ => [dW j k id t f b gn tv ho pa ke cj (oC t f), lS f, AX]) := by
 obtain ⟨t0, t1, t2, t3, t4, t5, rfl⟩ : ∃ a b c d e f, tv = [a, b, c, d, e, f] := by
  match tv, htv with
  | [a, b, c, d, e, f], _ => exact ⟨a, b, c, d, e, f, rfl⟩
 (refine Shp.cn (Sg.g_ Tryz.call597 Tryz.func597 (an := { loops := [(3, [4, 19])] })) fun F => ?_; simp only [ca_, na_])
 refine aU fun x3 => ?_
 obtain ⟨fa, fc⟩ := f
 unfold dW qM cj oC lS
 refine aq ?_
 (try dsimp only)
 refine aN (by (repeat constructor) : Pick _ (Sl 2 192 fa fc 1 (fH.flatMap cT)) _) fun _ _ _ hs => ?_
 have hA : gD W (Sl 2 192 fa fc 1 (fH.flatMap cT)) fa fH := cg (l := fH) hs
 refine o_ ah (o_ ae (o_ dP (aM ?_)))
 refine Cd [Jr, Js] rfl rfl (by decide) fun gb => ?_
 refine' aj (iJ (l := fH) (N := [Jr, Js]) (c := fc) hA oB (fE (by rfl)) (by decide) (by decide)) ?hp fun q => ?_
 case hp => (repeat (first | exact Picks.nil | (apply Picks.cons; (focus repeat constructor))))
 refine aq ?_
 refine o_ bM ?_; refine o_ bM ?_; refine o_ bM ?_
 refine cz (fun m x y => pu (∃ i : Nat, m + i = 2 /\ y = .int .i64 (i : Int)) :: _) 2 (.pu ⟨0, rfl, rfl⟩ .refl) ?_
 intro m ds x y
 refine aX .here fun hi => ?_
 obtain ⟨i, hm, rfl⟩ := hi
 rcases (show i = 0 \/ i = 1 \/ i = 2 by omega) with rfl | rfl | rfl
 ·(((refine o_ (Sl.ce ?hcq) ?_); (case hcq => (first | omega | (simp only [List.length_nil, List.length_cons]; omega))))); refine ai ?_
  refine o_ (CU (v := #[az jK, az Jr]) 0 rfl (by decide) (by decide) rfl) ?_
  refine aS fun g => ?_; (((refine' aG ?hp ?hn ?hv ?h1 ?_); (case hp => (repeat constructor)); (case hn => rfl); (case hv => rfl); (case h1 => simp [Value.oneCell', az]))); refine o_ ae (aM ?_)
  refine o_ (ig 0 rfl (by decide)) ?_
  refine aM ?_
  refine' aj (first (n := jK) (c := xa.2) hX hXk (by decide)) ?hp fun _ => ?_
  case hp => (repeat (first | exact Picks.nil | (apply Picks.cons; (focus repeat constructor))))
  rw [h1]
  refine aq ?_
  refine bI ?_; refine bI ?_; refine af (bS ?_)
  exact bX 1 (by omega) (.pu ⟨1, by omega, rfl⟩ aA)
 ·(((refine o_ (Sl.ce ?hcq) ?_); (case hcq => (first | omega | (simp only [List.length_nil, List.length_cons]; omega))))); refine ai ?_
  refine o_ (CU (v := #[az gG, az Js]) 1 rfl (by decide) (by decide) rfl) ?_
  refine aS fun g => ?_; (((refine' aG ?hp ?hn ?hv ?h1 ?_); (case hp => (repeat constructor)); (case hn => rfl); (case hv => rfl); (case h1 => simp [Value.oneCell', az]))); refine o_ ae (aM ?_)
  refine o_ (ig 0 rfl (by decide)) ?_
  refine aM ?_
  refine' aj (first (n := gG) (c := xa.2) hX hXk (by decide)) ?hp fun _ => ?_
  case hp => (repeat (first | exact Picks.nil | (apply Picks.cons; (focus repeat constructor))))
  rw [h2]
  refine aq ?_
  refine bI ?_; refine bI ?_; refine af (bS ?_)
  exact bX 0 (by omega) (.pu ⟨2, by omega, rfl⟩ aA)
 ·(((refine o_ (Sl.bJ ?hcq) ?_); (case hcq => (first | omega | (simp only [List.length_nil, List.length_cons]; omega))))); refine af ?_; refine o_ ah ?_; refine o_ ae ?_; refine aM ?_; refine af ?_
  refine aO () ?_
  exact aA
def FA:List UInt8:=[72,73,84]
structure AnsOk (now:Int)(nm t:List UInt8)(X:List FD.Fd)(D wd:List UInt8):Prop where
 hk:oz X
 hh:jQ nH (Gz X D)=true
 dl:D.length<=1048576
 en:EnOk (Mp now nm [97] t D.length wd)
 ln:(mU (Mp now nm [97] t D.length wd)).length<=250
theorem m6 {a:Option Addr}{α:Type}{l:List α}(h:0<l.length->∃g,a=some ⟨g,0,none⟩)(ha:a=none):l.length=0:=by
 rcases Nat.eq_zero_or_pos l.length with z|z
 ·exact z
 ·obtain⟨_,e⟩:=h z;rw[ha]at e;cases e
theorem n9 {W:World}{L M:List HP}(i:Imp W L M):aR W L (sat W M):=aI i
theorem Qy {W:World}[hG:Gl W][hP:Gp W]{c T:Nat}{Z:Cs}{key tg:List UInt8}{now:Int}{R:List FD.Fd}{ar:AC}{n:Nat}{A:HP}{O:LkO}(hO:O=dL Z key R now)(hZ:CsOk T Z)(hA:gD W A ar.1 R)(hR:zF R<=1048576)(hn:R.length=n):Cn p_ 601 [pE c,az key,.agg #[az db,az tg,.int .i64 1,.slice ar.1 n ar.2],.int .i64 now] W [fU c Z,A] (fun q:AC × AC=> .tuple #[.agg #[.int .i64 O.st,.slice q.1.1 O.xf.length q.1.2,.slice q.2.1 O.xb.length q.2.2],.int .i64 O.age,.int .i64 O.state])
  (fun q=>[fU c O.S,A,Sl 2 192 q.1.1 q.1.2 O.xf.length (O.xf.flatMap cT),Sl 1 5 q.2.1 q.2.2 O.xb.length (O.xb.map Sl.B)]):=by
 subst hO hn
 exact FD.m7 hZ hA hR
theorem FB {W : World} [hG : Gl W] [hP : Gp W] {v w gn j k p st kk x c ap lgx n ca T : Nat} {s : SvS} {cn : CnS} {id now us tm rt : Int} {nm t O_ : List UInt8} {f f0 b pa l r o : AC} {m jb : Value} {q : Ca} {Z : Cs} {O : LkO} {hit : Bool} {fn : Fn} {qa qb : Array Value} (hO : O = dL Z (cO t) fH now) (hZ : CsOk T Z) (hhit : hit = decide (O.state = 1))
  (hH : hit = true → O.st = 200 ∧ AnsOk now nm t O.xf O.xb FA) (hS : O.state = 2 → oz O.xf ∧ cL O.xf jK = ([], false) ∧ cL O.xf gG = ([], false))
  (hn : cn.nx = .func fn qa qb) (hrow : cn.row = .slice r.1 1 r.2) (hrd : cn.rd = true) (hbg : cn.bg = false) (ho_ : cn.out = .slice o.1 O_.length o.2) (hOl : O_.length ≤ 1000000000) (hn2 : n ≤ 200)
  (hk : kk ≤ 1) (hsw : s.w = w) (hca : s.ca = pE ca) (hlg : s.lg = pC lgx) (hlk : s.lk = .slice l.1 kk l.2) (hnu : s.nu = kk) (hout : s.out = .slice none 0 0) (hn0 : 0 ≤ now) (htl : t.length ≤ 1000) (hus : 0 ≤ us) (hus1 : us ≤ 1000) (htg : pV t = true) (hwr : jQ (re t) CT = true) :
  Cn p_ 599 [.agg #[], pC v, pC j] W [cG v s, dW j k id t f b gn (iT t) [97] t [] cj vi, lS f, fU ca Z, jf w now, eD k c nm jb, bQ c cn, d8 r [ap], mS o O_, dZ ap id t f0 (.pointer none), iz lgx n, ek gn st q pa m us, gH q tm rt, pj pa p, iu p kk, tJ l kk x gn] (fun _ : (AC × AC) × Snt => .tuple #[])
   (fun y => if hit then [cG v s, fU ca O.S, jf w now, eD k c nm jb, bQ c (cn.wrote (O_ ++ iy O.xf O.xb).length y.1), mS y.1.1 (O_ ++ iy O.xf O.xb), d8 y.1.2 [], iz lgx (n + 1), ek gn st q pa m us, gH q tm rt, pj pa p, iu p kk, tJ l kk x gn]
    else [cG v { s with lk := .slice y.2.l.1 1 y.2.l.2, nu := 1, out := .slice y.2.o.1 1 y.2.o.2 }, dW j k id t f b gn (iT t) [97] t (cO t) cj (oC t f), lS f, fU ca O.S, jf w now, eD k c nm jb, bQ c cn, d8 r [ap], mS o O_, dZ ap id t f0 (.pointer none), iz lgx n, ek gn st q pa m (us + 1), gH q tm rt, pj pa p, mW p, tz y.2.l y.2.x, GR gn j now y.2, dJ y.2.H (fq true), Mq kk t y.2]) := by
 (refine Shp.cn (Sg.g_ Tryz.call599 Tryz.func599 (an := { drs := [(2, .ofL [(0, 2), (1, 1), (2, 1), (3, 1), (4, 1), (5, 1), (6, 1), (7, 1), (8, 1), (9, 1), (10, 1), (11, 1), (12, 1), (13, 1), (14, 1), (15, 1), (16, 1), (17, 1), (18, 1), (19, 0), (20, 1), (21, 1), (22, 0)]), (7, (.op 0 2 (.op 1 3 (.op 2 3 (.op 3 3 (.op 4 2 (.op 5 3 (.op 6 3 (.op 7 3 (.op 8 3 (.op 10 2 (.op 11 3 (.op 12 3 (.op 13 3 (.alt ((.op 9 0 (.alt ((.op 14 0 (.alt (.ofL [(15, 0), (16, 2), (17, 3), (18, 3), (19, 3), (20, 0), (21, 0), (22, 1), (23, 1)]) (.ofL [(20, 0), (15, 0), (16, 1), (17, 1), (18, 3), (19, 3), (21, 0), (22, 1), (23, 1)])))) (.ofL [(20, 0), (14, 0), (15, 0), (16, 1), (17, 1), (18, 3), (19, 3), (21, 0), (22, 1), (23, 1)])))) (.ofL [(20, 0), (9, 0), (14, 0), (15, 0), (16, 1), (17, 1), (18, 3), (19, 3), (21, 0), (22, 1), (23, 1)])))))))))))))))), (10, .ofL [(0, 2), (1, 2), (2, 1), (3, 1), (4, 1), (5, 1), (6, 1), (7, 1), (8, 1), (9, 1), (10, 0), (11, 0)])], rcuts := [(8, [7, 9])] }) (os := [(7, [(9, [13, 12, 11, 7, 6, 5, 3, 2, 1]), (14, [7, 6, 5, 3, 2, 1]), (20, [19, 18, 17, 13, 12, 11, 8, 7, 6, 5, 3, 2, 1]), (21, [19, 18])])])) fun F => ?_; simp only [ca_, na_])
 refine aU fun x3 => ?_
 subst hsw
 obtain ⟨fa, fc⟩ := f
 cases s
 rename_i w_ g_ cl lk nu ca_ lg out
 (try dsimp only at *)
 subst hca hlg hlk hnu hout
 unfold lS
 (try dsimp only)
 refine aN (by (repeat constructor) : Pick _ (Sl 2 192 fa fc 1 (fH.flatMap cT)) _) fun _ _ _ hs => ?_
 have hA : gD W (Sl 2 192 fa fc 1 (fH.flatMap cT)) fa fH := cg (l := fH) hs
 unfold dW qM iT cj vi
 refine aq ?_
 refine o_ ah (o_ ae (o_ dP ?_))
 refine' aB (jd (n := 4) (o := 2) (vs := [az db, az t, .int .i64 1, .slice fa 1 fc]) rfl ?hcv) ?hiv ?_
 case hiv => (repeat (first | exact .refl | exact .nil | (apply Imp.pick; (focus ((repeat constructor); done))) | refine .drop ?_))
 case hcv => exact fun i hi => match i, hi with | 0, _ => rfl | 1, _ => rfl | 2, _ => rfl | 3, _ => rfl
 refine aS fun g => ?_; (((refine' aG ?hp ?hn ?hv ?h1 ?_); (case hp => (repeat constructor)); (case hn => rfl); (case hv => rfl); (case h1 => simp [Value.oneCell', az]))); refine aV (t_ ah (t_ ae (cu ?_))); refine t_ ah (t_ ae (cu ?_)); refine t_ ah (t_ ae (t_ dP (cu ?_))); refine t_ ah (t_ ae (t_ dP (cu ?_)))
 rename Nat => x6
 refine c_ (Qx (t := t) htl) fun _ => ?_
 refine t_ ah (t_ ae (bU ?_)); refine iS ?_; refine o_ ah (o_ ae (mI (n := 4) (vs := [az db, az t, .int .i64 1, .slice fa 1 fc]) (cs' := qM k id t (fa, fc) b gn (iT t) [97] t (cO t) cj (oC t (fa, fc))) (by repeat constructor) rfl (Nat.le_of_ble_eq_true rfl) (by simp [Value.oneCell', az]) rfl ?_))
 unfold qM iT cj oC
 refine aq ?_
 refine o_ ah (o_ ae (o_ dP (aM ?_))); refine o_ bA (ab (o_ ae (ab (aM ?_)))); refine ab (c_ CS fun _ => ?_)
 refine ab (o_ bA (o_ am (af (iS ?_))))
 refine' aj (Jo (m := db) (t := t) (mi := 1) (f := (fa, fc))) ?hp fun _ => ?_
 case hp => exact .nil
 refine aq ?_
 (try dsimp only)
 refine o_ ah (o_ ae (mI (n := 4) (vs := [az db, az t, .int .i64 1, .slice fa 1 fc]) (cs' := qM k id t (fa, fc) b gn (iT t) [97] t (cO t) cj (oC t (fa, fc))) (by repeat constructor) rfl (Nat.le_of_ble_eq_true rfl) (by simp [Value.oneCell', az]) rfl ?_))
 have hzH : zF fH ≤ 1048576 := by decide +kernel
 unfold cG tI qM iT cj oC
 refine aq ?_
 (try dsimp only)
 refine' Fx (fun z7 z9 => [ex fun y : Nat × (AC × AC) => all [pu (z7 = pC y.1 ∧ z9 = .int .i64 O.state), pt y.1 (.cells #[.int .i64 O.st, .slice y.2.1.1 O.xf.length y.2.1.2, .slice y.2.2.1 O.xb.length y.2.2.2] 48), fU ca O.S, Sl 2 192 y.2.1.1 y.2.1.2 O.xf.length (O.xf.flatMap cT), Sl 1 5 y.2.2.1 y.2.2.2 O.xb.length (O.xb.map Sl.B)], jf w_ now]) ?hb ?hr
 case hb =>
  refine aV (ay ah .nil ?_); refine ay ae .nil ?_; (((refine' ay (aQ ?hc) ?hi ?_); (case hi => exact .pick (by repeat constructor) .nil); (case hc => repeat constructor))); refine ay ah .nil ?_; refine ay ae .nil ?_; (((refine' ay (aQ ?hc) ?hi ?_); (case hi => exact .pick (by repeat constructor) .nil); (case hc => repeat constructor))); (((refine' ay (bK ?hn) ?hi ?_); (case hi => exact .pick (by repeat constructor) .nil); (case hn => rfl))); refine ay ah .nil ?_; refine ay ae .nil ?_; (((refine' ay (aQ ?hc) ?hi ?_); (case hi => exact .pick (by repeat constructor) .nil); (case hc => repeat constructor)))
  repeat' (first
   | (with_reducible refine e6 ?_ ?_)
   | ((with_reducible refine' cU (aI ?hcs) ?_); (case hcs => (repeat (first | exact .refl | exact .nil | (apply Imp.pick; (focus ((repeat constructor); done))) | refine .drop ?_))))
   | ((with_reducible refine' ay (bk ?hcv) .nil ?_); (case hcv => repeat constructor))
   | ((with_reducible refine' aP (bk ?hcv) .nil ?_); (case hcv => repeat constructor))
   | (with_reducible refine aS fun o => ?_)
   | (refine' aj (Jo (m := db) (t := t) (mi := 1) (f := (fa, fc))) ?hp fun _ => ?_; (case hp => exact .nil); refine aq ?_)
   | (refine' aj ti ?hp fun _ => ?_; (case hp => (repeat (first | exact Picks.nil | (apply Picks.cons; (focus repeat constructor))))); refine aq ?_)
   | (refine' aj (Qy (tg := t) (ar := (fa, fc)) hO hZ hA hzH rfl) ?hp fun q => ?_; (case hp => (repeat (first | exact Picks.nil | (apply Picks.cons; (focus repeat constructor))))); refine aq ?_)
   | ((with_reducible refine' aG ?hp ?hn ?hv ?h1 ?_); (case hp => (repeat constructor)); (case hn => rfl); (case hv => rfl); (case h1 => simp [Value.oneCell']))
   | (refine n9 (.ex (o, q) (.all ?_)); refine aq ?_; exact .pu ⟨rfl, rfl⟩ (.pick .here (.pick .here (.pick (.there .here) (.pick (.there .here) (.pick (.there .here) .refl))))))
   | (refine n9 (.ex (o, q) (.all ?_)); refine aq ?_; exact .pu ⟨rfl, rfl⟩ aA))
 case hr =>
 intro ds z7 z9
 refine aq ?_
 refine bt .here fun y => aE .here ?_
 refine aq ?_
 refine aX .here fun hz => ?_
 obtain ⟨rfl, rfl⟩ := hz
 obtain ⟨o7, ⟨xa, xc⟩, da, dc⟩ := y
 (try dsimp only)
 refine o_ ae (aM ?_)
 refine' aj (FD.f5 (n := wo) (c := fc) hA oB (by decide)) ?hp fun u => ?_
 case hp => (repeat (first | exact Picks.nil | (apply Picks.cons; (focus repeat constructor))))
 rw [show bH fH wo = [] by decide +kernel]
 refine aq ?_
 refine' aj (join (sep := [44]) (V := []) (a := u.1) (c := u.2) (by decide) (by decide) (by decide) (by decide)) ?hp fun _ => ?_
 case hp => (repeat (first | exact Picks.nil | (apply Picks.cons; (focus repeat constructor))))
 refine aq ?_
 refine' aj (qj (l := []) (by decide)) ?hp fun d => ?_
 case hp => exact .nil
 rw [show (jt (lr [])).1 = [] by decide +kernel]
 refine aq ?_
 refine bI ?_; refine bI ?_
 by_cases hst : O.state = 1
 ·obtain rfl : hit = true := by rw [hhit, dT_ hst]
  obtain ⟨h200, hok⟩ := hH rfl
  rw [hst, h200]
  refine aN (by (repeat constructor) : Pick _ (Sl 2 192 xa xc _ _) _) fun _ _ _ hs1 => ?_
  refine aN (by (repeat constructor) : Pick _ (Sl 1 5 da dc _ _) _) fun _ _ _ hs2 => ?_
  (((refine o_ (Sl.cv ?hcq) ?_); (case hcq => (first | omega | (simp only [List.length_nil, List.length_cons]; omega))))); refine ai ?_; refine aV ?_; refine t_ ae ?_; refine cu ?_; (((refine' aP (bK ?hn) ?hi ?_); (case hi => exact .pick (by repeat constructor) .nil); (case hn => rfl))); refine t_ ah ?_; refine t_ ae ?_; refine t_ dP ?_; refine cu ?_
  refine' aj (CR (l := .slice fa 1 fc) (X := O.xf) (D := O.xb) (xx := (xa, xc)) (dd := (da, dc)) (cg hs1) (m6 hs1) hok.hk.1 (fD (e := 5) (a := da) (cap := dc) (by rw [List.length_map]) hs2) (m6 hs2) hok.dl) ?hp fun u => ?_
  case hp => (repeat (first | exact Picks.nil | (apply Picks.cons; (focus repeat constructor))))
  obtain ⟨⟨ua, uc⟩, wa, wc⟩ := u
  refine aq ?_
  (try dsimp only)
  refine aN (by (repeat constructor) : Pick _ (Sl 2 192 ua uc _ _) _) fun _ _ _ hs3 => ?_
  refine aN (by (repeat constructor) : Pick _ (Sl 1 5 wa wc _ _) _) fun _ _ _ hs4 => ?_
  refine' aj (yl (v := v) (w := w_) (gn := gn) (s := ⟨w_, g_, cl, .slice l.1 kk l.2, kk, pE ca, pC lgx, .slice none 0 0⟩) (j := j) (k := k) (c := c) (p := ap) (cn := cn) (id := id) (now := now) (nm := nm) (t := t) (O := O_) (wd := FA) (ho := [97]) (pa := t) (ke := cO t) (f := (fa, fc)) (f0 := f0) (b := b) (r := r) (o := o) (tv := iT t) (lo := cj) (se := oC t (fa, fc)) (X := O.xf) (D := O.xb) (xx := (ua, uc)) (dd := (wa, wc)) rfl rfl rfl hn hrow hrd hbg ho_ (cg hs3) (fun e => List.eq_nil_of_length_eq_zero (m6 hs3 e)) hok.hk (fD (e := 5) (a := wa) (cap := wc) (by rw [List.length_map]) hs4) (fun e => List.eq_nil_of_length_eq_zero (m6 hs4 e)) hok.hh hok.dl hOl hok.en hok.ln hn2) ?hp fun u => ?_
  case hp => (repeat (first | exact Picks.nil | (apply Picks.cons; (focus repeat constructor))))
  refine aq ?_
  refine aO ((u, ⟨(none, 0), 0, 0, 0, 0, (none, 0), (none, 0)⟩)) ?_
  simp only [reduceIte, ca_, na_, -eq_self]
  exact aA
 ·obtain rfl : hit = false := by rw [hhit, dF_ hst]
  (((refine o_ (Sl.bL ?hcq) ?_); (case hcq => (first | omega | (simp only [List.length_nil, List.length_cons]; omega))))); refine af ?_
  refine c_ Va fun _ => ?_
  refine af ?_
  by_cases h2 : O.state = 2
  ·obtain ⟨k1, k2, k3⟩ := hS h2
   refine aN (by (repeat constructor) : Pick _ (Sl 2 192 xa xc _ _) _) fun _ _ _ hs1 => ?_
   (((refine o_ (Sl.cv ?hcq) ?_); (case hcq => (first | omega | (simp only [List.length_nil, List.length_cons]; omega))))); refine ai ?_; refine iS ?_
   refine' aj (Jt (gn := gn) (k := k) (id := id) (t := t) (f := (fa, fc)) (b := b) (tv := iT t) (ho := [97]) (pa := t) (ke := cO t) (X := O.xf) (xa := (xa, xc)) rfl (cg hs1) k1 k2 k3) ?hp fun _ => ?_
   case hp => (repeat (first | exact Picks.nil | (apply Picks.cons; (focus repeat constructor))))
   refine aq ?_
   refine' aj (GS (v := v) (w := w_) (gn := gn) (j := j) (k := k) (p := p) (st := st) (kk := kk) (x := x) (s := ⟨w_, g_, cl, .slice l.1 kk l.2, kk, pE ca, pC lgx, .slice none 0 0⟩) (id := id) (now := now) (us := us) (tm := tm) (rt := rt) (t := t) (ke := cO t) (f := (fa, fc)) (b := b) (pa := pa) (l := l) (m := m) (q := q) hk rfl rfl rfl rfl hn0 htl hus hus1 htg hwr) ?hp fun u => ?_
   case hp => (repeat (first | exact Picks.nil | (apply Picks.cons; (focus repeat constructor))))
   refine aq ?_
   refine aO ((((none, 0), (none, 0)), u)) ?_
   simp only [reduceIte, Bool.false_eq_true, ca_, na_, -eq_self]
   exact aA
  ·(((refine o_ (Sl.bL ?hcq) ?_); (case hcq => (first | omega | (simp only [List.length_nil, List.length_cons]; omega))))); refine af ?_
   refine' aj (GS (v := v) (w := w_) (gn := gn) (j := j) (k := k) (p := p) (st := st) (kk := kk) (x := x) (s := ⟨w_, g_, cl, .slice l.1 kk l.2, kk, pE ca, pC lgx, .slice none 0 0⟩) (id := id) (now := now) (us := us) (tm := tm) (rt := rt) (t := t) (ke := cO t) (f := (fa, fc)) (b := b) (pa := pa) (l := l) (m := m) (q := q) hk rfl rfl rfl rfl hn0 htl hus hus1 htg hwr) ?hp fun u => ?_
   case hp => (repeat (first | exact Picks.nil | (apply Picks.cons; (focus repeat constructor))))
   refine aq ?_
   refine aO ((((none, 0), (none, 0)), u)) ?_
   simp only [reduceIte, Bool.false_eq_true, ca_, na_, -eq_self]
   exact aA
def Qz (t:Option TypeDesc):Bool:=match t with|some (.interface _)=>false|some _=>true|none=>false
theorem CV {P:Program}{W:World}{t:TypeId}{v:Value}(h:Qz (P.underlying t)=true):aT P W [] (oF t v) (.iface t v):=fun w _=>by
 cases hx:P.underlying t with
 |none=>rw[hx]at h;cases h
 |some d=>
  rw[hx]at h
  have:=run_underlying (P:=P) (w:=w) hx
  cases d <;> first|(cases h;done)|simp[oF,Instr.makeInterface,this]
def VN:Int->Option Value:=dS (dS (dS (fun _=>none) 3 (some (.iface 209 (fn 94)))) 1 (some (.iface 209 (fn 95)))) 2 (some (.iface 211 (.agg #[])))
theorem zJ {W:World}:Cn p_ 39 [] W [] (fun g:Nat=> .map (some g)) (fun g=>[bN g fN VN]):=by
 (refine Shp.cn (Sg.g_ Tryz.call39 Tryz.func39) fun F=>?_;simp only[ca_,na_])
 refine jM (P:=p_) (t:=112) (kt:=3) fN fun g=>?_
 refine o_ (CV (by kernel_rfl)) ?_
 refine dC (q:=3) PL.tq (by(repeat constructor):Pick _ (bN g fN _) _) ?_
 refine o_ (CV (by kernel_rfl)) ?_
 refine dC (q:=1) PL.tq (by(repeat constructor):Pick _ (bN g fN _) _) ?_
 refine o_ bM ?_
 refine o_ (CV (by kernel_rfl)) ?_
 refine dC (q:=2) PL.tq (by(repeat constructor):Pick _ (bN g fN _) _) ?_
 refine aO g ?_
 exact .refl
theorem CW {α:Type}{a b:α}:(if true=true then a else b)=a:=rfl
theorem wM {α:Type}{a b:α}:(if false=true then a else b)=b:=rfl
theorem CY {W:World}{L L1 L2:List HP}{S:WP}{l:AC}{x gn:Nat}{r:Ln}(p1:Pick L (tz l x) L1)(p2:Pick L1 (d4 x gn (.pointer none) r) L2)(h:aR W (tJ l 1 x gn::L2) S):aR W L S:=bu (.all (.pick p1 (.ex r (.pick p2 .refl)))) h
theorem CZ {W:World}{L L1:List HP}{S:WP}{l:AC}{x gn:Nat}(p:Pick L (tJ l 1 x gn) L1)(h:∀r,aR W (d4 x gn (.pointer none) r::tz l x::L1) S):aR W L S:=aE p (bt (.there .here) fun r=>h r)
theorem QA {W : World} [hG : Gl W] [hP : Gp W] {v w gn j k p st kk x c ap lgx n ca T : Nat} {s : SvS} {cn : CnS} {id now us tm rt : Int} {nm t O_ : List UInt8} {f f0 b pa l r o a js : AC} {m : Value} {q : Ca} {Z : Cs} {O : LkO} {hit : Bool} {fn : Fn} {qa qb : Array Value} (hO : O = dL Z (cO t) fH now) (hZ : CsOk T Z) (hhit : hit = decide (O.state = 1))
  (hH : hit = true → O.st = 200 ∧ AnsOk now nm t O.xf O.xb FA) (hS : O.state = 2 → oz O.xf ∧ cL O.xf jK = ([], false) ∧ cL O.xf gG = ([], false)) (hkk : hit = true → kk = 1) (ht : Jm t)
  (hn : cn.nx = .func fn qa qb) (hrow : cn.row = .slice r.1 1 r.2) (hrd : cn.rd = true) (hbg : cn.bg = false) (ho_ : cn.out = .slice o.1 O_.length o.2) (hOl : O_.length ≤ 1000000000) (hn2 : n ≤ 200)
  (hk : kk ≤ 1) (hsw : s.w = w) (hsg : s.g = gn) (hcl : s.cl = .slice a.1 1 a.2) (hca : s.ca = pE ca) (hlg : s.lg = pC lgx) (hlk : s.lk = .slice l.1 kk l.2) (hnu : s.nu = kk) (hout : s.out = .slice none 0 0) (hn0 : 0 ≤ now) (hus : 0 ≤ us) (hus1 : us ≤ 1000) (htg : pV t = true) (hwr : jQ (re t) CT = true) :
  Cn p_ 13 [pC v, .int .i64 0] W [cG v s, r5 a k, eD k c nm (.slice js.1 1 js.2), Ft js [j], dW j k id t f b gn Qq [] [] [] Fs vi, lS f, fU ca Z, jf w now, bQ c cn, d8 r [ap], mS o O_, dZ ap id t f0 (.pointer none), iz lgx n, ek gn st q pa m (us + 1), gH q tm rt, pj pa p, iu p kk, tJ l kk x gn] (fun _ : ((AC × AC) × Snt) × AC => .bool true)
   (fun y => if hit then [cG v s, r5 a k, eD k c nm (.slice y.2.1 0 y.2.2), Ft y.2 [], fU ca O.S, jf w now, bQ c (cn.wrote (O_ ++ iy O.xf O.xb).length y.1.1), mS y.1.1.1 (O_ ++ iy O.xf O.xb), d8 y.1.1.2 [], iz lgx (n + 1), ek gn st q pa m us, gH q tm rt, pj pa p, iu p kk, tJ l kk x gn]
    else [cG v { s with lk := .slice y.1.2.l.1 1 y.1.2.l.2, nu := 1, out := .slice y.1.2.o.1 1 y.1.2.o.2 }, r5 a k, eD k c nm (.slice y.2.1 0 y.2.2), Ft y.2 [], dW j k id t f b gn (iT t) [97] t (cO t) cj (oC t f), lS f, fU ca O.S, jf w now, bQ c cn, d8 r [ap], mS o O_, dZ ap id t f0 (.pointer none), iz lgx n, ek gn st q pa m (us + 1), gH q tm rt, pj pa p, mW p, tz y.1.2.l y.1.2.x, GR gn j now y.1.2, dJ y.1.2.H (fq true), Mq kk t y.1.2]) := by
 have htl : t.length ≤ 1000 := ht.1.2.2
 have hpath := ht.1.2.1
 obtain ⟨r0, hr0⟩ := ht.1.1
 (refine Shp.cn (Sg.g_ Tryz.call13 Tryz.func13 (an := { drs := [(7, .ofL [(0, 2), (1, 1), (2, 1), (3, 1), (4, 1), (5, 1), (6, 1), (7, 1), (8, 1), (9, 1), (10, 1), (11, 1), (12, 1), (13, 0), (14, 1), (15, 1), (16, 3), (17, 1), (18, 1), (19, 0)]), (8, .ofL [(0, 2), (1, 1), (2, 1), (3, 1), (4, 1), (5, 1), (6, 1), (7, 1), (8, 1), (9, 1), (10, 0), (11, 1), (12, 1), (13, 0)]), (12, .ofL [(1, 2), (2, 3), (3, 3), (4, 3), (5, 3), (7, 2), (8, 2), (0, 0), (6, 1), (9, 0)])] }) (os := [(7, [(19, [16])]), (12, [(0, [5, 4, 3, 2])])])) fun F => ?_; simp only [ca_, na_])
 refine' aj (tn hcl) ?hp fun _ => ?_
 case hp => (repeat (first | exact Picks.nil | (apply Picks.cons; (focus repeat constructor))))
 (try simp only [ca_, na_, -eq_self])
 subst hsw hsg
 cases s
 rename_i w_ g_ cl lk nu ca_ lg out
 (try dsimp only at *)
 subst hca hlg hlk hnu hout
 obtain ⟨ja, jc⟩ := js
 unfold Ft eD
 rw [show [j].length = 1 from rfl, show [j].map pC = [pC j] from rfl]
 (try dsimp only)
 refine Sl.f6 (by (repeat constructor) : Pick _ (jA 1 97 ja jc 1 _) _) fun _ _ _ hs => ?_
 obtain ⟨G, o_, rfl⟩ := hs (by decide)
 unfold dW qM Qq Fs vi ek Fq
 (try simp only [ca_, na_, -eq_self])
 (((refine' aB (bk ?hc) .nil ?_); (case hc => repeat constructor))); (((refine' aB (bk ?hc) .nil ?_); (case hc => repeat constructor))); (((refine aB (Sl.cE ?hcq) .nil ?_); (case hcq => (first | omega | (simp only [List.length_nil, List.length_cons]; omega))))); refine ab ?_; refine ab ?_; refine aB ah .nil ?_; refine ab ?_; refine aB ae .nil ?_; refine ab ?_; (((refine' aB (aQ ?hc) ?hi ?_); (case hi => exact .pick (by repeat constructor) .nil); (case hc => repeat constructor))); refine ab ?_; refine aB aK .nil ?_; refine ab ?_; (((refine aB (Sl.bL ?hcq) .nil ?_); (case hcq => (first | omega | (simp only [List.length_nil, List.length_cons]; omega))))); refine aB am .nil ?_; refine af ?_; refine aB ah .nil ?_; refine aB ae .nil ?_; (((refine' aB (aQ ?hc) ?hi ?_); (case hi => exact .pick (by repeat constructor) .nil); (case hc => repeat constructor))); (((refine' aB (br 0 rfl ?hcq) .nil ?_); (case hcq => (first | omega | decide | (simp; done)))))
 refine aB (pZ (j := 0) (v := pC j) rfl) (by (repeat (first | exact .refl | exact .nil | (apply Imp.pick; (focus ((repeat constructor); done))) | refine .drop ?_))) ?_
 refine aB ah .nil ?_; refine aB ae .nil ?_; (((refine' aB (aQ ?hc) ?hi ?_); (case hi => exact .pick (by repeat constructor) .nil); (case hc => repeat constructor)))
 refine aB (lj 1 rfl (Nat.le_refl _)) .nil ?_
 refine Sl.uq (l := 1) (by (repeat constructor) : Pick _ (jA 1 97 _ jc 1 _) _) (Nat.le_refl _) ?_
 refine aB ah .nil ?_; refine aB ae .nil ?_; (((refine' e_ ?hp ?ho ?_); (case hp => (repeat constructor)); (case ho => repeat constructor))); refine aB ah .nil ?_; refine aB ae .nil ?_; (((refine' aB (aQ ?hc) ?hi ?_); (case hi => exact .pick (by repeat constructor) .nil); (case hc => repeat constructor))); refine aB ah .nil ?_; refine aB ae .nil ?_; (((refine' aB (aQ ?hc) ?hi ?_); (case hi => exact .pick (by repeat constructor) .nil); (case hc => repeat constructor))); (refine aB (gI (by omega) (by omega)) .nil ?_); refine aB ah .nil ?_; refine aB ae .nil ?_; (((refine' e_ ?hp ?ho ?_); (case hp => (repeat constructor)); (case ho => repeat constructor))); refine aV ?_; refine aP ah .nil ?_; refine aP ae .nil ?_; refine aP dP .nil ?_; refine aP dP .nil ?_; (((refine' aP (aQ ?hc) ?hi ?_); (case hi => exact .pick (by repeat constructor) .nil); (case hc => repeat constructor))); refine aP ah .nil ?_; refine aP ae .nil ?_; refine aP dP .nil ?_; refine aP dP .nil ?_; (((refine' aP (aQ ?hc) ?hi ?_); (case hi => exact .pick (by repeat constructor) .nil); (case hc => repeat constructor)))
 rw [show us + 1 - 1 = us by omega]
 (refine' aj (Bt (m := db) (p := t) (r := r0) rfl hr0 hpath (by omega)) ?hp fun _ => ?_; (case hp => (repeat (first | exact Picks.nil | (apply Picks.cons; (focus repeat constructor))))); (try simp only [ca_, na_, Bool.not_true, Bool.not_false]))
 unfold Id
 (((refine' aP (bk ?hc) .nil ?_); (case hc => repeat constructor))); (((refine' ay (bk ?hc) .nil ?_); (case hc => repeat constructor))); refine aP ah .nil ?_; refine aP ae .nil ?_
 refine mI (n := 6) (vs := iT t) (cs' := qM k id t f b g_ (iT t) [] [] [] Fs vi) (by repeat constructor) rfl (Nat.le_of_ble_eq_true rfl) (by simp [Value.oneCell', az, iT]) rfl ?_
 (repeat ((refine' cU (aI ?hcs) ?_); (case hcs => (repeat (first | exact .refl | exact .nil | (apply Imp.pick; (focus ((repeat constructor); done))) | refine .drop ?_)))))
 unfold qM iT Fs vi
 (try simp only [ca_, na_, -eq_self])
 refine aV ?_; refine aP ah .nil ?_; refine aP ae .nil ?_; refine aP dP .nil ?_
 refine' aP (jd (n := 4) (o := 2) (vs := [az db, az t, .int .i64 1, .slice f.1 1 f.2]) rfl ?hcv) ?hiv ?_
 case hiv => (repeat (first | exact .refl | exact .nil | (apply Imp.pick; (focus ((repeat constructor); done))) | refine .drop ?_))
 case hcv => exact fun i hi => match i, hi with | 0, _ => rfl | 1, _ => rfl | 2, _ => rfl | 3, _ => rfl
 refine aP ah .nil ?_; refine aP ae .nil ?_
 refine' aP (jd (n := 6) (o := 8) (vs := iT t) rfl ?hcv) ?hiv ?_
 case hiv => (repeat (first | exact .refl | exact .nil | (apply Imp.pick; (focus ((repeat constructor); done))) | refine .drop ?_))
 case hcv => exact fun i hi => match i, hi with | 0, _ => rfl | 1, _ => rfl | 2, _ => rfl | 3, _ => rfl | 4, _ => rfl | 5, _ => rfl
 refine' aj (Fv (f := f) (p := t)) ?hp fun _ => ?_
 case hp => (repeat (first | exact Picks.nil | (apply Picks.cons; (focus repeat constructor))))
 (try simp only [ca_, na_, -eq_self])
 refine aP ah .nil ?_; refine aP ae .nil ?_; (((refine' e_ ?hp ?ho ?_); (case hp => (repeat constructor)); (case ho => repeat constructor)))
 refine' aj (CQ (v := v) (j := j) (k := k) (gn := g_) (st := st) (id := id) (t := t) (f := f) (b := b) (pa := pa) (q := q) (tm := tm) (rt := rt) (m := m) (us := us) ht) ?hp fun u => ?_
 case hp => (repeat (first | exact Picks.nil | (apply Picks.cons; (focus repeat constructor))))
 (try simp only [ca_, na_, -eq_self])
 (((refine' aB (bk ?hc) .nil ?_); (case hc => repeat constructor))); (((refine' aB (bk ?hc) .nil ?_); (case hc => repeat constructor))); refine aS fun g => ?_; (((refine' aG ?hp ?hn ?hv ?h1 ?_); (case hp => (repeat constructor)); (case hn => rfl); (case hv => rfl); (case h1 => simp [Value.oneCell', az]))); refine af ?_; refine aV ?_; refine ay ah .nil ?_; refine ay ae .nil ?_; refine ay dP .nil ?_; (((refine' ay (aQ ?hc) ?hi ?_); (case hi => exact .pick (by repeat constructor) .nil); (case hc => repeat constructor)))
 unfold dW qM iT cj vi
 (try simp only [ca_, na_, -eq_self])
 (refine' aj (zJ) ?hp fun _ => ?_; (case hp => (repeat (first | exact Picks.nil | (apply Picks.cons; (focus repeat constructor))))); (try simp only [ca_, na_, Bool.not_true, Bool.not_false]))
 (repeat ((refine' cU (aI ?hcs) ?_); (case hcs => (repeat (first | exact .refl | exact .nil | (apply Imp.pick; (focus ((repeat constructor); done))) | refine .drop ?_)))))
 refine' aP (Sl.jG (q := (2 : Int)) PL.tq) ?hiv ?_
 case hiv => (repeat (first | exact .refl | exact .nil | (apply Imp.pick; (focus ((repeat constructor); done))) | refine .drop ?_))
 rw [show (VN 2).getD .nilIface = .iface 211 (.agg #[]) from rfl]
 refine' Gi (f := 599) (fun w => by kernel_rfl) (FB (v := v) (w := w_) (gn := g_) (j := j) (k := k) (p := p) (st := st) (kk := kk) (x := x) (c := c) (ap := ap) (n := n) (s := ⟨w_, g_, cl, .slice l.1 kk l.2, kk, pE ca, pC lgx, .slice none 0 0⟩) (cn := cn) (id := id) (us := us) (tm := tm) (rt := rt) (nm := nm) (t := t) (O_ := O_) (f := f) (f0 := f0) (b := b) (pa := pa) (l := l) (r := r) (o := o) (m := m) (q := q) hO hZ hhit hH hS hn hrow hrd hbg ho_ hOl hn2 hk rfl rfl rfl rfl rfl rfl hn0 htl hus hus1 htg hwr) ?hp fun y => ?_
 case hp => (repeat (first | exact Picks.nil | (apply Picks.cons; (focus repeat constructor))))
 cases hit with
 | true =>
  obtain rfl : kk = 1 := hkk rfl
  simp only [CW, ca_, na_, -eq_self]
  refine CZ (by (repeat constructor) : Pick _ (tJ l 1 x g_) _) fun ln => ?_
  refine' aj (pk (v := v) (x := x) (l := l) ?h1) ?hp fun _ => ?_
  case hp => (repeat (first | exact Picks.nil | (apply Picks.cons; (focus repeat constructor))))
  case h1 => rfl
  (try simp only [ca_, na_, -eq_self])
  refine CY (by repeat constructor) (by (repeat constructor) : Pick _ (d4 x _ _ ln) _) ?_
  (first | refine bG ((y, (if jc = 1 then some ⟨G, o_, none⟩ else (some (⟨G, o_, none⟩ : Addr)).map (·.add (1 * 1)), jc - 1))) rfl ?_ | refine jW ((y, (if jc = 1 then some ⟨G, o_, none⟩ else (some (⟨G, o_, none⟩ : Addr)).map (·.add (1 * 1)), jc - 1))) ?_)
  (repeat (first | exact .refl | exact .nil | (apply Imp.pick; (focus ((repeat constructor); done))) | refine .drop ?_))
 | false =>
  simp only [wM, ca_, na_, -eq_self]
  unfold GR
  refine' aj (pk (v := v) (x := y.2.x) (l := y.2.l) ?h1) ?hp fun _ => ?_
  case hp => (repeat (first | exact Picks.nil | (apply Picks.cons; (focus repeat constructor))))
  case h1 => rfl
  (try simp only [ca_, na_, -eq_self])
  (first | refine bG ((y, (if jc = 1 then some ⟨G, o_, none⟩ else (some (⟨G, o_, none⟩ : Addr)).map (·.add (1 * 1)), jc - 1))) rfl ?_ | refine jW ((y, (if jc = 1 then some ⟨G, o_, none⟩ else (some (⟨G, o_, none⟩ : Addr)).map (·.add (1 * 1)), jc - 1))) ?_)
  (repeat (first | exact .refl | exact .nil | (apply Imp.pick; (focus ((repeat constructor); done))) | refine .drop ?_))
theorem QB (x y:Int × Int):∀w,(Op.eqFields 9999 #[.int .i64 x.1,.int .i64 x.2] #[.int .i64 y.1,.int .i64 y.2] (p_.fieldsOf 122).toList).run p_ w= .ok (decide (x.1=y.1)&&(decide (x.2=y.2)&&(true))) w:=fun w=>by
 have h:(p_.fieldsOf 122).toList=(#[⟨"Kind",3,0,false,"","",0⟩,⟨"N",3,1,false,"","",8⟩]:Array Field).toList:=by kernel_rfl
 rw[h]
 exact Gh x.1 y.1 (by decide) (by rfl) (by rfl) (by rfl) (Gh x.2 y.2 (by decide) (by rfl) (by rfl) (by rfl) Gg)
theorem FC {W:World}{ox oy:Operand}(x y:Int × Int):aT p_ W [] (eo .eql 122 ox oy (.agg #[.int .i64 x.1,.int .i64 x.2]) (.agg #[.int .i64 y.1,.int .i64 y.2])) (.bool (decide (x.1=y.1)&&(decide (x.2=y.2)&&true))):=
 AW (by kernel_rfl) (by kernel_rfl) (by kernel_rfl) (QB x y)
theorem r9 {W:World}[hG:Gl W]{m:List UInt8}{st n:Int}{fs:List FD.Fd}{a:Option Addr}{c:Nat}{A:HP}(hA:gD W A a fs)(hl:oz fs)(h:za fs=some (1,n))(h1:200<=st)(h2:st≠204)(h3:st≠304)(hm:m=db):Cn p_ 50 [az m,.int .i64 st,.slice a fs.length c] W [A] (fun _:Unit=> .tuple #[.agg #[.int .i64 1,.int .i64 n],.int .i64 0]) (fun _=>[A]):=by
 subst hm
 (refine Shp.cn (Sg.g_ Tryz.call50 Tryz.func50 (an:={cuts:=[(6,[10])]})) fun F=>?_;simp only[ca_,na_])
 refine aS fun g=>?_
 refine dt (fun x=>pu (x= .bool false)::pt g (.cells #[.int .i64 0,.int .i64 0] 122)::A::F) ?_ ?_
 rotate_left
 ·refine o_ (Sl.fK (l:=db) (m:=[72,69,65,68]) (by decide)) ?_
  refine af ?_;(((refine o_ (Sl.bJ ?hcq) ?_);(case hcq=>(first|omega|(simp only[List.length_nil,List.length_cons];omega)))));refine af ?_;(((refine o_ (Sl.bL ?hcq) ?_);(case hcq=>(first|omega|(simp only[List.length_nil,List.length_cons];omega)))));refine af ?_;(((refine o_ (Sl.bL ?hcq) ?_);(case hcq=>(first|omega|(simp only[List.length_nil,List.length_cons];omega)))));refine af (o_ (Sl.fK (l:=db) (m:=[67,79,78,78,69,67,84]) (by decide)) ?_)
  exact ao (ao (o_ am (aI (.pu rfl .refl))))
 intro ds z
 refine aX .here fun hz=>?_
 subst hz
 refine af (o_ bM ?_)
 refine' aj (qn (a:=a) (c:=c) (m:= .string ⟨#[]⟩) (tg:= .string ⟨#[]⟩) (mi:=1) hA hl h) ?hp fun _=>?_
 case hp=>(repeat(first|exact Picks.nil|(apply Picks.cons;(focus repeat constructor))))
 refine aq ?_
 refine bI ?_;refine bI ?_;refine aS fun g=>?_;(((refine' aG ?hp ?hn ?hv ?h1 ?_);(case hp=>(repeat constructor));(case hn=>rfl);(case hv=>rfl);(case h1=>simp[Value.oneCell',az])));(((refine o_ (Sl.cv ?hcq) ?_);(case hcq=>(first|omega|(simp only[List.length_nil,List.length_cons];omega)))));refine ab (iS ?_);refine ab (o_ bM ?_);refine ab (o_ (FC (1,n) (0,0)) ?_)
 rw[dF_ (by decide:¬(1:Int)=0),Bool.false_and]
 refine o_ av (af (iS ?_));(((refine' aG ?hp ?hn ?hv ?h1 ?_);(case hp=>(repeat constructor));(case hn=>rfl);(case hv=>rfl);(case h1=>simp[Value.oneCell',az])));(((refine' aP (cB ?hn) ?hi ?_);(case hi=>exact aA);(case hn=>rfl)))
 refine aO () ?_
 exact aA
structure RpOk (b:List UInt8)(P:Ps)(X:List FD.Fd)(D:List UInt8):Prop where
 fd:fJ (fq true) b=some (P,D)
 bl:b.length<=1048576
 sp:∃h,b=h++D
 dn:P.done=true
 rp:P.reply=true
 st:P.status=200
 mi:P.minor=1
 fs:P.fs=X
 hk:oz X
 ln:za X=some (1,(D.length:Int))
 d0:0<D.length
 fl:X.length<=1000
theorem QC {W:World}[hG:Gl W]{x gn j k H:Nat}{id si kd nn:Int}{t b D ho pa ke:List UInt8}{f bb:AC}{tv lo:List Value}{P:Ps}{X:List FD.Fd}{ba:Option Addr}{cap:Nat}{A:HP}(htv:tv.length=6)(hlo:lo.length=12)(hA:RdB W A ba b.length (b.map Sl.B))(hcap:b.length<=cap)(h:RpOk b P X D):
  Cn p_ 43 [pC x,.slice ba b.length cap] W [d4 x gn (pC j) ⟨si,false,pC H,.pointer none,kd,nn,.slice none 0 0⟩,dJ H (fq true),A,dW j k id t f bb gn tv ho pa ke lo (oC t f)] (fun _:Nat × AC=> .tuple #[.bool true,.int .i64 0,.int .i64 0])
   (fun y=>[d4 x gn (pC j) ⟨si,true,pC H,pC y.1,1,D.length,.slice y.2.1 D.length y.2.2⟩,dJ H P,A,dW j k id t f bb gn tv ho pa ke lo (oC t f),Sl 1 5 y.2.1 y.2.2 D.length (D.map Sl.B)]):=by
 obtain⟨hd,hb⟩:=h.sp
 have hlen:b.length=hd.length+D.length:=by rw[hb,List.length_append]
 have hd0:=h.d0
 have hbl:=h.bl
 obtain⟨t0,t1,t2,t3,t4,t5,rfl⟩:∃a b c d e f,tv=[a,b,c,d,e,f]:=by
  match tv,htv with
  |[a,b,c,d,e,f],_=>exact⟨a,b,c,d,e,f,rfl⟩
 obtain⟨l0,l1,l2,l3,l4,l5,l6,l7,l8,l9,la,lb,rfl⟩:∃a b c d e f g h i j k l,lo=[a,b,c,d,e,f,g,h,i,j,k,l]:=by
  match lo,hlo with
  |[a,b,c,d,e,f,g,h,i,j,k,l],_=>exact⟨a,b,c,d,e,f,g,h,i,j,k,l,rfl⟩
 have hT:RdB W A (if cap=hd.length then ba else ba.map (·.add (hd.length * 1))) D.length (D.map Sl.B):=by
  have:=hA.cut (cap:=cap) (l:=hd.length) (h:=b.length) (by omega) (Nat.le_refl _) hcap
  rw[show b.length-hd.length=D.length by omega,hb,List.map_append,List.drop_left' (by simp),List.take_of_length_le (by simp)]at this
  exact this
 obtain⟨ta,hta⟩:∃ta,ta=(if cap=hd.length then ba else ba.map (·.add (hd.length * 1))):=⟨_,rfl⟩
 rw[<- hta]at hT
 (refine Shp.cn (Sg.g_ Tryz.call43 Tryz.func43 (an:={loops:=[(2,[1])]})) fun F=>?_;simp only[ca_,na_])
 unfold d4 wL dW qM oC
 refine aq ?_
 (try dsimp only)
 refine o_ ah (o_ ae (aM ?_));refine ab (ab (o_ aK (ab ?_)));(((refine o_ (Sl.gO ?hcq) ?_);(case hcq=>(first|omega|(simp only[List.length_nil,List.length_cons];omega)))));refine o_ am (o_ ah (o_ ae (bU ?_)))
 refine a_ (fun m y=>match m with|0=>[ex fun R:Nat=>all [pu (y= .slice ta D.length (cap-hd.length)),pt x (.cells #[.int .i64 0,.int .i64 0,pC gn,.int .i64 1,.int .i64 0,pC j,.int .i64 si,.bool true,pC H,pC R,.int .i64 1,.int .i64 (D.length:Int),.slice none 0 0] 124),pt R (.cells (nI 1 D.length 1048576 0 (none,0) 0 false).toArray 234),dJ H P,A,dW j k id t f bb gn [t0,t1,t2,t3,t4,t5] ho pa ke [l0,l1,l2,l3,l4,l5,l6,l7,l8,l9,la,lb] (oC t f)]]++F|_=>pu (y= .slice ba b.length cap)::_) 1 (.pu rfl .refl) ?_
 intro m ds y
 cases m with
 |succ m=>
  refine aX .here fun hy=>?_
  subst hy
  refine o_ ah (o_ ae (aM ?_));refine o_ mw ?_;refine ai (o_ ah (o_ ae (aM ?_)))
  refine' aj (A9 (G:=H) (cap:=cap) hA h.fd rfl hbl) ?hp fun _=>?_
  case hp=>(repeat(first|exact Picks.nil|(apply Picks.cons;(focus repeat constructor))))
  rw[h.dn,show(b.length:Int)-(D.length:Int)=(hd.length:Int) by omega]
  refine aq ?_
  refine bI ?_;refine bI ?_;refine bI ?_;(((refine o_ (Sl.cE ?hcq) ?_);(case hcq=>(first|omega|(simp only[List.length_nil,List.length_cons];omega)))));refine ab (ab (o_ bA (o_ am (af (o_ (lj hd.length rfl (by omega)) ?_)))))
  rw[show b.length-hd.length=D.length by omega,<- hta]
  refine o_ ah (o_ ae (aM ?_))
  refine' aj (nF (g:=H) (p:=P) h.dn h.rp (by rw[h.fs];have:=h.fl;omega)) ?hp fun r=>?_
  case hp=>(repeat(first|exact Picks.nil|(apply Picks.cons;(focus repeat constructor))))
  obtain⟨ra,rc⟩:=r
  rw[h.st,h.mi,h.fs]
  refine aq ?_
  (try dsimp only)
  refine aN (by(repeat constructor):Pick _ (Sl 2 192 ra rc _ _) _) fun _ _ _ hs=>?_
  refine bI ?_;refine bI ?_;refine bI ?_;refine bI ?_;(((refine o_ (Sl.bJ ?hcq) ?_);(case hcq=>(first|omega|(simp only[List.length_nil,List.length_cons];omega)))));refine af (o_ ah (o_ ae (aM ?_)));refine o_ ah (o_ ae (o_ dP (aM ?_)))
  refine' aj (r9 (m:=db) (st:=200) (n:=(D.length:Int)) (c:=rc) (cg hs) h.hk h.ln (by decide) (by decide) (by decide) rfl) ?hp fun _=>?_
  case hp=>(repeat(first|exact Picks.nil|(apply Picks.cons;(focus repeat constructor))))
  refine aq ?_
  refine bI ?_;refine bI ?_;refine o_ ah (o_ ae (mI (n:=2) (vs:=[.int .i64 1,.int .i64 (D.length:Int)]) (cs':=[.int .i64 0,.int .i64 0,pC gn,.int .i64 1,.int .i64 0,pC j,.int .i64 si,.bool true,pC H,.pointer none,.int .i64 1,.int .i64 (D.length:Int),.slice none 0 0]) (by repeat constructor) rfl (Nat.le_of_ble_eq_true rfl) (by simp[Value.oneCell']) rfl ?_))
  (((refine o_ (Sl.cE ?hcq) ?_);(case hcq=>(first|omega|(simp only[List.length_nil,List.length_cons];omega)))));refine af ?_;refine o_ ah ?_;refine o_ ae ?_
  refine' aB (jd (n:=2) (o:=10) (vs:=[.int .i64 1,.int .i64 (D.length:Int)]) rfl ?hcv) ?hiv ?_
  case hiv=>(repeat(first|exact .refl|exact .nil|(apply Imp.pick;(focus ((repeat constructor);done)))|refine .drop ?_))
  case hcv=>exact fun i hi=>match i,hi with|0,_=>rfl|1,_=>rfl
  refine' aj (H8 (k:=1) (n:=(D.length:Int)) (most:=1048576) (.inr ⟨rfl,by omega⟩) (by decide) (by decide)) ?hp fun R=>?_
  case hp=>exact .nil
  refine aq ?_
  refine bI ?_;refine bI ?_;refine o_ ah (o_ ae (bU ?_))
  refine bq 0 (by omega) (.ex R (.all ?_))
  unfold dW qM oC
  refine aq ?_
  (try dsimp only)
  exact .pu rfl aA
 |zero=>
  refine bt .here fun R=>aE .here ?_
  refine aq ?_
  refine aX .here fun hy=>?_
  subst hy
  refine o_ ah (o_ ae (aM ?_));refine o_ cp ?_;refine af (o_ ah (o_ ae (aM ?_)))
  refine' aj (Gm (G:=R) (most:=1048576) (cap:=cap-hd.length) hT hd0 (by omega) (by decide)) ?hp fun r=>?_
  case hp=>(repeat(first|exact Picks.nil|(apply Picks.cons;(focus repeat constructor))))
  obtain⟨ra,rc⟩:=r
  refine aq ?_
  (try dsimp only)
  refine bI ?_;refine bI ?_;refine bI ?_;refine bI ?_;refine o_ ah (o_ ae (aM ?_))
  refine aN (by(repeat constructor):Pick _ (Sl 1 5 ra rc _ _) _) fun _ _ _ hs=>?_
  refine ym (fD (e:=5) (a:=ra) (cap:=rc) (by rw[List.length_map]) hs) (m6 hs) (by omega) (by repeat constructor) fun oa oc=>?_
  refine o_ ah (o_ ae (bU ?_));refine o_ aK (kN ?_)
  rw[show(D.length:Int)-(D.length:Int)=0 by omega]
  refine aO ((R,(oa,oc))) ?_
  exact aA
def r_:List UInt8:=[77,73,83,83]
def Tb (T:Nat)(Z:Cs)(t:List UInt8)(X:List FD.Fd)(D:List UInt8)(asked now:Int):={Z':Cs // Ct T Z (cO t) db fH X D 200 asked now Z'}
theorem Ju {W:World} [hG:Gl W] [hP:Gp W] {v w gn j k c ap lgx n ca T:Nat} {s:SvS} {cn:CnS} {id now asked:Int} {nm t O_ pa:List UInt8} {f f0 b r o xx dd:AC} {jb:Value} {Z:Cs} {X:List FD.Fd} {D:List UInt8} {AX AD:HP} {fn:Fn} {qa qb:Array Value} (hZ:CsOk T Z) (hX:gD W AX xx.1 X) (hx0:xx.1=none->X=[]) (hD:RdB W AD dd.1 D.length (D.map Sl.B)) (hd0:dd.1=none->D=[]) (hzH:zF fH<=T) (hzX:zF X<=T) (hzD:D.length<=T) (hok:AnsOk now nm t X D r_)
  (hn:cn.nx= .func fn qa qb) (hrow:cn.row= .slice r.1 1 r.2) (hrd:cn.rd=true) (hbg:cn.bg=false) (ho_:cn.out= .slice o.1 O_.length o.2) (hOl:O_.length<=1000000000) (hn2:n<=200) (hsw:s.w=w) (hca:s.ca=pE ca) (hlg:s.lg=pC lgx) (htl:t.length<=1000):
  Cn p_ 112 [pC v,pC j,.agg (ir X D xx dd).toArray,.int .i64 asked] W [cG v s,dW j k id t f b gn (iT t) [97] pa (cO t) cj (oC t f),lS f,fU ca Z,jf w now,eD k c nm jb,bQ c cn,d8 r [ap],mS o O_,dZ ap id t f0 (.pointer none),AX,AD,iz lgx n] (fun _:Tb T Z t X D asked now × (AC × AC)=> .tuple #[])
   (fun y=>[cG v s,lS f,fU ca y.1.1,jf w now,eD k c nm jb,bQ c (cn.wrote (O_++iy X D).length y.2),mS y.2.1 (O_++iy X D),d8 y.2.2 [],iz lgx (n+1)]):=by
 (refine Shp.cn (Sg.g_ Tryz.call112 Tryz.func112 (an:={cuts:=[(11,[9])],drs:=[(4,(.op 0 2 (.op 1 3 (.op 2 3 (.op 3 3 (.op 4 2 (.op 5 3 (.op 6 3 (.op 7 3 (.op 8 3 (.op 10 3 (.op 11 2 (.op 12 2 (.op 13 3 (.op 14 3 (.op 15 3 (.alt ((.op 9 0 (.alt ((.op 16 0 (.alt (.ofL [(17,0),(18,2),(19,3),(20,3),(21,0),(22,0),(23,1)]) (.ofL [(21,0),(17,0),(18,1),(19,1),(20,3),(22,0),(23,1)])))) (.ofL [(21,0),(16,0),(17,0),(18,1),(19,1),(20,3),(22,0),(23,1)])))) (.ofL [(21,0),(9,0),(16,0),(17,0),(18,1),(19,1),(20,3),(22,0),(23,1)])))))))))))))))))),(8,.ofL [(0,2),(1,3),(2,3),(3,3),(4,2),(5,3),(6,3),(7,3),(8,1),(10,3),(11,2),(12,2),(13,3),(14,3),(15,3),(9,0),(16,0),(17,0)]),(10,.ofL [(0,1),(1,1),(2,1),(3,1),(4,1),(5,1),(6,1),(7,1),(8,0)]),(11,.ofL [(0,2),(1,2),(2,1),(3,1),(4,1),(5,1),(6,1),(7,1),(8,1),(9,1),(11,2),(10,0),(12,0)])],rcuts:=[(5,[10,11])]}) (os:=[(4,[(9,[15,14,13,10,7,6,5,3,2,1]),(16,[10,7,6,5,3,2,1]),(21,[20,19,15,14,13,10,8,7,6,5,3,2,1]),(22,[20])]),(8,[(9,[15,14,13,10,7,6,5,3,2,1]),(16,[10,7,6,5,3,2,1])])])) fun F=>?_;simp only[ca_,na_])
 refine aU fun x6=>?_
 subst hsw
 obtain⟨fa,fc⟩:=f
 obtain⟨xa,xc⟩:=xx
 obtain⟨da,dc⟩:=dd
 cases s
 rename_i w_ g_ cl lk nu ca_ lg out
 (try dsimp only at *)
 subst hca hlg
 unfold lS
 (try dsimp only)
 refine aN (by(repeat constructor):Pick _ (Sl 2 192 fa fc 1 (fH.flatMap cT)) _) fun _ _ _ hs=>?_
 have hA:gD W (Sl 2 192 fa fc 1 (fH.flatMap cT)) fa fH:=cg (l:=fH) hs
 have hfa:fa=none->fH=[]:=by
  rintro rfl
  obtain⟨g,hg⟩:=hs (by decide)
  cases hg
 unfold cG tI dW qM iT cj oC ir
 refine aq ?_
 (try dsimp only)
 refine o_ ah (o_ ae (o_ dP ?_))
 refine' aB (jd (n:=4) (o:=2) (vs:=[az db,az t,.int .i64 1,.slice fa 1 fc]) rfl ?hcv) ?hiv ?_
 case hiv=>(repeat(first|exact .refl|exact .nil|(apply Imp.pick;(focus ((repeat constructor);done)))|refine .drop ?_))
 case hcv=>exact fun i hi=>match i,hi with|0,_=>rfl|1,_=>rfl|2,_=>rfl|3,_=>rfl
 refine aS fun g=>?_;(((refine' aG ?hp ?hn ?hv ?h1 ?_);(case hp=>(repeat constructor));(case hn=>rfl);(case hv=>rfl);(case h1=>simp[Value.oneCell',az])))
 rename Nat=>x8
 refine fA ?_
 refine o_ ah (o_ ae (aM ?_));refine ao (ao (ao (o_ am (af (o_ ah (o_ ae (o_ dP (aM ?_))))))));refine ab (o_ ae (ab (aM ?_)));refine ab (c_ CS fun _=>?_)
 refine o_ av (ai (aV (ay ah .nil ?_)));refine ay ae .nil ?_;(((refine' ay (aQ ?hc) ?hi ?_);(case hi=>exact .pick (by repeat constructor) .nil);(case hc=>repeat constructor)));refine ay ah .nil ?_;refine ay ae .nil ?_;(((refine' ay (aQ ?hc) ?hi ?_);(case hi=>exact .pick (by repeat constructor) .nil);(case hc=>repeat constructor)));(((refine' aP (bK ?hn) ?hi ?_);(case hi=>exact .pick (by repeat constructor) .nil);(case hn=>rfl)));(((refine' ay (bK ?hn) ?hi ?_);(case hi=>exact .pick (by repeat constructor) .nil);(case hn=>rfl)));refine ay ah .nil ?_;refine ay ae .nil ?_;(((refine' ay (aQ ?hc) ?hi ?_);(case hi=>exact .pick (by repeat constructor) .nil);(case hc=>repeat constructor)))
 refine' aj (Jo (m:=db) (t:=t) (mi:=1) (f:=(fa,fc))) ?hp fun _=>?_
 case hp=>exact .nil
 refine aq ?_
 (try dsimp only)
 (repeat((refine' cU (aI ?hcs) ?_);(case hcs=>(repeat(first|exact .refl|exact .nil|(apply Imp.pick;(focus ((repeat constructor);done)))|refine .drop ?_)))))
 refine c_ ti fun _=>?_
 (repeat((refine' cU (aI ?hcs) ?_);(case hcs=>(repeat(first|exact .refl|exact .nil|(apply Imp.pick;(focus ((repeat constructor);done)))|refine .drop ?_)))))
 refine' aj (FD.store (R:=fH) (X:=X) (D:=D) (key:=cO t) (m:=db) (tg:=t) (mi:=1) (st:=200) (asked:=asked) (came:=now) (cr:=fc) (cx:=xc) (cd:=dc) hZ hA hfa hX hx0 hD hd0 hzH hzX hzD (by simp[cO];omega)) ?hp fun z=>?_
 case hp=>(repeat(first|exact Picks.nil|(apply Picks.cons;(focus repeat constructor))))
 refine aq ?_
 refine ip fun ds=>?_
 refine aV (t_ ae (cu ?_));(((refine' aP (bK ?hn) ?hi ?_);(case hi=>exact .pick (by repeat constructor) .nil);(case hn=>rfl)));refine t_ ah (t_ ae (t_ dP (cu ?_)))
 refine' aj (CR (l:= .slice fa 1 fc) (X:=X) (D:=D) (xx:=(xa,xc)) (dd:=(da,dc)) hX (fun e=>by rw[hx0 e];rfl) hok.hk.1 hD (fun e=>by rw[hd0 e];rfl) hok.dl) ?hp fun u=>?_
 case hp=>(repeat(first|exact Picks.nil|(apply Picks.cons;(focus repeat constructor))))
 obtain⟨⟨ua,uc⟩,wa,wc⟩:=u
 refine aq ?_
 (try dsimp only)
 refine aN (by(repeat constructor):Pick _ (Sl 2 192 ua uc _ _) _) fun _ _ _ hs3=>?_
 refine aN (by(repeat constructor):Pick _ (Sl 1 5 wa wc _ _) _) fun _ _ _ hs4=>?_
 refine' aj (yl (v:=v) (w:=w_) (gn:=gn) (s:=⟨w_,g_,cl,lk,nu,pE ca,pC lgx,out⟩) (j:=j) (k:=k) (c:=c) (p:=ap) (cn:=cn) (id:=id) (now:=now) (nm:=nm) (t:=t) (O:=O_) (wd:=r_) (ho:=[97]) (pa:=pa) (ke:=cO t) (f:=(fa,fc)) (f0:=f0) (b:=b) (r:=r) (o:=o) (tv:=iT t) (lo:=cj) (se:=oC t (fa,fc)) (X:=X) (D:=D) (xx:=(ua,uc)) (dd:=(wa,wc)) rfl rfl rfl hn hrow hrd hbg ho_ (cg hs3) (fun e=>List.eq_nil_of_length_eq_zero (m6 hs3 e)) hok.hk (fD (e:=5) (a:=wa) (cap:=wc) (by rw[List.length_map]) hs4) (fun e=>List.eq_nil_of_length_eq_zero (m6 hs4 e)) hok.hh hok.dl hOl hok.en hok.ln hn2) ?hp fun y=>?_
 case hp=>(repeat(first|exact Picks.nil|(apply Picks.cons;(focus repeat constructor))))
 refine aq ?_
 refine aO ((z,y)) ?_
 exact aA
theorem QD {W:World}{x gn st:Nat}{jb:Value}{r:Ln}{q:Ca}{pa:AC}{m:Value}{us:Int}(h0:0<=us)(h1:us<=1000):Cn p_ 103 [pC x] W [d4 x gn jb r,ek gn st q pa m (us+1)] (fun _:Unit=>jb) (fun _=>[d4 x gn (.pointer none) r,ek gn st q pa m us]):=by
 (refine Shp.cn (Sg.g_ Tryz.call103 Tryz.func103) fun F=>?_;simp only[ca_,na_])
 unfold d4 wL ek Fq
 refine o_ ah (o_ ae (aM ?_));refine o_ ah (o_ ae (bU ?_));refine o_ ah (o_ ae (aM ?_));refine o_ ah (o_ ae (aM ?_));refine kN ?_;refine o_ ah (o_ ae (bU ?_))
 rw[show us+1-1=us by omega]
 refine aO () ?_
 exact aA
theorem QE {W:World}{x gn st p:Nat}{jb:Value}{r:Ln}{q:Ca}{pa:AC}{m:Value}{us:Int}:Cn p_ 100 [pC x] W [d4 x gn jb r,ek gn st q pa m us,pj pa p] (fun _:Unit=>pC p) (fun _=>[d4 x gn jb r,ek gn st q pa m us,pj pa p]):=by
 (refine Shp.cn (Sg.g_ Tryz.call100 Tryz.func100 (an:={drs:=[(1,.ofL [(0,1),(1,1),(2,1),(3,1),(4,1),(5,1),(6,1),(7,1),(8,1),(9,1),(10,1),(11,1),(12,1),(13,1)])]})) fun F=>?_;simp only[ca_,na_])
 obtain⟨pa,pc⟩:=pa
 unfold d4 wL ek Fq pj
 (try dsimp only)
 refine be (by(repeat constructor):Pick _ (Sl 1 216 pa pc 1 _) _) (by decide) fun G hG=>?_
 subst hG
 refine aV (t_ ah (t_ ae (cu ?_)));refine t_ ah (t_ ae (cu ?_));refine t_ ah (t_ ae (cu ?_));(((refine' aP (br 0 rfl ?hcq) .nil ?_);(case hcq=>(first|omega|decide|(simp;done)))));(((refine' aP (bF ?hc) ?hi ?_);(case hi=>exact aA);(case hc=>rfl)))
 refine aO () ?_
 exact aA
theorem FE {W:World}{L L':List HP}{Kp:PK}{k:Value->WP}{p:Nat}(P:Pick L (mW p) L')(h:aR W (iu p 1::L') (k (.int .i64 0))):aR W L (opN p_ (bT (fn 109) [pC p,.int .i64 0,.bool true]) Kp k):=by
 refine bt P fun z=>aE .here ?_
 refine aq ?_
 refine aX .here fun hz=>?_
 refine aj (PL.P6 (p:=p) (gs:=z.1) (Z:=z.2) (id:=0) (keep:=true) (hz.wf (by decide) (by decide) (by decide) (by decide) (by decide))) (.cons .here .nil) fun _=>?_
 rw[show PL.xY z.2 0=0 by unfold PL.xY;rw[hz.b0 rfl]]
 refine bu (.ex (z.1,PL.done z.2 0 true) (.all ?_)) h
 refine aq ?_
 exact .pu (E8 hz) .refl
theorem Vb {W:World}{L L1 L2:List HP}{Kp:PK}{k:Value->WP}{Y:List FD.Fd}{a:Option Addr}{c g:Nat}(hk:oz Y)(p:Pick L (Sl 2 192 a c Y.length (Y.flatMap cT)) L1)(q:Pick L1 (pt g (.cells #[az qm] 9)) L2)(h:∀r:AC,aR W (Sl 2 192 a c Y.length (Y.flatMap cT)::pt g (.cells #[az qm] 9)::Sl 2 192 r.1 r.2 (cX Y [qm]).length ((cX Y [qm]).flatMap cT)::L2) (k (.slice r.1 (cX Y [qm]).length r.2))):
  aR W L (opN p_ (bT (fn 110) [.slice a Y.length c,.slice (some ⟨g,0,none⟩) 1 1]) Kp k):=by
 refine aN p fun _ _ _ hs=>?_
 refine aj (iJ (l:=Y) (N:=[qm]) (c:=c) (nc:=1) (cg hs) hk (fE (g:=g) (T:=9) (by rfl)) (by decide) (by decide)) (.cons p (.cons q .nil)) fun r=>?_
 refine aq ?_
 exact h r
def oM:List UInt8:=[49,46,49,32,103,97,116,101,104,111,117,115,101]
def oN:List UInt8:=[86,105,97]
def VO (g:Nat):HP:=pt g (.cells #[az oN,az oM] 192)
theorem Vc {W:World}{L:List HP}{Kp:PK}{k:Value->WP}(h:∀g,aR W (VO g::L) (k (.slice (some ⟨g,0,none⟩) 1 1))):aR W L (opN p_ (cm 46 1 [(0,.agg #[az oN,az oM])]) Kp k):=
 d7 (n:=1) (vs:=[.agg #[az oN,az oM]]) rfl (by decide) rfl (by intro v hv;rw[List.mem_singleton.1 hv];rfl) (by decide) h
theorem QF {W:World}{L L1 L2:List HP}{Kp:PK}{k:Value->WP}{Y:List FD.Fd}{a:Option Addr}{c g:Nat}(hY:Y.length<=4194304)(p:Pick L (Sl 2 192 a c Y.length (Y.flatMap cT)) L1)(q:Pick L (VO g) L2)(h:∀a' c',aR W (Sl 2 192 a' c' (Y++[(oN,oM)]).length ((Y++[(oN,oM)]).flatMap cT)::L1) (k (.slice a' (Y++[(oN,oM)]).length c'))):
  aR W L (opN p_ (jU #[46,46] 46 [.slice a Y.length c,.slice (some ⟨g,0,none⟩) 1 1]) Kp k):=by
 refine bV (m:=1) (news:=[az oN,az oM]) p (bR (s:=2) (e':=192) (by kernel_rfl) q (by rfl) (by intro u hu;simp at hu;rcases hu with rfl|rfl <;> rfl)) (by omega) (by omega) fun a' c'=>?_
 have e1:(Y++[(oN,oM)]).length=Y.length+1:=by simp
 have e2:(Y++[(oN,oM)]).flatMap cT=Y.flatMap cT++[az oN,az oM]:=by simp[cT]
 rw[<- e1,<- e2]
 exact h a' c'
def li (X:List FD.Fd):List FD.Fd:=cX (ej X) [qm]++[(oN,oM)]
structure ToOk (T:Nat)(X:List FD.Fd)(D:List UInt8):Prop where
 cc:bH X nK=[]
 zx:zF X<=2097152
 ks:oz (ej X)
 zh:zF fH<=T
 zs:zF (li X)<=T
 zd:D.length<=T
theorem QG {W:World} [hG:Gl W] [hP:Gp W] {v w gn j k c ap lgx n ca T x H R p st:Nat} {s:SvS} {cn:CnS} {id now asked us:Int} {nm t O_ pth:List UInt8} {f f0 bb r o gt pa:AC} {jb m:Value} {Z:Cs} {X:List FD.Fd} {D b:List UInt8} {P:Ps} {q:Ca} {fn:Fn} {qa qb:Array Value} (hZ:CsOk T Z) (h:RpOk b P X D) (hT:ToOk T X D) (hok:AnsOk now nm t (li X) D r_)
  (hn:cn.nx= .func fn qa qb) (hrow:cn.row= .slice r.1 1 r.2) (hrd:cn.rd=true) (hbg:cn.bg=false) (ho_:cn.out= .slice o.1 O_.length o.2) (hOl:O_.length<=1000000000) (hn2:n<=200) (hsw:s.w=w) (hca:s.ca=pE ca) (hlg:s.lg=pC lgx) (htl:t.length<=1000) (hus:0<=us) (hus1:us<=1000):
  Cn p_ 45 [pC v,pC x,.int .i64 0] W [cG v s,d4 x gn (pC j) ⟨asked,true,pC H,pC R,1,D.length,.slice gt.1 D.length gt.2⟩,dJ H P,ek gn st q pa m (us+1),pj pa p,mW p,Sl 1 5 gt.1 gt.2 D.length (D.map Sl.B),dW j k id t f bb gn (iT t) [97] pth (cO t) cj (oC t f),lS f,fU ca Z,jf w now,eD k c nm jb,bQ c cn,d8 r [ap],mS o O_,dZ ap id t f0 (.pointer none),iz lgx n] (fun _:Tb T Z t (li X) D asked now × (AC × AC)=> .tuple #[])
   (fun y=>[cG v s,d4 x gn (.pointer none) ⟨asked,true,pC H,pC R,1,D.length,.slice gt.1 D.length gt.2⟩,ek gn st q pa m us,pj pa p,iu p 1,lS f,fU ca y.1.1,jf w now,eD k c nm jb,bQ c (cn.wrote (O_++iy (li X) D).length y.2),mS y.2.1 (O_++iy (li X) D),d8 y.2.2 [],iz lgx (n+1)]):=by
 (refine Shp.cn (Sg.g_ Tryz.call45 Tryz.func45 (an:={cuts:=[(7,[])],drs:=[(4,.ofL [(0,1),(2,2),(3,3),(4,3),(5,3),(6,3),(7,2),(1,0),(8,0)]),(7,(.op 0 2 (.op 1 2 (.op 5 3 (.op 8 2 (.op 9 3 (.op 10 3 (.op 11 3 (.alt ((.op 2 0 (.alt ((.op 3 0 (.alt ((.op 4 0 (.alt ((.op 6 0 (.alt (.ofL [(7,0),(12,3),(13,0),(14,0)]) (.ofL [(13,0),(7,0),(12,1),(14,0)])))) (.ofL [(13,0),(6,0),(7,0),(12,1),(14,0)])))) ((.alt ((.op 6 0 (.alt ((.op 4 0 (.alt (.ofL [(7,0),(12,3),(13,0),(14,0)]) (.ofL [(13,0),(7,0),(12,1),(14,0)])))) (.ofL [(13,0),(4,0),(7,0),(12,1),(14,0)])))) ((.op 13 0 (.alt (.ofL [(4,0),(6,0),(7,0),(12,1),(14,0)]) (.ofL [(6,0),(4,0),(7,0),(12,1),(14,0)]))))))))) ((.alt ((.op 6 0 (.alt ((.op 3 0 (.alt ((.op 4 0 (.alt (.ofL [(7,0),(12,3),(13,0),(14,0)]) (.ofL [(13,0),(7,0),(12,1),(14,0)])))) (.ofL [(13,0),(4,0),(7,0),(12,1),(14,0)])))) (.ofL [(13,0),(3,0),(4,0),(7,0),(12,1),(14,0)])))) ((.op 13 0 (.alt ((.op 3 0 (.alt (.ofL [(4,0),(6,0),(7,0),(12,1),(14,0)]) (.ofL [(6,0),(4,0),(7,0),(12,1),(14,0)])))) (.ofL [(6,0),(3,0),(4,0),(7,0),(12,1),(14,0)]))))))))) ((.alt ((.op 3 0 (.alt ((.op 2 0 (.alt ((.op 4 0 (.alt ((.op 6 0 (.alt (.ofL [(7,0),(12,3),(13,0),(14,0)]) (.ofL [(13,0),(7,0),(12,1),(14,0)])))) (.ofL [(13,0),(6,0),(7,0),(12,1),(14,0)])))) ((.alt ((.op 6 0 (.alt ((.op 4 0 (.alt (.ofL [(7,0),(12,3),(13,0),(14,0)]) (.ofL [(13,0),(7,0),(12,1),(14,0)])))) (.ofL [(13,0),(4,0),(7,0),(12,1),(14,0)])))) ((.op 13 0 (.alt (.ofL [(4,0),(6,0),(7,0),(12,1),(14,0)]) (.ofL [(6,0),(4,0),(7,0),(12,1),(14,0)]))))))))) ((.alt ((.op 6 0 (.alt ((.op 2 0 (.alt ((.op 4 0 (.alt (.ofL [(7,0),(12,3),(13,0),(14,0)]) (.ofL [(13,0),(7,0),(12,1),(14,0)])))) (.ofL [(13,0),(4,0),(7,0),(12,1),(14,0)])))) (.ofL [(13,0),(2,0),(4,0),(7,0),(12,1),(14,0)])))) ((.op 13 0 (.alt ((.op 2 0 (.alt (.ofL [(4,0),(6,0),(7,0),(12,1),(14,0)]) (.ofL [(6,0),(4,0),(7,0),(12,1),(14,0)])))) (.ofL [(6,0),(2,0),(4,0),(7,0),(12,1),(14,0)]))))))))) ((.alt ((.op 6 0 (.alt ((.op 2 0 (.alt ((.op 3 0 (.alt ((.op 4 0 (.alt (.ofL [(7,0),(12,3),(13,0),(14,0)]) (.ofL [(13,0),(7,0),(12,1),(14,0)])))) (.ofL [(13,0),(4,0),(7,0),(12,1),(14,0)])))) (.ofL [(13,0),(3,0),(4,0),(7,0),(12,1),(14,0)])))) ((.alt ((.op 3 0 (.alt ((.op 2 0 (.alt ((.op 4 0 (.alt (.ofL [(7,0),(12,3),(13,0),(14,0)]) (.ofL [(13,0),(7,0),(12,1),(14,0)])))) (.ofL [(13,0),(4,0),(7,0),(12,1),(14,0)])))) (.ofL [(13,0),(2,0),(4,0),(7,0),(12,1),(14,0)])))) ((.op 13 0 (.alt (.ofL [(2,0),(3,0),(4,0),(7,0),(12,1),(14,0)]) (.ofL [(3,0),(2,0),(4,0),(7,0),(12,1),(14,0)]))))))))) ((.op 13 0 (.alt ((.op 2 0 (.alt ((.op 3 0 (.alt (.ofL [(4,0),(6,0),(7,0),(12,1),(14,0)]) (.ofL [(6,0),(4,0),(7,0),(12,1),(14,0)])))) (.ofL [(6,0),(3,0),(4,0),(7,0),(12,1),(14,0)])))) ((.alt ((.op 3 0 (.alt ((.op 2 0 (.alt (.ofL [(4,0),(6,0),(7,0),(12,1),(14,0)]) (.ofL [(6,0),(4,0),(7,0),(12,1),(14,0)])))) (.ofL [(6,0),(2,0),(4,0),(7,0),(12,1),(14,0)])))) ((.op 6 0 (.alt (.ofL [(2,0),(3,0),(4,0),(7,0),(12,1),(14,0)]) (.ofL [(3,0),(2,0),(4,0),(7,0),(12,1),(14,0)])))))))))))))))))))))),(8,.ofL [(0,1),(1,1),(2,1),(3,1),(4,1),(5,1),(6,1),(7,0)])],rcuts:=[(8,[13])]}) (os:=[(4,[(1,[6,5,4,3])]),(7,[(2,[11,10,9,5]),(3,[11,10,9,5]),(4,[11,10,9,5]),(6,[11,10,9]),(7,[11,10,9]),(13,[12,11,10,9,5])])])) fun F=>?_;simp only[ca_,na_])
 unfold d4 wL
 (try dsimp only)
 refine o_ ah (o_ ae (aM ?_))
 refine' aj (nF (g:=H) (p:=P) h.dn h.rp (by rw[h.fs];have:=h.fl;omega)) ?hp fun u=>?_
 case hp=>(repeat(first|exact Picks.nil|(apply Picks.cons;(focus repeat constructor))))
 obtain⟨ra,rc⟩:=u
 rw[h.st,h.mi,h.fs]
 refine aq ?_
 (try dsimp only)
 refine aN (by(repeat constructor):Pick _ (Sl 2 192 ra rc _ _) _) fun _ _ _ hs=>?_
 have hX:=cg (W:=W) (a:=ra) (c:=rc) (l:=X) hs
 refine bI ?_;refine bI ?_;refine bI ?_;refine bI ?_
 refine' aj (QD (x:=x) (jb:=pC j) (r:=⟨asked,true,pC H,pC R,1,D.length,.slice gt.1 D.length gt.2⟩) (us:=us) hus hus1) ?hp fun _=>?_
 case hp=>(repeat(first|exact Picks.nil|(apply Picks.cons;(focus repeat constructor))))
 refine aq ?_
 refine' aj (FD.f5 (n:=nK) (c:=rc) hX h.hk (by decide)) ?hp fun u=>?_
 case hp=>(repeat(first|exact Picks.nil|(apply Picks.cons;(focus repeat constructor))))
 rw[hT.cc]
 refine aq ?_
 refine c_ Pn fun _=>?_
 unfold d4 wL
 (try dsimp only)
 refine o_ ah (o_ ae (o_ dP (aM ?_)));(((refine o_ (Sl.kq ?hcq) ?_);(case hcq=>(first|omega|(simp only[List.length_nil,List.length_cons];omega)))));refine ab (ab ?_);(((refine o_ (Sl.gO ?hcq) ?_);(case hcq=>(first|omega|(simp only[List.length_nil,List.length_cons];omega)))));refine o_ av (ab (ab (o_ cP (o_ av (ab (ab ?_))))));(((refine o_ (Sl.cv ?hcq) ?_);(case hcq=>(first|omega|(simp only[List.length_nil,List.length_cons];omega)))));refine o_ av (eb ?_)
 refine aV (ay ah .nil ?_);refine ay ae .nil ?_;refine ay dP .nil ?_;(((refine' ay (aQ ?hc) ?hi ?_);(case hi=>exact .pick (by repeat constructor) .nil);(case hc=>repeat constructor)))
 refine' aj (QE (x:=x) (jb:= .pointer none) (r:=⟨asked,true,pC H,pC R,1,D.length,.slice gt.1 D.length gt.2⟩)) ?hp fun _=>?_
 case hp=>(repeat(first|exact Picks.nil|(apply Picks.cons;(focus repeat constructor))))
 unfold d4 wL
 refine aq ?_
 (try dsimp only)
 (repeat((refine' cU (aI ?hcs) ?_);(case hcs=>(repeat(first|exact .refl|exact .nil|(apply Imp.pick;(focus ((repeat constructor);done)))|refine .drop ?_)))))
 refine FE (by repeat constructor) ?_
 refine o_ bA (af (ip fun ds=>?_))
 refine' yn (fun z=>[ex fun y:Nat × AC=>all [pu (z=pC y.1),ly y.1 (li X) D y.2 gt,Sl 2 192 y.2.1 y.2.2 (li X).length ((li X).flatMap cT)],Sl 2 192 ra rc X.length (X.flatMap cT)]) ?hb ?hr
 case hb=>
  have hk2:(cX (ej X) [qm]).length<=4194304:=(qy [qm] hT.ks).1
  refine aV (ay bM .nil ?_);refine ay ah .nil ?_;refine ay ae .nil ?_;(((refine' ay (aQ ?hc) ?hi ?_);(case hi=>exact .pick (by repeat constructor) .nil);(case hc=>repeat constructor)))
  repeat' (first
   |(with_reducible refine e6 ?_ ?_)
   |((with_reducible refine' cU (aI ?hcs) ?_);(case hcs=>(repeat(first|exact .refl|exact .nil|(apply Imp.pick;(focus ((repeat constructor);done)))|refine .drop ?_))))
   |(with_reducible refine aS fun oo=>?_)
   |(refine' aj (BB (c:=rc) hX hT.zx) ?hp fun u=>?_;(case hp=>(repeat(first|exact Picks.nil|(apply Picks.cons;(focus repeat constructor)))));refine aq ?_)
   |(with_reducible refine cZ fun gk=>?_)
   |(refine Vb hT.ks (by repeat constructor) (by repeat constructor) fun u=>?_)
   |(refine Vc fun gv=>?_)
   |(refine QF hk2 (by repeat constructor) (by repeat constructor) fun sa sc=>?_)
   |(with_reducible refine ay bM .nil ?_)
   |(with_reducible refine t_ bM ?_)
   |((with_reducible refine' aG ?hp ?hn ?hv ?h1 ?_);(case hp=>(repeat constructor));(case hn=>rfl);(case hv=>rfl);(case h1=>simp[Value.oneCell']))
   |(refine n9 (.ex (oo,(sa,sc)) (.all ?_));refine aq ?_;exact .pu rfl (.pick .here (.pick .here (.drop (.drop (.drop (.pick .here .refl)))))))
   |(refine n9 (.ex (oo,(sa,sc)) (.all ?_));refine aq ?_;exact .pu rfl aA))
 case hr=>
 intro ds z
 refine aq ?_
 refine bt .here fun y=>aE .here ?_
 refine aq ?_
 refine aX .here fun hz=>?_
 subst hz
 obtain⟨o8,sa,sc⟩:=y
 unfold ly ir
 (try dsimp only)
 refine aV ?_;(((refine' aP (bK ?hn) ?hi ?_);(case hi=>exact .pick (by repeat constructor) .nil);(case hn=>rfl)));refine t_ ah (t_ ae (cu ?_))
 refine aN (by(repeat constructor):Pick _ (Sl 2 192 sa sc _ _) _) fun _ _ _ hs3=>?_
 refine aN (by(repeat constructor):Pick _ (Sl 1 5 gt.1 gt.2 _ _) _) fun _ _ _ hs4=>?_
 refine' aj (Ju (v:=v) (w:=w) (gn:=gn) (j:=j) (k:=k) (c:=c) (ap:=ap) (n:=n) (s:=s) (cn:=cn) (id:=id) (now:=now) (asked:=asked) (nm:=nm) (t:=t) (O_:=O_) (pa:=pth) (f:=f) (f0:=f0) (b:=bb) (r:=r) (o:=o) (X:=li X) (D:=D) (xx:=(sa,sc)) (dd:=gt) hZ (cg hs3) (fun e=>List.eq_nil_of_length_eq_zero (m6 hs3 e)) (fD (e:=5) (a:=gt.1) (cap:=gt.2) (by rw[List.length_map]) hs4) (fun e=>List.eq_nil_of_length_eq_zero (m6 hs4 e)) hT.zh hT.zs hT.zd hok hn hrow hrd hbg ho_ hOl hn2 hsw hca hlg htl) ?hp fun y=>?_
 case hp=>(repeat(first|exact Picks.nil|(apply Picks.cons;(focus repeat constructor))))
 refine aq ?_
 refine aO y ?_
 exact aA
theorem QH {W:World}{v x gn:Nat}{s:SvS}{l:AC}{jb:Value}{r:Ln}(hl:s.lk= .slice l.1 1 l.2):Cn p_ 41 [pC v,.int .i64 0] W [cG v s,tz l x,d4 x gn jb r] (fun _:Unit=>pC x) (fun _=>[cG v s,tz l x,d4 x gn jb r]):=by
 (refine Shp.cn (Sg.g_ Tryz.call41 Tryz.func41 (an:={loops:=[(2,[12])]})) fun F=>?_;simp only[ca_,na_])
 obtain⟨la,lc⟩:=l
 cases s
 (try dsimp only at *)
 subst hl
 unfold tz d4 wL cG tI
 (try dsimp only)
 refine be (by(repeat constructor):Pick _ (Sl 1 115 la lc 1 _) _) (by decide) fun G hG=>?_
 subst hG
 refine o_ ah (o_ ae (aM ?_));refine o_ aK (a_ (fun m y=>pu (y= .int .i64 0)::_) 0 (.pu rfl .refl) ?_)
 intro m ds y
 refine aX .here fun hz=>?_
 subst hz
 (((refine o_ (Sl.ce ?hcq) ?_);(case hcq=>(first|omega|(simp only[List.length_nil,List.length_cons];omega)))));refine ai ?_;(((refine' aB (br 0 rfl ?hcq) .nil ?_);(case hcq=>(first|omega|decide|(simp;done)))));(((refine' aB (bF ?hc) ?hi ?_);(case hi=>exact aA);(case hc=>rfl)));refine o_ ah ?_;refine o_ ae ?_;refine aM ?_;(((refine o_ (Sl.cv ?hcq) ?_);(case hcq=>(first|omega|(simp only[List.length_nil,List.length_cons];omega)))));refine ai ?_
 refine aO () ?_
 exact aA
theorem Jv {W:World} [hG:Gl W] [hP:Gp W] {v w gn j k c ap lgx n ca T p st kk:Nat} {s:SvS} {cn:CnS} {id now us:Int} {nm t O_ pth:List UInt8} {f f0 bb r o pa:AC} {jb m:Value} {Z:Cs} {X:List FD.Fd} {D b:List UInt8} {P:Ps} {q:Ca} {fn:Fn} {qa qb:Array Value} {ba:Option Addr} {cap:Nat} {A:HP} {y:Snt} {si:Int} (hA:RdB W A ba b.length (b.map Sl.B)) (hcap:b.length<=cap) (hZ:CsOk T Z) (h:RpOk b P X D) (hT:ToOk T X D) (hok:AnsOk now nm t (li X) D r_)
  (hn:cn.nx= .func fn qa qb) (hrow:cn.row= .slice r.1 1 r.2) (hrd:cn.rd=true) (hbg:cn.bg=false) (ho_:cn.out= .slice o.1 O_.length o.2) (hOl:O_.length<=1000000000) (hn2:n<=200) (hsw:s.w=w) (hsg:s.g=gn) (hca:s.ca=pE ca) (hlg:s.lg=pC lgx) (hlk:s.lk= .slice y.l.1 1 y.l.2) (htl:t.length<=1000) (hus:0<=us) (hus1:us<=1000):
  Cn p_ 15 [pC v,.int .i64 0,.slice ba b.length cap] W [cG v s,tz y.l y.x,GR gn j si y,dJ y.H (fq true),A,ek gn st q pa m (us+1),pj pa p,mW p,dW j k id t f bb gn (iT t) [97] pth (cO t) cj (oC t f),lS f,fU ca Z,jf w now,eD k c nm jb,bQ c cn,d8 r [ap],mS o O_,dZ ap id t f0 (.pointer none),iz lgx n] (fun _:Tb T Z t (li X) D si now × (AC × AC)=> .int .i64 0)
   (fun z=>[cG v s,tJ y.l 1 y.x gn,ek gn st q pa m us,pj pa p,iu p 1,A,fU ca z.1.1,jf w now,eD k c nm jb,bQ c (cn.wrote (O_++iy (li X) D).length z.2),mS z.2.1 (O_++iy (li X) D),d8 z.2.2 [],iz lgx (n+1)]):=by
 subst hsg
 (refine Shp.cn (Sg.g_ Tryz.call15 Tryz.func15) fun F=>?_;simp only[ca_,na_])
 refine c_ rZ fun _=>?_
 refine af ?_
 unfold GR
 refine' aj (QH (v:=v) (x:=y.x) (l:=y.l) hlk) ?hp fun _=>?_
 case hp=>(repeat(first|exact Picks.nil|(apply Picks.cons;(focus repeat constructor))))
 unfold d4 wL
 refine aq ?_
 (try dsimp only)
 refine o_ cp ?_;refine af (o_ ah (o_ ae (aM ?_)));refine o_ cp ?_;refine af ?_
 refine' aj (QC (x:=y.x) (gn:=s.g) (j:=j) (k:=k) (H:=y.H) (id:=id) (si:=si) (kd:=y.kd) (nn:=y.nn) (t:=t) (ho:=[97]) (pa:=pth) (ke:=cO t) (f:=f) (bb:=bb) (tv:=iT t) (lo:=cj) rfl rfl hA hcap h) ?hp fun u=>?_
 case hp=>(repeat(first|exact Picks.nil|(apply Picks.cons;(focus repeat constructor))))
 obtain⟨R,ga,gc⟩:=u
 refine aq ?_
 (try dsimp only)
 refine bI ?_;refine bI ?_;refine bI ?_;(((refine o_ (Sl.cE ?hcq) ?_);(case hcq=>(first|omega|(simp only[List.length_nil,List.length_cons];omega)))));refine af (ai ?_)
 refine' aj (QG (v:=v) (w:=w) (gn:=s.g) (j:=j) (k:=k) (c:=c) (ap:=ap) (n:=n) (x:=y.x) (H:=y.H) (R:=R) (p:=p) (st:=st) (s:=s) (cn:=cn) (id:=id) (now:=now) (asked:=si) (us:=us) (nm:=nm) (t:=t) (O_:=O_) (pth:=pth) (f:=f) (f0:=f0) (bb:=bb) (r:=r) (o:=o) (gt:=(ga,gc)) (pa:=pa) hZ h hT hok hn hrow hrd hbg ho_ hOl hn2 hsw hca hlg htl hus hus1) ?hp fun z=>?_
 case hp=>(repeat(first|exact Picks.nil|(apply Picks.cons;(focus repeat constructor))))
 refine aq ?_
 refine' aj (pk (v:=v) (x:=y.x) (l:=y.l) hlk) ?hp fun _=>?_
 case hp=>(repeat(first|exact Picks.nil|(apply Picks.cons;(focus repeat constructor))))
 refine aq ?_
 refine CY (by repeat constructor) (by(repeat constructor):Pick _ (d4 y.x _ _ _) _) ?_
 refine aO z ?_
 exact aA
theorem FF {W:World}{G c x:Nat}:Cn p_ 56 [.slice (some ⟨G,0,none⟩) 1 c] W [Sl 1 115 (some ⟨G,0,none⟩) c 1 [pC x]] (fun q:AC=> .slice q.1 1 q.2) (fun q=>[Sl 1 115 (some ⟨G,0,none⟩) c 1 [pC x],Sl 1 115 q.1 q.2 1 [pC x]]):=by
 (refine Shp.cn (Sg.g_ Tryz.call56 Tryz.func56) fun F=>?_;simp only[ca_,na_])
 refine o_ ph ?_
 refine af (sx fun g=>?_)
 refine bV (m:=1) (news:=[pC x]) .here (nj (s:=1) (e':=115) (by kernel_rfl) (.there .here) (by intro u hu;rw[List.mem_singleton.1 hu];rfl)) (by decide) (by decide) fun a' c'=>?_
 rw[Nat.zero_add,List.nil_append]
 refine bG (a',c') rfl ?_
 exact aA
theorem QI {W:World}{v w x k c gn:Nat}{s:SvS}{l a:AC}{r:Ln}{cn:CnS}{nm:List UInt8}{jb:Value}{now d:Int}{rr:AC}{f:Fn}{qa qb:Array Value}(hsw:s.w=w)(hsg:s.g=gn)(hcl:s.cl= .slice a.1 1 a.2)(hl:s.lk= .slice l.1 1 l.2)(hn:cn.nx= .func f qa qb)(hr:cn.rd=true)(hrow:cn.row= .slice rr.1 0 rr.2)(h0:0<=now)(hd:0<=d)(hc:cn.ck<=now+d)(hnow:now+d<=253402300799)(hk:0<cn.ke)(hs0:0<=cn.si)(hs1:cn.si<=now+d)(hs:now+d-cn.si<cn.ke):
  Cn p_ 20 [pC v,.int .i64 d] W [cG v s,jf w now,r5 a k,eD k c nm jb,bQ c cn,tJ l 1 x gn] (fun _:Unit=> .int .i64 0) (fun _=>[cG v s,jf w (now+d),r5 a k,eD k c nm jb,bQ c {cn with ck:=now+d},tJ l 1 x gn]):=by
 subst hsg hsw
 (refine Shp.cn (Sg.g_ Tryz.call20 Tryz.func20 (an:={loops:=[(7,[26]),(12,[47])],drs:=[(9,.ofL [(0,2),(1,3),(2,3),(3,3),(4,1),(5,1),(6,1),(7,1),(8,0),(9,0)]),(14,.ofL [(0,1),(1,1),(2,1),(3,1),(4,1),(5,1),(6,1),(7,1),(8,1),(9,1),(11,2),(12,3),(13,3),(14,3),(16,2),(17,3),(18,3),(19,3),(20,3),(21,3),(22,3),(23,3),(24,2),(25,3),(26,3),(27,3),(28,3),(29,3),(30,3),(10,0),(15,1),(31,1),(32,1)])]}) (os:=[(9,[(8,[3,2,1])]),(14,[(10,[30,29,28,27,26,25,23,22,21,20,19,18,17,14,13,12])])])) fun F=>?_;simp only[ca_,na_])
 refine c_ rZ fun _=>?_
 refine CZ (by(repeat constructor):Pick _ (tJ l 1 x s.g) _) fun ln=>?_
 obtain⟨la,lc⟩:=l
 obtain⟨aa,ac⟩:=a
 cases s
 rename_i w_ g_ cl lk nu ca_ lg out
 (try dsimp only at *)
 subst hl hcl
 unfold cG tI r5
 (try dsimp only)
 refine be (by(repeat constructor):Pick _ (Sl 1 72 aa ac 1 _) _) (by decide) fun G hG=>?_
 subst hG
 refine af (o_ ah (o_ ae (aM ?_)))
 refine c_ (PT h0 hd (by omega)) fun _=>?_
 unfold eD
 (((refine o_ (Sl.cE ?hcq) ?_);(case hcq=>(first|omega|(simp only[List.length_nil,List.length_cons];omega)))));refine af ?_;refine o_ ah ?_;refine o_ ae ?_;refine aM ?_;refine o_ aK ?_
 refine a_ (fun m y=>match m with|0=>[pu (y= .int .i64 1),cG v ⟨w_,g_,.slice (some ⟨G,0,none⟩) 1 ac,.slice la 1 lc,nu,ca_,lg,out⟩,jf w_ (now+d),r5 (some ⟨G,0,none⟩,ac) k,eD k c nm jb,bQ c {cn with ck:=now+d},tz (la,lc) x,d4 x g_ (.pointer none) ln]++F|_=>pu (y= .int .i64 0)::_) 1 (.pu rfl .refl) ?_
 intro m ds y
 cases m with
 |succ m=>
  refine aX .here fun hy=>?_
  subst hy
  (((refine o_ (Sl.ce ?hcq) ?_);(case hcq=>(first|omega|(simp only[List.length_nil,List.length_cons];omega)))));refine ai ?_;(((refine' aB (br 0 rfl ?hcq) .nil ?_);(case hcq=>(first|omega|decide|(simp;done)))));(((refine' aB (bF ?hc) ?hi ?_);(case hi=>exact aA);(case hc=>rfl)));refine aV ?_;refine ay ah .nil ?_;refine ay ae .nil ?_;(((refine' ay (aQ ?hc) ?hi ?_);(case hi=>exact .pick (by repeat constructor) .nil);(case hc=>repeat constructor)));refine t_ ah ?_;refine t_ ae ?_;refine cu ?_
  refine c_ ti fun _=>?_
  (repeat((refine' cU (aI ?hcs) ?_);(case hcs=>(repeat(first|exact .refl|exact .nil|(apply Imp.pick;(focus ((repeat constructor);done)))|refine .drop ?_)))))
  refine' aj (PR (c:=c) (r:=rr) hn hr hrow hc (by omega) hk hs0 hs1 hs) ?hp fun _=>?_
  case hp=>(repeat(first|exact Picks.nil|(apply Picks.cons;(focus repeat constructor))))
  refine aq ?_
  refine bS ?_
  refine bq 0 (by omega) (.pu rfl aA)
 |zero=>
  refine aq ?_
  refine aX .here fun hy=>?_
  subst hy
  (((refine o_ (Sl.bJ ?hcq) ?_);(case hcq=>(first|omega|(simp only[List.length_nil,List.length_cons];omega)))));refine af ?_;refine o_ ah ?_;refine o_ ae ?_;refine aM ?_
  unfold tz
  (try dsimp only)
  refine be (by(repeat constructor):Pick _ (Sl 1 115 la lc 1 _) _) (by decide) fun G2 hG2=>?_
  subst hG2
  refine' aj (FF (G:=G2) (c:=lc) (x:=x)) ?hp fun u=>?_
  case hp=>(repeat(first|exact Picks.nil|(apply Picks.cons;(focus repeat constructor))))
  obtain⟨ua,uc⟩:=u
  refine aq ?_
  (try dsimp only)
  refine be (by(repeat constructor):Pick _ (Sl 1 115 ua uc 1 _) _) (by decide) fun G3 hG3=>?_
  subst hG3
  unfold d4 wL
  (try dsimp only)
  refine o_ aK (a_ (fun m y=>pu (m=1/\y= .int .i64 0\/m=0/\y= .int .i64 1)::_) 1 (.pu (.inl ⟨rfl,rfl⟩) .refl) ?_)
  intro m ds y
  refine aX .here fun hz=>?_
  rcases hz with ⟨hm,rfl⟩|⟨hm,rfl⟩
  ·(((refine o_ (Sl.ce ?hcq) ?_);(case hcq=>(first|omega|(simp only[List.length_nil,List.length_cons];omega)))));refine ai ?_;(((refine' aB (br 0 rfl ?hcq) .nil ?_);(case hcq=>(first|omega|decide|(simp;done)))));(((refine' aB (bF ?hc) ?hi ?_);(case hi=>exact aA);(case hc=>rfl)));refine aV ?_;refine t_ ah ?_;refine t_ ae ?_;refine cu ?_;refine t_ jZ ?_;refine ao ?_;refine ao ?_;refine ao ?_;refine ao ?_;refine ao ?_;refine d5 ?_;refine d5 ?_;refine d5 ?_;refine ao ?_;refine d5 ?_;refine d5 ?_;refine d5 ?_;refine d5 ?_;refine d5 ?_;refine d5 ?_;refine d5 ?_;refine ao ?_;refine d5 ?_;refine d5 ?_;refine d5 ?_;refine d5 ?_;refine d5 ?_;refine d5 ?_;refine ao ?_;refine eR ?_;refine eR ?_;refine eR ?_;refine eR ?_;refine eR ?_;refine eR ?_;refine eR ?_;refine eR ?_;refine eR ?_;refine eR ?_;refine eR ?_;refine eR ?_;refine eR ?_;refine eR ?_;refine eR ?_;refine eR ?_;refine ao ?_;refine ao ?_;refine t_ am ?_;refine af ?_;refine bS ?_
   (repeat((refine' cU (aI ?hcs) ?_);(case hcs=>(repeat(first|exact .refl|exact .nil|(apply Imp.pick;(focus ((repeat constructor);done)))|refine .drop ?_)))))
   exact bq 0 (by omega) (.pu (.inr ⟨rfl,rfl⟩) aA)
  ·(((refine o_ (Sl.bJ ?hcq) ?_);(case hcq=>(first|omega|(simp only[List.length_nil,List.length_cons];omega)))));refine af ?_
   refine' aj (pk (v:=v) (x:=x) (l:=(some ⟨G2,0,none⟩,lc)) (s:=⟨w_,g_,.slice (some ⟨G,0,none⟩) 1 ac,.slice (some ⟨G2,0,none⟩) 1 lc,nu,ca_,lg,out⟩) (jb:= .pointer none) (r:=ln) rfl) ?hp fun _=>?_
   case hp=>(repeat(first|exact Picks.nil|(apply Picks.cons;(focus repeat constructor))))
   refine aq ?_
   refine CY (by repeat constructor) (by(repeat constructor):Pick _ (d4 x _ _ ln) _) ?_
   refine aO () ?_
   exact aA
theorem QJ {P:Program}{W:World}{L:List HP}{Kp:PK}{k:Value->WP}{s t:TypeId}{l m:List UInt8}(h:l=m)(hk:aR W L (opN P (eF s t (az m)) Kp k)):aR W L (opN P (eF s t (az l)) Kp k):=h▸hk
theorem rg {W:World}{e:Int}:Cn p_ 9 [.int .i64 e] W [] (fun _:Unit=> .int .i64 e) (fun _=>[]):=by
 (refine Shp.cn (Sg.g_ Tryz.call9 Tryz.func9) fun F=>?_;simp only[ca_,na_])
 refine aO () ?_
 exact .refl
theorem wN {W:World}:Cn p_ 23 [] W [] (fun _:Unit=>az [13,10]) (fun _=>[]):=by
 (refine Shp.cn (Sg.g_ Tryz.call23 Tryz.func23) fun F=>?_;simp only[ca_,na_])
 refine aO () ?_
 exact .refl
def GT (r:AC)(b:List UInt8):HP:=jA 1 5 r.1 r.2 b.length (b.map Sl.B)
def zK (t:List UInt8):List UInt8:=[71,69,84,32]++t++[32,72,84,84,80,47,49,46,49,13,10,72,111,115,116,58,32,97,13,10,13,10]
theorem QK {W:World}{t:List UInt8}(hl:t.length<=1000):Cn p_ 11 [az t,az []] W [] (fun r:AC=> .slice r.1 (zK t).length r.2) (fun r=>[GT r (zK t)]):=by
 (refine Shp.cn (Sg.g_ Tryz.call11 Tryz.func11) fun F=>?_;simp only[ca_,na_])
 refine o_ (bE (a:=[71,69,84,32]) (b:=t) (by simp;omega)) ?_
 refine o_ (bE (b:=[32,72,84,84,80,47,49,46,49]) (by simp;omega)) ?_
 refine c_ wN fun _=>?_
 refine o_ (bE (by simp;omega)) ?_
 refine o_ (bE (b:=[72,111,115,116,58,32,97]) (by simp;omega)) ?_
 refine c_ wN fun _=>?_
 refine o_ (bE (by simp;omega)) ?_
 refine o_ (bE (b:=[]) (by simp;omega)) ?_
 refine c_ wN fun _=>?_
 refine o_ (bE (by simp;omega)) ?_
 refine QJ (m:=zK t) (by simp[zK]) ?_
 refine nG Tryz.underlying35 Tryz.underlying5 (by simp[zK];omega) fun rr=>?_
 refine aO rr ?_
 exact .refl
def QL (a:Int)(n:Nat):List UInt8:=nH++[13,10,67,97,99,104,101,45,67,111,110,116,114,111,108,58,32,109,97,120,45,97,103,101,61]++ei a++[13,10,67,111,110,116,101,110,116,45,76,101,110,103,116,104,58,32]++ei n++[13,10,13,10]
def Jw (a:Int)(D:List UInt8):List UInt8:=QL a D.length++D
theorem C0 {W:World}[hP:Gp W]{a:Int}{D:List UInt8}(h0:0<=a)(h9:a<=9)(hD:D.length<=1000):Cn p_ 16 [.int .i64 a,az D] W [] (fun r:AC=> .slice r.1 (Jw a D).length r.2) (fun r=>[GT r (Jw a D)]):=by
 have d1:=eN (i:=a) (by omega) (by omega)
 have d2:=eN (i:=(D.length:Int)) (by omega) (by omega)
 (refine Shp.cn (Sg.g_ Tryz.call16 Tryz.func16) fun F=>?_;simp only[ca_,na_])
 refine c_ wN fun _=>?_
 refine o_ (bE (a:=nH) (by decide)) ?_
 refine o_ (bE (b:=[67,97,99,104,101,45,67,111,110,116,114,111,108,58,32,109,97,120,45,97,103,101,61]) (by decide)) ?_
 refine c_ (eI (i:=a) (by omega) (by omega)) fun _=>?_
 refine o_ (bE (by simp[nH];omega)) ?_
 refine c_ wN fun _=>?_
 refine o_ (bE (by simp[nH];omega)) ?_
 refine o_ (bE (b:=[67,111,110,116,101,110,116,45,76,101,110,103,116,104,58,32]) (by simp[nH];omega)) ?_
 refine o_ bC (c_ (eI (i:=(D.length:Int)) (by omega) (by omega)) fun _=>?_)
 refine o_ (bE (by simp[nH];omega)) ?_
 refine c_ wN fun _=>?_
 refine o_ (bE (by simp[nH];omega)) ?_
 refine c_ wN fun _=>?_
 refine o_ (bE (by simp[nH];omega)) ?_
 refine o_ (bE (by simp[nH];omega)) ?_
 refine QJ (m:=Jw a D) (by simp[Jw,QL]) ?_
 refine nG Tryz.underlying35 Tryz.underlying5 (by simp[Jw,QL,nH];omega) fun rr=>?_
 refine aO rr ?_
 exact .refl
def C1:List UInt8:=[59,32,125,32,115,101,114,118,101,114,32,123,32,108,111,99,97,116,105,111,110,32,47,32,123,32,114,101,116,117,114,110,32,50,48,48,32,104,101,114,101,59,32,125,32,108,111,99,97,116,105,111,110,32,47,97,112,105,32,123,32,112,114,111,120,121,32,117,112,59,32,99,97,99,104,101,59,32,125,32,125]
theorem zM (d t r:List UInt8):kH d t r=[115,116,111,114,101,32]++d++[59,32,117,112,115,116,114,101,97,109,32,117,112,32,123,32,112,101,101,114,32,49,32,54,52,59,32,116,105,109,101,111,117,116,32]++t++[59,32,114,101,116,114,105,101,115,32]++r++C1:=rfl
theorem GU {W : World} [hP : Gp W] {a b c : Int} (ha : 0 <= a) (ha' : a <= 9999) (hb : 0 <= b) (hb' : b <= 9999) (hc : 0 <= c) (hc' : c <= 9999) : Cn p_ 6 [.int .i64 a, .int .i64 b, .int .i64 c] W [] (fun _ : Unit => az (kH (ei c) (ei a) (ei b))) (fun _ => []) := by
 have d1 := eN (i := a) (by omega) (by omega)
 have d2 := eN (i := b) (by omega) (by omega)
 have d3 := eN (i := c) (by omega) (by omega)
 (refine Shp.cn (Sg.g_ Tryz.call6 Tryz.func6) fun F => ?_; simp only [ca_, na_])
 (refine' aj (eI (i := c) (by omega) (by omega)) ?hp fun _ => ?_; (case hp => (repeat (first | exact Picks.nil | (apply Picks.cons; (focus repeat constructor))))); (try simp only [ca_, na_, Bool.not_true, Bool.not_false]))
 refine aB (bE (a := [115, 116, 111, 114, 101, 32]) (by simp; omega)) .nil ?_
 refine aB (bE (b := [59, 32, 117, 112, 115, 116, 114, 101, 97, 109, 32, 117, 112, 32, 123, 32, 112, 101, 101, 114, 32, 49, 32, 54, 52, 59, 32, 116, 105, 109, 101, 111, 117, 116, 32]) (by simp; omega)) .nil ?_
 (refine' aj (eI (i := a) (by omega) (by omega)) ?hp fun _ => ?_; (case hp => (repeat (first | exact Picks.nil | (apply Picks.cons; (focus repeat constructor))))); (try simp only [ca_, na_, Bool.not_true, Bool.not_false]))
 refine aB (bE (by simp; omega)) .nil ?_
 refine aB (bE (b := [59, 32, 114, 101, 116, 114, 105, 101, 115, 32]) (by simp; omega)) .nil ?_
 (refine' aj (eI (i := b) (by omega) (by omega)) ?hp fun _ => ?_; (case hp => (repeat (first | exact Picks.nil | (apply Picks.cons; (focus repeat constructor))))); (try simp only [ca_, na_, Bool.not_true, Bool.not_false]))
 refine aB (bE (by simp; omega)) .nil ?_
 refine aB (bE (b := C1) (by simp; show _ <= _; rw [show C1.length = 81 from rfl]; omega)) .nil ?_
 refine bG () (by rw [zM]; simp) ?_
 exact .refl
structure On where
 x:AC
 d:AC
 t:AC
theorem QM {W:World}[hG:Gl W]{b D:List UInt8}{P:Ps}{X:List FD.Fd}{ba:Option Addr}{cap:Nat}{A:HP}(hA:RdB W A ba b.length (b.map Sl.B))(hcap:b.length<=cap)(h:RpOk b P X D):
  Cn p_ 18 [.slice ba b.length cap] W [A] (fun y:On=> .tuple #[.agg (ir X D y.x y.d).toArray,.slice y.t.1 0 y.t.2,.bool true])
   (fun y=>[A,Sl 2 192 y.x.1 y.x.2 X.length (X.flatMap cT),Sl 1 5 y.d.1 y.d.2 D.length (D.map Sl.B)]):=by
 obtain⟨hd,hb⟩:=h.sp
 have hlen:b.length=hd.length+D.length:=by rw[hb,List.length_append]
 have hd0:=h.d0
 have hbl:=h.bl
 have hT:RdB W A (if cap=hd.length then ba else ba.map (·.add (hd.length * 1))) D.length (D.map Sl.B):=by
  have:=hA.cut (cap:=cap) (l:=hd.length) (h:=b.length) (by omega) (Nat.le_refl _) hcap
  rw[show b.length-hd.length=D.length by omega,hb,List.map_append,List.drop_left' (by simp),List.take_of_length_le (by simp)]at this
  exact this
 obtain⟨ta,hta⟩:∃ta,ta=(if cap=hd.length then ba else ba.map (·.add (hd.length * 1))):=⟨_,rfl⟩
 rw[<- hta]at hT
 (refine Shp.cn (Sg.g_ Tryz.call18 Tryz.func18 (an:={loops:=[(1,[0])],drs:=[(15,.ofL [(0,2),(1,2),(2,2),(3,3),(4,2),(5,2),(6,3),(7,1),(8,1),(9,1),(10,0),(11,3),(12,3),(13,0),(14,1),(15,1)])]}) (os:=[(15,[(10,[6,3]),(13,[12,11,6])])])) fun F=>?_;simp only[ca_,na_])
 refine aS fun g=>?_
 refine a_ (fun m y=>pu (y= .slice ba b.length cap)::_) 0 (.pu rfl .refl) ?_
 intro m ds y
 refine aX .here fun hy=>?_
 subst hy
 refine' aj (Ed (r:=true)) ?hp fun H=>?_
 case hp=>exact .nil
 refine aq ?_
 refine' aj (A9 (G:=H) (cap:=cap) hA h.fd rfl hbl) ?hp fun _=>?_
 case hp=>(repeat(first|exact Picks.nil|(apply Picks.cons;(focus repeat constructor))))
 rw[h.dn,show(b.length:Int)-(D.length:Int)=(hd.length:Int) by omega]
 refine aq ?_
 refine bI ?_;refine bI ?_;refine bI ?_
 refine c_ rg fun _=>?_
 (((refine o_ (Sl.cE ?hcq) ?_);(case hcq=>(first|omega|(simp only[List.length_nil,List.length_cons];omega)))));refine ab ?_;refine ab ?_;refine o_ bA ?_;refine o_ am ?_;refine af ?_
 refine o_ (lj hd.length rfl (by omega)) ?_
 rw[show b.length-hd.length=D.length by omega,<- hta]
 refine' aj (nF (g:=H) (p:=P) h.dn h.rp (by rw[h.fs];have:=h.fl;omega)) ?hp fun r=>?_
 case hp=>(repeat(first|exact Picks.nil|(apply Picks.cons;(focus repeat constructor))))
 obtain⟨ra,rc⟩:=r
 rw[h.st,h.mi,h.fs]
 refine aq ?_
 (try dsimp only)
 refine aN (by(repeat constructor):Pick _ (Sl 2 192 ra rc _ _) _) fun _ _ _ hs=>?_
 refine bI ?_;refine bI ?_;refine bI ?_;refine bI ?_;(((refine o_ (Sl.bJ ?hcq) ?_);(case hcq=>(first|omega|(simp only[List.length_nil,List.length_cons];omega)))));refine af ?_
 refine' aj (r9 (m:=db) (st:=200) (n:=(D.length:Int)) (c:=rc) (cg hs) h.hk h.ln (by decide) (by decide) (by decide) rfl) ?hp fun _=>?_
 case hp=>(repeat(first|exact Picks.nil|(apply Picks.cons;(focus repeat constructor))))
 refine aq ?_
 refine bI ?_;refine bI ?_;refine aS fun g=>?_;(((refine' aG ?hp ?hn ?hv ?h1 ?_);(case hp=>(repeat constructor));(case hn=>rfl);(case hv=>rfl);(case h1=>simp[Value.oneCell',az])))
 refine c_ rg fun _=>?_
 (((refine o_ (Sl.cE ?hcq) ?_);(case hcq=>(first|omega|(simp only[List.length_nil,List.length_cons];omega)))));refine af ?_;refine iS ?_
 refine' aj (H8 (k:=1) (n:=(D.length:Int)) (most:=1048576) (.inr ⟨rfl,by omega⟩) (by decide) (by decide)) ?hp fun R=>?_
 case hp=>exact .nil
 refine aq ?_
 refine bI ?_;refine bI ?_
 refine c_ rg fun _=>?_
 (((refine o_ (Sl.cE ?hcq) ?_);(case hcq=>(first|omega|(simp only[List.length_nil,List.length_cons];omega)))));refine af ?_
 refine' aj (Gm (G:=R) (most:=1048576) (cap:=cap-hd.length) hT hd0 (by omega) (by decide)) ?hp fun r=>?_
 case hp=>(repeat(first|exact Picks.nil|(apply Picks.cons;(focus repeat constructor))))
 obtain⟨oa,oc⟩:=r
 refine aq ?_
 (try dsimp only)
 refine bI ?_;refine bI ?_;refine bI ?_;refine bI ?_;refine aV (ay bM .nil ?_)
 refine ay (lj D.length rfl (Nat.le_refl _)) .nil ?_
 rw[Nat.sub_self]
 refine ab (ab (c_ rg fun _=>?_))
 (repeat((refine' cU (aI ?hcs) ?_);(case hcs=>(repeat(first|exact .refl|exact .nil|(apply Imp.pick;(focus ((repeat constructor);done)))|refine .drop ?_)))))
 refine jV ?_;(((refine ay (Sl.cv ?hcq) .nil ?_);(case hcq=>(first|omega|(simp only[List.length_nil,List.length_cons];omega)))));refine ay av .nil ?_;(((refine' aG ?hp ?hn ?hv ?h1 ?_);(case hp=>(repeat constructor));(case hn=>rfl);(case hv=>rfl);(case h1=>simp[Value.oneCell',az])));refine aY ?_;refine aY ?_;refine aY ?_;(((refine' aP (cB ?hn) ?hi ?_);(case hi=>exact aA);(case hn=>rfl)))
 refine aO ((⟨(ra,rc),(oa,oc),(if cap-hd.length=D.length then ta else ta.map (·.add (D.length * 1)),cap-hd.length-D.length)⟩:On)) ?_
 exact aA
theorem C2 {W:World}[hG:Gl W]{d t r:List UInt8}{st:Nat}{tm rt now:Int}(h:CfOk d t r st tm rt)(h0:0<=now)(h1:now<2000000000):Cn p_ 5 [.int .i64 now,.slice none 0 0,az (kH d t r)] W [] (fun x:Nat × Wh=> .tuple #[pC x.2.v,pC x.1])
  (fun x=>[cG x.2.v ⟨x.1,x.2.g,.slice none 0 0,.slice none 0 0,0,pE x.2.ca,pC x.2.lg,.slice none 0 0⟩,jf x.1 now,ek x.2.g st x.2.q x.2.pa x.2.m 0,pj x.2.pa x.2.p,iu x.2.p 0,gH x.2.q tm rt,fU x.2.ca (jF st),iz x.2.lg 0]):=by
 (refine Shp.cn (Sg.g_ Tryz.call5 Tryz.func5) fun F=>?_;simp only[ca_,na_])
 refine' aj (US (now:=now) h0 h1) ?hp fun u=>?_
 case hp=>exact .nil
 obtain⟨w,w2⟩:=u
 refine aq ?_
 (try dsimp only)
 refine bI ?_;refine bI ?_;refine bI ?_;refine o_ bA (af ?_)
 refine' aj (U8 (w:=w) (now:=now) h) ?hp fun x=>?_
 case hp=>(repeat(first|exact Picks.nil|(apply Picks.cons;(focus repeat constructor))))
 refine aq ?_
 refine bI ?_;refine bI ?_;refine bI ?_
 refine aO ((w,x)) ?_
 exact aA
theorem vj:∀ {h r:List UInt8} {p q:Ps},fJ p h=some (q,[])->p.done=false->q.done=true->fJ p (h++r)=some (q,r)
 |[],r,p,q,hf,hp,hq=>by
  rw[fJ]at hf
  injection hf with hf;injection hf with h1 h2
  rw[h1]at hp;rw[hp]at hq;cases hq
 |c::h,r,p,q,hf,hp,hq=>by
  rw[List.cons_append,fJ]
  rw[fJ]at hf
  cases hb:we p c with
  |none=>rw[hb]at hf;cases hf
  |some s=>
   rw[hb]at hf
   (try dsimp only at hf ⊢)
   cases hs:s.done with
   |true=>
    rw[if_pos hs]at hf
    rw[if_pos rfl]
    injection hf with hf;injection hf with h1 h2
    rw[h1,h2];rfl
   |false=>
    rw[if_neg (by simp[hs])]at hf
    rw[if_neg (by decide)]
    exact vj hf hs hq
def Mr (X:List FD.Fd):Bool:=decide (X.length<=1000)&&X.all fun f=>decide (f.1.length<=1000/\f.2.length<=1000)
theorem tB {X:List FD.Fd}(h:Mr X=true):oz X/\X.length<=1000:=by
 simp only[Mr,Bool.and_eq_true,decide_eq_true_eq,List.all_eq_true]at h
 exact⟨⟨by have:=h.1;omega,fun f hf=>by have:=h.2 f hf;omega⟩,h.1⟩
def Tc (h:List UInt8)(X:List FD.Fd)(n:Nat):Bool:=match fJ (fq true) h with
 |some (P,[])=>P.done&&(P.reply&&(decide (P.status=200)&&(decide (P.minor=1)&&(decide (P.fs=X)&&(decide (za X=some (1,(n:Int)))&&(Mr X&&decide (h.length<=40000)))))))
 |_=>false
theorem C3 {h:List UInt8}{X:List FD.Fd}{D:List UInt8}(hc:Tc h X D.length=true)(h0:0<D.length)(h1:D.length<=1000):∃P,RpOk (h++D) P X D:=by
 unfold Tc at hc
 cases hf:fJ (fq true) h with
 |none=>rw[hf]at hc;cases hc
 |some q=>
  obtain⟨P,r⟩:=q
  rw[hf]at hc
  cases r with
  |cons c r=>cases hc
  |nil=>
   simp only[Bool.and_eq_true,decide_eq_true_eq]at hc
   obtain⟨c1,c2,c3,c4,c5,c6,c7,c8⟩:=hc
   obtain⟨k1,k2⟩:=tB c7
   exact⟨P,vj hf rfl c1,by rw[List.length_append];omega,⟨h,rfl⟩,c1,c2,c3,c4,c5,k1,c6,h0,k2⟩
def QN (a:Int):List UInt8:=[109,97,120,45,97,103,101,61]++ei a
def Dv (a:Int)(n:Nat):List FD.Fd:=[(wo,QN a),(qm,ei (n:Int))]
def sX (a:Int):List FD.Fd:=[(wo,QN a),(oN,oM)]
def hX (a g:Int):List FD.Fd:=sX a++[(fu,ei g)]
def GV (X:List FD.Fd)(n:Nat):List FD.Fd:=cX (cX X [nK,Eu,II]) [qm]++[(qm,ei (n:Int))]
def f1 (a n:Nat):Bool:=Tc (QL a (n+5)) (Dv a (n+5)) (n+5)&&(decide (li (Dv a (n+5))=sX a)&&(decide (bH (Dv a (n+5)) nK=[])&&(Mr (ej (Dv a (n+5)))&&decide (zF (Dv a (n+5))<=2000))))
theorem Jx:(List.range 10).all (fun a=>(List.range 3).all (f1 a))=true:=by decide+kernel
def f2 (X:List FD.Fd)(n:Nat):Bool:=Tc (qR nH (GV X n)) (GV X n) n&&(jQ nH (GV X n)&&(Mr X&&decide (zF X<=2000)))
theorem Jy:(List.range 10).all (fun a=>(List.range 3).all fun n=>f2 (sX a) (n+5))=true:=by decide+kernel
theorem Jz:(List.range 10).all (fun a=>(List.range 10).all fun g=>(List.range 3).all fun n=>f2 (hX a g) (n+5))=true:=by decide+kernel
end Go.Proofs.YtdjkdjepjahjfaaGreatDoor.TP
