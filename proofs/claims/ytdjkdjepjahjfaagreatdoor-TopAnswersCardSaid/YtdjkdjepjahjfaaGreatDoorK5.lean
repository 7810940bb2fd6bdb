/- The log: an entry's line. (31 texts made one; each says below what it is.) -/
import Derived.Test.YtdjkdjepjahjfaaGreatDoorK4
import Derived.LaidEqlPtr
import Derived.KernelRfl
import Derived.Laws.RangeString
set_option linter.unusedVariables false
set_option linter.unusedSimpArgs false
set_option linter.unusedSectionVars false
set_option maxRecDepth 9999
namespace Go.Proofs.YtdjkdjepjahjfaaGreatDoor.TP
open Go Go.Proofs Go.RowKit Sh Sl T FD
def IN (k:Nat):Nat:=if k<4 then k+1 else 7
def PX (x:Nat):List (List Value):=(List.range 5).map fun k=>[.pointer (some ⟨x,IN k,none⟩)]
theorem xu {x k:Nat}(h:k<5):(PX x)[k]? =some [.pointer (some ⟨x,IN k,none⟩)]:=by simp[PX,h]
theorem IP {W:World}{x:Nat}:Cn p_ 266 [.pointer (some ⟨x,0,none⟩)] W [] (fun c:Nat=> .func (.func 356) #[] [.pointer (some ⟨c,0,none⟩)].toArray) (fun c=>[pt c (.cells #[.pointer (some ⟨x,0,none⟩)] 490)]):=by
 (refine Shp.cn (Sg.g_ Tryz.call266 Tryz.func266) fun F=>?_;simp only[ca_,na_])
 refine b_ fun g=>?_;refine o_ bC (aR g ?_)
 exact .refl
theorem EG {W:World} {c l x:Nat} {G:Nat->HP} {Gx T T':HP}
  (hy:jJ p_ l (PX x) (fun k=>all [T,all [pt c (.cells #[.pointer (some ⟨x,0,none⟩)] 490),G k]]) (all [T',Gx]) W):
  Cn p_ 356 [yv l,.pointer (some ⟨c,0,none⟩)] W [all [T,all [pt c (.cells #[.pointer (some ⟨x,0,none⟩)] 490),G 0]]] (fun _:Bool=> .tuple #[]) (fun b=>[if b then all [T,all [pt c (.cells #[.pointer (some ⟨x,0,none⟩)] 490),G 5]]else all [T',Gx]]):=by
 (refine Shp.cn (Sg.g_ Tryz.call356 Tryz.func356 (an:={loops:=[(1,[21])],drs:=[(0,.ofL [(0,1),(1,1),(2,1),(3,1),(4,1),(5,1),(6,1),(7,1),(8,1),(9,1),(10,1),(11,1),(12,1),(13,1),(14,1),(15,1),(16,1)])]})) fun F=>?_;simp only[ca_,na_])
 refine aB .here ?_
 refine am ?_
 refine aB (.there .here) ?_
 refine am ?_
 refine aW (cm ?_);refine t_ ag (t_ ae (cm ?_));refine t_ ag (t_ ae (cm ?_));refine t_ ag (t_ ae (cm ?_));refine t_ ag (t_ ae (cm ?_));refine t_ ag (t_ ae (t_ bO ?_))
 refine aY (fun m y=>[ex fun k:Nat=>all [pu (m+k=5/\y= .int .i64 (k:Int)),all [T,all [pt c (.cells #[.pointer (some ⟨x,0,none⟩)] 490),G k]]]]++F) 5 ?_ ?_
 ·refine .ex 0 (.all ?_)
  refine am ?_
  refine .pu ⟨rfl,rfl⟩ (.all ?_)
  refine am ?_
  refine .pick (by repeat constructor) (.all ?_)
  refine am ?_
  exact az
 intro m ds y
 refine am ?_
 refine a8 Pick.here fun k=>aB Pick.here ?_
 refine am ?_
 refine aT Pick.here fun hi=>?_
 obtain⟨hm,rfl⟩:=hi
 by_cases hlt:k<5
 ·refine o_ (Sl.bY (by omega)) ?_
  refine ai (o_ (nz (v:= .pointer (some ⟨x,IN k,none⟩)) k rfl hlt (by rcases(show k=0\/k=1\/k=2\/k=3\/k=4 by omega)with rfl|rfl|rfl|rfl|rfl <;> rfl)) ?_)
  refine ia hy k (xu hlt) .here ?_ ?_
  ·(refine o_ bB ?_);refine af ?_;refine bP ?_
   refine aZ (m-1) ?_ ?_
   ·omega
   refine .ex (k+1) (.all ?_)
   refine am ?_
   exact .pu ⟨by omega,by simp⟩ .refl
  ·(refine o_ cL ?_);refine ai ?_
   refine aR false ?_
   exact .refl
 ·obtain rfl:k=5:=by omega
  refine o_ (Sl.bF (by decide)) ?_
  refine af (aR true ?_)
  exact .refl
def yR (e:En):List (List UInt8):=[eg e.tm,e.cl,e.me,e.ho,e.ta,eg e.st,eg e.by_,e.ca]
def l_ (e:En):List UInt8:=ik [32] (yR e)
theorem IQ {W:World} [hG:Gl W] [hP:Gp W] {x i:Nat} {q:Bx} {e:En} {L:List HP} {Kp:PK} {K:Value->WP} (h:EnOk e) (hi:i<8)
  (hk:aJ W (EF x q::pt x (.cells (oK e).toArray 207)::L) (K (.tuple #[ay ((yR e).getD i []),.bool false]))):
  aJ W (EF x q::pt x (.cells (oK e).toArray 207)::L) (opN p_ (bG ((Uy q).getD i (.int .i64 0)) [ay []]) Kp K):=by
 refine aB .here ?_
 refine am ?_
 rcases(show i=0\/i=1\/i=2\/i=3\/i=4\/i=5\/i=6\/i=7 by omega)with rfl|rfl|rfl|rfl|rfl|rfl|rfl|rfl
 ·refine' dW (first:=[]) (BK (cs:=oK e) (o:=0) (b:=q.b0) h.tm rfl) ?hpp0 fun _=>bf ?hip0 hk
  case hpp0=>(repeat(first|exact Picks.nil|(apply Picks.cons;(focus repeat constructor))))
  refine .all ?_
  refine am ?_
  exact az
 ·refine' dW (first:=[]) (uq (cs:=oK e) (o:=1) (b:=q.b1) h.cl rfl) ?hpp1 fun _=>bf ?hip1 hk
  case hpp1=>(repeat(first|exact Picks.nil|(apply Picks.cons;(focus repeat constructor))))
  refine .all ?_
  refine am ?_
  exact az
 ·refine' dW (first:=[]) (uq (cs:=oK e) (o:=2) (b:=q.b2) h.me rfl) ?hpp2 fun _=>bf ?hip2 hk
  case hpp2=>(repeat(first|exact Picks.nil|(apply Picks.cons;(focus repeat constructor))))
  refine .all ?_
  refine am ?_
  exact az
 ·refine' dW (first:=[]) (uq (cs:=oK e) (o:=3) (b:=q.b3) h.ho rfl) ?hpp3 fun _=>bf ?hip3 hk
  case hpp3=>(repeat(first|exact Picks.nil|(apply Picks.cons;(focus repeat constructor))))
  refine .all ?_
  refine am ?_
  exact az
 ·refine' dW (first:=[]) (uq (cs:=oK e) (o:=4) (b:=q.b4) h.ta rfl) ?hpp4 fun _=>bf ?hip4 hk
  case hpp4=>(repeat(first|exact Picks.nil|(apply Picks.cons;(focus repeat constructor))))
  refine .all ?_
  refine am ?_
  exact az
 ·refine' dW (first:=[]) (BK (cs:=oK e) (o:=5) (b:=q.b5) h.st rfl) ?hpp5 fun _=>bf ?hip5 hk
  case hpp5=>(repeat(first|exact Picks.nil|(apply Picks.cons;(focus repeat constructor))))
  refine .all ?_
  refine am ?_
  exact az
 ·refine' dW (first:=[]) (BK (cs:=oK e) (o:=6) (b:=q.b6) h.by_ rfl) ?hpp6 fun _=>bf ?hip6 hk
  case hpp6=>(repeat(first|exact Picks.nil|(apply Picks.cons;(focus repeat constructor))))
  refine .all ?_
  refine am ?_
  exact az
 ·refine' dW (first:=[]) (uq (cs:=oK e) (o:=7) (b:=q.b7) h.ca rfl) ?hpp7 fun _=>bf ?hip7 hk
  case hpp7=>(repeat(first|exact Picks.nil|(apply Picks.cons;(focus repeat constructor))))
  refine .all ?_
  refine am ?_
  exact az
theorem PY {W:World}[hG:Gl W][hP:Gp W]{e:En}(h:EnOk e)(hl:(l_ e).length<=65536):Cn p_ 169 [.agg (oK e).toArray] W [] (fun _:Unit=> .tuple #[ay (l_ e),.int .i64 0]) (fun _=>[]):=by
 (refine S.qk.cn fun F=>?_;unfold S.nB;simp only[ca_,na_])
 refine aX fun x=>?_
 refine de fun b2=>?_
 refine de fun b3=>?_
 refine' ah (Ux (x:=x)) ?hp fun _=>?_
 case hp=>exact .nil
 refine am ?_
 refine aY (fun m y=>[ex fun k:Nat=>pu (m+k=3/\y= .int .i64 (k:Int))]++(pt b3 (.cells #[.int .i64 0] 29)::pt b2 (.cells #[ay []] 9)::pt x (.cells (oK e).toArray 207)::F)) 3 ?_ ?_
 ·exact .ex 0 (.pu ⟨rfl,rfl⟩ .refl)
 intro m ds y
 refine am ?_
 refine a8 Pick.here fun k=>aT Pick.here fun hi=>?_
 obtain⟨hm,rfl⟩:=hi
 by_cases hlt:k<3
 ·obtain⟨⟨t1,t2⟩,⟨s1,s2⟩,⟨y1,y2⟩,_,_,_,_,_⟩:=h
  refine o_ (Sl.bY (by omega)) ?_
  refine ai ?_
  unfold oK
  rcases(show k=0\/k=1\/k=2 by omega)with rfl|rfl|rfl
  ·refine o_ (nz 0 rfl (by decide) (by rfl)) ?_
   refine o_ ag (aH ?_);(((refine o_ (Sl.bF ?hcq) ?_);(case hcq=>(first|omega|(simp only[List.length_nil,List.length_cons];omega)))));refine ab (ab (o_ ag (ab (aH ?_))));refine ab ?_;(((refine o_ (Sl.cf ?hcq) ?_);(case hcq=>(first|omega|(simp only[List.length_nil,List.length_cons];omega)))));refine o_ ak (af (bP ?_))
   refine aZ (m-1) ?_ ?_
   ·omega
   refine .ex 1 (.pu ⟨by omega,rfl⟩ ?_)
   exact az
  ·refine o_ (nz 1 rfl (by decide) (by rfl)) ?_
   refine o_ ag (aH ?_);(((refine o_ (Sl.bF ?hcq) ?_);(case hcq=>(first|omega|(simp only[List.length_nil,List.length_cons];omega)))));refine ab (ab (o_ ag (ab (aH ?_))));refine ab ?_;(((refine o_ (Sl.cf ?hcq) ?_);(case hcq=>(first|omega|(simp only[List.length_nil,List.length_cons];omega)))));refine o_ ak (af (bP ?_))
   refine aZ (m-1) ?_ ?_
   ·omega
   refine .ex 2 (.pu ⟨by omega,rfl⟩ ?_)
   exact az
  ·refine o_ (nz 2 rfl (by decide) (by rfl)) ?_
   refine o_ ag (aH ?_);(((refine o_ (Sl.bF ?hcq) ?_);(case hcq=>(first|omega|(simp only[List.length_nil,List.length_cons];omega)))));refine ab (ab (o_ ag (ab (aH ?_))));refine ab ?_;(((refine o_ (Sl.cf ?hcq) ?_);(case hcq=>(first|omega|(simp only[List.length_nil,List.length_cons];omega)))));refine o_ ak (af (bP ?_))
   refine aZ (m-1) ?_ ?_
   ·omega
   refine .ex 3 (.pu ⟨by omega,rfl⟩ ?_)
   exact az
 obtain rfl:k=3:=by omega
 refine o_ (Sl.bF (by decide)) ?_
 refine af ?_
 refine' ah (IP (x:=x)) ?hp fun c=>?_
 case hp=>exact .nil
 refine am ?_
 refine z_ (f:=356) (cap:=[.pointer (some ⟨c,0,none⟩)]) (PX x)
  (fun k=>all [pt c (.cells #[.pointer (some ⟨x,0,none⟩)] 490),all [pt b3 (.cells #[.int .i64 0] 29),pt b2 (.cells #[ay []] 9),pt x (.cells (oK e).toArray 207),all F]])
  (pu False) rfl ?_ ?_ ?_ ?_ ?_ ?_
 ·intro x hx
  obtain⟨k,_,rfl⟩:=List.mem_map.1 hx
  rfl
 ·refine .all ?_
  refine am ?_
  refine .pick (by repeat constructor) (.all ?_)
  refine am ?_
  refine .pick (by repeat constructor) (.pick (by repeat constructor) (.pick (by repeat constructor) (.all ?_)))
  rw[List.append_nil]
  exact .refl
 ·intro l T T' hy
  exact EG hy
 ·intro k hk F2 T0 T1 B N J hB hN hJ
  have hk:k<5:=hk
  have e0:∀h,(PX x)[k]'h=[.pointer (some ⟨x,IN k,none⟩)]:=fun h=>by
   have:=xu (x:=x) hk
   rw[List.getElem?_eq_getElem h]at this
   exact Option.some.inj this
  rw[e0]
  simp only[iB,List.headD_cons,List.tail_cons]
  refine aB (.there .here) ?_
  refine am ?_
  refine aB (.there .here) ?_
  refine am ?_
  refine hB _ _ _ (by repeat constructor) ?_
  refine o_ ag ?_
  have hF:∀(t:List UInt8),t.length<=8192->(oK e)[IN k]? =some (ay t)->∀ {L:List HP} {KK:Value->WP},aJ W (pt x (.cells (oK e).toArray 207)::L) (KK (ay t))->aJ W (pt x (.cells (oK e).toArray 207)::L) (opN p_ (aG 9 (.pointer (some ⟨x,IN k,none⟩))) cN KK):=fun t _ ht L KK hh=>aE (iI (cs:=(oK e).toArray) (by simpa using ht)) (.pick .here .nil) hh
  obtain⟨tt,ht1,ht2⟩:∃tt:List UInt8,tt.length<=8192/\(oK e)[IN k]? =some (ay tt):=by
   rcases(show k=0\/k=1\/k=2\/k=3\/k=4 by omega)with rfl|rfl|rfl|rfl|rfl
   ·exact⟨_,h.cl.2,rfl⟩
   ·exact⟨_,h.me.2,rfl⟩
   ·exact⟨_,h.ho.2,rfl⟩
   ·exact⟨_,h.ta.2,rfl⟩
   ·exact⟨_,h.ca.2,rfl⟩
  refine aE (iI (cs:=(oK e).toArray) (T:=207) (fz:=(0,0)) (by simpa using ht2)) az ?_
  refine o_ bu ?_;(((refine o_ (Sl.cf ?hcq) ?_);(case hcq=>(first|omega|(simp only[List.length_nil,List.length_cons];omega)))));refine af ?_
  have tail:Imp W (pt b3 (.cells #[.int .i64 0] 29)::pt b2 (.cells #[ay []] 9)::pt x (.cells (oK e).toArray 207)::all F::pt c (.cells #[.pointer (some ⟨x,0,none⟩)] 490)::T1::F2) (T1::all [pt c (.cells #[.pointer (some ⟨x,0,none⟩)] 490),all [pt b3 (.cells #[.int .i64 0] 29),pt b2 (.cells #[ay []] 9),pt x (.cells (oK e).toArray 207),all F]]::F2):=by
   refine .pick (by repeat constructor) (.all ?_)
   refine am ?_
   refine .pick (by repeat constructor) (.all ?_)
   refine am ?_
   exact az
  refine bf ?_ (hN _ tail)
  exact az
 ·intro d
  refine aB (.there .here) ?_
  refine am ?_
  refine aB (.there .here) ?_
  refine am ?_
  refine' ah (IM (x:=x)) ?hp fun q=>?_
  case hp=>exact .nil
  refine am ?_
  refine cp (fun m y z=>[ex fun k:Nat=>ex fun u:Option Addr × Nat=>all [pu (m+k=8/\y= .slice u.1 k u.2/\z= .int .i64 (k:Int)),Sl 1 9 u.1 u.2 k (((yR e).take k).map ay)]]++(EF x q::pt x (.cells (oK e).toArray 207)::pt b3 (.cells #[.int .i64 0] 29)::pt b2 (.cells #[ay []] 9)::all F::pt c (.cells #[.pointer (some ⟨x,0,none⟩)] 490)::[pt d (.deferred (some []))])) 8 ?_ ?_
  ·refine .ex 0 (.ex (none,0) (.all ?_))
   refine am ?_
   refine .pu ⟨rfl,rfl,rfl⟩ (bJ ?_)
   exact az
  intro m ds y z
  refine am ?_
  refine a8 Pick.here fun k=>a8 Pick.here fun u=>aB Pick.here ?_
  refine am ?_
  refine aT Pick.here fun hi=>?_
  obtain⟨hm,rfl,rfl⟩:=hi
  obtain⟨ua,uc⟩:=u
  (try dsimp only)
  by_cases hlt:k<8
  ·refine o_ (Sl.bY (by omega)) ?_
   refine ai (o_ (nz (v:=(Uy q).getD k (.int .i64 0)) k rfl hlt (by rcases(show k=0\/k=1\/k=2\/k=3\/k=4\/k=5\/k=6\/k=7 by omega)with rfl|rfl|rfl|rfl|rfl|rfl|rfl|rfl <;> rfl)) ?_)
   refine bf (.pick (by repeat constructor) (.pick (by repeat constructor) .refl)) (IQ (q:=q) (e:=e) h hlt ?_)
   refine bE ?_;refine bE ?_;refine cI fun g=>?_
   refine bQ (m:=1) (news:=[ay ((yR e).getD k [])]) (by(repeat constructor):Pick _ (Sl 1 9 ua uc k (((yR e).take k).map ay)) _) (bL (s:=1) (e':=9) (by kernel_rfl) .here (by rfl) (by intro u hu;rw[List.mem_singleton.1 hu];rfl)) (by omega) (by omega) fun a' c'=>?_
   refine bP ?_
   refine bI (m-1) ?_ ?_
   ·omega
   refine .ex (k+1) (.ex (a',c') (.all ?_))
   refine am ?_
   refine .pu ⟨by omega,by simp,by simp⟩ ?_
   have ht:((yR e).take (k+1)).map ay=((yR e).take k).map ay++[ay ((yR e).getD k [])]:=by
    rw[List.take_add_one,List.map_append,List.getD_eq_getElem?_getD,List.getElem?_eq_getElem (show k<(yR e).length from hlt)]
    rfl
   rw[ht]
   exact az
  ·obtain rfl:k=8:=by omega
   refine o_ (Sl.bF (by decide)) ?_
   refine af ?_
   rw[show(yR e).take 8=yR e from rfl]
   refine' ah (join (sep:=[32]) (V:=yR e) (a:=ua) (c:=uc) (by decide) (by decide) (Nat.le_trans hl (by decide)) (Nat.le_of_ble_eq_true rfl)) ?hp fun _=>?_
   case hp=>(repeat(first|exact Picks.nil|(apply Picks.cons;(focus repeat constructor))))
   refine am ?_
   refine bR ?_;refine bR ?_
   refine rU (by repeat constructor) ?_
   (((refine' be (cX ?hc) ?hi ?_);(case hi=>exact az);(case hc=>repeat constructor)));(((refine' be (cX ?hc) ?hi ?_);(case hi=>exact az);(case hc=>repeat constructor)))
   refine i7 (M:=[]) (F:=F) az ?_
   refine am ?_
   refine aR () ?_
   exact .refl
 ·intro d
  refine aT (.there .here) fun hp=>hp.elim
def m6 (g n:Nat):HP:=ex fun u:Option Addr × Nat=>ex fun V:List (List UInt8)=>ex fun z:Int=>all [pu (V.length=n/\0<=z/\z<=(n:Int) * 256),pt g (.cells #[.slice u.1 n u.2,.int .i64 z,.int .i64 65536,.int .i64 0] 276),Sl 1 9 u.1 u.2 n (V.map ay)]
theorem Uz {W:World}:Cn p_ 73 [.int .i64 65536] W [] (fun g:Nat=> .tuple #[.pointer (some ⟨g,0,none⟩),.int .i64 0]) (fun g=>[m6 g 0]):=by
 (refine Shp.cn (Sg.g_ Tryz.call73 Tryz.func73) fun F=>?_;simp only[ca_,na_])
 (((refine o_ (Sl.bF ?hcq) ?_);(case hcq=>(first|omega|(simp only[List.length_nil,List.length_cons];omega)))));refine ab ?_;refine ab ?_;(((refine o_ (Sl.cf ?hcq) ?_);(case hcq=>(first|omega|(simp only[List.length_nil,List.length_cons];omega)))));refine o_ ak ?_;refine af ?_;refine o_ bO ?_;refine aX fun g=>?_
 refine aR g ?_
 refine .ex (none,0) (.ex [] (.ex 0 (.all ?_)))
 refine am ?_
 refine .pu ⟨rfl,by omega,by omega⟩ (.pick .here (bJ ?_))
 exact .refl
theorem PZ {W:World}{g:Nat}{a b c:Value}{m:Int}(h:m≠0):Cn p_ 168 [.pointer (some ⟨g,0,none⟩)] W [pt g (.cells #[a,b,.int .i64 m,c] 276)] (fun _:Unit=> .bool false) (fun _=>[pt g (.cells #[a,b,.int .i64 m,c] 276)]):=by
 (refine Shp.cn (Sg.g_ Tryz.call168 Tryz.func168) fun F=>?_;simp only[ca_,na_])
 refine o_ bM ?_;refine ab (ab (o_ ag (ab (o_ ae (ab (aH ?_))))));refine ab ?_;(((refine o_ (Sl.bA ?hcq) ?_);(case hcq=>(first|omega|(simp only[List.length_nil,List.length_cons];omega)))));refine o_ ak (aR () ?_)
 exact .refl
theorem EH {W:World}[hG:Gl W][hP:Gp W]{lg n:Nat}{e:En}(h:EnOk e)(hl:(l_ e).length<=250)(hn:n<=200):Cn p_ 93 [.pointer (some ⟨lg,0,none⟩),.agg (oK e).toArray] W [m6 lg n] (fun _:Unit=> .int .i64 0) (fun _=>[m6 lg (n+1)]):=by
 (refine Shp.cn (Sg.g_ Tryz.call93 Tryz.func93 (an:={loops:=[(8,[])],drs:=[(8,.ofL [(0,1),(1,1),(2,1),(3,1),(4,1),(5,1),(6,1),(7,1),(8,1)]),(9,.ofL [(0,1),(1,1),(2,1),(3,1),(4,1),(5,1),(6,1),(7,1),(8,1),(9,1),(10,1),(11,1),(12,1),(13,1),(14,1),(15,0)])]})) fun F=>?_;simp only[ca_,na_])
 refine aX fun x=>?_
 refine a8 (.there .here) fun u=>a8 .here fun V=>a8 .here fun z=>aB .here ?_
 obtain⟨ua,uc⟩:=u
 refine am ?_
 refine aT .here fun hz=>?_
 obtain⟨hV,hz0,hz1⟩:=hz
 (try dsimp only)
 refine c_ (PZ (m:=65536) (by decide)) fun _=>?_
 refine af (jL ?_)
 refine c_ (PY h (by omega)) fun _=>?_
 refine bE ?_;refine bE ?_;(((refine o_ (Sl.cq ?hcq) ?_);(case hcq=>(first|omega|(simp only[List.length_nil,List.length_cons];omega)))));refine af (o_ ag (o_ ae (aH ?_)));refine cI fun g=>?_
 refine bQ (m:=1) (news:=[ay (l_ e)]) (by(repeat constructor):Pick _ (Sl 1 9 ua uc n (V.map ay)) _) (bL (s:=1) (e':=9) (by kernel_rfl) .here (by rfl) (by intro u hu;rw[List.mem_singleton.1 hu];rfl)) (by omega) (by omega) fun a' c'=>?_
 refine o_ ag (o_ ae (bR ?_));refine o_ ag (o_ ae (aH ?_));refine o_ bu (bP ?_);refine bP ?_;refine o_ ag (o_ ae (bR ?_))
 refine lJ (fun m=>_) 0 .refl ?_
 intro m ds
 refine aW (t_ ag (t_ ae (cm ?_)));refine t_ ag (t_ ae (cm ?_));(((refine t_ (Sl.cf ?hcq) ?_);(case hcq=>(first|omega|(simp only[List.length_nil,List.length_cons];omega)))));refine af (aR () ?_)
 refine .ex (a',c') (.ex (V++[l_ e]) (.ex (z+((l_ e).length+1)) (.all ?_)))
 refine am ?_
 refine .pu ⟨by simp[hV],by omega,by omega⟩ ?_
 rw[List.map_append]
 exact az
end Go.Proofs.YtdjkdjepjahjfaaGreatDoor.TP
namespace Go.Proofs.YtdjkdjepjahjfaaGreatDoor.FD
open Go Go.Proofs Go.RowKit Sh Sl T
section
variable {P:Program} {W:World} {L L':List HP} {Kp:PK} {k:Value->WP}
theorem xv {t e ty:TypeId} {b g o n cap m c:Nat} {cs:List Value} {z:Value} [ht:SlT P t e 1 b] [hz:ZeroT P e z] [hc:OC z] (p:Pick L (Sl 1 e (some ⟨g,0,none⟩) cap n cs) L') (hm:0<m) (ho:o+m<=n)
  (h:aJ W (Sl 1 e (some ⟨g,0,none⟩) cap n (cs.take o++List.replicate m z++cs.drop (o+m))::L') (k (.tuple #[]))):aJ W L (opN P (rP #[t] ty [.slice (some ⟨g,o,none⟩) m c]) Kp k):=fun w hw=>by
 obtain⟨rest,r1,r2,r3,r4,hp⟩:=i8 (hw.pick p)
 rw[Nat.mul_one]at r2
 have hrun:=Lib.run_clear_slice (P:=P) w t e ty z ht.ut hz.run (ao hc.one) hc.one g o m c hm (fun j hj=>by
  rw[hp.cell,Array.getElem?_eq_getElem (by simp;omega)];rfl) (fun j _=>hp.free)
 obtain⟨cs',c1,c2,c3⟩:=e9 g o (List.replicate m z) w _ _ hp
 refine⟨?_⟩
 have:(rP #[t] ty [.slice (some ⟨g,o,none⟩) m c]).run P w= .ok (.value (.tuple #[])) (w.setCells g o (List.replicate m z)):=by
  simp[rP,hrun]
 rw[this]
 refine h _ (oh r1 (by simp;omega) r3 r4 ?_)
 have he:cs'=(cs.take o++List.replicate m z++cs.drop (o+m)++rest).toArray:=by
  apply Array.ext_getElem?
  intro j
  rw[c3]
  simp only[List.size_toArray,List.length_append,List.getElem?_toArray,List.length_replicate]
  rw[tB (n:=m) (by simp) (by omega)]
  by_cases hj:o<=j/\j<o+m
  ·rw[if_pos hj,if_pos ⟨hj.1,hj.2,by omega⟩]
  ·rw[if_neg hj,if_neg (fun c=>hj ⟨c.1,c.2.1⟩)]
 rwa [he]at c1
end
theorem IR {W:World}{l m:List (List UInt8)}{a b:Option Addr}{c d:Nat}(hl:l.length<=1099511627776):
  Cn p_ 397 [.slice a l.length c,.slice b m.length d] W [Sl 1 9 a c l.length (l.map ay),Sl 1 9 b d m.length (m.map ay)] (fun _:Unit=> .bool (decide (l=m)))
   (fun _=>[Sl 1 9 a c l.length (l.map ay),Sl 1 9 b d m.length (m.map ay)]):=by
 (refine Shp.cn (Sg.g_ Tryz.call397 Tryz.func397 (an:={loops:=[(4,[13])],drs:=[(6,.ofL [(0,1),(1,1),(2,1),(3,1),(4,1),(5,1),(6,1),(7,1),(8,1)])]})) fun F=>?_;simp only[ca_,na_])
 refine o_ aI (o_ aI (bz oX .nil (fun h=>?_) (fun h=>?_)))
 ·refine ai (bK () (by rw[dF_];intro e;apply h;rw[e]) ?_)
  exact az
 have hlen:l.length=m.length:=by omega
 refine af (o_ aI (aP (by(repeat constructor):Pick _ (Sl 1 9 a c l.length (l.map ay)) _) fun _ _ _ ha=>?_))
 refine aP (by(repeat constructor):Pick _ (Sl 1 9 b d m.length (m.map ay)) _) fun _ _ _ hb=>?_
 have hN:RdB W (Sl 1 9 a c l.length (l.map ay)) a l.length (l.map ay):=gO (by rw[List.length_map]) ha
 have hM:RdB W (Sl 1 9 b d m.length (m.map ay)) b m.length (m.map ay):=gO (by rw[List.length_map]) hb
 refine aY (fun k y=>pu (∃i:Nat,k+i=l.length/\y= .int .i64 (i:Int)/\l.take i=m.take i)::Sl 1 9 a c l.length (l.map ay)::Sl 1 9 b d m.length (m.map ay)::F) l.length ?_ ?_
 ·refine .pu ⟨0,rfl,rfl,rfl⟩ ?_
  exact az
 intro k ds y
 refine aT .here fun hi=>?_
 obtain⟨i,hki,rfl,heq⟩:=hi
 refine bz bD .nil (fun h=>?_) (fun h=>?_)
 ·have hil:i<l.length:=by omega
  have him:i<m.length:=by omega
  obtain⟨ga,rfl⟩:=ha (by omega)
  obtain⟨gb,rfl⟩:=hb (by omega)
  refine ai (aW (t_ (bq i rfl hil) ?_))
  refine iq (lu hN hil) ?_
  refine t_ (bq i rfl him) ?_
  refine iq (lu hM him) ?_
  refine t_ ep ?_
  by_cases hx:l[i]=m[i]
  ·rw[dF_ (by simp[hx])]
   refine af (bP ?_)
   refine aZ (k-1) (by omega) (.pu ⟨i+1,by omega,by norm_cast,by rw[List.take_succ_eq_append_getElem hil,List.take_succ_eq_append_getElem him,heq,hx]⟩ ?_)
   exact az
  ·rw[dT_ hx]
   refine ai (bK () (by rw[dF_];rintro rfl;exact hx rfl) ?_)
   exact az
 ·have:i=l.length:=by omega
  subst this
  rw[List.take_length,hlen,List.take_length]at heq
  refine af (bK () (by rw[dT_ heq]) ?_)
  exact az
abbrev pE (g:Nat):Value:= .pointer (some ⟨g,0,none⟩)
theorem IS {W:World}{a:Option Addr}{c:Nat}{l:List Nat}(hl:l.length<=1099511627776):
  Cn p_ 299 [.slice a l.length c] W [Sl 1 437 a c l.length (l.map pE)] (fun q:Option Addr × Nat=> .slice q.1 l.length q.2) (fun q=>[Sl 1 437 a c l.length (l.map pE),Sl 1 437 q.1 q.2 l.length (l.map pE)]):=by
 (refine Shp.cn (Sg.g_ Tryz.call299 Tryz.func299) fun F=>?_;simp only[ca_,na_])
 refine aP .here fun h1 h2 h3 hs=>?_
 refine o_ oI ?_
 cases a with
 |none=>
  have:l=[]:=by
   cases l with
   |nil=>rfl
   |cons x r=>obtain⟨g,hg⟩:=hs (by simp);cases hg
  subst this
  refine ai (e_ (s:=1) (e:=437) ?_)
  refine bK (none,0) rfl ?_
  exact az
 |some ad=>
  refine af (rW fun g=>?_)
  refine bQ (m:=l.length) (news:=l.map pE) .here (k8 (e':=437) (by kernel_rfl) (.there .here) (gO (by rw[List.length_map]) hs) (fun h=>by cases h) (by intro u hu;obtain⟨x,_,rfl⟩:=List.mem_map.1 hu;rfl)) (by omega) (by omega) fun a' c'=>?_
  rw[Nat.zero_add,List.nil_append]
  refine bK (a',c') rfl ?_
  exact az
theorem ur {W:World}{g c n j:Nat}{l:List Nat}(h:j<l.length):aQ p_ W [Sl 1 437 (some ⟨g,0,none⟩) c n (l.map pE)] (aG 437 (.pointer (some ⟨g,0+j,none⟩))) (pE l[j]):=by
 rw[Nat.zero_add]
 exact bw (by rw[List.getElem?_map,List.getElem?_eq_getElem h];rfl)
theorem UA {W:World} {a:Option Addr} {c:Nat} {l:List Nat} {p:Nat->Bool} {C:HP} {k:FuncId} {cap:List Value} (hl:l.length<=1099511627776)
  (hf:∀g∈l,Cn p_ k ([pE g]++cap) W [C] (fun _:Unit=> .bool (p g)) (fun _=>[C])):
  Cn p_ 452 [.slice a l.length c,.func (.func k) #[] cap.toArray] W [Sl 1 437 a c l.length (l.map pE),C]
   (fun i:{i:Int // (i= -1/\∀g∈l,p g=false)\/∃j:Nat,∃h:j<l.length,i=(j:Int)/\p l[j]=true/\∀g∈l.take j,p g=false}=> .int .i64 i.1) (fun _=>[Sl 1 437 a c l.length (l.map pE),C]):=by
 (refine Shp.cn (Sg.g_ Tryz.call452 Tryz.func452 (an:={loops:=[(2,[8])]})) fun F=>?_;simp only[ca_,na_])
 refine aP .here fun h1 h2 h3 hs=>?_
 refine o_ aI (aY (fun m y=>pu (∃i:Nat,m+i=l.length/\y= .int .i64 (i:Int)/\∀g∈l.take i,p g=false)::Sl 1 437 a c l.length (l.map pE)::C::F) l.length ?_ ?_)
 ·refine .pu ⟨0,rfl,rfl,by simp⟩ ?_
  exact az
 intro m ds y
 refine aT .here fun hi=>?_
 obtain⟨i,hmi,rfl,hno⟩:=hi
 refine bz bD .nil (fun h=>?_) (fun h=>?_)
 ·have hin:i<l.length:=by omega
  obtain⟨g,rfl⟩:=hs (by omega)
  refine ai (o_ (bq i rfl hin) ?_)
  refine cO (ur hin) ?_
  refine bt (hf _ (List.getElem_mem hin)) (by(repeat(first|exact Picks.nil|(apply Picks.cons;(focus repeat constructor))))) fun _=>?_
  refine am ?_
  cases hp:p l[i]with
  |true=>
   refine ai (bK ⟨(i:Int),.inr ⟨i,hin,rfl,hp,hno⟩⟩ rfl ?_)
   exact az
  |false=>
   refine af (bP ?_)
   refine aZ (m-1) (by omega) (.pu ⟨i+1,by omega,by norm_cast,?_⟩ ?_)
   ·rw[List.take_succ_eq_append_getElem hin]
    intro g hg
    rcases List.mem_append.1 hg with hg|hg
    ·exact hno g hg
    ·rw[List.mem_singleton.1 hg];exact hp
   exact az
 ·have:i=l.length:=by omega
  subst this
  rw[List.take_length]at hno
  refine af (bK ⟨-1,.inl ⟨rfl,hno⟩⟩ rfl ?_)
  exact az
theorem pJ {α:Type}:∀ {xs:List α} {i:Nat} (v:α),i<xs.length->(xs.set i v).take (i+1)=xs.take i++[v]
 |x::xs,0,v,_=>by simp
 |x::xs,i+1,v,h=>by simp only[List.set_cons_succ,List.take_succ_cons,List.cons_append];rw[pJ v (by simpa using h)]
theorem pK {α:Type}:∀ {xs:List α} {i j:Nat} (v:α),i<j->(xs.set i v).drop j=xs.drop j
 |[],_,_,_,_=>by simp
 |x::xs,0,j+1,v,_=>by simp
 |x::xs,i+1,j+1,v,h=>by simp only[List.set_cons_succ,List.drop_succ_cons];exact pK v (by omega)
theorem P0 {W:World} {a:Option Addr} {c:Nat} {l:List Nat} {p:Nat->Bool} {C:HP} {k:FuncId} {cap:List Value} (hl:l.length<=1099511627776)
  (hf:∀g∈l,Cn p_ k ([pE g]++cap) W [C] (fun _:Unit=> .bool (p g)) (fun _=>[C])):
  Cn p_ 389 [.slice a l.length c,.func (.func k) #[] cap.toArray] W [Sl 1 437 a c l.length (l.map pE),C]
   (fun _:Unit=> .slice a (l.filter fun g=>!p g).length c) (fun _=>[Sl 1 437 a c (l.filter fun g=>!p g).length ((l.filter fun g=>!p g).map pE),C]):=by
 (refine Shp.cn (Sg.g_ Tryz.call389 Tryz.func389 (an:={loops:=[(5,[5,6])]})) fun F=>?_;simp only[ca_,na_])
 refine aP .here fun h1 h2 h3 hs=>?_
 refine ah (UA hl hf) (by(repeat(first|exact Picks.nil|(apply Picks.cons;(focus repeat constructor))))) fun i=>?_
 obtain⟨i,hi⟩:=i
 refine am ?_
 rcases hi with ⟨rfl,hno⟩|⟨i,hil,rfl,hpi,hno⟩
 ·refine o_ cH ?_
  rw[dT_ rfl]
  have hfl:(l.filter fun g=>!p g)=l:=List.filter_eq_self.2 fun g hg=>by rw[hno g hg];rfl
  rw[hfl]
  refine ai (aR () ?_)
  exact az
 refine o_ cH ?_
 rw[dF_ (by omega)]
 obtain⟨g,rfl⟩:=hs (by omega)
 have hf0:((l.take (i+1)).filter fun g=>!p g)=l.take i:=by
  rw[List.take_succ_eq_append_getElem hil,List.filter_append,List.filter_eq_self.2 fun g hg=>by rw[hno g hg];rfl]
  simp[hpi]
 refine af (bP ?_)
 refine cp (fun m x y=>[ex fun s:(Nat × Nat) × List Value=>all [pu (m+s.1.2=l.length/\s.1.1<s.1.2/\x= .int .i64 (s.1.1:Int)/\y= .int .i64 (s.1.2:Int)/\s.2.length=l.length/\s.1.1=((l.take s.1.2).filter fun g=>!p g).length/\s.2.take s.1.1=((l.take s.1.2).filter fun g=>!p g).map pE/\s.2.drop s.1.2=(l.drop s.1.2).map pE),Sl 1 437 (some ⟨g,0,none⟩) c l.length s.2,C]]++F) (l.length-(i+1)) ?_ ?_
 ·refine .ex ((i,i+1),l.map pE) (.all ?_)
  refine am ?_
  refine .pu ⟨by omega,by omega,rfl,by norm_cast,by rw[List.length_map],by rw[hf0,List.length_take];omega,by rw[hf0,List.map_take],by rw[List.map_drop]⟩ ?_
  exact az
 intro m ds x y
 refine am ?_
 refine a8 Pick.here fun s=>aB Pick.here ?_
 obtain⟨⟨u,j⟩,xs⟩:=s
 refine am ?_
 refine aT Pick.here fun hi=>?_
 obtain⟨hmj,huj,rfl,rfl,hxl,hul,htk,hdr⟩:=hi
 (try dsimp only at hmj huj hxl hul htk hdr)
 refine o_ aI (bz bD .nil (fun h=>?_) (fun h=>?_))
 ·have hjl:j<l.length:=by omega
  have hxj:xs[j]? =some (pE l[j]):=by
   have:=congrArg (fun t=>t[0]?) hdr
   simpa [List.getElem?_drop,List.getElem?_eq_getElem hjl]using this
  have htj:((l.take (j+1)).filter fun g=>!p g)=((l.take j).filter fun g=>!p g)++(if p l[j]then []else [l[j]]):=by
   rw[List.take_succ_eq_append_getElem hjl,List.filter_append]
   congr 1
   cases hpl:p l[j] <;> simp[hpl]
  have hdr':xs.drop (j+1)=(l.drop (j+1)).map pE:=by
   have:=congrArg (fun t=>t.drop 1) hdr
   simpa [List.drop_drop,<- List.map_drop]using this
  have hld:aQ p_ W [Sl 1 437 (some ⟨g,0,none⟩) c l.length xs] (aG 437 (.pointer (some ⟨g,0+j,none⟩))) (pE l[j]):=by
   rw[Nat.zero_add]
   exact bw hxj
  refine ai (o_ (bq j rfl hjl) ?_)
  refine cO hld ?_
  refine bt (hf _ (List.getElem_mem hjl)) (by(repeat(first|exact Picks.nil|(apply Picks.cons;(focus repeat constructor))))) fun _=>?_
  refine am ?_
  refine o_ fx ?_
  cases hp:p l[j]with
  |true=>
   rw[hp,if_pos rfl,List.append_nil]at htj
   refine af (bP ?_)
   refine bI (m-1) (by omega) (.ex ((u,j+1),xs) (.all ?_))
   refine am ?_
   refine .pu ⟨by omega,by omega,rfl,by norm_cast,hxl,by rw[htj];exact hul,by rw[htj];exact htk,hdr'⟩ ?_
   exact az
  |false=>
   rw[hp]at htj
   simp only[Bool.false_eq_true,if_false]at htj
   refine ai (o_ (bq u rfl (by omega)) ?_)
   rw[Nat.zero_add]
   refine d7 (by(repeat constructor):Pick _ (Sl 1 437 (some ⟨g,0,none⟩) c l.length xs) _) (by omega) ?_
   refine bP ?_
   refine bP ?_
   refine bI (m-1) (by omega) (.ex ((u+1,j+1),xs.set u (pE l[j])) (.all ?_))
   refine am ?_
   refine .pu ⟨by omega,by omega,by norm_cast,by norm_cast,by rw[List.length_set];exact hxl,by rw[htj,List.length_append,<- hul];rfl,by rw[htj,pJ _ (by omega),htk,List.map_append];rfl,by rw[pK _ (by omega)];exact hdr'⟩ ?_
   exact az
 ·have:j=l.length:=by omega
  subst this
  rw[List.take_length]at hul htk
  refine af (o_ (jK u rfl (by omega)) ?_)
  rw[if_neg (by omega:¬c=u)]
  simp only[Option.map_some,du,Nat.zero_add,Nat.mul_one]
  refine xv (by(repeat constructor):Pick _ (Sl 1 437 (some ⟨g,0,none⟩) c l.length xs) _) (by omega) (by omega) ?_
  refine o_ (mD u rfl (by omega)) ?_
  refine i9 (m:=u) .here (by omega) ?_
  rw[Nat.mul_one,List.append_assoc,List.take_append_of_le_length (by rw[List.length_take];omega),List.take_take,Nat.min_self,htk,hul]
  refine aR () ?_
  exact az
end Go.Proofs.YtdjkdjepjahjfaaGreatDoor.FD
namespace Go.Proofs.YtdjkdjepjahjfaaGreatDoor.Sl
open Go Go.RowKit Sh
variable {P:Program} {W:World} {L L' L'':List HP} {Kp:PK} {k:Value->WP} {α:Type} [DecidableEq α]
theorem vT {F:α->HP}{i:α}:∀(l:List α),i∈l->l.Nodup->∀ {h:e8},all (l.map F) W h->fW (F i) (all ((l.filter fun j=>decide (j≠i)).map F)) W h
 |[],hi,_,_,_=>by simp at hi
 |j::l,hi,hn,h,H=>by
  rw[List.nodup_cons]at hn
  by_cases c:j=i
  ·subst c
   have e:(List.filter (fun x=>decide (x≠j)) (j::l))=l:=by
    rw[List.filter_cons_of_neg (by simp)]
    exact List.filter_eq_self.2 fun x hx=>by
     simp only[ne_eq,decide_not,Bool.not_eq_eq_eq_not,Bool.not_true,decide_eq_false_iff_not]
     rintro rfl
     exact hn.1 hx
   rw[e]
   exact H
  ·have hi':i∈l:=by
    rcases List.mem_cons.1 hi with e|e
    ·exact absurd e.symm c
    ·exact e
   rw[List.filter_cons_of_pos (by simpa using c),List.map_cons]
   have:=em (fun h=>vT (i:=i) l hi' hn.2 (h:=h)) H
   exact gJ this
theorem Gw {F:α->HP}{i:α}:∀(l:List α),i∈l->l.Nodup->∀ {h:e8},fW (F i) (all ((l.filter fun j=>decide (j≠i)).map F)) W h->all (l.map F) W h
 |[],hi,_,_,_=>by simp at hi
 |j::l,hi,hn,h,H=>by
  rw[List.nodup_cons]at hn
  by_cases c:j=i
  ·subst c
   have e:(List.filter (fun x=>decide (x≠j)) (j::l))=l:=by
    rw[List.filter_cons_of_neg (by simp)]
    exact List.filter_eq_self.2 fun x hx=>by
     simp only[ne_eq,decide_not,Bool.not_eq_eq_eq_not,Bool.not_true,decide_eq_false_iff_not]
     rintro rfl
     exact hn.1 hx
   rw[e]at H
   exact H
  ·have hi':i∈l:=by
    rcases List.mem_cons.1 hi with e|e
    ·exact absurd e.symm c
    ·exact e
   rw[List.filter_cons_of_pos (by simpa using c),List.map_cons]at H
   exact em (fun h=>Gw (i:=i) l hi' hn.2 (h:=h)) (gJ H)
def BL (l:List α)(F:α->HP):HP:=all (l.map F)
def BO (l:List α)(F:α->HP)(i:α):HP:=all ((l.filter fun j=>decide (j≠i)).map F)
theorem BO.congr {l:List α}{i:α}{F F':α->HP}(h:∀j∈l,j≠i->F j=F' j):BO l F i=BO l F' i:=by
 unfold BO
 congr 1
 exact List.map_congr_left fun j hj=>by
  rw[List.mem_filter]at hj
  exact h j hj.1 (by simpa using hj.2)
theorem BL.congr {l:List α}{F F':α->HP}(h:∀j∈l,F j=F' j):BL l F=BL l F':=by
 unfold BL
 congr 1
 exact List.map_congr_left h
theorem IT {A B:HP}{h:e8}(H:fW A B W h):all [A,B] W h:=by
 obtain⟨k1,k2,b1,b2,d,t1,t2⟩:=H
 exact⟨k1,k2,b1,⟨k2,fun _=>none,b2,trivial,fun _=> .inr rfl,fun _ _ c=>c,fun _ _ c=>by cases c⟩,d,t1,t2⟩
theorem uu {A B:HP}{h:e8}(H:all [A,B] W h):fW A B W h:=by
 obtain⟨k1,k2,b1,⟨k3,k4,b2,_,_,t3,_⟩,d,t1,t2⟩:=H
 refine⟨k1,k3,b1,b2,fun j=>?_,t1,fun j o c=>t2 j o (t3 j o c)⟩
 rcases d j with c|c
 ·exact .inl c
 ·right
  cases c':k3 j with
  |none=>rfl
  |some o=>rw[t3 j o c']at c;cases c
theorem yS {l:List α}{F:α->HP}{S:WP}(p:Pick L (BL l F) L')(i:α)(hi:i∈l)(hn:l.Nodup)(h:aJ W (F i::BO l F i::L') S):aJ W L S:=fun w hw=>by
 refine h w (sat.map (L:=BL l F::L') (fun f H=>?_) (hw.pick p))
 have H2:fW (all [F i,BO l F i]) (all L') W f:=by
  obtain⟨h1,h2,ha,r⟩:=H
  exact⟨h1,h2,IT (vT l hi hn ha),r⟩
 exact bZ H2
theorem pL {l:List α}{F F':α->HP}{M:List HP}(i:α)(hi:i∈l)(hn:l.Nodup)(hF:∀j∈l,j≠i->F j=F' j)(h:Imp W L (F' i::BO l F i::M)):Imp W L (BL l F'::M):=by
 refine .conv (B:=all [F' i,BO l F i]) (fun f H=>?_) (.all h)
 rw[BO.congr hF]at H
 exact Gw l hi hn (uu H)
theorem xw {F:α->HP}{M:List HP}(h:Imp W L M):Imp W L (BL [] F::M):= .all (M:=M) (N:=[]) h
theorem xy {l:List α}{i:α}{F F':α->HP}{M:List HP}(hF:∀j∈l,F j=F' j)(h:Imp W L (F' i::BL l F::M)):Imp W L (BL (i::l) F'::M):=by
 refine .conv (B:=all [F' i,BL l F]) (fun f H=>?_) (.all h)
 rw[BL.congr hF]at H
 exact uu H
theorem BM {F:α->HP}{g:α->Nat}(hF:∀j h,F j W h->∃o,h (g j)=some o):∀(l:List α) {i:α} {h:e8},i∈l->all (l.map F) W h->∃o,h (g i)=some o
 |[],_,_,hi,_=>by simp at hi
 |j::l,i,h,hi,H=>by
  obtain⟨h1,h2,ha,hb,_,s1,s2⟩:=H
  rcases List.mem_cons.1 hi with rfl|hi
  ·obtain⟨o,ho⟩:=hF _ _ ha
   exact⟨o,s1 _ _ ho⟩
  ·obtain⟨o,ho⟩:=BM hF l hi hb
   exact⟨o,s2 _ _ ho⟩
theorem BN {l m:List α}:l.Nodup->(∀x∈l,x∈m)->l.length<=m.length:=by
 induction l generalizing m with
 |nil=>intro _ _;simp
 |cons x l ih=>
  intro hn hs
  rw[List.nodup_cons]at hn
  have hx:=hs x List.mem_cons_self
  have:=ih (m:=m.erase x) hn.2 fun y hy=>(List.mem_erase_of_ne (by rintro rfl;exact hn.1 hy)).2 (hs y (List.mem_cons_of_mem _ hy))
  rw[List.length_erase_of_mem hx]at this
  have:=List.length_pos_of_mem hx
  simp only[List.length_cons]
  omega
end Go.Proofs.YtdjkdjepjahjfaaGreatDoor.Sl
namespace Go.Proofs.YtdjkdjepjahjfaaGreatDoor.FD
structure En where
 key:List UInt8
 met:List UInt8
 rf:List Fd
 vf:List Fd
 st:Int
 xf:List Fd
 xb:List UInt8
 asked:Int
 came:Int
 cost:Int
structure Cs where
 al:List Nat
 E:Nat->En
 ord:List Nat
 ks:List (List UInt8)
 of_:List UInt8->List Nat
 bound:Int
 bytes:Int
def rg (E:Nat->En):List Nat->Int
 |[]=>0
 |g::r=>(E g).cost+rg E r
structure EnOk (T:Nat)(e:En):Prop where
 rf:zF e.rf<=T
 vf:zF e.vf<=T
 xf:zF e.xf<=T
 xb:e.xb.length<=T
 c1:64<=e.cost
theorem EnOk.up {T U:Nat}{e:En}(h:EnOk T e)(hu:T<=U):EnOk U e:=⟨by have:=h.rf;omega,by have:=h.vf;omega,by have:=h.xf;omega,by have:=h.xb;omega,h.c1⟩
structure CsOk (T:Nat)(S:Cs):Prop where
 t:T<=1048576
 aln:S.al.Nodup
 ksn:S.ks.Nodup
 on:S.ord.Nodup
 oa:∀g∈S.ord,g∈S.al
 fo:∀k,∀g∈S.of_ k,g∈S.ord/\(S.E g).key=k
 fb:∀g∈S.ord,g∈S.of_ (S.E g).key
 fn:∀k,(S.of_ k).Nodup
 fk:∀k,S.of_ k≠[]->k∈S.ks
 en:∀g∈S.al,EnOk T (S.E g)
 by_:S.bytes=rg S.E S.ord
 le:S.bytes<=S.bound
 b0:0<=S.bound
 b1:S.bound<=1048576
theorem CsOk.up {T U:Nat}{S:Cs}(h:CsOk T S)(hu:T<=U)(hU:U<=1048576):CsOk U S:={h with t:=hU,en:=fun g hg=>(h.en g hg).up hu}
theorem vU {E:Nat->En}{T:Nat}:∀ {l:List Nat},(∀g∈l,EnOk T (E g))->64 * (l.length:Int)<=rg E l
 |[],_=>by simp[rg]
 |g::r,h=>by
  have h1:=(h g List.mem_cons_self).c1
  have h2:=vU (l:=r) fun x hx=>h x (List.mem_cons_of_mem _ hx)
  simp only[rg,List.length_cons]
  omega
theorem lw {E:Nat->En}{g:Nat}:∀ {l:List Nat},l.Nodup->g∈l->rg E (l.filter fun x=>!decide (x=g))=rg E l-(E g).cost
 |[],_,h=>by simp at h
 |x::r,hn,h=>by
  rw[List.nodup_cons]at hn
  by_cases c:x=g
  ·subst c
   rw[List.filter_cons_of_neg (by simp)]
   have:(r.filter fun y=>!decide (y=x))=r:=List.filter_eq_self.2 fun y hy=>by
    simp only[Bool.not_eq_true',decide_eq_false_iff_not]
    rintro rfl
    exact hn.1 hy
   rw[this]
   simp only[rg]
   omega
  ·have hr:g∈r:=by
    rcases List.mem_cons.1 h with e|e
    ·exact absurd e.symm c
    ·exact e
   rw[List.filter_cons_of_pos (by simpa using c)]
   have:=lw (E:=E) hn.2 hr
   simp only[rg]
   omega
theorem EI {E:Nat->En}{l:List Nat}{g:Nat}:rg E (l++[g])=rg E l+(E g).cost:=by
 induction l with
 |nil=>simp[rg]
 |cons x r ih=>simp only[List.cons_append,rg,ih];omega
theorem rh {E E':Nat->En}:∀ {l:List Nat},(∀g∈l,E g=E' g)->rg E l=rg E' l
 |[],_=>rfl
 |g::r,h=>by
  have h1:=h g List.mem_cons_self
  have h2:=rh (E:=E) (E':=E') (l:=r) fun x hx=>h x (List.mem_cons_of_mem _ hx)
  simp only[rg,h1,h2]
theorem CsOk.len {T:Nat}{S:Cs}(h:CsOk T S):64 * (S.ord.length:Int)<=S.bytes:=by
 rw[h.by_]
 exact vU fun g hg=>h.en g (h.oa g hg)
theorem CsOk.ordl {T:Nat}{S:Cs}(h:CsOk T S):S.ord.length<=1048576:=by
 have h1:=h.len
 have h2:=h.le
 have h3:=h.b1
 omega
theorem CsOk.ofl {T:Nat}{S:Cs}(h:CsOk T S)(k:List UInt8):(S.of_ k).length<=1048576:=by
 have:=Sl.BN (h.fn k) fun g hg=>(h.fo k g hg).1
 have:=h.ordl
 omega
theorem EJ {T:Nat}{E:Nat->En}{g:Nat}{l:List Nat}(h:∀g∈l,EnOk T (E g))(hn:l.Nodup)(hg:g∈l):(E g).cost<=rg E l:=by
 have h1:=lw (E:=E) hn hg
 have h2:=vU (E:=E) (T:=T) (l:=l.filter fun x=>!decide (x=g)) fun x hx=>h x (List.mem_filter.1 hx).1
 omega
theorem CsOk.cost {T:Nat}{S:Cs}(h:CsOk T S){g:Nat}(hg:g∈S.ord):(S.E g).cost<=S.bytes:=by
 rw[h.by_]
 exact EJ (fun g hg=>h.en g (h.oa g hg)) h.on hg
def gx (S:Cs)(g:Nat):Cs:={S with
 ord:=S.ord.filter fun x=>!decide (x=g)
 bytes:=S.bytes-(S.E g).cost
 of_:=fun k=>if k=(S.E g).key then(S.of_ k).filter (fun x=>!decide (x=g))else S.of_ k}
theorem xz {T : Nat} {S : Cs} (h : CsOk T S) {g : Nat} (hg : g ∈ S.ord) : CsOk T (gx S g) := { h with
  on := h.on.filter _
  oa := fun x hx => h.oa x (List.mem_filter.1 hx).1
  fo := fun k x hx => by
    have hx' : x ∈ S.of_ k ∧ x ≠ g := by
      simp only [gx] at hx
      split at hx
      · obtain ⟨a, b⟩ := List.mem_filter.1 hx
        exact ⟨a, by simpa using b⟩
      · rename_i c
        exact ⟨hx, by rintro rfl; exact c (h.fo k x hx).2.symm⟩
    obtain ⟨a, b⟩ := h.fo k x hx'.1
    exact ⟨List.mem_filter.2 ⟨a, by simpa using hx'.2⟩, b⟩
  fb := fun x hx => by
    obtain ⟨a, b⟩ := List.mem_filter.1 hx
    have := h.fb x a
    show x ∈ (if (S.E x).key = (S.E g).key then (S.of_ (S.E x).key).filter (fun x => !decide (x = g)) else S.of_ (S.E x).key)
    split
    · exact List.mem_filter.2 ⟨this, b⟩
    · exact this
  fn := fun k => by
    simp only [gx]
    split
    · exact (h.fn k).filter _
    · exact h.fn k
  fk := fun k hk => by
    apply h.fk k
    simp only [gx] at hk
    split at hk
    · intro e; rw [e] at hk; exact hk rfl
    · exact hk
  by_ := by
    show S.bytes - _ = rg S.E (S.ord.filter fun x => !decide (x = g))
    rw [lw h.on hg, h.by_]
  le := by
    have h1 := h.le
    have h2 := (h.en g (h.oa g hg)).c1
    show S.bytes - (S.E g).cost ≤ S.bound
    omega }
structure Sub (S' S:Cs):Prop where
 al:S'.al=S.al
 E:S'.E=S.E
 ks:S'.ks=S.ks
 bound:S'.bound=S.bound
 ord:∀g∈S'.ord,g∈S.ord
 of_:∀k,(S'.of_ k).Sublist (S.of_ k)
theorem Sub.refl (S:Cs):Sub S S:=⟨rfl,rfl,rfl,rfl,fun _ h=>h,fun _=> .refl _⟩
theorem Sub.trans {A B C:Cs}(h:Sub A B)(k:Sub B C):Sub A C:=⟨h.al.trans k.al,h.E.trans k.E,h.ks.trans k.ks,h.bound.trans k.bound,fun g hg=>k.ord g (h.ord g hg),fun q=>(h.of_ q).trans (k.of_ q)⟩
theorem uv (S:Cs)(g:Nat):Sub (gx S g) S:=⟨rfl,rfl,rfl,rfl,fun x hx=>(List.mem_filter.1 hx).1,fun k=>by
 simp only[gx]
 split
 ·exact List.filter_sublist
 ·exact .refl _⟩
theorem ri {l:List Nat}{g:Nat}(h:l.Nodup)(hg:g∉l):(l++[g]).Nodup:=by
 rw[List.nodup_append]
 exact⟨h,by simp,fun a ha b hb=>by rw[List.mem_singleton.1 hb];rintro rfl;exact hg ha⟩
def fm (S:Cs)(g:Nat)(e:En):Cs:={S with
 al:=g::S.al
 E:=fun x=>if x=g then e else S.E x
 ord:=S.ord++[g]
 ks:=if e.key∈S.ks then S.ks else e.key::S.ks
 of_:=fun k=>if k=e.key then S.of_ k++[g]else S.of_ k
 bytes:=S.bytes+e.cost}
theorem IU {T : Nat} {S : Cs} (h : CsOk T S) {g : Nat} (hg : g ∉ S.al) {e : En} (he : EnOk T e) (hc : S.bytes + e.cost ≤ S.bound) : CsOk T (fm S g e) := by
  have hgo : g ∉ S.ord := fun c => hg (h.oa g c)
  have hE : ∀ x ∈ S.al, (fm S g e).E x = S.E x := fun x hx => by
    show (if x = g then e else S.E x) = _
    rw [if_neg (by rintro rfl; exact hg hx)]
  have hEg : (fm S g e).E g = e := if_pos rfl
  exact { h with
    aln := List.nodup_cons.2 ⟨hg, h.aln⟩
    ksn := by
      show (if e.key ∈ S.ks then S.ks else e.key :: S.ks).Nodup
      split
      · exact h.ksn
      · rename_i c; exact List.nodup_cons.2 ⟨c, h.ksn⟩
    on := ri h.on hgo
    oa := fun x hx => by
      rcases List.mem_append.1 hx with hx | hx
      · exact List.mem_cons_of_mem _ (h.oa x hx)
      · rw [List.mem_singleton.1 hx]; exact List.mem_cons_self
    fo := fun k x hx => by
      have old : x ∈ S.of_ k → x ∈ (fm S g e).ord ∧ ((fm S g e).E x).key = k := fun hx => by
        obtain ⟨a, b⟩ := h.fo k x hx
        exact ⟨List.mem_append_left _ a, by rw [hE x (h.oa x a)]; exact b⟩
      simp only [fm] at hx
      split at hx
      · rename_i c
        rcases List.mem_append.1 hx with hx | hx
        · exact old hx
        · rw [List.mem_singleton.1 hx, hEg]
          exact ⟨List.mem_append_right _ (List.mem_singleton.2 rfl), c.symm⟩
      · exact old hx
    fb := fun x hx => by
      show x ∈ (if ((fm S g e).E x).key = e.key then S.of_ ((fm S g e).E x).key ++ [g] else S.of_ ((fm S g e).E x).key)
      rcases List.mem_append.1 hx with hx | hx
      · have := h.fb x hx
        rw [hE x (h.oa x hx)]
        split
        · exact List.mem_append_left _ this
        · exact this
      · rw [List.mem_singleton.1 hx, hEg, if_pos rfl]
        exact List.mem_append_right _ (List.mem_singleton.2 rfl)
    fn := fun k => by
      show (if k = e.key then S.of_ k ++ [g] else S.of_ k).Nodup
      split
      · exact ri (h.fn k) fun c => hgo (h.fo k g c).1
      · exact h.fn k
    fk := fun k hk => by
      show k ∈ (if e.key ∈ S.ks then S.ks else e.key :: S.ks)
      by_cases c : k = e.key
      · subst c
        split
        · assumption
        · exact List.mem_cons_self
      · have : S.of_ k ≠ [] := by
          simp only [fm] at hk
          rwa [if_neg c] at hk
        have := h.fk k this
        split
        · exact this
        · exact List.mem_cons_of_mem _ this
    en := fun x hx => by
      rcases List.mem_cons.1 hx with rfl | hx
      · rw [hEg]; exact he
      · rw [hE x hx]; exact h.en x hx
    by_ := by
      show S.bytes + e.cost = rg (fm S g e).E (S.ord ++ [g])
      rw [EI, hEg, rh (E := (fm S g e).E) (E' := S.E) fun x hx => hE x (h.oa x hx), h.by_]
    le := hc }
def rj (e:En)(R:List Fd):Bool:=(cz e.xf).all fun n=>decide (bW e.vf n=bW R n)
def io (S:Cs)(key:List UInt8)(R:List Fd):Option Nat:=(S.of_ key).reverse.find? fun g=>rj (S.E g) R
def cv (bound:Int):Cs:=⟨[],fun _=>⟨[],[],[],[],0,[],[],0,0,0⟩,[],[],fun _=>[],bound,0⟩
theorem mf {b:Int}(h0:0<=b)(h1:b<=1048576):CsOk 0 (cv b) where
 t:=by decide
 aln:=List.nodup_nil
 ksn:=List.nodup_nil
 on:=List.nodup_nil
 oa:=fun _ h=>by cases h
 fo:=fun _ _ h=>by cases h
 fb:=fun _ h=>by cases h
 fn:=fun _=>List.nodup_nil
 fk:=fun _ h=>absurd rfl h
 en:=fun _ h=>by cases h
 by_:=rfl
 le:=h0
 b0:=h0
 b1:=h1
end Go.Proofs.YtdjkdjepjahjfaaGreatDoor.FD
namespace Go.Proofs.YtdjkdjepjahjfaaGreatDoor.FD
open Go Go.Proofs Go.RowKit Sh Sl T
abbrev Q2:=Option Addr × Nat
def vV (g:Nat)(e:En):HP:=ex fun q:(Q2 × Q2) × (Q2 × Q2)=>all [pt g (.cells #[ay e.key,ay e.met,.slice q.1.1.1 e.rf.length q.1.1.2,.slice q.1.2.1 e.vf.length q.1.2.2,.int .i64 e.st,.slice q.2.1.1 e.xf.length q.2.1.2,.slice q.2.2.1 e.xb.length q.2.2.2,.int .i64 e.asked,.int .i64 e.came,.int .i64 e.cost] 444),
 Sl 2 192 q.1.1.1 q.1.1.2 e.rf.length (e.rf.flatMap cS),Sl 2 192 q.1.2.1 q.1.2.2 e.vf.length (e.vf.flatMap cS),Sl 2 192 q.2.1.1 q.2.1.2 e.xf.length (e.xf.flatMap cS),Sl 1 5 q.2.2.1 q.2.2.2 e.xb.length (e.xb.map Sl.B)]
def c9 (Z:Cs)(rw:List UInt8->Q2)(k:List UInt8):Option Value:=if Z.of_ k=[]then none else some (.slice (rw k).1 (Z.of_ k).length (rw k).2)
def dA (Z:Cs)(rw:List UInt8->Q2)(k:List UInt8):HP:=Sl 1 437 (rw k).1 (rw k).2 (Z.of_ k).length ((Z.of_ k).map pE)
def BE (al:List Nat)(E:Nat->En):HP:=BL al (fun g=>vV g (E g))
def gf (c:Nat)(Z:Cs):HP:=ex fun q:Q2 × Nat × (List UInt8->Q2)=>all [pt c (.cells #[.slice q.1.1 Z.ord.length q.1.2,.map (some q.2.1),.int .i64 Z.bound,.int .i64 Z.bytes] 241),Sl 1 437 q.1.1 q.1.2 Z.ord.length (Z.ord.map pE),bH q.2.1 ay (c9 Z q.2.2),BL Z.ks (dA Z q.2.2),BE Z.al Z.E]
theorem P1 {W:World}{g:Nat}{e:En}{T:Nat}{R:List Fd}{ar:Option Addr}{cr:Nat}{A:HP}(he:EnOk T e)(hT:T<=1048576)(hA:gX W A ar R)(hR:zF R<=1048576):
  Cn p_ 300 [pE g,.slice ar R.length cr] W [vV g e,A] (fun _:Unit=> .bool (rj e R)) (fun _=>[vV g e,A]):=by
 have hxf:zF e.xf<=1048576:=by have:=he.xf;omega
 have hvf:zF e.vf<=1048576:=by have:=he.vf;omega
 obtain⟨n1,n2⟩:=mW hxf
 have hRo:=ue (l:=R) (by omega)
 have hvo:=ue (l:=e.vf) (by omega)
 have hzv:=lW e.vf
 (refine Shp.cn (Sg.g_ Tryz.call300 Tryz.func300 (an:={loops:=[(2,[14])]})) fun F=>?_;simp only[ca_,na_])
 refine a8 .here fun q=>aB .here ?_
 obtain⟨⟨⟨ra,rc⟩,va,vc⟩,⟨xa,xc⟩,ba,bc⟩:=q
 refine am ?_
 refine o_ ag (o_ ae (o_ dm (aH ?_)))
 refine aP (by(repeat constructor):Pick _ (Sl 2 192 va vc e.vf.length (e.vf.flatMap cS)) _) fun _ _ _ hv=>?_
 refine aP (by(repeat constructor):Pick _ (Sl 2 192 xa xc e.xf.length (e.xf.flatMap cS)) _) fun _ _ _ hx=>?_
 refine ah (sI (cJ hx) hxf) (.cons (by repeat constructor) .nil) fun v=>?_
 obtain⟨na,nc⟩:=v
 refine am ?_
 (try dsimp only)
 have hfit:rj e R=(cz e.xf).all fun n=>decide (bW e.vf n=bW R n):=rfl
 rw[hfit]
 obtain⟨V,hV⟩:∃V,V=cz e.xf:=⟨_,rfl⟩
 rw[<- hV]at n1 n2 ⊢
 refine aP (by(repeat constructor):Pick _ (Sl 1 9 na nc V.length (V.map ay)) _) fun _ _ _ hs=>?_
 have hN:RdB W (Sl 1 9 na nc V.length (V.map ay)) na V.length (V.map ay):=gO (by rw[List.length_map]) hs
 refine o_ aI (aY (fun m y=>pu (∃i:Nat,m+i=V.length/\y= .int .i64 (i:Int)/\(V.take i).all (fun n=>decide (bW e.vf n=bW R n))=true)::vV g e::A::Sl 1 9 na nc V.length (V.map ay)::F) V.length ?_ ?_)
 ·refine .pu ⟨0,rfl,rfl,rfl⟩ (.ex (((ra,rc),va,vc),(xa,xc),ba,bc) (.all ?_))
  refine am ?_
  exact az
 intro m ds y
 refine aT .here fun hi=>?_
 obtain⟨i,hmi,rfl,hall⟩:=hi
 refine bz bD .nil (fun h=>?_) (fun h=>?_)
 ·have hin:i<V.length:=by omega
  have hta:=List.take_succ_eq_append_getElem hin
  have hvn:=n2 _ (List.getElem_mem hin)
  obtain⟨ng,rfl⟩:=hs (by omega)
  refine ai (o_ (bq i rfl hin) ?_)
  refine cO (lu hN hin) ?_
  refine a8 .here fun q=>aB .here ?_
  obtain⟨⟨⟨ra,rc⟩,va,vc⟩,⟨xa,xc⟩,ba,bc⟩:=q
  refine am ?_
  refine o_ ag (o_ ae (aH ?_))
  refine aP (by(repeat constructor):Pick _ (Sl 2 192 va vc e.vf.length (e.vf.flatMap cS)) _) fun _ _ _ hv=>?_
  refine ah (fO (n:=V[i]) (cJ hv) hvo (by omega)) (.cons (by repeat constructor) .nil) fun r=>?_
  obtain⟨r1,r2⟩:=r
  refine am ?_
  (try dsimp only)
  refine ah (fO (n:=V[i]) hA hRo (by omega)) (.cons (by repeat constructor) .nil) fun s=>?_
  obtain⟨s1,s2⟩:=s
  refine am ?_
  (try dsimp only)
  have hvl:=jW e.vf V[i]
  refine ah (IR (l:=bW e.vf V[i]) (m:=bW R V[i]) (a:=r1) (b:=s1) (c:=r2) (d:=s2) (by omega)) (.cons (by repeat constructor) (.cons (by repeat constructor) .nil)) fun _=>?_
  refine am ?_
  refine o_ fx ?_
  by_cases hq:bW e.vf V[i]=bW R V[i]
  ·rw[dT_ hq]
   refine af (bP ?_)
   refine aZ (m-1) (by omega) (.pu ⟨i+1,by omega,by norm_cast,by rw[hta,List.all_append,hall];simp[hq]⟩ (.ex (((ra,rc),va,vc),(xa,xc),ba,bc) (.all ?_)))
   refine am ?_
   exact az
  ·rw[dF_ hq]
   refine ai (bK () (by rw[show(V.all fun n=>decide (bW e.vf n=bW R n))=false from Bool.eq_false_iff.2 fun c=>hq (by simpa using List.all_eq_true.1 c _ (List.getElem_mem hin))]) ?_)
   refine .ex (((ra,rc),va,vc),(xa,xc),ba,bc) (.all ?_)
   refine am ?_
   exact az
 ·have:i=V.length:=by omega
  subst this
  rw[List.take_length]at hall
  refine af (bK () (by rw[hall]) ?_)
  exact az
theorem rk {W:World}{c:Nat}{Z:Cs}:Cn p_ 120 [pE c] W [gf c Z] (fun _:Unit=> .bool false) (fun _=>[gf c Z]):=by
 (refine Shp.cn (Sg.g_ Tryz.call120 Tryz.func120) fun F=>?_;simp only[ca_,na_])
 refine a8 .here fun q=>aB .here ?_
 obtain⟨⟨oa,oc⟩,mg,rw_⟩:=q
 refine am ?_
 refine o_ bM ?_;refine ab (ab (o_ ag (ab (o_ ae (ab (aH ?_))))));refine ab (o_ sN ?_)
 refine o_ ak (bK () rfl ?_)
 refine .ex ((oa,oc),mg,rw_) (.all ?_)
 refine am ?_
 exact az
theorem UB {W:World}{b:Int}(h0:0<=b)(h1:b<=1048576):Cn p_ 72 [.int .i64 b] W [] (fun c:Nat=> .tuple #[pE c,.int .i64 0]) (fun c=>[gf c (cv b)]):=by
 (refine Shp.cn (Sg.g_ Tryz.call72 Tryz.func72) fun F=>?_;simp only[ca_,na_])
 refine bz bD .nil (fun h=>?_) (fun h=>?_)
 ·omega
 refine ab (ab (o_ eu ?_))
 rw[dF_ (by omega)]
 refine o_ ak (af (jt ay fun mg=>?_))
 refine o_ bO ?_;refine aX fun g=>?_
 rename Nat=>c
 refine bK c rfl ?_
 refine .ex ((none,0),mg,fun _=>(none,0)) (.all ?_)
 refine am ?_
 refine .pick (by repeat constructor) (bJ (.pick (by repeat constructor) (xw (xw ?_))))
 exact az
section
variable {P:Program} {W:World} {L L' L'':List HP} {Kp:PK} {k:Value->WP}
theorem BP {α:Type}[DecidableEq α]{l:List α}{F:α->HP}{i:α}{s:Sem Next}{v:Value}(hi:i∈l)(hn:l.Nodup)(H:aQ P W [F i] s v):aQ P W [BL l F] s v:=fun w hw=>by
 refine H w (sat.map (fun f h=>?_) hw)
 obtain⟨h1,h2,ha,_,d,s1,s2⟩:=h
 obtain⟨k1,k2,b1,_,_,t1,_⟩:=Sl.vT l hi hn ha
 exact⟨k1,fun _=>none,b1,trivial,fun _=> .inr rfl,fun i o c=>s1 i o (t1 i o c),fun _ _ c=>by cases c⟩
theorem jh {α:Type}{A:α->HP}{s:Sem Next}{v:Value}(H:∀x,aQ P W [A x] s v):aQ P W [ex A] s v:=fun w hw=>by
 obtain⟨b,f,⟨h1,h2,⟨x,ha⟩,r⟩,c⟩:=hw
 exact H x w ⟨b,f,⟨h1,h2,ha,r⟩,c⟩
theorem gF {A:HP}{M:List HP}{s:Sem Next}{v:Value}(H:aQ P W [A] s v):aQ P W [all (A::M)] s v:=fun w hw=>by
 obtain⟨b,f,⟨h1,h2,⟨k1,k2,ka,_,_,t1,_⟩,_,_,s1,_⟩,c⟩:=hw
 exact H w ⟨b,f,⟨k1,fun _=>none,ka,trivial,fun _=> .inr rfl,fun i o e=>s1 i o (t1 i o e),fun _ _ e=>by cases e⟩,c⟩
theorem Gy {α:Type}[DecidableEq α]{l:List α}{F F':α->HP}{S:WP}(i:α)(hi:i∈l)(hn:l.Nodup)(hF:∀j∈l,j≠i->F j=F' j)(p:Pick L (F' i) L')(q:Pick L' (BO l F i) L'')(h:aJ W (BL l F'::L'') S):aJ W L S:=
 bf (pL i hi hn hF (.pick p (.pick q .refl))) h
end
theorem vW {W:World}{al:List Nat}{E:Nat->En}{g:Nat}(hg:g∈al)(hn:al.Nodup):aQ p_ W [BE al E] (aG 9 (.pointer (some ⟨g,0,none⟩))) (ay (E g).key):=
 BP hg hn (jh fun q=>gF (aS .here))
theorem xA {W:World}{al:List Nat}{E:Nat->En}{g:Nat}(hg:g∈al)(hn:al.Nodup):aQ p_ W [BE al E] (aG 3 (.pointer (some ⟨g,9,none⟩))) (.int .i64 (E g).cost):=
 BP hg hn (jh fun q=>gF (aS (by repeat constructor)))
theorem Gz {W:World}{al:List Nat}{E:Nat->En}{ox oy:Operand}{a b:Nat}(ha:a∈al)(hb:b∈al):aQ p_ W [BE al E] (dY .eql 437 ox oy (pE a) (pE b)) (.bool (decide (a=b))):=fun w hw=>by
 have cell:∀g∈al,∃ca ta,w.heap[g]? =some (.cells ca ta (0,0)):=fun g hg=>by
  obtain⟨_,f,⟨h1,h2,hb,_,_,s1,_⟩,hc⟩:=hw
  have key:∀(l:List Nat) (h:e8),g∈l->all (l.map fun g=>vV g (E g)) W h->∃ca ta,h g=some (.cells ca ta (0,0)):=by
   intro l
   induction l with
   |nil=>intro h hg;cases hg
   |cons x r ih=>
    intro h hg H
    obtain⟨k1,k2,ka,kb,_,t1,t2⟩:=H
    rcases List.mem_cons.1 hg with rfl|hg
    ·obtain⟨q,m1,m2,ma,_,_,u1,_⟩:=ka
     exact⟨_,_,t1 _ _ (u1 _ _ ma)⟩
    ·obtain⟨ca,ta,e⟩:=ih k2 hg kb
     exact⟨ca,ta,t2 _ _ e⟩
  obtain⟨ca,ta,e⟩:=key al h1 hg hb
  exact⟨ca,ta,(hc g _ (s1 _ _ e)).2⟩
 by_cases c:a=b
 ·subst c
  have:=run_eql_ptr_same (P:=p_) w (tp:=437) (te:=444) (j:=Tryz.t444) ⟨a,0,none⟩ (by kernel_rfl) (by kernel_rfl)
  simp[dY,sv,eqGuard,this]
 ·obtain⟨ca,ta,e1⟩:=cell a ha
  obtain⟨cb,tb,e2⟩:=cell b hb
  have:=run_eql_ptr_other (P:=p_) w (tp:=437) (te:=444) (j:=Tryz.t444) (a:=⟨a,0,none⟩) (b:=⟨b,0,none⟩) (by kernel_rfl) (by kernel_rfl) (by decide+kernel) (by simp[c]) e1 e2
  simp[dY,sv,eqGuard,this,c]
theorem ji {κ:Type}[DecidableEq κ]{P:Program}{W:World}{t kt e:TypeId}{enc:κ->Value}{z:Value}{g:Nat}{f:κ->Option Value}{q:κ}[ht:MapT P t kt e][hz:ZeroT P e z](K:KeyLaw P kt enc):aQ P W [bH g enc f] (iE t (.map (some g)) (enc q) false) ((f q).getD z):=fun w hw=>by
 obtain⟨b,fr,⟨h1,h2,⟨m,k1,k2,hp,⟨j1,j2,jm,_,_,u1,_⟩,_,_,t2⟩,r⟩,c⟩:=hw
 rw[<- hp.2 q]
 exact vv K w ⟨b,fr,⟨j1,fun _=>none,jm,trivial,fun _=> .inr rfl,fun i o e=>r.2.2.1 i o (t2 i o (u1 i o e)),fun _ _ e=>by cases e⟩,c⟩
def lx (L:List Nat)(g:Nat):List Nat:=L.filter fun x=>!decide (x=g)
theorem GB {W:World}{c g:Nat}{oa:Option Addr}{oc:Nat}{M:List Nat}{m b y:Value}{al:List Nat}{E:Nat->En}(hM:M.length<=1099511627776)(ha:∀x∈M,x∈al)(hg:g∈al):
  Cn p_ 388 [pE c,pE g] W [pt c (.cells #[.slice oa M.length oc,m,b,y] 241),Sl 1 437 oa oc M.length (M.map pE),BE al E] (fun _:Unit=> .tuple #[])
   (fun _=>[pt c (.cells #[.slice oa (lx M g).length oc,m,b,y] 241),Sl 1 437 oa oc (lx M g).length ((lx M g).map pE),BE al E]):=by
 (refine Shp.cn (Sg.g_ Tryz.call388 Tryz.func388) fun F=>?_;simp only[ca_,na_])
 refine b_ fun b3=>?_
 refine o_ ag (o_ ae (aH ?_))
 refine o_ bC (bf (M:=all [pt b3 (.cells #[pE g] 437),BE al E]::Sl 1 437 oa oc M.length (M.map pE)::pt c (.cells #[.slice oa M.length oc,m,b,y] 241)::F) (.all ?_) ?_)
 ·refine am ?_
  exact az
 refine ah (P0 (k:=451) (cap:=[.pointer (some ⟨b3,0,none⟩)]) (p:=fun x=>decide (x=g)) (C:=all [pt b3 (.cells #[pE g] 437),BE al E]) hM (fun x hx=>by
  (refine Shp.cn (Sg.g_ Tryz.call451 Tryz.func451) fun F=>?_;simp only[ca_,na_])
  refine aB .here ?_
  refine am ?_
  refine aH ?_
  refine cO (Gz (ha x hx) hg) ?_
  refine bK () rfl ?_
  refine .all ?_
  refine am ?_
  (repeat(first|exact .refl|exact .nil|(apply Imp.pick;(focus ((repeat constructor);done)))|refine .drop ?_)))) (by(repeat(first|exact Picks.nil|(apply Picks.cons;(focus repeat constructor))))) fun _=>?_
 refine am ?_
 refine o_ ag (o_ ae (bR ?_))
 refine aB (by(repeat constructor):Pick _ (all [pt b3 (.cells #[pE g] 437),BE al E]) _) ?_
 refine am ?_
 refine aR () ?_
 unfold lx
 exact az
theorem IV {W:World}{c g:Nat}{oa:Option Addr}{oc:Nat}{M:List Nat}{m b y:Value}{al:List Nat}{E:Nat->En}(hM:M.length<=1048576)(ha:∀x∈M,x∈al)(hg:g∈al):
  Cn p_ 301 [pE c,pE g] W [pt c (.cells #[.slice oa M.length oc,m,b,y] 241),Sl 1 437 oa oc M.length (M.map pE),BE al E] (fun _:Q2=> .tuple #[])
   (fun q=>[pt c (.cells #[.slice q.1 (lx M g++[g]).length q.2,m,b,y] 241),Sl 1 437 q.1 q.2 (lx M g++[g]).length ((lx M g++[g]).map pE),BE al E]):=by
 have hr:(lx M g).length<=M.length:=List.length_filter_le _ _
 (refine Shp.cn (Sg.g_ Tryz.call301 Tryz.func301) fun F=>?_;simp only[ca_,na_])
 refine ah (GB (E:=E) (by omega) ha hg) (by(repeat(first|exact Picks.nil|(apply Picks.cons;(focus repeat constructor))))) fun _=>?_
 refine am ?_
 refine o_ ag (o_ ae (aH ?_));refine cI fun g=>?_
 rename Nat=>gb
 refine bQ (m:=1) (news:=[pE g]) (by(repeat constructor):Pick _ (Sl 1 437 oa oc (lx M g).length ((lx M g).map pE)) _) (bL (s:=1) (e':=437) (by kernel_rfl) .here (by rfl) (by intro u hu;simp at hu;rw[hu];rfl)) (by omega) (by omega) fun a' c'=>?_
 refine o_ ag (o_ ae (bR ?_))
 refine ip (a',c') ?_
 rw[List.length_append,List.map_append]
 exact az
theorem yT {Z:Cs}{g:Nat}{rw_:List UInt8->Q2}{h:Z.of_ (Z.E g).key≠[]}:c9 (gx Z g) rw_=if lx (Z.of_ (Z.E g).key) g=[]then dE (dE (c9 Z rw_) (Z.E g).key (some (.slice (rw_ (Z.E g).key).1 (lx (Z.of_ (Z.E g).key) g).length (rw_ (Z.E g).key).2))) (Z.E g).key none
  else dE (c9 Z rw_) (Z.E g).key (some (.slice (rw_ (Z.E g).key).1 (lx (Z.of_ (Z.E g).key) g).length (rw_ (Z.E g).key).2)):=by
 funext k
 by_cases c:k=(Z.E g).key
 ·subst c
  have e:(gx Z g).of_ (Z.E g).key=lx (Z.of_ (Z.E g).key) g:=if_pos rfl
  by_cases d:lx (Z.of_ (Z.E g).key) g=[]
  ·rw[if_pos d]
   unfold c9 dE
   rw[e,if_pos d,if_pos rfl]
  ·rw[if_neg d]
   unfold c9 dE
   rw[e,if_neg d,if_pos rfl]
 ·have e:(gx Z g).of_ k=Z.of_ k:=if_neg c
  split <;> · unfold c9 dE;rw[e];simp[c]
theorem drop {W:World}{c g T:Nat}{Z:Cs}(hZ:CsOk T Z)(hg:g∈Z.ord):Cn p_ 294 [pE c,pE g] W [gf c Z] (fun _:Unit=> .tuple #[]) (fun _=>[gf c (gx Z g)]):=by
 have hga:=hZ.oa g hg
 have hgb:=hZ.fb g hg
 have hne:Z.of_ (Z.E g).key≠[]:=fun e=>by rw[e]at hgb;cases hgb
 have hks:=hZ.fk _ hne
 have hol:=hZ.ordl
 have hfl:=hZ.ofl (Z.E g).key
 have hc1:=(hZ.en g hga).c1
 have hc2:=hZ.cost hg
 have hle:=hZ.le
 have hb1:=hZ.b1
 have hrl:(lx (Z.of_ (Z.E g).key) g).length<=(Z.of_ (Z.E g).key).length:=List.length_filter_le _ _
 (refine Shp.cn (Sg.g_ Tryz.call294 Tryz.func294 (an:={drs:=[(1,.ofL [(0,1),(1,1),(2,1),(3,1),(4,0)]),(2,.ofL [(0,1),(1,1),(2,1),(3,1),(4,1),(5,1),(6,1),(7,1),(8,1),(9,1),(10,1),(11,0)]),(3,.ofL [(0,1),(1,1),(2,1),(3,1),(4,1),(5,1),(6,1),(7,1),(8,1),(9,1),(10,0),(11,1)]),(4,.ofL [(0,1),(1,1),(2,1),(3,1),(4,1),(5,1),(6,1),(7,1),(8,1),(9,0)]),(6,.ofL [(0,1),(1,1),(2,1),(3,1),(4,1),(5,1),(6,1),(7,1),(8,0)])]})) fun F=>?_;simp only[ca_,na_])
 refine b_ fun b3=>?_
 refine a8 (by(repeat constructor):Pick _ (gf c Z) _) fun q=>aB .here ?_
 obtain⟨⟨oa,oc⟩,mg,rw_⟩:=q
 refine am ?_
 refine aW (t_ ag (t_ ae (cm ?_)))
 refine ah (GB (E:=Z.E) (by omega) hZ.oa hga) (by(repeat(first|exact Picks.nil|(apply Picks.cons;(focus repeat constructor))))) fun _=>?_
 refine am ?_
 refine aW (t_ ag (t_ ae (cm ?_)));refine cm ?_;refine t_ ag (t_ ae (iq (xA hga hZ.aln) ?_))
 (refine t_ (hO (by omega) (by omega)) ?_);refine t_ ag ?_;refine t_ ae ?_;refine bR ?_;refine aW ?_;refine t_ ag ?_;refine t_ ae ?_;refine cm ?_;refine cm ?_;refine t_ ag ?_;refine t_ ae ?_
 refine iq (vW hga hZ.aln) ?_
 refine iq (ji (eX Tryz.underlying9)) ?_
 rw[show(c9 Z rw_ (Z.E g).key).getD (.slice none 0 0)= .slice (rw_ (Z.E g).key).1 (Z.of_ (Z.E g).key).length (rw_ (Z.E g).key).2 by unfold c9;rw[if_neg hne];rfl]
 refine t_ bC (yS (by(repeat constructor):Pick _ (BL Z.ks (dA Z rw_)) _) (Z.E g).key hks hZ.ksn ?_)
 refine bf (M:=all [pt b3 (.cells #[pE g] 437),BE Z.al Z.E]::Sl 1 437 (rw_ (Z.E g).key).1 (rw_ (Z.E g).key).2 (Z.of_ (Z.E g).key).length ((Z.of_ (Z.E g).key).map pE)::BO Z.ks (dA Z rw_) (Z.E g).key::bH mg ay (c9 Z rw_)::Sl 1 437 oa oc (lx Z.ord g).length ((lx Z.ord g).map pE)::pt c (.cells #[.slice oa (lx Z.ord g).length oc,.map (some mg),.int .i64 Z.bound,.int .i64 (Z.bytes-(Z.E g).cost)] 241)::F) (.all ?_) ?_
 ·unfold dA
  refine am ?_
  exact az
 refine ah (P0 (k:=390) (cap:=[.pointer (some ⟨b3,0,none⟩)]) (p:=fun x=>decide (x=g)) (C:=all [pt b3 (.cells #[pE g] 437),BE Z.al Z.E]) (by omega) (fun x hx=>by
  have hxa:=hZ.oa x (hZ.fo _ x hx).1
  (refine Shp.cn (Sg.g_ Tryz.call390 Tryz.func390) fun F=>?_;simp only[ca_,na_])
  refine aB .here ?_
  refine am ?_
  refine aH ?_
  refine cO (Gz hxa hga) ?_
  refine bK () rfl ?_
  refine .all ?_
  refine am ?_
  (repeat(first|exact .refl|exact .nil|(apply Imp.pick;(focus ((repeat constructor);done)))|refine .drop ?_)))) (by(repeat(first|exact Picks.nil|(apply Picks.cons;(focus repeat constructor))))) fun _=>?_
 refine am ?_
 refine aB (by(repeat constructor):Pick _ (all [pt b3 (.cells #[pE g] 437),BE Z.al Z.E]) _) ?_
 refine am ?_
 have hrow:((Z.of_ (Z.E g).key).filter fun x=>!decide (x=g))=lx (Z.of_ (Z.E g).key) g:=rfl
 rw[hrow]
 refine aW (t_ ag (t_ ae (cm ?_)));refine cm ?_;refine t_ ag (t_ ae (iq (vW hga hZ.aln) ?_))
 refine di (eX Tryz.underlying9) (by(repeat constructor):Pick _ (bH mg ay (c9 Z rw_)) _) ?_
 refine o_ aI ?_
 have hrows:=yT (Z:=Z) (g:=g) (rw_:=rw_) (h:=hne)
 have hof:(gx Z g).of_ (Z.E g).key=lx (Z.of_ (Z.E g).key) g:=if_pos rfl
 have hfin:∀(L L' L'':List HP) (f:List UInt8->Option Value),f=c9 (gx Z g) rw_->Imp W L (bH mg ay f::Sl 1 437 (rw_ (Z.E g).key).1 (rw_ (Z.E g).key).2 (lx (Z.of_ (Z.E g).key) g).length ((lx (Z.of_ (Z.E g).key) g).map pE)::BO Z.ks (dA Z rw_) (Z.E g).key::BE Z.al Z.E::Sl 1 437 oa oc (lx Z.ord g).length ((lx Z.ord g).map pE)::pt c (.cells #[.slice oa (lx Z.ord g).length oc,.map (some mg),.int .i64 Z.bound,.int .i64 (Z.bytes-(Z.E g).cost)] 241)::F)->aJ W L (fun w=>∃x:Unit,True/\sat W (gf c (gx Z g)::F) w):=fun L _ _ f hf hi=>by
  subst hf
  refine bf hi ?_
  refine ip () ?_
  refine .ex ((oa,oc),mg,rw_) (.all ?_)
  refine am ?_
  refine .pick (by repeat constructor) (.pick (by repeat constructor) (.pick (by repeat constructor) (pL (L:=_) (F:=dA Z rw_) (Z.E g).key hks hZ.ksn ?_ ?_)))
  ·intro k _ hk
   unfold dA
   rw[show(gx Z g).of_ k=Z.of_ k from if_neg hk]
  unfold dA
  rw[hof]
  exact az
 refine o_ cH ?_
 by_cases hd:lx (Z.of_ (Z.E g).key) g=[]
 ·rw[if_pos hd]at hrows
  rw[dT_ (by rw[hd];rfl)]
  refine ai (aW (t_ ag (t_ ae (cm ?_))));refine cm ?_;refine t_ ag (t_ ae (iq (vW hga hZ.aln) ?_))
  refine sM (eX Tryz.underlying9) (by(repeat constructor):Pick _ (bH mg ay _) _) ?_
  refine hfin _ [] [] _ hrows.symm ?_
  exact az
 ·rw[if_neg hd]at hrows
  rw[dF_ (by intro h;apply hd;exact List.eq_nil_of_length_eq_zero (by omega))]
  refine af (hfin _ [] [] _ hrows.symm ?_)
  exact az
theorem find {W:World}{c T:Nat}{Z:Cs}{key:List UInt8}{R:List Fd}{ar:Option Addr}{cr:Nat}{A:HP}(hZ:CsOk T Z)(hA:gX W A ar R)(hR:zF R<=1048576):
  Cn p_ 289 [pE c,ay key,.slice ar R.length cr] W [gf c Z,A] (fun _:Unit=>match io Z key R with|some g=>pE g|none=> .pointer none) (fun _=>[gf c Z,A]):=by
 have hT:=hZ.t
 have hfl:=hZ.ofl key
 (refine Shp.cn (Sg.g_ Tryz.call289 Tryz.func289 (an:={loops:=[(3,[8])]})) fun F=>?_;simp only[ca_,na_])
 refine a8 (by(repeat constructor):Pick _ (gf c Z) _) fun q=>aB .here ?_
 obtain⟨⟨oa,oc⟩,mg,rw_⟩:=q
 refine am ?_
 refine o_ ag (o_ ae (aH ?_))
 refine cO (ji (eX Tryz.underlying9)) ?_
 by_cases hne:Z.of_ key=[]
 ·rw[show(c9 Z rw_ key).getD (.slice none 0 0)= .slice none 0 0 by unfold c9;rw[if_pos hne];rfl]
  have hf:io Z key R=none:=by unfold io;rw[hne];rfl
  rw[hf]
  refine o_ aI (rZ ?_)
  refine aY (fun m y=>pu (y= .int .i64 (-1))::gf c Z::A::F) 0 ?_ ?_
  ·refine .pu rfl (.ex ((oa,oc),mg,rw_) (.all ?_))
   refine am ?_
   exact az
  intro m ds y
  refine aT .here fun hi=>?_
  subst hi
  refine o_ dt ?_
  rw[dF_ (by decide)]
  refine af (bK () rfl ?_)
  exact az
 have hks:=hZ.fk _ hne
 rw[show(c9 Z rw_ key).getD (.slice none 0 0)= .slice (rw_ key).1 (Z.of_ key).length (rw_ key).2 by unfold c9;rw[if_neg hne];rfl]
 refine o_ aI (rZ ?_)
 obtain⟨ga,hga⟩:∃ga,ga=rw_:=⟨_,rfl⟩
 refine yS (by(repeat constructor):Pick _ (BL Z.ks (dA Z rw_)) _) key hks hZ.ksn ?_
 unfold dA
 have hpos:0<(Z.of_ key).length:=Nat.pos_of_ne_zero fun h=>hne (List.eq_nil_of_length_eq_zero h)
 refine a9 .here hpos fun gr hgr=>?_
 rw[hgr]
 refine aY (fun m y=>[ex fun i:Nat=>all [pu (m=i/\i<=(Z.of_ key).length/\y= .int .i64 ((i:Int)-1)/\∀x∈(Z.of_ key).drop i,rj (Z.E x) R=false),Sl 1 437 (some ⟨gr,0,none⟩) (rw_ key).2 (Z.of_ key).length ((Z.of_ key).map pE),BO Z.ks (dA Z rw_) key,pt c (.cells #[.slice oa Z.ord.length oc,.map (some mg),.int .i64 Z.bound,.int .i64 Z.bytes] 241),Sl 1 437 oa oc Z.ord.length (Z.ord.map pE),bH mg ay (c9 Z rw_),BE Z.al Z.E,A]]++F) (Z.of_ key).length ?_ ?_
 ·refine .ex (Z.of_ key).length (.all ?_)
  refine am ?_
  refine .pu ⟨rfl,Nat.le_refl _,rfl,by simp⟩ ?_
  unfold dA
  exact az
 intro m ds y
 refine am ?_
 refine a8 Pick.here fun i=>aB Pick.here ?_
 refine am ?_
 refine aT Pick.here fun hi=>?_
 obtain⟨rfl,hil,rfl,hno⟩:=hi
 have fin:∀(L:List HP) (v:Value),(v=match io Z key R with|some g=>pE g|none=> .pointer none)->Imp W L (Sl 1 437 (some ⟨gr,0,none⟩) (rw_ key).2 (Z.of_ key).length ((Z.of_ key).map pE)::BO Z.ks (dA Z rw_) key::pt c (.cells #[.slice oa Z.ord.length oc,.map (some mg),.int .i64 Z.bound,.int .i64 Z.bytes] 241)::Sl 1 437 oa oc Z.ord.length (Z.ord.map pE)::bH mg ay (c9 Z rw_)::BE Z.al Z.E::A::F)->aJ W L (fun w=>∃x:Unit,v=(match io Z key R with|some g=>pE g|none=> .pointer none)/\sat W (gf c Z::A::F) w):=fun L v hv hi=>by
  refine bf hi ?_
  refine bK () hv ?_
  refine .ex ((oa,oc),mg,rw_) (.all ?_)
  refine am ?_
  refine .pick (by repeat constructor) (.pick (by repeat constructor) (.pick (by repeat constructor) (pL (L:=_) (F:=dA Z rw_) key hks hZ.ksn (fun _ _ _=>rfl) ?_)))
  unfold dA
  rw[hgr]
  exact az
 refine bz dt .nil (fun h=>?_) (fun h=>?_)
 ·obtain⟨i,rfl⟩:∃j,m=j+1:=⟨m-1,by omega⟩
  have hin:i<(Z.of_ key).length:=by omega
  have hx:=(Z.of_ key)[i]
  have hxm:(Z.of_ key)[i]∈Z.of_ key:=List.getElem_mem hin
  have hxa:=hZ.oa _ (hZ.fo _ _ hxm).1
  refine ai (o_ (bq i (by omega) hin) ?_)
  refine cO (ur hin) ?_
  refine yS (by(repeat constructor):Pick _ (BE Z.al Z.E) _) (Z.of_ key)[i] hxa hZ.aln ?_
  refine ah (P1 (e:=Z.E (Z.of_ key)[i]) (g:=(Z.of_ key)[i]) (hZ.en _ hxa) hT hA hR) (.cons (by repeat constructor) (.cons (by repeat constructor) .nil)) fun _=>?_
  refine am ?_
  refine Gy (l:=Z.al) (F':=fun g=>vV g (Z.E g)) (Z.of_ key)[i] hxa hZ.aln (fun _ _ _=>rfl) (by repeat constructor) (by repeat constructor) ?_
  have hsplit:(Z.of_ key).drop i=(Z.of_ key)[i]::(Z.of_ key).drop (i+1):=(List.drop_eq_getElem_cons hin)
  cases hfit:rj (Z.E (Z.of_ key)[i]) R with
  |true=>
   have hf:io Z key R=some (Z.of_ key)[i]:=by
    unfold io
    have e:(Z.of_ key).reverse=(((Z.of_ key).drop (i+1)).reverse++[(Z.of_ key)[i]])++((Z.of_ key).take i).reverse:=by rw[<- List.reverse_cons,<- hsplit,<- List.reverse_append,List.take_append_drop]
    rw[e,List.append_assoc,List.find?_append]
    rw[List.find?_eq_none.2 (by intro x hx;rw[hno x (List.mem_reverse.1 hx)];simp)]
    simp[hfit]
   refine ai (o_ (bq i (by omega) hin) ?_)
   refine cO (ur hin) ?_
   exact fin _ _ (by rw[hf]) (by unfold BE;(repeat(first|exact .refl|exact .nil|(apply Imp.pick;(focus ((repeat constructor);done)))|refine .drop ?_)))
  |false=>
   refine af (rZ ?_)
   refine aZ i (by omega) (.ex i (.all ?_))
   refine am ?_
   refine .pu ⟨rfl,by omega,by congr 1;omega,?_⟩ ?_
   ·intro x hx
    rw[hsplit]at hx
    rcases List.mem_cons.1 hx with rfl|hx
    ·exact hfit
    ·exact hno x hx
   unfold BE
   exact az
 ·have:m=0:=by omega
  subst this
  refine af ?_
  have hf:io Z key R=none:=by
   unfold io
   exact List.find?_eq_none.2 (by intro x hx;rw[hno x (by simpa using hx)];simp)
  exact fin _ _ (by rw[hf]) az
end Go.Proofs.YtdjkdjepjahjfaaGreatDoor.FD
namespace Go.Proofs.YtdjkdjepjahjfaaGreatDoor.FD
open Go Go.Proofs Go.RowKit Sh Sl T
theorem uw {W:World} {L L':List HP} {S:WP} {T:Nat} {Z:Cs} {rw_:List UInt8->Q2} {key:List UInt8} (hZ:CsOk T Z) (p:Pick L (BL Z.ks (dA Z rw_)) L')
  (h:∀a cc,(c9 Z rw_ key).getD (.slice none 0 0)= .slice a (Z.of_ key).length cc->aJ W (Sl 1 437 a cc (Z.of_ key).length ((Z.of_ key).map pE)::BO Z.ks (dA Z rw_) key::L') S):aJ W L S:=by
 by_cases hne:Z.of_ key=[]
 ·have hv:(c9 Z rw_ key).getD (.slice none 0 0)= .slice none (Z.of_ key).length 0:=by unfold c9;rw[if_pos hne,hne];rfl
  have h:=h none 0 hv
  rw[hne]at h
  by_cases hk:key∈Z.ks
  ·refine yS p key hk hZ.ksn ?_
   refine bf (bJ (.drop .refl)) h
  ·have e:BO Z.ks (dA Z rw_) key=BL Z.ks (dA Z rw_):=by
    unfold BO BL
    rw[List.filter_eq_self.2 fun x hx=>by simp only[ne_eq,decide_not,Bool.not_eq_eq_eq_not,Bool.not_true,decide_eq_false_iff_not];rintro rfl;exact hk hx]
   rw[e]at h
   exact zX p (bf (bJ .refl) h)
 ·refine yS p key (hZ.fk _ hne) hZ.ksn ?_
  exact h _ _ (by unfold c9;rw[if_neg hne];rfl)
theorem vX {W:World} {L M:List HP} {Z Z':Cs} {rw_:List UInt8->Q2} {key:List UInt8} {a:Option Addr} {cc:Nat} (hn:Z.ks.Nodup) (hks:Z'.ks=if key∈Z.ks then Z.ks else key::Z.ks) (hof:∀k,k≠key->Z'.of_ k=Z.of_ k)
  (h:Imp W L (Sl 1 437 a cc (Z'.of_ key).length ((Z'.of_ key).map pE)::BO Z.ks (dA Z rw_) key::M)):Imp W L (BL Z'.ks (dA Z' fun k=>if k=key then(a,cc)else rw_ k)::M):=by
 have hF:∀k,k≠key->dA Z rw_ k=dA Z' (fun k=>if k=key then(a,cc)else rw_ k) k:=fun k hk=>by
  unfold dA
  rw[hof k hk]
  simp only[if_neg hk]
 have hK:dA Z' (fun k=>if k=key then(a,cc)else rw_ k) key=Sl 1 437 a cc (Z'.of_ key).length ((Z'.of_ key).map pE):=by
  unfold dA
  simp only[if_true]
 rw[hks]
 split
 ·rename_i hk
  refine pL key hk hn (F:=dA Z rw_) (fun j _ hj=>hF j hj) ?_
  rw[hK]
  exact h
 ·rename_i hk
  refine xy (F:=dA Z rw_) (fun j hj=>hF j (by rintro rfl;exact hk hj)) ?_
  have e:BO Z.ks (dA Z rw_) key=BL Z.ks (dA Z rw_):=by
   unfold BO BL
   rw[List.filter_eq_self.2 fun x hx=>by simp only[ne_eq,decide_not,Bool.not_eq_eq_eq_not,Bool.not_true,decide_eq_false_iff_not];rintro rfl;exact hk hx]
  rw[hK,<- e]
  exact h
theorem ux {W:World} {L M:List HP} {Z:Cs} {rw_:List UInt8->Q2} {key:List UInt8} {a:Option Addr} {cc:Nat} (hn:Z.ks.Nodup)
  (h:Imp W L (Sl 1 437 a cc (Z.of_ key).length ((Z.of_ key).map pE)::BO Z.ks (dA Z rw_) key::M)):Imp W L (BL Z.ks (dA Z fun k=>if k=key then(a,cc)else rw_ k)::M):=by
 have hF:∀k,k≠key->dA Z rw_ k=dA Z (fun k=>if k=key then(a,cc)else rw_ k) k:=fun k hk=>by
  unfold dA
  simp only[if_neg hk]
 have hK:dA Z (fun k=>if k=key then(a,cc)else rw_ k) key=Sl 1 437 a cc (Z.of_ key).length ((Z.of_ key).map pE):=by
  unfold dA
  simp only[if_true]
 by_cases hk:key∈Z.ks
 ·refine pL key hk hn (F:=dA Z rw_) (fun j _ hj=>hF j hj) ?_
  rw[hK]
  exact h
 ·have e:BO Z.ks (dA Z rw_) key=BL Z.ks (dA Z rw_):=by
   unfold BO BL
   rw[List.filter_eq_self.2 fun x hx=>by simp only[ne_eq,decide_not,Bool.not_eq_eq_eq_not,Bool.not_true,decide_eq_false_iff_not];rintro rfl;exact hk hx]
  rw[BL.congr (F':=dA Z rw_) fun j hj=>(hF j (by rintro rfl;exact hk hj)).symm,<- e]
  refine .conv (B:=all [Sl 1 437 a cc (Z.of_ key).length ((Z.of_ key).map pE),BO Z.ks (dA Z rw_) key]) (fun f H=>?_) (.all h)
  obtain⟨f',H',s⟩:=oW H
  obtain⟨k1,_,kb,_,_,t1,_⟩:=H'
  exact zW (L:=(Z.ks.filter fun j=>decide (j≠key)).map (dA Z rw_)) kb fun i o e=>s i o (t1 i o e)
theorem yU {Z:Cs}{rw_:List UInt8->Q2}{key:List UInt8}{a:Option Addr}{cc:Nat}(h:(c9 Z rw_ key).getD (.slice none 0 0)= .slice a (Z.of_ key).length cc):c9 Z (fun k=>if k=key then(a,cc)else rw_ k)=c9 Z rw_:=by
 funext k
 by_cases c:k=key
 ·subst c
  unfold c9 at *
  split at h
  ·rename_i e;rw[if_pos e,if_pos e]
  ·rename_i e
   rw[if_neg e,if_neg e]
   simp only[if_true]
   exact congrArg some h.symm
 ·unfold c9
  simp only[if_neg c]
theorem EK {W:World} {L L':List HP} {Kp:PK} {k:Value->WP} {T c:Nat} {Z:Cs} {key:List UInt8} (hZ:CsOk T Z) (p:Pick L (gf c Z) L')
  (h:∀a cc,aJ W (Sl 1 437 a cc (Z.of_ key).length ((Z.of_ key).map pE)::gf c Z::L') (k (.slice a (Z.of_ key).length cc))):
  aJ W L (opN p_ (cT (pE c)) Kp fun x72=>opN p_ (fI 241 x72 1) Kp fun x73=>opN p_ (aG 239 x73) Kp fun x74=>opN p_ (iE 239 x74 (ay key) false) Kp fun x76=>opN p_ (bG (fn 299) [x76]) Kp k):=by
 refine a8 p fun q=>aB .here ?_
 obtain⟨⟨oa,oc⟩,mg,rw_⟩:=q
 refine am ?_
 refine o_ ag (o_ ae (aH ?_))
 refine cO (ji (eX Tryz.underlying9)) ?_
 refine uw (key:=key) hZ (by(repeat constructor):Pick _ (BL Z.ks (dA Z rw_)) _) fun a cc hv=>?_
 rw[hv]
 have hfl:=hZ.ofl key
 refine ah (IS (l:=Z.of_ key) (by omega)) (by(repeat(first|exact Picks.nil|(apply Picks.cons;(focus repeat constructor))))) fun r=>?_
 obtain⟨ra,rc⟩:=r
 refine am ?_
 (try dsimp only)
 refine bf ?_ (h ra rc)
 refine .pick (by repeat constructor) (.ex ((oa,oc),mg,fun k=>if k=key then(a,cc)else rw_ k) (.all ?_))
 refine am ?_
 rw[yU hv]
 refine .pick (by repeat constructor) (.pick (by repeat constructor) (.pick (by repeat constructor) (ux hZ.ksn ?_)))
 exact az
theorem uy {W:World}{c:Nat}{Z:Cs}:aQ p_ W [gf c Z] (aG 3 (.pointer (some ⟨c,2,none⟩))) (.int .i64 Z.bound):=jh fun q=>gF (aS (by repeat constructor))
theorem BQ {W:World}{c:Nat}{Z:Cs}:aQ p_ W [gf c Z] (aG 3 (.pointer (some ⟨c,3,none⟩))) (.int .i64 Z.bytes):=jh fun q=>gF (aS (by repeat constructor))
theorem BR {W:World}{g:Nat}{e:En}:aQ p_ W [vV g e] (aG 3 (.pointer (some ⟨g,9,none⟩))) (.int .i64 e.cost):=jh fun q=>gF (aS (by repeat constructor))
theorem P3 {W:World}{L L' L'':List HP}{S:WP}{g c:Nat}{o:Obj}{Z:Cs}(p:Pick L (pt g o) L')(q:Pick L' (gf c Z) L'')(h:g∉Z.al->aJ W L S):aJ W L S:=fun w hw=>by
 refine h (fun hg=>?_) w hw
 obtain⟨f,⟨h1,h2,ha,hb,d,s1,s2⟩,_⟩:=(hw.pick p).heap
 obtain⟨k1,k2,⟨x,ka⟩,_,_,t1,_⟩:=q.all hb
 obtain⟨_,m1,_,⟨_,m2,_,⟨_,m3,_,⟨_,m4,_,⟨m5,_,hbe,_,_,u5,_⟩,_,_,u4⟩,_,_,u3⟩,_,_,u2⟩,_,_,u1⟩:=ka
 obtain⟨o',ho'⟩:=BM (W:=W) (F:=fun g=>vV g (Z.E g)) (g:=fun j=>j) (fun j h H=>by
  obtain⟨q,n1,n2,na,_,_,v1,_⟩:=H
  exact⟨_,v1 _ _ na⟩) Z.al hg hbe
 have e1:h1 g=some o:=ha
 have e2:=t1 g o' (u1 _ _ (u2 _ _ (u3 _ _ (u4 _ _ (u5 _ _ ho')))))
 rcases d g with c|c
 ·rw[e1]at c;cases c
 ·rw[e2]at c;cases c
theorem P4 {L:List Nat}{g:Nat}(h:g∈L):(lx L g).length<L.length:=by
 unfold lx
 induction L with
 |nil=>cases h
 |cons x r ih=>
  by_cases c:x=g
  ·rw[List.filter_cons_of_neg (by simp[c])]
   have:=List.length_filter_le (fun y=>!decide (y=g)) r
   simp only[List.length_cons]
   omega
  ·have hr:g∈r:=by
    rcases List.mem_cons.1 h with e|e
    ·exact absurd e.symm c
    ·exact e
   rw[List.filter_cons_of_pos (by simpa using c)]
   have:=ih hr
   simp only[List.length_cons]
   omega
def uz (key m:List UInt8)(R X:List Fd)(D:List UInt8)(st asked came:Int):En:=⟨key,m,R,eU R (cz X),st,X,D,Ey asked,Ey came,((key.length+D.length+64+jg X+jg (eU R (cz X)):Nat):Int)⟩
def uA (bound:Int)(key m:List UInt8)(R X:List Fd)(D:List UInt8)(st:Int):Bool:=xn m st R X&&decide ((uz key m R X D st 0 0).cost<=bound)
def IW (T:Nat)(Z:Cs)(key m:List UInt8)(R X:List Fd)(D:List UInt8)(st asked came:Int)(Z':Cs):Prop:=
 CsOk T Z'/\if uA Z.bound key m R X D st then ∃g Y,Sub Y Z/\g∉Y.al/\Z'=fm Y g (uz key m R X D st asked came)else Z'=Z
theorem BT (R:List Fd)(V:List (List UInt8)):zF (eU R V)<=zF R:=uf _ _
theorem xB {key m:List UInt8}{R X:List Fd}{D:List UInt8}{st asked came:Int}{T:Nat}(hR:zF R<=T)(hX:zF X<=T)(hD:D.length<=T):EnOk T (uz key m R X D st asked came):=
 ⟨hR,Nat.le_trans (BT _ _) hR,hX,hD,by show(64:Int)<=((key.length+D.length+64+jg X+jg (eU R (cz X)):Nat):Int);omega⟩
set_option maxRecDepth 20000 in
theorem store {W:World} [hG:Gl W] {c T:Nat} {Z:Cs} {key m tg:List UInt8} {mi st asked came:Int} {R X:List Fd} {D:List UInt8} {ar ax ad:Option Addr} {cr cx cd:Nat} {A B G:HP} (hZ:CsOk T Z)
  (hA:gX W A ar R) (har:ar=none->R=[]) (hB:gX W B ax X) (hax:ax=none->X=[]) (hG:RdB W G ad D.length (D.map Sl.B)) (had:ad=none->D=[]) (hR:zF R<=T) (hX:zF X<=T) (hD:D.length<=T) (hk:key.length<=1048576):
  Cn p_ 185 [pE c,ay key,.agg #[ay m,ay tg,.int .i64 mi,.slice ar R.length cr],.agg #[.int .i64 st,.slice ax X.length cx,.slice ad D.length cd],.int .i64 asked,.int .i64 came] W [gf c Z,A,B,G]
   (fun _:{Z':Cs // IW T Z key m R X D st asked came Z'}=> .bool (uA Z.bound key m R X D st)) (fun r=>[gf c r.1,A,B,G]):=by
 have hT:=hZ.t
 (refine Shp.cn (Sg.g_ Tryz.call185 Tryz.func185 (an:={loops:=[(8,[79]),(13,[])],drs:=[(3,.ofL [(0,2),(1,3),(2,3),(3,1),(4,1),(6,3),(7,3),(8,3),(10,3),(12,2),(14,2),(5,0),(9,0),(11,0),(13,0),(15,0),(16,1),(17,0),(18,1)]),(4,.ofL [(0,2),(1,2),(2,3),(3,3),(4,3),(5,3),(6,3),(7,3),(8,1),(9,1),(12,2),(13,3),(14,3),(15,3),(10,0),(11,3),(16,0),(17,1),(18,1),(19,1),(20,0)]),(5,.ofL [(0,1),(1,1),(2,1),(3,1),(4,1),(5,1),(6,1),(7,1),(8,1)]),(13,.ofL [(0,1),(1,1),(2,1),(3,1),(4,1),(5,1),(6,1),(7,1),(8,1),(9,1),(10,1),(11,1),(12,1),(13,1)]),(15,.ofL [(0,2),(1,3),(2,3),(3,3),(4,2),(5,2),(6,3),(7,3),(8,3),(9,2),(10,3),(11,1),(12,0),(13,0),(14,0)]),(17,.ofL [(0,1),(1,1),(2,1),(3,1),(4,1),(5,1),(6,1),(7,1),(8,1),(9,1),(10,1),(11,0)])]}) (os:=[(3,[(5,[10,8,7,6,2,1]),(9,[10,2,1]),(11,[2,1]),(13,[2,1]),(15,[2,1])]),(4,[(10,[15,14,13,7,6,5,4,3,2]),(16,[11,7,6,5,4,3,2])]),(15,[(12,[10,8,7,6,3,2,1]),(13,[3,2,1])])])) fun F=>?_;simp only[ca_,na_])
 refine aX fun b8=>?_
 refine aX fun b9=>?_
 refine ah rk (by(repeat(first|exact Picks.nil|(apply Picks.cons;(focus repeat constructor))))) fun _=>?_
 refine am ?_
 refine ab (jL ?_);refine ab (jL ?_);refine ab (ah (Bt (st:=st) hA (by omega) hB (by omega)) (.cons (by repeat constructor) (.cons (by repeat constructor) .nil)) fun _=>?_)
 refine am ?_
 refine ab (o_ fx (o_ ak ?_))
 cases hst:xn m st R X with
 |false=>
  have hb:uA Z.bound key m R X D st=false:=by unfold uA;rw[hst];rfl
  rw[Bool.not_false]
  refine ai (bK (⟨Z,hZ,by rw[hb];rfl⟩:{Z':Cs // IW T Z key m R X D st asked came Z'}) (by rw[hb]) ?_)
  exact az
 |true=>
 rw[Bool.not_true]
 refine af (aW (aq ae .nil ?_));(((refine' aq (aS ?hc) ?hi ?_);(case hi=>exact .pick (by repeat constructor) .nil);(case hc=>repeat constructor)));refine t_ ae (cm ?_);refine aq ae .nil ?_;(((refine' aq (aS ?hc) ?hi ?_);(case hi=>exact .pick (by repeat constructor) .nil);(case hc=>repeat constructor)));(((refine' aq (bN ?hn) ?hi ?_);(case hi=>exact .pick (by repeat constructor) .nil);(case hn=>rfl)));(((refine' aq (bN ?hn) ?hi ?_);(case hi=>exact .pick (by repeat constructor) .nil);(case hn=>rfl)))
 refine ah (sK hA har (by have:=lW R;omega)) (.cons (by repeat constructor) .nil) fun q=>?_
 obtain⟨ra,rc⟩:=q
 refine am ?_
 (try dsimp only)
 refine bj ?_;refine bj ?_;refine bj ?_;refine bj ?_;refine bj ?_;refine bj ?_
 refine ah (IA (st:=st) hA (by omega) hB (by omega)) (.cons (by repeat constructor) (.cons (by repeat constructor) .nil)) fun q=>?_
 obtain⟨va,vc⟩:=q
 refine am ?_
 (try dsimp only)
 refine bj ?_;refine bj ?_;refine bj ?_
 refine ah (Us (st:=st) hB hax (by have:=lW X;omega) hG had (by omega)) (.cons (by repeat constructor) (.cons (by repeat constructor) .nil)) fun q=>?_
 obtain⟨⟨xa,xc⟩,da,dc⟩:=q
 refine am ?_
 (try dsimp only)
 refine bj ?_;refine bj ?_
 refine c_ (Bo (n:=asked)) fun _=>?_
 rw[show max 0 (min asked 1099511627776)=Ey asked from rfl]
 refine bj ?_;refine bj ?_
 refine c_ (Bo (n:=came)) fun _=>?_
 rw[show max 0 (min came 1099511627776)=Ey came from rfl]
 refine bj ?_;refine bj ?_;refine t_ bO ?_;refine aX fun g=>?_;refine aW (aq bu .nil ?_)
 have hcx:=Bv X
 have hcv:=Bv (eU R (cz X))
 have hpk:=BT R (cz X)
 refine aq ae .nil ?_;(((refine' aq (aS ?hc) ?hi ?_);(case hi=>exact .pick (by repeat constructor) .nil);(case hc=>repeat constructor)));refine aq aI .nil ?_;(refine aq (g9 (by omega) (by omega)) .nil ?_);(refine aq (g9 (by omega) (by omega)) .nil ?_);refine t_ ae (cm ?_);refine aq ag .nil ?_;refine aq ae .nil ?_;(((refine' aq (aS ?hc) ?hi ?_);(case hi=>exact .pick (by repeat constructor) .nil);(case hc=>repeat constructor)))
 refine ah (Gt hB (by omega)) (.cons (by repeat constructor) .nil) fun _=>?_
 refine am ?_
 refine bj ?_;refine bj ?_;refine bj ?_;refine bj ?_;refine bj ?_;refine bj ?_;refine bj ?_;refine bj ?_;refine bj ?_;(refine aq (g9 (by omega) (by omega)) .nil ?_)
 refine aP (by(repeat constructor):Pick _ (Sl 2 192 va vc (eU R (cz X)).length ((eU R (cz X)).flatMap cS)) _) fun _ _ _ hv=>?_
 refine ah (Gt (cJ hv) (by omega)) (.cons (by repeat constructor) .nil) fun _=>?_
 refine am ?_
 refine bj ?_;refine bj ?_;refine bj ?_;refine bj ?_;refine bj ?_;refine bj ?_;refine bj ?_;(refine t_ (g9 (by omega) (by omega)) ?_);refine t_ ag (t_ ae (bR ?_));refine aW (t_ ag (t_ ae (cm ?_)));refine t_ ag (t_ ae ?_)
 have hco:((key.length:Int)+D.length+64+jg X+jg (eU R (cz X)))=(uz key m R X D st asked came).cost:=by simp[uz]
 rw[hco]
 have hcs:(uz key m R X D st asked came).cost<=9000000:=by rw[<- hco];omega
 have hen:EnOk T (uz key m R X D st asked came):=xB hR hX hD
 have hc64:=hen.c1
 obtain⟨en,hen0⟩:∃en,en=uz key m R X D st asked came:=⟨_,rfl⟩
 have hsb:uA Z.bound key m R X D st=decide (en.cost<=Z.bound):=by unfold uA;rw[hst,hen0];rfl
 rw[hsb]
 refine P3 (by(repeat constructor):Pick _ (pt g _) _) (by(repeat constructor):Pick _ (gf c Z) _) fun hgal=>?_
 refine bf (M:=vV g en::gf c Z::pt b8 (.cells #[ay m,ay tg,.int .i64 mi,.slice ar R.length cr] 94)::A::B::G::F) (.ex (((ra,rc),va,vc),(xa,xc),da,dc) (.all ?_)) ?_
 ·rw[hen0]
  refine am ?_
  exact az
 rw[<- hen0]at hcs hen hc64 ⊢
 refine iq uy ?_
 refine t_ eu ?_
 by_cases hgt:Z.bound<en.cost
 ·rw[dT_ hgt]
  refine ai (bK (⟨Z,hZ,by rw[hsb,dF_ (by omega)];rfl⟩:{Z':Cs // IW T Z key m R X D st asked came Z'}) (by rw[dF_ (by omega)]) ?_)
  exact az
 rw[dF_ hgt]
 have hstr:∀Z',IW T Z key m R X D st asked came Z'↔CsOk T Z'/\∃g Y,Sub Y Z/\g∉Y.al/\Z'=fm Y g en:=fun Z'=>by
  unfold IW
  rw[hsb,dT_ (by omega),hen0]
  rfl
 rw[dT_ (by omega)]
 refine af (EK (key:=key) hZ (by(repeat constructor):Pick _ (gf c Z) _) fun ka kc=>?_)
 have hkl:=hZ.ofl key
 refine o_ aI (aY (fun k y=>[ex fun x:Nat × Cs=>all [pu (k+x.1=(Z.of_ key).length/\y= .int .i64 (x.1:Int)/\Sub x.2 Z/\CsOk T x.2/\∀j∈(Z.of_ key).drop x.1,j∈x.2.ord),Sl 1 437 ka kc (Z.of_ key).length ((Z.of_ key).map pE),gf c x.2,vV g en,pt b8 (.cells #[ay m,ay tg,.int .i64 mi,.slice ar R.length cr] 94),A,B,G]]++F) (Z.of_ key).length ?_ ?_)
 ·refine .ex (0,Z) (.all ?_)
  refine am ?_
  refine .pu ⟨rfl,rfl,Sub.refl Z,hZ,fun j hj=>(hZ.fo key j hj).1⟩ ?_
  exact az
 intro k ds y
 refine am ?_
 refine a8 Pick.here fun x=>aB Pick.here ?_
 obtain⟨i,Y⟩:=x
 refine am ?_
 refine aT Pick.here fun hi=>?_
 obtain⟨hki,rfl,hsub,hY,hdr⟩:=hi
 (try dsimp only at hki hsub hY hdr)
 refine bz bD .nil (fun h=>?_) (fun h=>?_)
 ·have hin:i<(Z.of_ key).length:=by omega
  refine ai (a9 (by(repeat constructor):Pick _ (Sl 1 437 ka kc (Z.of_ key).length ((Z.of_ key).map pE)) _) (by omega) fun gk hgk=>?_)
  subst hgk
  have hsplit:(Z.of_ key).drop i=(Z.of_ key)[i]::(Z.of_ key).drop (i+1):=(List.drop_eq_getElem_cons hin)
  have hxo:(Z.of_ key)[i]∈Y.ord:=hdr _ (by rw[hsplit];exact List.mem_cons_self)
  have hxa:=hY.oa _ hxo
  have hnd:∀j∈(Z.of_ key).drop (i+1),j≠(Z.of_ key)[i]:=fun j hj e=>by
   have:=(hZ.fn key).sublist (List.drop_sublist i _)
   rw[hsplit,List.nodup_cons]at this
   exact this.1 (e▸hj)
  refine o_ (bq i rfl hin) ?_
  refine cO (ur hin) ?_
  refine o_ ae (aH ?_)
  refine a8 (by(repeat constructor):Pick _ (gf c Y) _) fun q=>aB .here ?_
  obtain⟨⟨oa,oc⟩,mg,rw_⟩:=q
  refine am ?_
  refine yS (by(repeat constructor):Pick _ (BE Y.al Y.E) _) (Z.of_ key)[i] hxa hY.aln ?_
  refine ah (P1 (e:=Y.E (Z.of_ key)[i]) (g:=(Z.of_ key)[i]) (hY.en _ hxa) hT hA (by omega)) (.cons (by repeat constructor) (.cons (by repeat constructor) .nil)) fun _=>?_
  refine am ?_
  refine Gy (l:=Y.al) (F':=fun g=>vV g (Y.E g)) (Z.of_ key)[i] hxa hY.aln (fun _ _ _=>rfl) (by repeat constructor) (by repeat constructor) ?_
  refine bf (M:=gf c Y::Sl 1 437 (some ⟨gk,0,none⟩) kc (Z.of_ key).length ((Z.of_ key).map pE)::vV g en::pt b8 (.cells #[ay m,ay tg,.int .i64 mi,.slice ar R.length cr] 94)::A::B::G::F) (.ex ((oa,oc),mg,rw_) (.all ?_)) ?_
  ·unfold BE
   refine am ?_
   exact az
  cases hfit:rj (Y.E (Z.of_ key)[i]) R with
  |true=>
   refine ai (ah (drop hY hxo) (by(repeat(first|exact Picks.nil|(apply Picks.cons;(focus repeat constructor))))) fun _=>?_)
   refine am ?_
   refine bP ?_
   refine aZ (k-1) (by omega) (.ex (i+1,gx Y (Z.of_ key)[i]) (.all ?_))
   refine am ?_
   refine .pu ⟨by omega,by norm_cast,(uv _ _).trans hsub,xz hY hxo,fun j hj=>?_⟩ ?_
   ·exact List.mem_filter.2 ⟨hdr j (by rw[hsplit];exact List.mem_cons_of_mem _ hj),by simpa using hnd j hj⟩
   exact az
  |false=>
   refine af (bP ?_)
   refine aZ (k-1) (by omega) (.ex (i+1,Y) (.all ?_))
   refine am ?_
   refine .pu ⟨by omega,by norm_cast,hsub,hY,fun j hj=>hdr j (by rw[hsplit];exact List.mem_cons_of_mem _ hj)⟩ ?_
   exact az
 refine af (lJ (fun k=>[ex fun Y:Cs=>all [pu (k=Y.ord.length/\Sub Y Z/\CsOk T Y),gf c Y,vV g en,A,B,G]]++F) Y.ord.length ?_ ?_)
 ·refine .ex Y (.all ?_)
  refine am ?_
  refine .pu ⟨rfl,hsub,hY⟩ ?_
  exact az
 clear hki hsub hY hdr h
 intro k2 ds2
 refine am ?_
 refine a8 Pick.here fun Y=>aB Pick.here ?_
 refine am ?_
 refine aT Pick.here fun hi=>?_
 obtain⟨rfl,hsub,hY⟩:=hi
 (try dsimp only at hsub hY)
 have hbd:Y.bound=Z.bound:=hsub.bound
 have hb0:=hY.b0
 have hb1:=hY.b1
 have hle:=hY.le
 have hyl:=hY.len
 refine aW (t_ ag (t_ ae (iq BQ ?_)))
 refine t_ ag (t_ ae (iq uy ?_))
 refine t_ ag (t_ ae (iq BR ?_))
 refine t_ (hO (by omega) (by omega)) ?_
 refine t_ eu ?_
 by_cases hmore:Y.bound-en.cost<Y.bytes
 ·rw[dT_ hmore]
  refine ai ?_
  have hol:0<Y.ord.length:=by
   rcases Nat.eq_zero_or_pos Y.ord.length with z|z
   ·have hn:Y.ord=[]:=List.eq_nil_of_length_eq_zero z
    have:=hY.by_
    rw[hn]at this
    simp only[rg]at this
    omega
   ·exact z
  have hxo:Y.ord[0]∈Y.ord:=List.getElem_mem hol
  refine a8 (by(repeat constructor):Pick _ (gf c Y) _) fun q=>aB .here ?_
  obtain⟨⟨oa,oc⟩,mg,rw_⟩:=q
  refine am ?_
  refine a9 (by(repeat constructor):Pick _ (Sl 1 437 oa oc Y.ord.length (Y.ord.map pE)) _) hol fun go hgo=>?_
  subst hgo
  refine o_ ag (o_ ae (o_ ae (aH ?_)))
  refine o_ (bq 0 rfl hol) ?_
  refine cO (ur hol) ?_
  refine bf (M:=gf c Y::vV g en::A::B::G::F) (.ex ((some ⟨go,0,none⟩,oc),mg,rw_) (.all ?_)) ?_
  ·refine am ?_
   exact az
  refine ah (drop hY hxo) (by(repeat(first|exact Picks.nil|(apply Picks.cons;(focus repeat constructor))))) fun _=>?_
  refine am ?_
  refine n9 (lx Y.ord Y.ord[0]).length (P4 hxo) (.ex (gx Y Y.ord[0]) (.all ?_))
  refine am ?_
  refine .pu ⟨rfl,(uv _ _).trans hsub,xz hY hxo⟩ ?_
  exact az
 rw[dF_ hmore]
 refine af ?_
 have hgY:g∉Y.al:=by rw[hsub.al];exact hgal
 have hgo:g∉Y.ord:=fun c=>hgY (hY.oa g c)
 have hkey:en.key=key:=by rw[hen0];rfl
 have hfl:=hY.ofl key
 have hol:=hY.ordl
 refine a8 (by(repeat constructor):Pick _ (gf c Y) _) fun q=>aB .here ?_
 obtain⟨⟨oa,oc⟩,mg,rw_⟩:=q
 refine am ?_
 refine aW (aq ag .nil ?_);refine aq ae .nil ?_;(((refine' aq (aS ?hc) ?hi ?_);(case hi=>exact .pick (by repeat constructor) .nil);(case hc=>repeat constructor)));refine aq ag .nil ?_;refine aq ae .nil ?_;(((refine' aq (aS ?hc) ?hi ?_);(case hi=>exact .pick (by repeat constructor) .nil);(case hc=>repeat constructor)))
 refine aq (ji (eX Tryz.underlying9)) (.pick (by repeat constructor) .nil) ?_
 refine uw (key:=key) hY (by(repeat constructor):Pick _ (BL Y.ks (dA Y rw_)) _) fun a cc hv=>?_
 rw[hv]
 refine cI fun g=>?_;refine bj ?_;refine bj ?_;refine bj ?_;refine bj ?_;refine bj ?_;refine bj ?_;refine bj ?_
 rename Nat=>gb
 refine bQ (m:=1) (news:=[pE g]) (by(repeat constructor):Pick _ (Sl 1 437 a cc (Y.of_ key).length ((Y.of_ key).map pE)) _) (bL (s:=1) (e':=437) (by kernel_rfl) (by(repeat constructor):Pick _ (pt gb _) _) (by rfl) (by intro u hu;simp at hu;rw[hu];rfl)) (by omega) (by omega) fun a' c'=>?_
 refine bj ?_;refine bj ?_;refine bj ?_
 refine di (eX Tryz.underlying9) (by(repeat constructor):Pick _ (bH mg ay (c9 Y rw_)) _) ?_
 refine o_ ag (o_ ae ?_)
 have hY':CsOk T (fm Y g en):=IU hY hgY hen (by omega)
 have hEg:(fm Y g en).E g=en:=if_pos rfl
 have hrm:lx Y.ord g=Y.ord:=List.filter_eq_self.2 fun x hx=>by simp only[Bool.not_eq_true',decide_eq_false_iff_not];rintro rfl;exact hgo hx
 have hrows:dE (c9 Y rw_) key (some (.slice a' ((Y.of_ key).length+1) c'))=c9 (fm Y g en) (fun k=>if k=key then(a',c')else rw_ k):=by
  funext k
  by_cases e:k=key
  ·subst e
   have e2:(fm Y g en).of_ k=Y.of_ k++[g]:=if_pos hkey.symm
   unfold c9 dE
   rw[if_pos rfl,e2,if_neg (by simp),List.length_append]
   simp only[if_true]
   rfl
  ·have e2:(fm Y g en).of_ k=Y.of_ k:=if_neg (by rw[hkey];exact e)
   unfold c9 dE
   rw[if_neg e,e2]
   simp only[if_neg e]
 have hof:(fm Y g en).of_ key=Y.of_ key++[g]:=if_pos hkey.symm
 refine bf (M:=BE (g::Y.al) (fm Y g en).E::pt c (.cells #[.slice oa Y.ord.length oc,.map (some mg),.int .i64 Y.bound,.int .i64 Y.bytes] 241)::Sl 1 437 oa oc Y.ord.length (Y.ord.map pE)::bH mg ay (c9 (fm Y g en) (fun k=>if k=key then(a',c')else rw_ k))::BL (fm Y g en).ks (dA (fm Y g en) fun k=>if k=key then(a',c')else rw_ k)::A::B::G::F) ?_ ?_
 ·rw[<- hrows]
  refine xy (F:=fun g=>vV g (Y.E g)) (fun j hj=>by rw[show(fm Y g en).E j=Y.E j from if_neg (by rintro rfl;exact hgY hj)]) ?_
  rw[hEg]
  unfold BE
  refine .pick (by repeat constructor) (.pick (by repeat constructor) (.pick (by repeat constructor) (.pick (by repeat constructor) (.pick (by repeat constructor) (vX hY.ksn (by rw[<- hkey];rfl) (fun k hk=>if_neg (by rw[hkey];exact hk)) ?_)))))
  rw[hof,List.length_append,List.map_append]
  exact az
 refine ah (IV (M:=Y.ord) (al:=g::Y.al) (E:=(fm Y g en).E) (c:=c) (g:=g) (by omega) (fun x hx=>List.mem_cons_of_mem _ (hY.oa x hx)) List.mem_cons_self) (.cons (by repeat constructor) (.cons (by repeat constructor) (.cons (by repeat constructor) .nil))) fun q=>?_
 obtain⟨ta,tc⟩:=q
 refine am ?_
 (try dsimp only)
 rw[hrm]
 refine aW (t_ ag (t_ ae (cm ?_)));refine t_ ag (t_ ae (iq (xA (al:=g::Y.al) (E:=(fm Y g en).E) List.mem_cons_self hY'.aln) ?_))
 rw[hEg]
 (refine t_ (g9 (by omega) (by omega)) ?_);refine t_ ag ?_;refine t_ ae ?_;refine bR ?_
 refine bK (⟨fm Y g en,(hstr _).2 ⟨hY',g,Y,hsub,hgY,rfl⟩⟩:{Z':Cs // IW T Z key m R X D st asked came Z'}) rfl ?_
 refine .ex ((ta,tc),mg,fun k=>if k=key then(a',c')else rw_ k) (.all ?_)
 refine am ?_
 unfold BE
 exact az
end Go.Proofs.YtdjkdjepjahjfaaGreatDoor.FD
namespace Go.Proofs.YtdjkdjepjahjfaaGreatDoor.TP
open Go Go.Proofs Go.RowKit Sh Sl T FD
structure SvS where
 w:Nat
 g:Nat
 cl:Value
 lk:Value
 nu:Int
 ca:Value
 lg:Value
 out:Value
def nF (s:SvS):List Value:=[pC s.w,pC s.g,.slice none 0 0,s.cl,s.lk,.int .i64 s.nu,s.ca,s.lg,s.out]
def ci (v:Nat)(s:SvS):HP:=pt v (.cells (nF s).toArray 71)
theorem mh {W:World}{v:Nat}{s:SvS}:Cn p_ 28 [pC v] W [ci v s] (fun _:Unit=> .bool false) (fun _=>[ci v s]):=by
 (refine Shp.cn (Sg.g_ Tryz.call28 Tryz.func28) fun F=>?_;simp only[ca_,na_])
 cases s
 unfold ci nF
 (try dsimp only)
 refine o_ bM ?_;refine ab (ab (o_ ag (ab (o_ ae (ab (aH ?_))))));refine ab (o_ bM ?_);refine o_ ak (aR () ?_)
 exact .refl
def kQ (a:AC)(k:Nat):HP:=Sl 1 72 a.1 a.2 1 [pC k]
theorem sO {W:World}{v k:Nat}{s:SvS}{a:AC}(h:s.cl= .slice a.1 1 a.2):Cn p_ 32 [pC v,.int .i64 0] W [ci v s,kQ a k] (fun _:Unit=> .tuple #[pC k,.int .i64 0]) (fun _=>[ci v s,kQ a k]):=by
 (refine Shp.cn (Sg.g_ Tryz.call32 Tryz.func32 (an:={cuts:=[(5,[9])]})) fun F=>?_;simp only[ca_,na_])
 refine c_ mh fun _=>?_
 cases s
 (try dsimp only at *)
 subst h
 obtain⟨aa,ac⟩:=a
 unfold ci nF kQ
 (try dsimp only)
 refine a9 (by(repeat constructor):Pick _ (Sl 1 72 aa ac 1 _) _) (by decide) fun G hG=>?_
 subst hG
 refine af (fS ?_)
 (((refine o_ (Sl.bF ?hcq) ?_);(case hcq=>(first|omega|(simp only[List.length_nil,List.length_cons];omega)))));refine af ?_;refine o_ ag ?_;refine o_ ae ?_;refine aH ?_;refine o_ aI ?_;(((refine o_ (Sl.eS ?hcq) ?_);(case hcq=>(first|omega|(simp only[List.length_nil,List.length_cons];omega)))))
 refine gZ fun ds=>?_
 refine af (o_ ag (o_ ae (aH ?_)));(((refine' aE (bq 0 rfl ?hcq) .nil ?_);(case hcq=>(first|omega|decide|(simp;done)))));(((refine' aE (bw ?hc) ?hi ?_);(case hi=>exact az);(case hc=>rfl)))
 refine aR () ?_
 exact az
theorem GC {W:World}{v:Nat}{s:SvS}:Cn p_ 14 [pC v] W [ci v s] (fun _:Unit=>s.out) (fun _=>[ci v {s with out:= .slice none 0 0}]):=by
 (refine Shp.cn (Sg.g_ Tryz.call14 Tryz.func14) fun F=>?_;simp only[ca_,na_])
 refine c_ mh fun _=>?_
 cases s
 unfold ci nF
 (try dsimp only)
 refine af (o_ ag (o_ ae (aH ?_)));refine o_ ag (o_ ae (bR ?_))
 refine aR () ?_
 exact .refl
def eF (k c:Nat)(nm:List UInt8)(jb:Value):HP:=pt k (.cells #[ay nm,pC c,jb] 76)
end Go.Proofs.YtdjkdjepjahjfaaGreatDoor.TP
namespace Go.Proofs.YtdjkdjepjahjfaaGreatDoor.PL
open Go Go.Proofs Go.RowKit Sh Sl T
structure Pr where
 id:Int
 max:Int
 idle:List Int
 busy:Int
 til:Int
structure Pl where
 n:Nat
 pr:Nat->Pr
 bm:Int->Option Nat
 im:Int->Option Nat
 at_:Nat
 num:Int
 tmo:Int
def pv (g:Nat):Value:= .pointer (some ⟨g,0,none⟩)
instance {g:Nat}:OC (pv g):=⟨rfl⟩
theorem nT:KeyLaw p_ 3 eW:=ED (by kernel_rfl)
def mj (g:Nat)(x:Pr):HP:=ex fun q:Option Addr × Nat=>all [pt g (.cells #[.int .i64 x.id,.int .i64 x.max,.slice q.1 x.idle.length q.2,.int .i64 x.busy,.int .i64 x.til] 317),Sl 1 3 q.1 q.2 x.idle.length (x.idle.map I)]
def mv (gs:Nat->Nat)(f:Int->Option Nat):Int->Option Value:=fun k=>(f k).map fun i=>pv (gs i)
def qr (gs:Nat->Nat)(n:Nat):List Value:=(List.range n).map fun i=>pv (gs i)
def gg (p:Nat)(gs:Nat->Nat)(Z:Pl):HP:=ex fun q:(Option Addr × Nat) × Nat × Nat=>all [pt p (.cells #[.slice q.1.1 Z.n q.1.2,.map (some q.2.1),.map (some q.2.2),.int .i64 (Z.at_:Int),.int .i64 Z.num,.int .i64 Z.tmo] 312),Sl 1 308 q.1.1 q.1.2 Z.n (qr gs Z.n),bH q.2.1 eW (mv gs Z.bm),bH q.2.2 eW (mv gs Z.im),BS Z.n (fun i=>mj (gs i) (Z.pr i))]
theorem uB {gs:Nat->Nat}{n i:Nat}(h:i<n):(qr gs n)[i]? =some (pv (gs i)):=by simp[qr,h]
def UC (x:Pr):Nat->Option Value
 |0=>some (.int .i64 x.id)
 |1=>some (.int .i64 x.max)
 |3=>some (.int .i64 x.busy)
 |4=>some (.int .i64 x.til)
 |_=>none
theorem P5 {P:Program}{W:World}{t:TypeId}{gs:Nat->Nat}{n off:Nat}{pr:Nat->Pr}{v:Value}[ht:OneT P t](i:Nat)(hi:i<n)(hf:UC (pr i) off=some v):aQ P W [BS n (fun i=>mj (gs i) (pr i))] (aG t (.pointer (some ⟨gs i,off,none⟩))) v:=by
 refine(fY .here i hi (a8 .here fun q=>aB .here ?_):aJ W [BS n (fun i=>mj (gs i) (pr i))] (fun w=>(aG t (.pointer (some ⟨gs i,off,none⟩))).run P w= .ok (.value v) w))
 intro w hw
 have hw2:=hw.only
 match off,hf with
 |0,hf=>cases hf;exact iI (by rfl) w hw2
 |1,hf=>cases hf;exact iI (by rfl) w hw2
 |3,hf=>cases hf;exact iI (by rfl) w hw2
 |4,hf=>cases hf;exact iI (by rfl) w hw2
structure Wf (Z:Pl):Prop where
 n1:1<=Z.n
 n2:Z.n<=16
 at_:Z.at_<Z.n
 num:0<=Z.num/\Z.num<=1099511627776
 tmo:1<=Z.tmo/\Z.tmo<=3600
 pr:∀i,i<Z.n-> -1099511627776<=(Z.pr i).busy/\(Z.pr i).busy<=1099511627776/\(Z.pr i).idle.length<=1099511627776/\1<=(Z.pr i).max/\(Z.pr i).max<=64
 bm:∀q i,Z.bm q=some i->i<Z.n
 im:∀q i,Z.im q=some i->i<Z.n
theorem rk {W:World}{p:Nat}{gs:Nat->Nat}{Z:Pl}:Cn p_ 173 [pv p] W [gg p gs Z] (fun _:Unit=> .bool false) (fun _=>[gg p gs Z]):=by
 unfold pv
 (refine Shp.cn (Sg.g_ Tryz.call173 Tryz.func173) fun F=>?_;simp only[ca_,na_])
 refine a8 Pick.here fun q=>aB Pick.here ?_
 obtain⟨⟨a,c⟩,mb,mi⟩:=q
 refine am ?_
 refine o_ bM ?_;refine ab (ab (o_ ag (ab (o_ ae (ab (aH ?_))))));refine ab (o_ sN ?_)
 refine o_ ak (aR () ?_)
 exact .ex ((a,c),mb,mi) (.all az)
def GD:Int:=1099511627776
def yV (n:Int):Int:=if-GD<(if GD<n then GD else n)then(if GD<n then GD else n)else-GD
theorem GE {W:World}{n:Int}:Cn p_ 201 [.int .i64 n] W [] (fun _:Unit=> .int .i64 (yV n)) (fun _=>[]):=by
 (refine Shp.cn (Sg.g_ Tryz.call201 Tryz.func201) fun F=>?_;simp only[ca_,na_])
 refine o_ qH (o_ tw (aR () ?_))
 exact .refl
def EL (Z:Pl)(id:Int):Nat->Option Nat
 |0=>none
 |k+1=>match EL Z id k with
  |some j=>some j
  |none=>if(Z.pr k).id=id then some k else none
def fd (Z:Pl)(id:Int):Option Nat:=EL Z id Z.n
theorem BU {Z:Pl}{id:Int}{k j:Nat}(h:EL Z id k=some j):∀m,EL Z id (k+m)=some j
 |0=>h
 |m+1=>by rw[<- Nat.add_assoc,EL,BU h m]
def P6 (gs:Nat->Nat):Option Nat->Value
 |some i=>pv (gs i)
 |none=> .pointer none
theorem peer {W:World}{p:Nat}{gs:Nat->Nat}{Z:Pl}{id:Int}(hn:Z.n<=1024):Cn p_ 234 [pv p,.int .i64 id] W [gg p gs Z] (fun _:Unit=>P6 gs (fd Z id)) (fun _=>[gg p gs Z]):=by
 have upv:∀g,pv g= .pointer (some ⟨g,0,none⟩):=fun _=>rfl
 rw[upv p]
 (refine Shp.cn (Sg.g_ Tryz.call234 Tryz.func234 (an:={loops:=[(2,[12])]})) fun F=>?_;simp only[ca_,na_])
 refine a8 Pick.here fun q=>aB Pick.here ?_
 obtain⟨⟨a,c⟩,mb,mi⟩:=q
 refine am ?_
 refine o_ ag (o_ ae (aH ?_));refine o_ aI ?_
 obtain⟨n,hnE⟩:∃n,n=Z.n:=⟨_,rfl⟩
 refine aY (fun m y=>[ex fun i:Nat=>pu (m+i=Z.n/\y= .int .i64 (i:Int)/\EL Z id i=none),pt p (.cells #[.slice a Z.n c,.map (some mb),.map (some mi),.int .i64 (Z.at_:Int),.int .i64 Z.num,.int .i64 Z.tmo] 312),Sl 1 308 a c Z.n (qr gs Z.n),bH mb eW (mv gs Z.bm),bH mi eW (mv gs Z.im),BS Z.n (fun i=>mj (gs i) (Z.pr i))]++F) Z.n ?_ ?_
 ·refine .ex 0 (.pu ⟨by omega,rfl,rfl⟩ ?_)
  exact az
 intro m ds y
 refine am ?_
 refine a8 Pick.here fun i=>aT Pick.here fun hi=>?_
 obtain⟨hmi,rfl,hf⟩:=hi
 refine bz bD .nil (fun h=>?_) (fun h=>?_)
 ·have hil:i<Z.n:=by omega
  refine ai (a9 (.there .here) (by omega) fun g hg=>?_)
  subst hg
  refine o_ (bq i (by rfl) hil) ?_
  refine cO (bw (v:=pv (gs i)) (by rw[Nat.zero_add];exact uB hil)) ?_
  rw[upv (gs i)]
  refine o_ ag (o_ ae (o_ ae (cO (P5 i hil (v:= .int .i64 (Z.pr i).id) rfl) ?_)))
  refine bz cH .nil (fun h=>?_) (fun h=>?_)
  ·refine ai ?_
   have:fd Z id=some i:=by
    have h1:EL Z id (i+1)=some i:=by rw[EL,hf];simp[h]
    have:=BU h1 (Z.n-(i+1))
    rwa [show i+1+(Z.n-(i+1))=Z.n by omega]at this
   rw[this]
   refine bK () rfl ?_
   exact .ex ((some ⟨g,0,none⟩,c),mb,mi) (.all az)
  ·(refine af ?_);refine bP ?_
   refine aZ (m-1) (by omega) (.ex (i+1) (.pu ⟨by omega,rfl,by rw[EL,hf];simp[h]⟩ ?_))
   exact az
 ·have:i=Z.n:=by omega
  subst this
  rw[show fd Z id=none from hf]
  refine af (bK () rfl ?_)
  exact .ex ((a,c),mb,mi) (.all az)
theorem xC {P:Program}{W:World}{t:TypeId}{ox oy:Operand}{gs:Nat->Nat}{o:Option Nat}[ht:PtrT P t]:aQ P W [] (dY .eql t ox oy (P6 gs o) (.pointer none)) (.bool o.isNone):=by
 cases o with
 |none=>exact iG
 |some i=>exact bM
theorem pN {P:Program}{W:World}{t:TypeId}{ox oy:Operand}{gs:Nat->Nat}{o:Option Nat}[ht:PtrT P t]:aQ P W [] (dY .neq t ox oy (P6 gs o) (.pointer none)) (.bool o.isSome):=by
 cases o with
 |none=>exact iH
 |some i=>exact oY
def jz (f:Int->Option Nat)(q:Int)(v:Option Nat):Int->Option Nat:=fun x=>if x=q then v else f x
theorem m7 (gs:Nat->Nat)(f:Int->Option Nat)(q:Int)(v:Option Nat):mv gs (jz f q v)=dE (mv gs f) q (v.map fun i=>pv (gs i)):=by
 funext x
 unfold mv jz dE
 by_cases h:x=q <;> simp[h]
theorem vY (gs:Nat->Nat)(f:Int->Option Nat)(q:Int):(mv gs f q).getD (.pointer none)=P6 gs (f q):=by
 unfold mv
 cases f q <;> rfl
def iU (pr:Nat->Pr)(i:Nat)(x:Pr):Nat->Pr:=fun j=>if j=i then x else pr j
def done (Z:Pl)(id:Int)(keep:Bool):Pl:=match Z.bm id with
 |none=>Z
 |some i=>{Z with bm:=jz Z.bm id none,im:=if keep then jz Z.im id (some i)else Z.im,pr:=iU Z.pr i {Z.pr i with busy:=(Z.pr i).busy-1,idle:=if keep then(Z.pr i).idle++[id]else(Z.pr i).idle}}
def xD (Z:Pl)(id:Int):Int:=match Z.bm id with
 |none=>3
 |some _=>0
theorem GF {W:World}{p:Nat}{gs:Nat->Nat}{Z:Pl}{id:Int}{keep:Bool}(hz:Wf Z):Cn p_ 109 [pv p,.int .i64 id,.bool keep] W [gg p gs Z] (fun _:Unit=> .int .i64 (xD Z id)) (fun _=>[gg p gs (done Z id keep)]):=by
 (refine Shp.cn (Sg.g_ Tryz.call109 Tryz.func109) fun F=>?_;simp only[ca_,na_])
 refine c_ rk fun _=>?_
 refine af (a8 Pick.here fun q=>aB Pick.here ?_)
 obtain⟨⟨a,c⟩,mb,mi⟩:=q
 refine am ?_
 unfold pv
 refine o_ ag (o_ ae (aH ?_))
 refine gE (q:=id) nT (.there (.there .here)) ?_
 rw[vY]
 refine o_ (xC (P:=p_) (t:=308)) ?_
 unfold done xD
 cases hb:Z.bm id with
 |none=>
  simp only[Option.isNone_none]
  refine ai (aR () ?_)
  exact .ex ((a,c),mb,mi) (.all az)
 |some i=>
  have hil:=hz.bm _ _ hb
  have hpr:=hz.pr i hil
  simp only[Option.isNone_some]
  unfold P6 pv
  refine af (o_ ag (o_ ae (aH ?_)))
  refine sM (q:=id) nT (by repeat constructor) ?_
  refine o_ ag (o_ ae (fY (.there (.there (.there (.there .here)))) i hil ?_))
  refine a8 Pick.here fun q=>aB Pick.here ?_
  obtain⟨qa,qc⟩:=q
  refine am ?_
  refine aH ?_;refine rZ ?_;refine o_ ag (o_ ae (bR ?_))
  cases keep with
  |false=>
   refine af (aR () ?_)
   refine .ex ((a,c),mb,mi) (.all ?_)
   refine am ?_
   refine .pick (by repeat constructor) (.pick (by repeat constructor) ?_)
   rw[m7]
   refine .pick (by repeat constructor) (.pick (by repeat constructor) ?_)
   refine eb i hil (F:=fun i=>mj (gs i) (Z.pr i)) (fun j hj hji=>by simp[iU,hji]) ?_
   simp only[iU,if_true]
   refine .ex (qa,qc) (.all ?_)
   refine am ?_
   exact .pick (by repeat constructor) (.pick (by repeat constructor) (.pick (by repeat constructor) .refl))
  |true=>
   refine ai (o_ ag (o_ ae (aH ?_)));refine cI fun g=>?_
   refine aP (.there (.there .here)) fun f1 f2 f3 f4=>?_
   refine bQ (m:=1) (news:=[I id]) (by repeat constructor) (bL (e':=3) (by kernel_rfl) .here (by rfl) (OX (l:=[id]))) (by omega) (by omega) fun a' c'=>?_
   refine o_ ag (o_ ae (bR ?_));refine o_ ag (o_ ae (aH ?_))
   refine di (q:=id) nT (by repeat constructor) ?_
   refine aR () ?_
   refine .ex ((a,c),mb,mi) (.all ?_)
   refine am ?_
   refine .pick (by repeat constructor) (.pick (by repeat constructor) ?_)
   rw[m7]
   refine .pick (by repeat constructor) ?_
   simp only[if_true]
   rw[m7]
   refine .pick (by repeat constructor) ?_
   refine eb i hil (F:=fun i=>mj (gs i) (Z.pr i)) (fun j hj hji=>by simp[iU,hji]) ?_
   simp only[iU,if_true]
   refine .ex (a',c') (.all ?_)
   refine am ?_
   rw[List.length_append,List.map_append,List.length_singleton]
   exact .pick (by repeat constructor) (.pick (by repeat constructor) (.pick (by repeat constructor) az))
def qt (f:Int->Option Nat)(l:List Int):Int->Option Nat:=l.foldl (fun f k=>jz f k none) f
theorem yW (f:Int->Option Nat)(l:List Int)(x:Int):qt f (l++[x])=jz (qt f l) x none:=by simp[qt]
def ly (Z:Pl)(i:Nat)(now:Int):Pl:={Z with im:=qt Z.im (Z.pr i).idle,pr:=iU Z.pr i {Z.pr i with idle:=[],til:=yV now+Z.tmo}}
def gV (Z:Pl)(id now:Int):Pl:=match Z.bm id with
 |some i=>ly (done Z id false) i now
 |none=>match Z.im id with
  |some i=>ly Z i now
  |none=>Z
def nG (Z:Pl)(id:Int):Int:=match Z.bm id with
 |some i=>0
 |none=>match Z.im id with
  |some i=>0
  |none=>3
theorem P7 (n:Int): -1099511627776<=yV n/\yV n<=1099511627776:=by
 unfold yV GD
 split <;> split <;> omega
theorem BV (Z:Pl)(id:Int)(k:Bool):(done Z id k).n=Z.n/\(done Z id k).tmo=Z.tmo:=by
 unfold done
 cases Z.bm id <;> exact⟨rfl,rfl⟩
theorem yX (Z:Pl)(id:Int)(j:Nat):((done Z id false).pr j).idle=(Z.pr j).idle:=by
 unfold done
 cases h:Z.bm id with
 |none=>rfl
 |some i=>
  simp only[iU]
  split
  ·rename_i c;subst c;rfl
  ·rfl
theorem fail {W:World}{p:Nat}{gs:Nat->Nat}{Z:Pl}{id now:Int}(hz:Wf Z):Cn p_ 121 [pv p,.int .i64 id,.int .i64 now] W [gg p gs Z] (fun _:Unit=> .int .i64 (nG Z id)) (fun _=>[gg p gs (gV Z id now)]):=by
 (refine Shp.cn (Sg.g_ Tryz.call121 Tryz.func121 (an:={cuts:=[(9,[7])],loops:=[(10,[36])],drs:=[(15,.ofL [(0,2),(1,1),(3,2),(4,3),(5,3),(6,3),(2,0),(7,1),(8,1),(9,1),(10,0)])]}) (os:=[(15,[(2,[6,5,4])])])) fun F=>?_;simp only[ca_,na_])
 refine c_ rk fun _=>?_
 refine af (a8 Pick.here fun q=>aB Pick.here ?_)
 obtain⟨⟨a,c⟩,mb,mi⟩:=q
 refine am ?_
 unfold pv
 refine o_ ag (o_ ae (aH ?_))
 refine gE (q:=id) nT (.there (.there .here)) ?_
 rw[vY]
 refine dK (fun z=>[ex fun x:Pl × Nat=>all [pu (z=pv (gs x.2)/\x.2<x.1.n/\1<=x.1.tmo/\x.1.tmo<=3600/\(x.1.pr x.2).idle.length<=1099511627776/\gV Z id now=ly x.1 x.2 now/\nG Z id=0),gg p gs x.1]]++F) ?_ ?_
 ·intro ds z
  refine am ?_
  refine a8 Pick.here fun x=>aB Pick.here ?_
  obtain⟨Y,i⟩:=x
  refine am ?_
  refine aT Pick.here fun hx=>?_
  obtain⟨rfl,hil,t1,t2,hlen,hfail,hr⟩:=hx
  rw[hfail,hr]
  refine a8 Pick.here fun q=>aB Pick.here ?_
  obtain⟨⟨a,c⟩,mb,mi⟩:=q
  refine am ?_
  unfold pv
  refine fY (.there (.there (.there (.there .here)))) i hil ?_
  refine a8 Pick.here fun q=>aB Pick.here ?_
  obtain⟨qa,qc⟩:=q
  refine am ?_
  refine o_ ag (o_ ae (aH ?_));refine o_ aI ?_
  obtain⟨l,hl⟩:∃l,l=(Y.pr i).idle:=⟨_,rfl⟩
  rw[<- hl]at hlen
  rw[<- hl]
  refine aY (fun m y=>[ex fun k:Nat=>all [pu (m+k=l.length/\y= .int .i64 (k:Int)),bH mi eW (mv gs (qt Y.im (l.take k)))],pt (gs i) (.cells #[.int .i64 (Y.pr i).id,.int .i64 (Y.pr i).max,.slice qa l.length qc,.int .i64 (Y.pr i).busy,.int .i64 (Y.pr i).til] 317),Sl 1 3 qa qc l.length (l.map I),BH Y.n (fun i=>mj (gs i) (Y.pr i)) i,pt p (.cells #[.slice a Y.n c,.map (some mb),.map (some mi),.int .i64 (Y.at_:Int),.int .i64 Y.num,.int .i64 Y.tmo] 312),Sl 1 308 a c Y.n (qr gs Y.n),bH mb eW (mv gs Y.bm)]++F) l.length ?_ ?_
  ·refine .ex 0 (.all ?_)
   refine am ?_
   refine .pu ⟨by omega,rfl⟩ ?_
   rw[List.take_zero]
   exact .pick (by repeat constructor) az
  intro m ds y
  refine am ?_
  refine a8 Pick.here fun k=>aB Pick.here ?_
  refine am ?_
  refine aT Pick.here fun hi=>?_
  obtain⟨hmi,rfl⟩:=hi
  refine bz bD .nil (fun h=>?_) (fun h=>?_)
  ·have hkl:k<l.length:=by omega
   refine ai (a9 (.there (.there .here)) (by omega) fun g hg=>?_)
   subst hg
   refine o_ (bq k (by rfl) hkl) ?_
   refine cO (bw (v:=I l[k]) (by rw[Nat.zero_add];exact Ar hkl)) ?_
   refine o_ ag (o_ ae (aH ?_))
   refine sM (q:=l[k]) nT (by repeat constructor) ?_
   refine bP ?_
   refine aZ (m-1) (by omega) (.ex (k+1) (.all ?_))
   refine am ?_
   refine .pu ⟨by omega,rfl⟩ ?_
   have t1:l.take (k+1)=l.take k++[l[k]]:=by rw[List.take_add_one,List.getElem?_eq_getElem hkl];rfl
   rw[t1,yW,m7]
   exact .pick (by repeat constructor) az
  ·have:k=l.length:=by omega
   subst this
   rw[List.take_length]
   refine af (o_ ag (o_ ae (bR ?_)));refine aW (aq ag .nil ?_);refine aq ae .nil ?_;(((refine' aq (aS ?hc) ?hi ?_);(case hi=>exact .pick (by repeat constructor) .nil);(case hc=>repeat constructor)))
   refine c_ GE fun _=>?_
   refine bj ?_;refine bj ?_;refine bj ?_
   have hc:=P7 now
   refine t_ (g9 (by omega) (by omega)) ?_
   refine t_ ag (t_ ae (bR ?_))
   refine aR () ?_
   unfold ly
   refine .ex ((a,c),mb,mi) (.all ?_)
   refine am ?_
   refine .pick (by repeat constructor) (.pick (by repeat constructor) (.pick (by repeat constructor) ?_))
   rw[<- hl]
   refine .pick (by repeat constructor) ?_
   refine eb i hil (F:=fun i=>mj (gs i) (Y.pr i)) (fun j hj hji=>by simp[iU,hji]) ?_
   simp only[iU,if_true]
   refine .ex (none,0) (.all ?_)
   refine am ?_
   refine .pick (by repeat constructor) ?_
   exact bJ (.pick (by repeat constructor) az)
 ·refine o_ (pN (P:=p_) (t:=308)) ?_
  cases hb:Z.bm id with
  |some i=>
   have hil:=hz.bm _ _ hb
   simp only[Option.isSome_some]
   refine ai (bf (M:=gg p gs Z::F) (.ex ((a,c),mb,mi) (.all az)) ?_)
   refine c_ (GF (keep:=false) hz) fun _=>?_
   refine aN (.ex (done Z id false,i) (.all ?_))
   refine am ?_
   obtain⟨d1,d2⟩:=BV Z id false
   have htmo:=hz.tmo
   refine .pu ⟨rfl,by rw[d1];exact hil,by rw[d2];omega,by rw[d2];omega,by rw[yX];exact(hz.pr i hil).2.2.1,by unfold gV;rw[hb],by unfold nG;rw[hb]⟩ ?_
   exact .refl
  |none=>
   simp only[Option.isSome_none]
   refine af (o_ ag (o_ ae (aH ?_)))
   refine gE (q:=id) nT (by repeat constructor) ?_
   rw[vY]
   refine o_ (xC (P:=p_) (t:=308)) ?_
   cases hi:Z.im id with
   |none=>
    simp only[Option.isNone_none]
    refine ai ?_
    rw[show nG Z id=3 by unfold nG;rw[hb];simp only;rw[hi],show gV Z id now=Z by unfold gV;rw[hb];simp only;rw[hi]]
    refine aR () ?_
    exact .ex ((a,c),mb,mi) (.all az)
   |some i=>
    have hil:=hz.im _ _ hi
    simp only[Option.isNone_some]
    refine af (aN (.ex (Z,i) (.all ?_)))
    refine am ?_
    have htmo:=hz.tmo
    refine .pu ⟨rfl,hil,by omega,by omega,(hz.pr i hil).2.2.1,by unfold gV;rw[hb];simp only;rw[hi],by unfold nG;rw[hb];simp only;rw[hi]⟩ ?_
    exact .ex ((a,c),mb,mi) (.all az)
theorem round {W:World}{p:Nat}:Cn p_ 202 [pv p] W [] (fun c:Nat=> .func (.func 308) #[] [pv c].toArray) (fun c=>[pt c (.cells #[pv p] 216)]):=by
 (refine Shp.cn (Sg.g_ Tryz.call202 Tryz.func202) fun F=>?_;simp only[ca_,na_])
 refine b_ fun c=>?_
 refine o_ bC (aR c ?_)
 exact .refl
def ord (Z:Pl)(k:Nat):Nat:=(Z.at_+k)%Z.n
theorem BW {Z:Pl}(hz:Wf Z)(k:Nat):ord Z k<Z.n:=Nat.mod_lt _ hz.n1
def pO (gs:Nat->Nat)(Z:Pl):List (List Value):=(List.range Z.n).map fun k=>[.int .i64 (ord Z k:Int),pv (gs (ord Z k))]
theorem rm {gs:Nat->Nat}{Z:Pl}{k:Nat}(h:k<Z.n):(pO gs Z)[k]? =some [.int .i64 (ord Z k:Int),pv (gs (ord Z k))]:=by simp[pO,h]
theorem m8 {gs:Nat->Nat}{Z:Pl}:(pO gs Z).length=Z.n:=by simp[pO]
theorem IX {W:World} {p c l:Nat} {gs:Nat->Nat} {Z:Pl} {G:Nat->HP} {Gx T T':HP} (hz:Wf Z)
  (hy:jJ p_ l (pO gs Z) (fun k=>all [T,all [pt c (.cells #[pv p] 216),gg p gs Z,G k]]) (all [T',Gx]) W):
  Cn p_ 308 [yv l,pv c] W [all [T,all [pt c (.cells #[pv p] 216),gg p gs Z,G 0]]] (fun _:Bool=> .tuple #[]) (fun b=>[if b then all [T,all [pt c (.cells #[pv p] 216),gg p gs Z,G Z.n]]else all [T',Gx]]):=by
 obtain⟨n1,n2,at1⟩:1<=Z.n/\Z.n<=16/\Z.at_<Z.n:=⟨hz.n1,hz.n2,hz.at_⟩
 have upv:∀g,pv g= .pointer (some ⟨g,0,none⟩):=fun _=>rfl
 (refine Shp.cn (Sg.g_ Tryz.call308 Tryz.func308 (an:={loops:=[(1,[10])],drs:=[(3,.ofL [(0,1),(1,1),(2,1),(3,1),(4,1),(5,1),(6,1),(7,1),(8,1),(9,1),(10,1),(11,1),(12,1)])]})) fun F=>?_;simp only[ca_,na_])
 refine aB .here ?_
 refine am ?_
 refine aB (.there .here) ?_
 refine am ?_
 refine a8 (.there .here) fun q=>aB Pick.here ?_
 obtain⟨⟨a,cc⟩,mb,mi⟩:=q
 refine am ?_
 rw[upv c,upv p]
 refine aH ?_;refine o_ ag (o_ ae (aH ?_));refine o_ aI (aY (fun m y=>[ex fun k:Nat=>all [pu (m+k=Z.n/\y= .int .i64 (k:Int)),all [T,all [pt c (.cells #[pv p] 216),gg p gs Z,G k]]]]++F) Z.n ?_ ?_)
 ·refine .ex 0 (.all ?_)
  refine am ?_
  refine .pu ⟨by omega,rfl⟩ (.all ?_)
  refine am ?_
  refine .pick (by repeat constructor) (.all ?_)
  refine am ?_
  refine .pick (by repeat constructor) (.ex ((a,cc),mb,mi) (.all ?_))
  refine am ?_
  exact az
 intro m ds y
 refine am ?_
 refine a8 Pick.here fun k=>aB Pick.here ?_
 refine am ?_
 refine aT Pick.here fun hi=>?_
 obtain⟨hmi,rfl⟩:=hi
 refine bz bD .nil (fun h=>?_) (fun h=>?_)
 ·have hkl:k<Z.n:=by omega
  have hol:=BW hz k
  refine ai (aW (aB .here ?_))
  refine am ?_
  refine aB (.there .here) ?_
  refine am ?_
  refine a8 (.there .here) fun q=>aB Pick.here ?_
  obtain⟨⟨a,cc⟩,mb,mi⟩:=q
  refine am ?_
  rw[upv p]
  refine cm ?_;refine t_ ag (t_ ae (cm ?_));(refine t_ (g9 (by omega) (by omega)) ?_);refine cm ?_;refine t_ ag (t_ ae (cm ?_));refine t_ aI ?_;(((refine t_ (tu ?h1 ?h2) ?_);(case h1=>omega);(case h2=>omega)));refine aH ?_;refine o_ ag (o_ ae (aH ?_))
  have e1:((Z.at_:Int)+(k:Int))%(Z.n:Int)=(ord Z k:Int):=by unfold ord;norm_cast
  rw[e1]
  refine a9 (.there .here) (by omega) fun g hg=>?_
  subst hg
  refine o_ (bq (ord Z k) (by rfl) hol) ?_
  refine cO (bw (v:=pv (gs (ord Z k))) (by rw[Nat.zero_add];exact uB hol)) ?_
  refine bf (M:=all [T,all [pt c (.cells #[pv p] 216),gg p gs Z,G k]]::F) ?_ ?_
  ·refine .all ?_
   refine am ?_
   refine .pick (by repeat constructor) (.all ?_)
   refine am ?_
   refine .pick (by repeat constructor) (.ex ((some ⟨g,0,none⟩,cc),mb,mi) (.all ?_))
   refine am ?_
   exact az
  refine ia hy k (rm hkl) .here ?_ ?_
  ·refine o_ bB (af (bP ?_))
   refine aZ (m-1) (by omega) (.ex (k+1) (.all ?_))
   refine am ?_
   exact .pu ⟨by omega,rfl⟩ .refl
  ·refine o_ cL (ai (aR false ?_))
   exact .refl
 ·have:k=Z.n:=by omega
  subst this
  refine af (aR true ?_)
  exact .refl
def xE (Z:Pl)(now:Int)(i:Nat):Prop:=¬yV now<(Z.pr i).til/\(0<(Z.pr i).idle.length\/(Z.pr i).busy<(Z.pr i).max)
instance (Z:Pl)(now:Int)(i:Nat):Decidable (xE Z now i):=by unfold xE;infer_instance
def qv (Z:Pl)(now:Int):Nat->Option Nat
 |0=>none
 |k+1=>match qv Z now k with
  |some j=>some j
  |none=>if xE Z now (ord Z k)then some k else none
theorem BX {Z:Pl}{now:Int}{k j:Nat}(h:qv Z now k=some j):∀m,qv Z now (k+m)=some j
 |0=>h
 |m+1=>by rw[<- Nat.add_assoc,qv,BX h m]
def eC (Z:Pl)(now:Int):Nat->Int
 |0=>3
 |k+1=>if yV now<(Z.pr (ord Z k)).til then eC Z now k else 63
def j5 (Z:Pl)(i:Nat):Int:=if 0<(Z.pr i).idle.length then(Z.pr i).idle.getD ((Z.pr i).idle.length-1) 0 else Z.num
def took (Z:Pl)(i:Nat):Pl:={Z with pr:=iU Z.pr i {Z.pr i with idle:=(Z.pr i).idle.take ((Z.pr i).idle.length-1),busy:=(Z.pr i).busy+1},im:=if 0<(Z.pr i).idle.length then jz Z.im (j5 Z i) none else Z.im,num:=if 0<(Z.pr i).idle.length then Z.num else Z.num+1,bm:=jz Z.bm (j5 Z i) (some i),at_:=(i+1)%Z.n}
structure Tk where
 peer:Int
 id:Int
 fresh:Bool
 e:Int
def fg (Z:Pl)(now:Int):Tk × Pl:=match qv Z now Z.n with
 |some k=>(⟨(Z.pr (ord Z k)).id,j5 Z (ord Z k),decide ((Z.pr (ord Z k)).idle.length=0),0⟩,took Z (ord Z k))
 |none=>(⟨0,0,false,eC Z now Z.n⟩,Z)
def VQ (t:Tk):Value:= .tuple #[.agg #[.int .i64 t.peer,.int .i64 t.id],.bool t.fresh,.int .i64 t.e]
theorem take {W:World}{p:Nat}{gs:Nat->Nat}{Z:Pl}{now:Int}(hz:Wf Z)(hi:∀i,i<Z.n->(Z.pr i).idle.length<=1099511627776):Cn p_ 125 [pv p,.int .i64 now] W [gg p gs Z] (fun _:Unit=>VQ (fg Z now).1) (fun _=>[gg p gs (fg Z now).2]):=by
 have upv:∀g,pv g= .pointer (some ⟨g,0,none⟩):=fun _=>rfl
 obtain⟨n1,n2,at1⟩:1<=Z.n/\Z.n<=16/\Z.at_<Z.n:=⟨hz.n1,hz.n2,hz.at_⟩
 (refine S.mJ.cn fun F=>?_;unfold S.jT;simp only[ca_,na_])
 refine b_ fun b2=>?_
 refine b_ fun b3=>?_
 refine aU fun b4=>?_
 refine de fun b5=>?_
 refine de fun b6=>?_
 refine aH ?_
 refine c_ rk fun _=>?_
 refine af (bR ?_);refine aH ?_
 refine c_ round fun _=>?_
 rename_i bc
 have G0:True:=trivial
 refine z_ (f:=308) (cap:=[pv bc]) (pO gs Z)
  (fun k=>all [pt bc (.cells #[pv p] 216),gg p gs Z,all [pu (qv Z now k=none/\k<=Z.n),pt b2 (.cells #[pv p] 216),pt b3 (.cells #[.int .i64 now] 3),pt b4 (.cells #[.int .i64 0,.int .i64 0] 118),pt b5 (.cells #[.bool false] 4),pt b6 (.cells #[.int .i64 (eC Z now k)] 29),all F]])
  (all [ex fun k:Nat=>all [pu (qv Z now Z.n=some k),gg p gs (took Z (ord Z k)),pt b4 (.cells #[.int .i64 (Z.pr (ord Z k)).id,.int .i64 (j5 Z (ord Z k))] 118),pt b5 (.cells #[.bool (decide ((Z.pr (ord Z k)).idle.length=0))] 4),pt b6 (.cells #[.int .i64 0] 29)],all F]) rfl ?_ ?_ ?_ ?_ ?_ ?_
 ·intro x hx
  obtain⟨k,_,rfl⟩:=List.mem_map.1 hx
  rfl
 ·refine .all ?_
  refine am ?_
  refine .pick (by repeat constructor) (.pick (by repeat constructor) (.all ?_))
  refine am ?_
  refine .pu ⟨rfl,by omega⟩ ?_
  refine .pick (by repeat constructor) (.pick (by repeat constructor) (.pick (by repeat constructor) (.pick (by repeat constructor) (.pick (by repeat constructor) (.all ?_)))))
  rw[List.append_nil]
  exact .refl
 ·intro l T T' hy
  rw[m8]
  exact IX hz hy
 ·intro k hk F2 T0 T1 B N J hB hN hJ
  rw[m8]at hk
  have e0:∀h,(pO gs Z)[k]'h=[.int .i64 (ord Z k:Int),pv (gs (ord Z k))]:=fun h=>by
   have:=rm (gs:=gs) hk
   rw[List.getElem?_eq_getElem h]at this
   exact Option.some.inj this
  rw[e0]
  simp only[iB,List.headD_cons,List.tail_cons]
  have hil:=BW hz k
  obtain⟨i,hie⟩:∃i,i=ord Z k:=⟨_,rfl⟩
  rw[<- hie]at hil ⊢
  have hpr:=hz.pr i hil
  have hid:=hi i hil
  have hnum:=hz.num
  refine aB (.there .here) ?_
  refine am ?_
  refine aB (.there (.there .here)) ?_
  refine am ?_
  refine aT .here fun hp=>?_
  obtain⟨hp,hkn⟩:=hp
  refine hB _ _ _ (by repeat constructor) ?_
  refine a8 (A:=fun q:(Option Addr × Nat) × Nat × Nat=>all [pt p (.cells #[.slice q.1.1 Z.n q.1.2,.map (some q.2.1),.map (some q.2.2),.int .i64 (Z.at_:Int),.int .i64 Z.num,.int .i64 Z.tmo] 312),Sl 1 308 q.1.1 q.1.2 Z.n (qr gs Z.n),bH q.2.1 eW (mv gs Z.bm),bH q.2.2 eW (mv gs Z.im),BS Z.n (fun i=>mj (gs i) (Z.pr i))]) (by repeat constructor) fun q=>aB Pick.here ?_
  obtain⟨⟨a,c⟩,mb,mi⟩:=q
  refine am ?_
  unfold pv
  refine aW (cm ?_);refine aq ag .nil ?_;refine aq ae .nil ?_
  refine aq (P5 i hil (v:= .int .i64 (Z.pr i).til) rfl) (.pick (by repeat constructor) .nil) ?_
  refine c_ GE fun _=>?_
  refine bj ?_;refine bj ?_;refine bj ?_
  refine zZ bD .nil (fun h=>?_) (fun h=>?_)
  ·refine ai (hN _ ?_)
   refine .pick (by repeat constructor) (.all ?_)
   refine am ?_
   refine .pick (by repeat constructor) (.ex ((a,c),mb,mi) (.all ?_))
   refine am ?_
   refine .pick (by repeat constructor) (.pick (by repeat constructor) (.pick (by repeat constructor) (.pick (by repeat constructor) (.pick (by repeat constructor) (.all ?_)))))
   refine am ?_
   have e1:eC Z now (k+1)=eC Z now k:=by rw[eC,if_pos (by rw[<- hie];exact h)]
   have e2:qv Z now (k+1)=none:=by
    rw[qv,hp]
    simp only
    rw[if_neg (fun c=>c.1 (by rw[<- hie];exact h))]
   rw[e1]
   refine .pu ⟨e2,by omega⟩ ?_
   exact az
  refine af ?_
  have hclk:=h
  have e1:eC Z now (k+1)=63:=by rw[eC,if_neg (by rw[<- hie];exact h)]
  refine fY (by repeat constructor) i hil ?_
  refine a8 Pick.here fun q=>aB Pick.here ?_
  obtain⟨qa,qc⟩:=q
  refine am ?_
  refine bR ?_;refine aH ?_;refine o_ ag (o_ ae (aH ?_));refine o_ ag (o_ ae (aH ?_));refine o_ aI (aP (.there (.there .here)) fun f1 f2 f3 f4=>?_)
  have hav:∀j,j=ord Z k->(xE Z now j↔(0<(Z.pr i).idle.length\/(Z.pr i).busy<(Z.pr i).max)):=fun j hj=>by
   rw[hj,<- hie]
   exact⟨fun x=>x.2,fun x=>⟨hclk,x⟩⟩
  refine dK (fun z=>[ex fun q:Option Addr × Nat=>all [pu (z= .int .i64 (j5 Z i)/\(0<(Z.pr i).idle.length\/(Z.pr i).busy<(Z.pr i).max)),
    pt (gs i) (.cells #[.int .i64 (Z.pr i).id,.int .i64 (Z.pr i).max,.slice q.1 ((Z.pr i).idle.length-1) q.2,.int .i64 (Z.pr i).busy,.int .i64 (Z.pr i).til] 317),
    Sl 1 3 q.1 q.2 ((Z.pr i).idle.length-1) (((Z.pr i).idle.take ((Z.pr i).idle.length-1)).map I),
    pt p (.cells #[.slice a Z.n c,.map (some mb),.map (some mi),.int .i64 (Z.at_:Int),.int .i64 (took Z i).num,.int .i64 Z.tmo] 312),
    bH mi eW (mv gs (took Z i).im)],pt b6 (.cells #[.int .i64 63] 29),BH Z.n (fun i=>mj (gs i) (Z.pr i)) i,Sl 1 308 a c Z.n (qr gs Z.n),bH mb eW (mv gs Z.bm),T1,pt b2 (.cells #[.pointer (some ⟨p,0,none⟩)] 216),pt b3 (.cells #[.int .i64 now] 3),pt b4 (.cells #[.int .i64 0,.int .i64 0] 118),pt b5 (.cells #[.bool false] 4),all F,pt bc (.cells #[.pointer (some ⟨p,0,none⟩)] 216)]++F2) ?_ ?_
  rotate_left
  ·refine o_ eu ?_
   by_cases hn0:0<(Z.pr i).idle.length
   ·rw[dT_ (by omega)]
    refine ai (aW ?_)
    obtain⟨gq,rfl⟩:=f4 hn0
    have hlt:(Z.pr i).idle.length-1<(Z.pr i).idle.length:=by omega
    refine t_ ag (t_ ae (cm ?_));(refine t_ (hO (by omega) (by omega)) ?_)
    refine t_ (bq ((Z.pr i).idle.length-1) (by omega) hlt) ?_
    refine iq (bw (v:=I (Z.pr i).idle[(Z.pr i).idle.length-1]) (by rw[Nat.zero_add];exact Ar hlt)) ?_
    refine t_ ag (t_ ae (cm ?_));(refine t_ (hO (by omega) (by omega)) ?_)
    refine t_ (mD ((Z.pr i).idle.length-1) (by omega) (by omega)) ?_
    refine t_ ag (t_ ae (bR ?_));refine aH ?_;refine o_ ag (o_ ae (aH ?_))
    refine sM (q:=(Z.pr i).idle[(Z.pr i).idle.length-1]) nT (by repeat constructor) ?_
    refine i9 (m:=(Z.pr i).idle.length-1) (L:=_) (by repeat constructor) (by omega) ?_
    rw[Nat.mul_one,<- List.map_take]
    have ht:(Z.pr i).idle[(Z.pr i).idle.length-1]=j5 Z i:=by
     unfold j5
     rw[if_pos hn0,List.getD_eq_getElem?_getD,List.getElem?_eq_getElem hlt];rfl
    rw[ht]
    refine aN (.ex (some ⟨gq,0,none⟩,qc) (.all ?_))
    refine am ?_
    refine .pu ⟨by rw[<- ht];rfl,.inl hn0⟩ ?_
    rw[show(took Z i).num=Z.num by simp[took,hn0],show(took Z i).im=jz Z.im (j5 Z i) none by simp[took,hn0],m7]
    refine .pick (by repeat constructor) (.pick (by repeat constructor) (.pick (by repeat constructor) (.pick (by repeat constructor) ?_)))
    exact az
   ·rw[dF_ (by omega)]
    refine af (aW (t_ ag (t_ ae (cm ?_))));refine t_ ag (t_ ae (t_ ae (cm ?_)))
    refine zZ bD .nil (fun h=>?_) (fun h=>?_)
    ·(refine ai ?_);refine aH ?_;refine o_ ag ?_;refine o_ ae ?_;refine aH ?_;refine bP ?_;refine o_ ag ?_;refine o_ ae ?_;refine bR ?_
     have hl0:(Z.pr i).idle=[]:=List.eq_nil_of_length_eq_zero (by omega)
     have ht:j5 Z i=Z.num:=by unfold j5;rw[if_neg hn0]
     refine aN (.ex (qa,qc) (.all ?_))
     refine am ?_
     refine .pu ⟨by rw[ht],.inr h⟩ ?_
     rw[show(took Z i).num=Z.num+1 by simp[took,hn0],show(took Z i).im=Z.im by simp[took,hn0],hl0]
     refine .pick (by repeat constructor) (.pick (by repeat constructor) (.pick (by repeat constructor) (.pick (by repeat constructor) ?_)))
     exact az
    ·refine af (hN _ ?_)
     refine .pick (by repeat constructor) (.all ?_)
     refine am ?_
     refine .pick (by repeat constructor) (.ex ((a,c),mb,mi) (.all ?_))
     refine am ?_
     refine .pick (by repeat constructor) (.pick (by repeat constructor) (.pick (by repeat constructor) (.pick (by repeat constructor) ?_)))
     refine eb i hil (F:=fun i=>mj (gs i) (Z.pr i)) (fun j hj hji=>rfl) ?_
     refine .ex (qa,qc) (.all ?_)
     refine am ?_
     refine .pick (by repeat constructor) (.pick (by repeat constructor) (.pick (by repeat constructor) (.all ?_)))
     refine am ?_
     have e2:qv Z now (k+1)=none:=by
      rw[qv,hp]
      simp only
      rw[if_neg (fun c=>by rcases(hav _ rfl).1 c with c|c <;> omega)]
     rw[e1]
     refine .pu ⟨e2,by omega⟩ ?_
     exact az
  intro ds z
  refine am ?_
  refine a8 Pick.here fun q=>aB Pick.here ?_
  obtain⟨qa,qc⟩:=q
  refine am ?_
  refine aT .here fun hx=>?_
  obtain⟨rfl,hx⟩:=hx
  refine o_ ag (o_ ae (aH ?_));refine bP ?_;refine o_ ag (o_ ae (bR ?_));refine aH ?_;refine o_ ag (o_ ae (aH ?_))
  refine di (q:=j5 Z i) nT (by repeat constructor) ?_
  refine aW (cm ?_);(refine t_ (g9 (by omega) (by omega)) ?_);refine cm ?_;refine t_ ag (t_ ae (cm ?_));refine t_ aI ?_;(((refine t_ (tu ?h1 ?h2) ?_);(case h1=>omega);(case h2=>omega)));refine t_ ag (t_ ae (bR ?_));refine o_ ag (o_ ae (o_ ae (aH ?_)));refine o_ bO ?_
  have e2:((i:Int)+1)%(Z.n:Int)=(((i+1)%Z.n:Nat):Int):=by norm_cast
  rw[e2]
  refine o_ cH ?_
  rw[show decide (((Z.pr i).idle.length:Int)=0)=decide ((Z.pr i).idle.length=0) by simp]
  (((refine' aK ?hp ?hn ?hv ?h1 ?_);(case hp=>(repeat constructor));(case hn=>rfl);(case hv=>rfl);(case h1=>simp[Value.oneCell',ay])));refine bR ?_;refine bR ?_
  refine hJ _ ?_
  have hpk:qv Z now Z.n=some k:=by
   have h1:qv Z now (k+1)=some k:=by
    rw[qv,hp]
    simp only
    rw[if_pos ((hav _ rfl).2 hx)]
   have:=BX h1 (Z.n-(k+1))
   rwa [show k+1+(Z.n-(k+1))=Z.n by omega]at this
  refine .pick (by repeat constructor) (.all ?_)
  refine am ?_
  refine .ex k (.all ?_)
  refine am ?_
  rw[<- hie]
  refine .pu hpk (.ex ((a,c),mb,mi) (.all ?_))
  refine am ?_
  refine .pick (by repeat constructor) (.pick (by repeat constructor) ?_)
  rw[show(took Z i).bm=jz Z.bm (j5 Z i) (some i)from rfl,m7]
  refine .pick (by repeat constructor) (.pick (by repeat constructor) ?_)
  refine eb i hil (F:=fun i=>mj (gs i) (Z.pr i)) (fun j hj hji=>by simp[took,iU,hji]) ?_
  simp only[took,iU,if_true]
  refine .ex (qa,qc) (.all ?_)
  refine am ?_
  rw[List.length_take,show min ((Z.pr i).idle.length-1) (Z.pr i).idle.length=(Z.pr i).idle.length-1 by omega]
  refine .pick (by repeat constructor) (.pick (by repeat constructor) (.pick (by repeat constructor) ?_))
  exact az
 ·intro d
  refine aB (.there .here) ?_
  refine am ?_
  refine aB (.there (.there .here)) ?_
  refine am ?_
  refine aT .here fun hp=>?_
  rw[m8]at hp ⊢
  refine aW (t_ bO ?_);(((refine' aq (aS ?hc) ?hi ?_);(case hi=>exact .pick (by repeat constructor) .nil);(case hc=>repeat constructor)));(((refine' aK ?hp ?hn ?hv ?h1 ?_);(case hp=>(repeat constructor));(case hn=>rfl);(case hv=>rfl);(case h1=>simp[Value.oneCell',ay])));refine bj ?_;refine bR ?_;refine bj ?_;refine bR ?_
  refine rU (by repeat constructor) ?_
  (((refine' be (cQ ?hn) ?hi ?_);(case hi=>exact az);(case hn=>rfl)));(((refine' be (cX ?hc) ?hi ?_);(case hi=>exact az);(case hc=>repeat constructor)));(((refine' be (cX ?hc) ?hi ?_);(case hi=>exact az);(case hc=>repeat constructor)))
  have ht:fg Z now=(⟨0,0,false,eC Z now Z.n⟩,Z):=by unfold fg;rw[hp.1]
  rw[ht]
  refine i7 (M:=[gg p gs Z]) (F:=F) az ?_
  refine am ?_
  refine aR () ?_
  exact .refl
 ·intro d
  refine aB (.there .here) ?_
  refine am ?_
  refine a8 .here fun k=>aB .here ?_
  refine am ?_
  refine aT .here fun hp=>?_
  refine rU (by repeat constructor) ?_
  (((refine' be (cQ ?hn) ?hi ?_);(case hi=>exact az);(case hn=>rfl)));(((refine' be (cX ?hc) ?hi ?_);(case hi=>exact az);(case hc=>repeat constructor)));(((refine' be (cX ?hc) ?hi ?_);(case hi=>exact az);(case hc=>repeat constructor)))
  have ht:fg Z now=(⟨(Z.pr (ord Z k)).id,j5 Z (ord Z k),decide ((Z.pr (ord Z k)).idle.length=0),0⟩,took Z (ord Z k)):=by unfold fg;rw[hp]
  rw[ht]
  refine i7 (M:=[gg p gs (took Z (ord Z k))]) (F:=F) az ?_
  refine am ?_
  refine aR () ?_
  exact .refl
def P8 (x:Int × Int):List Value:=[I x.1,I x.2]
theorem xF:∀(us:List (Int × Int)) (i:Nat) (h:i<us.length),(us.flatMap P8)[i * 2]? =some (I us[i].1)/\(us.flatMap P8)[i * 2+1]? =some (I us[i].2)
 |x::us,0,_=>by simp[P8]
 |x::us,i+1,h=>by
  have ih:=xF us i (by simpa using h)
  rw[List.flatMap_cons,show(i+1) * 2=i * 2+2 by omega]
  simp only[P8,ca_,na_,List.getElem_cons_succ]
  exact⟨by rw[List.getElem?_cons_succ,List.getElem?_cons_succ];exact ih.1,by rw[show i * 2+2+1=i * 2+1+1+1 by omega,List.getElem?_cons_succ,List.getElem?_cons_succ];exact ih.2⟩
def jA (us:List (Int × Int))(tmo:Int)(i:Nat):Pl:={n:=i,pr:=fun j=>⟨(us.getD j (0,0)).1,(us.getD j (0,0)).2,[],0,-2199023255552⟩,bm:=fun _=>none,im:=fun _=>none,at_:=0,num:=0,tmo}
def BY (us:List (Int × Int))(tmo:Int)(i:Nat):Prop:=(us.getD i (0,0)).2<1\/64<(us.getD i (0,0)).2\/(fd (jA us tmo i) (us.getD i (0,0)).1).isSome=true
def MF (us:List (Int × Int))(tmo:Int):Prop:=us.length≠0/\us.length<=16/\1<=tmo/\tmo<=3600/\∀i,i<us.length->¬BY us tmo i
def yY (us:List (Int × Int))(tmo:Int):={r:Option (Nat × (Nat->Nat)) // match r with
 |some _=>MF us tmo
 |none=>¬MF us tmo}
def IY {us:List (Int × Int)}{tmo:Int}(x:yY us tmo):Value:=match x.1 with
 |some q=> .tuple #[pv q.1,.int .i64 0]
 |none=> .tuple #[.pointer none,.int .i64 1]
def EM {us:List (Int × Int)}{tmo:Int}(x:yY us tmo):HP:=match x.1 with
 |some q=>gg q.1 q.2 (jA us tmo us.length)
 |none=>pu True
theorem UB {W:World}{nm:Value}{a:Option Addr}{c:Nat}{us:List (Int × Int)}{tmo rt:Int}{A:HP}[OC nm](hr:RdB W A a (us.length * 2) (us.flatMap P8)):
  Cn p_ 140 [.agg #[nm,.slice a us.length c,.int .i64 tmo,.int .i64 rt]] W [A] IY (fun x:yY us tmo=>[A,EM x]):=by
 (refine Shp.cn (Sg.g_ Tryz.call140 Tryz.func140 (an:={loops:=[(5,[36])],drs:=[(9,.ofL [(0,2),(1,2),(2,3),(3,3),(4,3),(5,1),(6,1),(7,0),(8,0),(9,0),(10,1),(11,1),(12,0)])]}) (os:=[(9,[(7,[4,3,2]),(8,[4,3,2])])])) fun F=>?_;simp only[ca_,na_])
 refine aX fun g=>?_;refine o_ ae (aH ?_);refine o_ aI ?_
 have bad:∀(L:List HP),¬MF us tmo->Imp W L (A::F)->aJ W L (fun w=>∃x:yY us tmo,(.tuple #[.pointer none,.int .i64 1]:Value)=IY x/\sat W (A::EM x::F) w):=fun L hb hi=>by
  refine bf hi ?_
  refine bK (⟨none,hb⟩:yY us tmo) rfl ?_
  exact .pick (by repeat constructor) (.pu trivial .refl)
 refine o_ cH ?_
 by_cases h0:us.length=0
 ·rw[dT_ (by omega)]
  exact aC (aC (aC (aC (o_ av (aC (aC (aC (o_ av (aC (aC (aC (o_ av (ai (bad _ (fun c=>c.1 h0) az))))))))))))))
 rw[dF_ (by omega)]
 refine ab (o_ ae (ab (aH ?_)));refine ab (o_ aI (ab (o_ eu ?_)))
 by_cases h1:16<us.length
 ·rw[dT_ (by omega)]
  exact o_ ak (aC (aC (aC (o_ av (aC (aC (aC (o_ av (ai (bad _ (fun c=>absurd c.2.1 (by omega)) az))))))))))
 rw[dF_ (by omega)]
 refine o_ ak (ab (o_ ae (ab (aH ?_))));refine ab (o_ bD ?_)
 by_cases h2:tmo<1
 ·rw[dT_ (by omega)]
  exact o_ ak (aC (aC (aC (o_ av (ai (bad _ (fun c=>absurd c.2.2.1 (by omega)) az))))))
 rw[dF_ (by omega)]
 refine o_ ak (ab (o_ ae (ab (aH ?_))));refine ab (o_ eu ?_)
 by_cases h3:3600<tmo
 ·rw[dT_ (by omega)]
  exact o_ ak (ai (bad _ (fun c=>absurd c.2.2.2.1 (by omega)) az))
 rw[dF_ (by omega)]
 refine o_ ak (af (jt eW fun mb=>?_))
 refine jt eW fun mi=>?_
 refine o_ ae (aH ?_);refine o_ bO ?_;refine aX fun g=>?_;refine o_ ae (aH ?_);refine o_ aI ?_
 rename Nat=>p
 refine e_ (s:=1) (e:=308) ?_
 refine aY (fun m y=>[ex fun x:Nat × (Nat->Nat)=>all [pu (m+x.1=us.length/\y= .int .i64 (x.1:Int)/\∀j,j<x.1->¬BY us tmo j),gg p x.2 (jA us tmo x.1),A]]++F) us.length ?_ ?_
 ·refine .ex (0,fun _=>0) (.all ?_)
  refine am ?_
  refine .pu ⟨by omega,rfl,fun j hj=>absurd hj (by omega)⟩ (.ex ((none,0),mb,mi) (.all ?_))
  refine am ?_
  refine .pick (by repeat constructor) (.pick (by repeat constructor) ?_)
  have e0:∀gs:Nat->Nat,mv gs (fun _=>none)=fun _=>none:=fun gs=>by funext x;rfl
  have e1:(jA us tmo 0).bm=fun _=>none:=rfl
  have e2:(jA us tmo 0).im=fun _=>none:=rfl
  rw[e1,e2,e0]
  refine .pick (by repeat constructor) (.pick (by repeat constructor) ?_)
  exact rX az
 intro m ds y
 refine am ?_
 refine a8 Pick.here fun x=>aB Pick.here ?_
 obtain⟨i,gs⟩:=x
 refine am ?_
 refine aT Pick.here fun hi=>?_
 obtain⟨hmi,rfl,hgood⟩:=hi
 refine bz bD .nil (fun h=>?_) (fun h=>?_)
 ·have hil:i<us.length:=by omega
  obtain⟨g,o,rfl,_⟩:=hr.at_ (by omega)
  obtain⟨u1,u2⟩:=xF us i hil
  refine ai (o_ (dR i (by rfl) hil) ?_)
  refine cO (df (vs:=[.int .i64 us[i].1,.int .i64 us[i].2]) (n:=2) hr rfl ?_) ?_
  ·intro j hj
   have:j=0\/j=1:=by omega
   rcases this with rfl|rfl
   ·exact u1
   ·exact u2
  refine aU fun g=>?_;(((refine' aK ?hp ?hn ?hv ?h1 ?_);(case hp=>(repeat constructor));(case hn=>rfl);(case hv=>rfl);(case h1=>simp[Value.oneCell',ay])));refine o_ ae (aH ?_)
  have hg2:us.getD i (0,0)=us[i]:=by rw[List.getD_eq_getElem?_getD,List.getElem?_eq_getElem hil];rfl
  have hgd:BY us tmo i↔(us[i].2<1\/64<us[i].2\/(fd (jA us tmo i) us[i].1).isSome=true):=by unfold BY;rw[hg2]
  refine o_ bD ?_
  by_cases b1:us[i].2<1
  ·rw[dT_ b1]
   exact aC (aC (aC (o_ av (aC (aC (aC (aC (aC (o_ av (ai (bad _ (fun c=>c.2.2.2.2 i hil (hgd.2 (.inl b1))) az)))))))))))
  rw[dF_ b1]
  refine ab (o_ ae (ab (aH ?_)));refine ab (o_ eu ?_)
  by_cases b2:64<us[i].2
  ·rw[dT_ b2]
   exact o_ ak (aC (aC (aC (aC (aC (o_ av (ai (bad _ (fun c=>c.2.2.2.2 i hil (hgd.2 (.inr (.inl b2)))) az))))))))
  rw[dF_ b2]
  refine o_ ak (ab (ab (o_ ae (ab (aH ?_)))));refine ab (c_ (peer (p:=p) (gs:=gs) (Z:=jA us tmo i) (id:=us[i].1) (by show i<=1024;omega)) fun _=>?_)
  refine ab (o_ (pN (P:=p_) (t:=308)) ?_)
  by_cases b3:(fd (jA us tmo i) us[i].1).isSome=true
  ·rw[b3]
   exact o_ ak (ai (bad _ (fun c=>c.2.2.2.2 i hil (hgd.2 (.inr (.inr b3)))) az))
  rw[Bool.eq_false_iff.2 b3]
  refine o_ ak (af (aW (aq ag .nil ?_)));refine aq ae .nil ?_
  refine a8 .here fun q=>aB .here ?_
  obtain⟨⟨pa,pc⟩,mb,mi⟩:=q
  refine am ?_
  (((refine' aq (aS ?hc) ?hi ?_);(case hi=>exact .pick (by repeat constructor) .nil);(case hc=>repeat constructor)));(((refine' be (bN ?hn) ?hi ?_);(case hi=>exact .pick (by repeat constructor) .nil);(case hn=>rfl)));refine t_ bO ?_;refine aX fun g=>?_;refine bj ?_;refine bj ?_;refine bj ?_;refine cI fun g=>?_;refine bj ?_;refine bj ?_;refine bj ?_
  rename Nat=>gn
  refine bQ (m:=1) (news:=[pv g]) (by repeat constructor) (bL (e':=308) (by kernel_rfl) .here (by rfl) (by intro u hu;simp at hu;rw[hu];rfl)) (by show(i+1) * 8<=_;omega) (by show i+1<=_;omega) fun a' c'=>?_
  refine t_ ag (t_ ae (bR ?_));refine bP ?_
  refine aZ (m-1) (by omega) (.ex (i+1,fun j=>if j=i then g else gs j) (.all ?_))
  refine am ?_
  refine .pu ⟨by omega,rfl,fun j hj=>?_⟩ (.ex ((a',c'),mb,mi) (.all ?_))
  ·by_cases c:j=i
   ·subst c
    exact fun hb=>by
     rcases hgd.1 hb with h|h|h
     ·exact b1 h
     ·exact b2 h
     ·exact b3 h
   ·exact hgood j (by omega)
  refine am ?_
  refine .pick (by repeat constructor) ?_
  have e0:∀(gs:Nat->Nat) (k:Nat),mv gs (jA us tmo k).bm=fun _=>none:=fun gs k=>by funext x;rfl
  have e1:∀(gs:Nat->Nat) (k:Nat),mv gs (jA us tmo k).im=fun _=>none:=fun gs k=>by funext x;rfl
  have e2:qr (fun j=>if j=i then g else gs j) (i+1)=qr gs i++[pv g]:=by
   unfold qr
   rw[List.range_succ,List.map_append]
   congr 1
   ·exact List.map_congr_left fun j hj=>by
     have hj:=List.mem_range.1 hj
     show pv (if j=i then g else gs j)=_
     rw[if_neg (by omega)]
   ·simp
  have e3:(jA us tmo (i+1)).n=i+1:=rfl
  have e4:(jA us tmo i).n=i:=rfl
  rw[e0,e1,e0,e1,e3,e4,e2]
  refine .pick (by repeat constructor) (.pick (by repeat constructor) (.pick (by repeat constructor) ?_))
  refine lK (F:=fun j=>mj (gs j) ((jA us tmo i).pr j)) (fun j hj=>?_) ?_
  ·show _=mj (if j=i then g else gs j) _
   rw[if_neg (by omega)];rfl
  refine .pick (by repeat constructor) ?_
  simp only[if_true]
  have hp1:(jA us tmo (i+1)).pr i=⟨us[i].1,us[i].2,[],0,-2199023255552⟩:=by
   show(⟨(us.getD i (0,0)).1,(us.getD i (0,0)).2,[],0,-2199023255552⟩:Pr)=_
   rw[hg2]
  rw[hp1]
  refine .ex (none,0) (.all ?_)
  refine am ?_
  refine .pick (by repeat constructor) (bJ ?_)
  exact az
 ·have:i=us.length:=by omega
  subst this
  refine af ?_
  have hok:MF us tmo:=⟨h0,by omega,by omega,by omega,hgood⟩
  refine bK (⟨some (p,gs),hok⟩:yY us tmo) rfl ?_
  unfold EM
  exact az
end Go.Proofs.YtdjkdjepjahjfaaGreatDoor.PL
namespace Go.Proofs.YtdjkdjepjahjfaaGreatDoor.TP
open Go Go.Proofs Go.RowKit Sh Sl T FD
theorem IZ {now:Int}(h:0<=now):0<=PL.yV now:=by
 unfold PL.yV
 have:(0:Int)<=PL.GD:=by decide
 split <;> split at * <;> omega
theorem BZ {tm : Int} (h1 : 1 ≤ tm) (h2 : tm ≤ 3600) : PL.MF [(1, 64)] tm :=
 ⟨by decide, by decide, h1, h2, fun i hi => by
  obtain rfl : i = 0 := by simpa using hi
  intro h
  rcases h with h | h | h
  ·exact absurd h (by decide)
  ·exact absurd h (by decide)
  ·cases h⟩
end Go.Proofs.YtdjkdjepjahjfaaGreatDoor.TP
namespace Go.Proofs.YtdjkdjepjahjfaaGreatDoor.PL
open Go Go.Proofs Go.RowKit Sh Sl T
structure WfB (Z:Pl)(N:Nat):Prop where
 n1:1<=Z.n
 n2:Z.n<=16
 at_:Z.at_<Z.n
 num:0<=Z.num/\Z.num<=N
 tmo:1<=Z.tmo/\Z.tmo<=3600
 pr:∀i,i<Z.n-> -(N:Int)<=(Z.pr i).busy/\(Z.pr i).busy<=N/\(Z.pr i).idle.length<=N/\1<=(Z.pr i).max/\(Z.pr i).max<=64
 bm:∀q i,Z.bm q=some i->i<Z.n
 im:∀q i,Z.im q=some i->i<Z.n
theorem WfB.wf {Z:Pl}{N:Nat}(h:WfB Z N)(hN:N<=1099511627776):Wf Z:=
 ⟨h.n1,h.n2,h.at_,⟨h.num.1,by have:=h.num.2;omega⟩,h.tmo,fun i hi=>by have:=h.pr i hi;omega,h.bm,h.im⟩
theorem EN {us:List (Int × Int)}{tmo:Int}(h:MF us tmo):WfB (jA us tmo us.length) 0:=by
 obtain⟨h1,h2,h3,h4,h5⟩:=h
 refine⟨by show 1<=us.length;omega,h2,by show 0<us.length;omega,⟨Int.le_refl _,Int.le_refl _⟩,⟨h3,h4⟩,fun i hi=>?_,fun q i c=>(by cases c),fun q i c=>(by cases c)⟩
 have hb:=h5 i hi
 unfold BY at hb
 refine⟨by show-((0:Nat):Int)<=0;omega,by show(0:Int)<=((0:Nat):Int);omega,Nat.le_refl _,?_,?_⟩
 ·show 1<=(us.getD i (0,0)).2
  by_cases c:(us.getD i (0,0)).2<1
  ·exact absurd (.inl c) hb
  ·omega
 ·show(us.getD i (0,0)).2<=64
  by_cases c:64<(us.getD i (0,0)).2
  ·exact absurd (.inr (.inl c)) hb
  ·omega
theorem iV {f:Int->Option Nat}{q x:Int}{v:Option Nat}{i:Nat}(h:jz f q v x=some i):v=some i\/f x=some i:=by
 unfold jz at h
 split at h
 ·exact .inl h
 ·exact .inr h
theorem B0 {Z:Pl}{N i:Nat}(h:WfB Z N)(hi:i<Z.n):WfB (took Z i) (N+1):=by
 have hn:=h.n1
 refine⟨h.n1,h.n2,Nat.mod_lt _ hn,?_,h.tmo,fun j hj=>?_,fun q j c=>?_,fun q j c=>?_⟩
 ·have:=h.num
  show 0<=(if 0<(Z.pr i).idle.length then Z.num else Z.num+1)/\(if 0<(Z.pr i).idle.length then Z.num else Z.num+1)<=((N+1:Nat):Int)
  split <;> omega
 ·have hj':=h.pr j hj
  show-((N+1:Nat):Int)<=(iU Z.pr i _ j).busy/\(iU Z.pr i _ j).busy<=((N+1:Nat):Int)/\(iU Z.pr i _ j).idle.length<=N+1/\1<=(iU Z.pr i _ j).max/\(iU Z.pr i _ j).max<=64
  unfold iU
  by_cases c:j=i
  ·subst c
   simp only[if_true,List.length_take]
   omega
  ·simp only[if_neg c]
   omega
 ·rcases iV c with e|e
  ·cases e;exact hi
  ·exact h.bm _ _ e
 ·have c:(if 0<(Z.pr i).idle.length then jz Z.im (j5 Z i) none else Z.im) q=some j:=c
  split at c
  ·rcases iV c with e|e
   ·cases e
   ·exact h.im _ _ e
  ·exact h.im _ _ c
theorem WfB.up {Z:Pl}{N M:Nat}(h:WfB Z N)(hm:N<=M):WfB Z M:=
 ⟨h.n1,h.n2,h.at_,⟨h.num.1,by have:=h.num.2;omega⟩,h.tmo,fun i hi=>by have:=h.pr i hi;omega,h.bm,h.im⟩
theorem B2 {Z:Pl}{N:Nat}{now:Int}(h:WfB Z N):WfB (fg Z now).2 (N+1):=by
 unfold fg
 cases hk:qv Z now Z.n with
 |none=>exact h.up (by omega)
 |some k=>exact B0 h (Nat.mod_lt _ h.n1)
theorem uC {Z:Pl}{N:Nat}{id:Int}{keep:Bool}(h:WfB Z N):WfB (done Z id keep) (N+1):=by
 unfold done
 cases hb:Z.bm id with
 |none=>exact h.up (by omega)
 |some i=>
  have hi:=h.bm _ _ hb
  refine⟨h.n1,h.n2,h.at_,⟨h.num.1,by have:=h.num.2;show Z.num<=_;omega⟩,h.tmo,fun j hj=>?_,fun q j c=>?_,fun q j c=>?_⟩
  ·have hj':=h.pr j hj
   simp only[iU]
   by_cases c:j=i
   ·subst c
    simp only[if_true]
    cases keep with
    |true=>simp only[if_true,List.length_append,List.length_singleton];omega
    |false=>simp only[Bool.false_eq_true,if_false];omega
   ·simp only[if_neg c]
    omega
  ·rcases iV c with e|e
   ·cases e
   ·exact h.bm _ _ e
  ·have c:(if keep=true then jz Z.im id (some i)else Z.im) q=some j:=c
   split at c
   ·rcases iV c with e|e
    ·cases e;exact hi
    ·exact h.im _ _ e
   ·exact h.im _ _ c
theorem yZ {f:Int->Option Nat}{x:Int}{i:Nat}:∀ {l:List Int},qt f l x=some i->f x=some i:=by
 intro l
 induction l generalizing f with
 |nil=>exact fun h=>h
 |cons y l ih=>
  intro h
  have h:qt (jz f y none) l x=some i:=h
  rcases iV (ih h)with e|e
  ·cases e
  ·exact e
theorem pP {Z:Pl}{N i:Nat}{now:Int}(h:WfB Z N):WfB (ly Z i now) N:=by
 refine⟨h.n1,h.n2,h.at_,h.num,h.tmo,fun j hj=>?_,h.bm,fun q j c=>h.im _ _ (yZ c)⟩
 have hj':=h.pr j hj
 simp only[ly,iU]
 by_cases c:j=i
 ·subst c
  simp only[if_true,List.length_nil]
  omega
 ·simp only[if_neg c]
  omega
theorem B3 {Z:Pl}{N:Nat}{id now:Int}(h:WfB Z N):WfB (gV Z id now) (N+1):=by
 unfold gV
 split
 ·exact pP (uC h)
 ·split
  ·exact(pP h).up (by omega)
  ·exact h.up (by omega)
theorem WfB.idle {Z:Pl}{N:Nat}(h:WfB Z N)(hN:N<=1099511627776):∀i,i<Z.n->(Z.pr i).idle.length<=1099511627776:=fun i hi=>by have:=h.pr i hi;omega
def u2:List (Int × Int):=[(1,1),(2,1)]
def k0:Pl:=jA u2 10 u2.length
def k1:Pl:=(fg k0 0).2
def k2:Pl:=(fg k1 0).2
def k3:Pl:=(fg k2 0).2
def k4:Pl:=done k3 0 true
theorem Tk.ext' {t:Tk}{p i:Int}{f:Bool}{e:Int}(h:t.peer=p/\t.id=i/\t.fresh=f/\t.e=e):t=⟨p,i,f,e⟩:=by
 obtain⟨rfl,rfl,rfl,rfl⟩:=h;rfl
theorem t1:(fg k1 0).1=⟨2,1,true,0⟩:=Tk.ext' (by decide+kernel)
end Go.Proofs.YtdjkdjepjahjfaaGreatDoor.PL
namespace Go.Proofs.YtdjkdjepjahjfaaGreatDoor.TP
open Go Go.Proofs Go.RowKit Sh Sl T FD
structure PG (Z:PL.Pl)(N:Nat)(B:Nat->Bool):Prop where
 w:PL.WfB Z N
 n:Z.n=1
 id:(Z.pr 0).id=1
 max:(Z.pr 0).max=64
 bm:∀i:Nat,B i=true->Z.bm (i:Int)=some 0
structure PT (Z:PL.Pl)(M:Nat):Prop where
 g:PG Z M (fun i=>decide (i<M))
 num:Z.num=(M:Int)
 til:(Z.pr 0).til= -2199023255552
 busy:(Z.pr 0).busy=(M:Int)
 idle:(Z.pr 0).idle=[]
theorem PG.at0 {Z:PL.Pl}{N:Nat}{B:Nat->Bool}(h:PG Z N B):Z.at_=0:=by have:=h.w.at_;have:=h.n;omega
theorem PG.ord {Z:PL.Pl}{N:Nat}{B:Nat->Bool}(h:PG Z N B):PL.ord Z 0=0:=by unfold PL.ord;rw[h.at0,h.n]
theorem I0 {tm:Int}(h1:1<=tm)(h2:tm<=3600):PT (PL.jA [(1,64)] tm 1) 0:=
 ⟨⟨PL.EN (BZ h1 h2),rfl,rfl,rfl,fun i h=>by simp at h⟩,rfl,rfl,rfl,rfl⟩
theorem EO {Z:PL.Pl}{M:Nat}{now:Int}(h:PT Z M)(hM:M<64)(hn:0<=now):(PL.fg Z now).1=⟨1,(M:Int),true,0⟩/\PT (PL.fg Z now).2 (M+1):=by
 have hc:=IZ hn
 have hid0:PL.j5 Z 0=(M:Int):=by unfold PL.j5;rw[h.idle,h.num];rfl
 have hp:PL.qv Z now Z.n=some 0:=by
  rw[h.g.n]
  unfold PL.qv PL.qv
  simp only[h.g.ord]
  rw[if_pos]
  exact⟨by rw[h.til];omega,.inr (by rw[h.busy,h.g.max];omega)⟩
 have ht:PL.fg Z now=(⟨(Z.pr (PL.ord Z 0)).id,PL.j5 Z (PL.ord Z 0),decide ((Z.pr (PL.ord Z 0)).idle.length=0),0⟩,PL.took Z (PL.ord Z 0)):=by unfold PL.fg;rw[hp]
 have hw:=PL.B2 (now:=now) h.g.w
 rw[ht]at hw
 rw[ht]
 rw[h.g.ord]at hw ⊢
 rw[hid0,h.g.id,h.idle]
 refine⟨rfl,⟨hw,h.g.n,h.g.id,h.g.max,fun i hi=>?_⟩,?_,h.til,?_,?_⟩
 ·simp only[PL.took,PL.jz]
  rw[hid0]
  split
  ·rfl
  ·rename_i hne
   exact h.g.bm i (by simp only[decide_eq_true_eq]at hi ⊢;omega)
 ·show(if 0<(Z.pr 0).idle.length then Z.num else Z.num+1)=((M+1:Nat):Int)
  rw[h.idle,h.num];rfl
 ·show(Z.pr 0).busy+1=((M+1:Nat):Int)
  rw[h.busy];rfl
 ·show(Z.pr 0).idle.take ((Z.pr 0).idle.length-1)=[]
  rw[h.idle];rfl
def y5 (B:Nat->Bool)(i:Nat):Nat->Bool:=fun j=>if j=i then false else B j
theorem I3 {Z:PL.Pl}{B:Nat->Bool}{i j:Nat}(h:∀i:Nat,B i=true->Z.bm (i:Int)=some 0)(hj:y5 B i j=true):PL.jz Z.bm (i:Int) none (j:Int)=some 0:=by
 unfold y5 at hj
 split at hj
 ·cases hj
 ·unfold PL.jz
  rw[if_neg (by omega)]
  exact h j hj
theorem xG {Z:PL.Pl}{N i:Nat}{B:Nat->Bool}{k:Bool}(h:PG Z N B)(hi:B i=true):PG (PL.done Z (i:Int) k) (N+1) (y5 B i)/\((PL.done Z (i:Int) k).pr 0).til=(Z.pr 0).til/\(PL.done Z (i:Int) k).tmo=Z.tmo:=by
 have hw:=PL.uC (id:=(i:Int)) (keep:=k) h.w
 unfold PL.done at hw ⊢
 rw[h.bm i hi]at hw ⊢
 exact⟨⟨hw,h.n,h.id,h.max,fun j hj=>I3 h.bm hj⟩,rfl,rfl⟩
theorem EP {Z:PL.Pl}{N i:Nat}{B:Nat->Bool}{now:Int}(h:PG Z N B)(hi:B i=true):PG (PL.gV Z (i:Int) now) (N+1) (y5 B i)/\((PL.gV Z (i:Int) now).pr 0).til=PL.yV now+Z.tmo:=by
 obtain⟨hd,_,ht⟩:=xG (k:=false) h hi
 have hw:=PL.B3 (id:=(i:Int)) (now:=now) h.w
 have e:PL.gV Z (i:Int) now=PL.ly (PL.done Z (i:Int) false) 0 now:=by unfold PL.gV;rw[h.bm i hi]
 rw[e]at hw ⊢
 exact⟨⟨hw,hd.n,hd.id,hd.max,hd.bm⟩,by show PL.yV now+(PL.done Z (i:Int) false).tmo=_;rw[ht]⟩
theorem P9 {Z:PL.Pl}{N:Nat}{B:Nat->Bool}{now:Int}(h:PG Z N B)(ht:(Z.pr 0).til=PL.yV now+Z.tmo):PL.fg Z now=(⟨0,0,false,3⟩,Z):=by
 have h1:=h.w.tmo
 have hp:PL.qv Z now Z.n=none:=by
  rw[h.n]
  unfold PL.qv PL.qv
  simp only[h.ord]
  rw[if_neg]
  rintro⟨hx,_⟩
  rw[ht]at hx;omega
 unfold PL.fg
 rw[hp,h.n]
 simp only[PL.eC,h.ord]
 rw[if_pos (by rw[ht];omega)]
def uD (p M:Nat):HP:=ex fun q:(Nat->Nat) × PL.Pl=>all [pu (PT q.2 M),PL.gg p q.1 q.2]
def uZ (p N:Nat)(B:Nat->Bool)(fl:Bool)(now:Int):HP:=ex fun q:(Nat->Nat) × PL.Pl=>all [pu (PG q.2 N B/\(fl=true->(q.2.pr 0).til=PL.yV now+q.2.tmo)),PL.gg p q.1 q.2]
theorem vZ {W:World}{L L':List HP}{Kp:PK}{k:Value->WP}{p M:Nat}{now:Int}(hM:M<64)(hn:0<=now)(P:Pick L (uD p M) L')(h:aJ W (uD p (M+1)::L') (k (.tuple #[.agg #[.int .i64 1,.int .i64 (M:Int)],.bool true,.int .i64 0]))):aJ W L (opN p_ (bG (fn 125) [pC p,.int .i64 now]) Kp k):=by
 refine a8 P fun z=>aB .here ?_
 refine am ?_
 refine aT .here fun hz=>?_
 obtain⟨ht,hs⟩:=EO hz hM hn
 refine ah (PL.take (p:=p) (gs:=z.1) (Z:=z.2) (now:=now) (hz.g.w.wf (by omega)) (hz.g.w.idle (by omega))) (.cons .here .nil) fun _=>?_
 rw[ht]
 refine bf (.ex (z.1,(PL.fg z.2 now).2) (.all ?_)) h
 refine am ?_
 exact .pu hs .refl
theorem v9 {W:World}{L L':List HP}{Kp:PK}{k:Value->WP}{p N:Nat}{B:Nat->Bool}{now:Int}(hN:N<=1000)(P:Pick L (uZ p N B true now) L')(h:aJ W (uZ p N B true now::L') (k (.tuple #[.agg #[.int .i64 0,.int .i64 0],.bool false,.int .i64 3]))):aJ W L (opN p_ (bG (fn 125) [pC p,.int .i64 now]) Kp k):=by
 refine a8 P fun z=>aB .here ?_
 refine am ?_
 refine aT .here fun hz=>?_
 have ht:=P9 hz.1 (hz.2 rfl)
 refine ah (PL.take (p:=p) (gs:=z.1) (Z:=z.2) (now:=now) (hz.1.w.wf (by omega)) (hz.1.w.idle (by omega))) (.cons .here .nil) fun _=>?_
 rw[ht]
 refine bf (.ex z (.all ?_)) h
 refine am ?_
 exact .pu hz .refl
theorem I4 {W:World}{L L':List HP}{Kp:PK}{k:Value->WP}{p N i:Nat}{B:Nat->Bool}{fl b:Bool}{now:Int}(hN:N<=1000)(hi:B i=true)(P:Pick L (uZ p N B fl now) L')(h:aJ W (uZ p (N+1) (y5 B i) fl now::L') (k (.int .i64 0))):aJ W L (opN p_ (bG (fn 109) [pC p,.int .i64 (i:Int),.bool b]) Kp k):=by
 refine a8 P fun z=>aB .here ?_
 refine am ?_
 refine aT .here fun hz=>?_
 obtain⟨h1,h2,h3⟩:=xG (k:=b) hz.1 hi
 refine ah (PL.GF (p:=p) (gs:=z.1) (Z:=z.2) (id:=(i:Int)) (keep:=b) (hz.1.w.wf (by omega))) (.cons .here .nil) fun _=>?_
 rw[show PL.xD z.2 (i:Int)=0 by unfold PL.xD;rw[hz.1.bm i hi]]
 refine bf (.ex (z.1,PL.done z.2 (i:Int) b) (.all ?_)) h
 refine am ?_
 exact .pu ⟨h1,fun hf=>by rw[h2,h3];exact hz.2 hf⟩ .refl
theorem I5 {W:World}{L L':List HP}{Kp:PK}{k:Value->WP}{p N i:Nat}{B:Nat->Bool}{fl:Bool}{now:Int}(hN:N<=1000)(hi:B i=true)(P:Pick L (uZ p N B fl now) L')(h:aJ W (uZ p (N+1) (y5 B i) true now::L') (k (.int .i64 0))):aJ W L (opN p_ (bG (fn 121) [pC p,.int .i64 (i:Int),.int .i64 now]) Kp k):=by
 refine a8 P fun z=>aB .here ?_
 refine am ?_
 refine aT .here fun hz=>?_
 obtain⟨h1,h2⟩:=EP (now:=now) hz.1 hi
 refine ah (PL.fail (p:=p) (gs:=z.1) (Z:=z.2) (id:=(i:Int)) (now:=now) (hz.1.w.wf (by omega))) (.cons .here .nil) fun _=>?_
 rw[show PL.nG z.2 (i:Int)=0 by unfold PL.nG;rw[hz.1.bm i hi]]
 refine bf (.ex (z.1,PL.gV z.2 (i:Int) now) (.all ?_)) h
 refine am ?_
 refine .pu ⟨h1,fun _=>?_⟩ .refl
 rw[h2]
 have e:(PL.gV z.2 (i:Int) now).tmo=z.2.tmo:=by
  unfold PL.gV
  rw[hz.1.bm i hi]
  exact(PL.BV z.2 (i:Int) false).2
 rw[e]
end Go.Proofs.YtdjkdjepjahjfaaGreatDoor.TP
namespace Go.Proofs.YtdjkdjepjahjfaaGreatDoor.TP
open Go Sl
structure Tok where
 mark:UInt8
 s:List UInt8
 line:Nat
 deriving DecidableEq
def dL (c:UInt8):Bool:=decide (32<c/\c<127)&&!([59,123,125,35,34]:List UInt8).contains c
def pQ (c:UInt8):Bool:=([59,123,125]:List UInt8).contains c
def v_ (c:UInt8):Bool:=decide (c=9\/c=13\/c=32)
def fp:Nat->Nat->List UInt8->Option (List Tok)
 |0,_,_=>none
 |_+1,_,[]=>some []
 |f+1,line,c::r=>
  if c=10 then fp f (line+1) r else
  if v_ c then fp f line r else
  if pQ c then(fp f line r).map (⟨c,[],line⟩:: ·)else
  if dL c then(fp f line ((c::r).dropWhile dL)).map (⟨0,(c::r).takeWhile dL,line⟩:: ·)else none
def bs (s:String):List UInt8:=s.toUTF8.toList
structure NdR where
 words:List (List UInt8)
 line:Nat
 block:Bool
 kids:List Nat
 deriving DecidableEq
def Vy:NdR:=⟨[],0,false,[]⟩
structure TS where
 nodes:List NdR
 opn:List Nat
 now:Option Nat
 deriving DecidableEq
def TS.nd (s:TS)(k:Nat):NdR:=s.nodes.getD k Vy
def TS.upd (s:TS)(k:Nat)(n:NdR):TS:={s with nodes:=s.nodes.set k n}
def TS.top (s:TS):Nat:=s.opn.getLast?.getD 0
def TS.kid (s:TS)(k:Nat):TS:=s.upd s.top {s.nd s.top with kids:=(s.nd s.top).kids++[k]}
def jG (s:TS):Bool:=decide (0<s.opn.length/\s.opn.length<=4/\s.nodes.length<=1000)&&s.opn.all (fun k=>decide (k<s.nodes.length))&&s.now.all (fun k=>decide (k<s.nodes.length))&&s.nodes.all (fun n=>decide (n.words.length<=1000/\n.kids.length<=1000)&&n.kids.all fun k=>decide (k<s.nodes.length))
def uE (s:TS)(t:Tok):Option TS:=
 if jG s then
  if t.mark=0 then match s.now with
   |none=>some {s with nodes:=s.nodes++[⟨[t.s],t.line,false,[]⟩],now:=some s.nodes.length}
   |some k=>some (s.upd k {s.nd k with words:=(s.nd k).words++[t.s]})
  else if t.mark=125 then(if s.now=none/\s.opn.length≠1 then some {s with opn:=s.opn.dropLast}else none)
  else if t.mark=123 then match s.now with
   |some k=>if s.opn.length≠4 then some {(s.upd k {s.nd k with block:=true}).kid k with opn:=s.opn++[k],now:=none}else none
   |none=>none
  else if t.mark=59 then match s.now with
   |some k=>some {s.kid k with now:=none}
   |none=>none
  else none
 else none
def pR:TS->List Tok->Option TS
 |s,[]=>some s
 |s,t::r=>match uE s t with
  |some s'=>pR s' r
  |none=>none
def B4:TS:=⟨[Vy],[0],none⟩
def jB (w:List UInt8):Bool:=!w.isEmpty&&w.all dL
theorem EQ {w:List UInt8}{c:UInt8}{r:List UInt8}(hw:w.all dL=true)(hc:dL c=false):(w++c::r).takeWhile dL=w/\(w++c::r).dropWhile dL=c::r:=by
 induction w with
 |nil=>simp[hc]
 |cons x w ih=>
  simp only[List.all_cons,Bool.and_eq_true]at hw
  obtain⟨h1,h2⟩:=ih hw.2
  simp[hw.1,h1,h2]
theorem ER {c:UInt8}(h:dL c=true):c≠10/\v_ c=false/\pQ c=false:=by
 have:∀n:Nat,n<256->dL (UInt8.ofNat n)=true->UInt8.ofNat n≠10/\v_ (UInt8.ofNat n)=false/\pQ (UInt8.ofNat n)=false:=by decide+kernel
 have e:UInt8.ofNat c.toNat=c:=by simp
 have h2:=this c.toNat c.toNat_lt
 rw[e]at h2
 exact h2 h
theorem B5 {f line:Nat}{w:List UInt8}{c:UInt8}{r:List UInt8}(hw:jB w=true)(hc:dL c=false):fp (f+1) line (w++c::r)=(fp f line (c::r)).map (⟨0,w,line⟩:: ·):=by
 simp only[jB,Bool.and_eq_true]at hw
 obtain⟨t1,t2⟩:=EQ (r:=r) hw.2 hc
 cases w with
 |nil=>simp at hw
 |cons x w=>
  have hx:dL x=true:=(List.all_eq_true.1 hw.2) x List.mem_cons_self
  obtain⟨h1,h2,h3⟩:=ER hx
  show fp (f+1) line (x::(w++c::r))=_
  rw[fp,if_neg h1,h2,if_neg (by simp),h3,if_neg (by simp),hx,if_pos rfl]
  show Option.map (⟨0,(x::w++c::r).takeWhile dL,line⟩:: ·) (fp f line ((x::w++c::r).dropWhile dL))=_
  rw[t1,t2]
inductive Pc where
 |w (l:List UInt8)
 |m (c:UInt8)
 |s
def zC:List Pc->List UInt8
 |[]=>[]
 | .w l::r=>l++zC r
 | .m c::r=>c::zC r
 | .s::r=>32::zC r
def MG:List Pc->List Tok
 |[]=>[]
 | .w l::r=>⟨0,l,1⟩::MG r
 | .m c::r=>⟨c,[],1⟩::MG r
 | .s::r=>MG r
def pS:List Pc->Bool
 |[]=>true
 | .w l:: .s::r=>jB l&&pS (.s::r)
 | .w l:: .m c::r=>jB l&&pS (.m c::r)
 | .w _::_=>false
 | .m c::r=>([59,123,125]:List UInt8).contains c&&pS r
 | .s::r=>pS r
theorem xH {c:UInt8}(h:([59,123,125]:List UInt8).contains c=true):c≠10/\v_ c=false/\pQ c=true/\dL c=false:=by
 have:c=59\/c=123\/c=125:=by simpa using h
 rcases this with rfl|rfl|rfl <;> decide
theorem ml:∀(ps:List Pc),pS ps=true->fp (ps.length+1) 1 (zC ps)=some (MG ps)
 |[],_=>rfl
 | .s::r,h=>by
  have ih:=ml r h
  show fp (r.length+1+1) 1 (32::zC r)=_
  rw[fp,if_neg (by decide),if_pos (by decide),ih]
  rfl
 | .m c::r,h=>by
  simp only[pS,Bool.and_eq_true]at h
  obtain⟨h1,h2,h3,_⟩:=xH h.1
  have ih:=ml r h.2
  show fp (r.length+1+1) 1 (c::zC r)=_
  rw[fp,if_neg h1,h2,if_neg (by simp),h3,if_pos rfl,ih]
  rfl
 | .w l:: .s::r,h=>by
  simp only[pS,Bool.and_eq_true]at h
  have ih:=ml (.s::r) h.2
  show fp ((Pc.s::r).length+1+1) 1 (l++32::zC r)=_
  rw[B5 h.1 (by decide)]
  show Option.map _ (fp ((Pc.s::r).length+1) 1 (zC (.s::r)))=_
  rw[ih]
  rfl
 | .w l:: .m c::r,h=>by
  simp only[pS,Bool.and_eq_true]at h
  have ih:=ml (.m c::r) (by simp only[pS,Bool.and_eq_true];exact h.2)
  show fp ((Pc.m c::r).length+1+1) 1 (l++c::zC r)=_
  rw[B5 h.1 (xH h.2.1).2.2.2]
  show Option.map _ (fp ((Pc.m c::r).length+1) 1 (zC (.m c::r)))=_
  rw[ih]
  rfl
def I6 (d t r:List UInt8):List Pc:=[.w [115,116,111,114,101],.s,.w d,.m 59,.s,.w [117,112,115,116,114,101,97,109],.s,.w [117,112],.s,.m 123,.s,.w [112,101,101,114],.s,.w [49],.s,.w [54,52],.m 59,.s,.w [116,105,109,101,111,117,116],.s,.w t,.m 59,.s,.w [114,101,116,114,105,101,115],.s,.w r,.m 59,.s,.m 125,.s,.w [115,101,114,118,101,114],.s,.m 123,.s,.w [108,111,99,97,116,105,111,110],.s,.w [47],.s,.m 123,.s,.w [114,101,116,117,114,110],.s,.w [50,48,48],.s,.w [104,101,114,101],.m 59,.s,.m 125,.s,.w [108,111,99,97,116,105,111,110],.s,.w [47,97,112,105],.s,.m 123,.s,.w [112,114,111,120,121],.s,.w [117,112],.m 59,.s,.w [99,97,99,104,101],.m 59,.s,.m 125,.s,.m 125]
def j6 (d t r:List UInt8):List UInt8:=[115,116,111,114,101,32]++d++[59,32,117,112,115,116,114,101,97,109,32,117,112,32,123,32,112,101,101,114,32,49,32,54,52,59,32,116,105,109,101,111,117,116,32]++t++[59,32,114,101,116,114,105,101,115,32]++r++[59,32,125,32,115,101,114,118,101,114,32,123,32,108,111,99,97,116,105,111,110,32,47,32,123,32,114,101,116,117,114,110,32,50,48,48,32,104,101,114,101,59,32,125,32,108,111,99,97,116,105,111,110,32,47,97,112,105,32,123,32,112,114,111,120,121,32,117,112,59,32,99,97,99,104,101,59,32,125,32,125]
theorem I7 (d t r:List UInt8):zC (I6 d t r)=j6 d t r:=by simp[zC,I6,j6]
theorem P_ {d t r:List UInt8}(hd:jB d=true)(ht:jB t=true)(hr:jB r=true):pS (I6 d t r)=true:=by
 simp only[I6,pS,hd,ht,hr,Bool.true_and]
 decide
def VR (d t r:List UInt8):List NdR:=[⟨[],0,false,[1,2,6]⟩,⟨[[115,116,111,114,101],d],1,false,[]⟩,⟨[[117,112,115,116,114,101,97,109],[117,112]],1,true,[3,4,5]⟩,⟨[[112,101,101,114],[49],[54,52]],1,false,[]⟩,⟨[[116,105,109,101,111,117,116],t],1,false,[]⟩,⟨[[114,101,116,114,105,101,115],r],1,false,[]⟩,⟨[[115,101,114,118,101,114]],1,true,[7,9]⟩,⟨[[108,111,99,97,116,105,111,110],[47]],1,true,[8]⟩,⟨[[114,101,116,117,114,110],[50,48,48],[104,101,114,101]],1,false,[]⟩,⟨[[108,111,99,97,116,105,111,110],[47,97,112,105]],1,true,[10,11]⟩,⟨[[112,114,111,120,121],[117,112]],1,false,[]⟩,⟨[[99,97,99,104,101]],1,false,[]⟩]
def lz (d t r:List UInt8):TS:=⟨VR d t r,[0],none⟩
theorem ES (d t r:List UInt8):pR B4 (MG (I6 d t r))=some (lz d t r):=by kernel_rfl
end Go.Proofs.YtdjkdjepjahjfaaGreatDoor.TP
namespace Go.Proofs.YtdjkdjepjahjfaaGreatDoor.Sl
open Go Go.RowKit Sh
variable {P:Program} {W:World} {L L':List HP} {Kp:PK} {k:Value->WP}
theorem GG {t:TypeId}{l:List UInt8}[hs:StrT P t](h:∀g,aJ W (pt g (.stringIter ⟨l.toArray⟩ 0)::L) (k (.pointer (some ⟨g,0,none⟩)))):aJ W L (opN P (rO t (ay l)) Kp k):=fun w hw=>by
 refine⟨?_⟩
 have hr:=run_range_string (P:=P) w t ⟨l.toArray⟩ hs.ut
 have:(rO t (ay l)).run P w= .ok (.value (.pointer (some ⟨w.heap.size,0,none⟩))) (w.iter ⟨l.toArray⟩ 0):=by
  simp[rO,ay,hr]
 rw[this]
 exact h _ _ (hw.alloc _)
theorem GH {t:TypeId}{l:List UInt8}{g i:Nat}(p:Pick L (pt g (.stringIter ⟨l.toArray⟩ i)) L')(hi:i<l.length)(ha:l[i].toNat<128)(h:aJ W (pt g (.stringIter ⟨l.toArray⟩ (i+1))::L') (k (.tuple #[.bool true,.int .i64 (i:Int),.int .i32 (l[i].toNat:Int)]))):aJ W L (opN P (oQ (.pointer (some ⟨g,0,none⟩)) true t) Kp k):=fun w hw=>by
 have hp:=hw.pick p
 refine⟨?_⟩
 have hg:=hp.pt_.1
 have hsz:i<(⟨l.toArray⟩:ByteArray).size:=by simpa [ByteArray.size]using hi
 have hd:=decode_ascii ⟨l.toArray⟩ i hsz (by show(l.toArray[i]).toNat<128;simpa using ha)
 have:(oQ (.pointer (some ⟨g,0,none⟩)) true t).run P w= .ok (.value (.tuple #[.bool true,.int .i64 (i:Int),.int .i32 (l[i].toNat:Int)])) (w.putObj g (.stringIter ⟨l.toArray⟩ (i+1))):=by
  simp only[oQ,Instr.next,getObj,setObj,Sem.run_bind,Sem.run,hg,Result.andThen,hsz,if_true,hd]
  simp[goInt,World.putObj]
  show((l.toArray[i]).toNat:Int)=_
  simp
 rw[this]
 exact h _ (hp.putO)
theorem GI {t:TypeId}{l:List UInt8}{g i:Nat}(p:Pick L (pt g (.stringIter ⟨l.toArray⟩ i)) L')(hi:¬i<l.length)(h:aJ W L (k (.tuple #[.bool false]))):aJ W L (opN P (oQ (.pointer (some ⟨g,0,none⟩)) true t) Kp k):=fun w hw=>by
 have hp:=hw.pick p
 refine⟨?_⟩
 have hg:=hp.pt_.1
 have hsz:¬i<(⟨l.toArray⟩:ByteArray).size:=by simpa [ByteArray.size]using hi
 have:(oQ (.pointer (some ⟨g,0,none⟩)) true t).run P w= .ok (.value (.tuple #[.bool false])) w:=by
  simp[oQ,Instr.next,getObj,Sem.run,hg,hsz]
 rw[this]
 exact h _ hw
end Go.Proofs.YtdjkdjepjahjfaaGreatDoor.Sl
namespace Go.Proofs.YtdjkdjepjahjfaaGreatDoor.TP
open Go Go.Proofs Go.RowKit Sh Sl T FD
def UD:List UInt8:=[59,123,125,35,34]
theorem sP {W:World}{l:List UInt8}{c:UInt8}(hc:c.toNat<128):Cn p_ 331 [ay l,.int .i32 (c.toNat:Int)] W [] (fun _:Unit=> .bool (l.contains c)) (fun _=>[]):=by
 have hI:Cn p_ 155 [ay l,.int .i32 (c.toNat:Int)] W [] (fun _:Unit=> .int .i64 (lB l c)) (fun _=>[]):=by
  (refine Shp.cn (Sg.g_ Tryz.call155 Tryz.func155 (an:={cuts:=[(11,[9])],loops:=[(5,[9]),(12,[12]),(38,[])],drs:=[(6,.ofL [(0,1),(1,1),(2,1),(3,1),(4,1),(5,1),(6,1)]),(7,.ofL [(0,1),(1,1),(2,1),(3,1),(4,1),(5,1),(6,1),(7,0),(8,1)]),(14,.ofL [(0,1),(1,1),(2,1),(3,1),(4,1),(5,1),(6,1),(7,1),(8,1),(9,1),(10,1)])]})) fun F=>?_;simp only[ca_,na_])
  (((refine o_ (Sl.f7 ?hcq) ?_);(case hcq=>(first|omega|(simp only[List.length_nil,List.length_cons];omega)))));refine ab ?_;refine ab ?_;(((refine o_ (Sl.bY ?hcq) ?_);(case hcq=>(first|omega|(simp only[List.length_nil,List.length_cons];omega)))));refine o_ av ?_;refine ai ?_
  refine o_ (eN (q:= .u8)) ?_
  rw[show IntKind.u8.wrap (c.toNat:Int)=(c.toNat:Int) by simp only[IntKind.wrap,IntKind.bits,IntKind.signed];simp;omega]
  refine' ah (indexByte (l:=l) (c:=c)) ?hp fun _=>?_
  case hp=>exact .nil
  refine am ?_
  refine aR () ?_
  exact .refl
 (refine Shp.cn (Sg.g_ Tryz.call331 Tryz.func331) fun F=>?_;simp only[ca_,na_])
 refine c_ hI fun _=>?_
 refine o_ dt ?_
 rw[show decide (0<=lB l c)=l.contains c by
  cases h:l.contains c with
  |true=>exact dT_ (eO.2 (by simpa using h))
  |false=>exact dF_ (fun h2=>by have:=eO.1 h2;simp at h;exact h this)]
 refine aR () ?_
 exact .refl
theorem UE {W:World}{c:UInt8}{A:HP}(hc:c.toNat<128):Cn p_ 330 ([.int .i32 (c.toNat:Int)]++[]) W [A] (fun _:Unit=> .bool (!dL c)) (fun _=>[A]):=by
 (refine Shp.cn (Sg.g_ Tryz.call330 Tryz.func330) fun F=>?_;simp only[ca_,na_])
 unfold dL
 by_cases h1:c.toNat<=32
 ·have:decide ((32:UInt8)<c/\c<127)=false:=dF_ (fun h=>by have:=UInt8.lt_iff_toNat_lt.1 h.1;simp at this;omega)
  rw[this,Bool.false_and]
  (((refine o_ (Sl.f7 ?hcq) ?_);(case hcq=>(first|omega|(simp only[List.length_nil,List.length_cons];omega)))));refine aC ?_;refine aC ?_;refine o_ av ?_;refine aC ?_;refine aC ?_;refine o_ av ?_
  refine aR () ?_
  exact .refl
 by_cases h2:127<=c.toNat
 ·have:decide ((32:UInt8)<c/\c<127)=false:=dF_ (fun h=>by have:=UInt8.lt_iff_toNat_lt.1 h.2;simp at this;omega)
  rw[this,Bool.false_and]
  (((refine o_ (Sl.tX ?hcq) ?_);(case hcq=>(first|omega|(simp only[List.length_nil,List.length_cons];omega)))));refine ab ?_;refine ab ?_;(((refine o_ (Sl.iP ?hcq) ?_);(case hcq=>(first|omega|(simp only[List.length_nil,List.length_cons];omega)))));refine o_ ak ?_;refine aC ?_;refine aC ?_;refine o_ av ?_
  refine aR () ?_
  exact .refl
 have:decide ((32:UInt8)<c/\c<127)=true:=dT_ ⟨UInt8.lt_iff_toNat_lt.2 (by simp;omega),UInt8.lt_iff_toNat_lt.2 (by simp;omega)⟩
 rw[this,Bool.true_and,Bool.not_not]
 (((refine o_ (Sl.tX ?hcq) ?_);(case hcq=>(first|omega|(simp only[List.length_nil,List.length_cons];omega)))));refine ab ?_;refine ab ?_;(((refine o_ (Sl.eS ?hcq) ?_);(case hcq=>(first|omega|(simp only[List.length_nil,List.length_cons];omega)))));refine o_ ak ?_;refine ab ?_;refine ab ?_
 refine' ah (sP (l:=UD) (c:=c) hc) ?hp fun _=>?_
 case hp=>exact .nil
 refine am ?_
 refine o_ ak (aR () ?_)
 exact .refl
theorem wb {W:World}{l:List UInt8}{f:FuncId}{p:UInt8->Bool}(ha:∀c∈l,c.toNat<128)(hf:∀c∈l,∀A:HP,Cn p_ f ([.int .i32 (c.toNat:Int)]++[]) W [A] (fun _:Unit=> .bool (p c)) (fun _=>[A])):
  Cn p_ 329 [ay l,.func (.func f) #[] #[]] W [] (fun _:Unit=> .int .i64 (if l.any p then(l.findIdx p:Int)else-1)) (fun _=>[]):=by
 have hI:Cn p_ 406 [ay l,.func (.func f) #[] #[],.bool true] W [] (fun _:Unit=> .int .i64 (if l.any p then(l.findIdx p:Int)else-1)) (fun _=>[]):=by
  (refine Shp.cn (Sg.g_ Tryz.call406 Tryz.func406 (an:={loops:=[(2,[])]})) fun F=>?_;simp only[ca_,na_])
  refine GG fun g=>?_
  refine lJ (fun m=>[ex fun i:Nat=>all [pu (m+i=l.length/\(l.take i).any p=false),pt g (.stringIter ⟨l.toArray⟩ i)]]++F) l.length ?_ ?_
  ·refine Imp.ex 0 (.all ?_)
   refine am ?_
   exact .pu ⟨by omega,rfl⟩ .refl
  intro m ds
  refine am ?_
  refine a8 Pick.here fun i=>aB Pick.here ?_
  refine am ?_
  refine aT .here fun hi=>?_
  obtain⟨hm,hn⟩:=hi
  by_cases hlt:i<l.length
  ·refine GH .here hlt (ha _ (List.getElem_mem hlt)) ?_
   refine bE ?_;refine ai (bE ?_);refine bE ?_
   refine bt (cap:=[]) (hf _ (List.getElem_mem hlt) _) (.cons .here .nil) fun _=>?_
   refine am ?_
   have hst:(l.take (i+1)).any p=((l.take i).any p||p l[i]):=by
    rw[List.take_succ_eq_append_getElem hlt,List.any_append];simp
   refine o_ (wL (by kernel_rfl)) ?_
   cases hp:p l[i]with
   |true=>
    have h1:l.any p=true:=List.any_eq_true.2 ⟨_,List.getElem_mem hlt,hp⟩
    have h2:l.findIdx p=i:=by
     rw[List.findIdx_eq hlt]
     refine⟨hp,fun j hj=>?_⟩
     have:=List.any_eq_false.1 hn l[j] (by rw[List.mem_take_iff_getElem];exact⟨j,by omega,rfl⟩)
     simpa using this
    rw[h1,if_pos rfl,h2,dT_ rfl]
    refine ai (aR () ?_)
    exact az
   |false=>
    rw[dF_ (by simp)]
    refine af (n9 (m-1) ?_ ?_)
    ·omega
    refine .ex (i+1) (.all ?_)
    refine am ?_
    exact .pu ⟨by omega,by rw[hst,hn,hp];rfl⟩ .refl
  ·refine GI .here hlt ?_
   rw[List.take_of_length_le (by omega)]at hn
   rw[hn,if_neg (by simp)]
   refine bE ?_;refine af (aR () ?_)
   exact az
 (refine Shp.cn (Sg.g_ Tryz.call329 Tryz.func329) fun F=>?_;simp only[ca_,na_])
 refine c_ hI fun _=>?_
 refine aR () ?_
 exact .refl
def kJ (t:Tok):List Value:=[.int .u8 (t.mark.toNat:Int),ay t.s,.int .i64 (t.line:Int)]
theorem ET {f line:Nat}{ts:List Tok}(h:fp f line []=some ts):ts=[]:=by
 cases f with
 |zero=>cases h
 |succ f=>exact(Option.some.inj h).symm
theorem B6 {f line:Nat}{c:UInt8}{r:List UInt8}{ts:List Tok}(h:fp f line (c::r)=some ts):
  (c=10/\∃f',fp f' (line+1) r=some ts)\/(c≠10/\v_ c=true/\∃f',fp f' line r=some ts)\/(c≠10/\v_ c=false/\pQ c=true/\∃f' t2,fp f' line r=some t2/\ts=⟨c,[],line⟩::t2)\/(c≠10/\v_ c=false/\pQ c=false/\dL c=true/\∃f' t2,fp f' line ((c::r).dropWhile dL)=some t2/\ts=⟨0,(c::r).takeWhile dL,line⟩::t2):=by
 cases f with
 |zero=>cases h
 |succ f=>
  rw[fp]at h
  split at h
  ·exact .inl ⟨by assumption,f,h⟩
  split at h
  ·exact .inr (.inl ⟨by assumption,by assumption,f,h⟩)
  split at h
  ·obtain⟨t2,h2,h3⟩:=Option.map_eq_some_iff.1 h
   exact .inr (.inr (.inl ⟨by assumption,by simp_all,by assumption,f,t2,h2,h3.symm⟩))
  split at h
  ·obtain⟨t2,h2,h3⟩:=Option.map_eq_some_iff.1 h
   exact .inr (.inr (.inr ⟨by assumption,by simp_all,by simp_all,by assumption,f,t2,h2,h3.symm⟩))
  ·cases h
theorem VS {W:World}{l:List UInt8}{f0:Nat}{ts:List Tok}(h:fp f0 1 l=some ts)(ha:∀c∈l,c.toNat<128)(hl:l.length<=65536):Cn p_ 223 [ay l] W [] (fun r:AC=> .tuple #[.slice r.1 ts.length r.2,.int .i64 0]) (fun r=>[Sl 3 360 r.1 r.2 ts.length (ts.flatMap kJ)]):=by
 (refine Shp.cn (Sg.g_ Tryz.call223 Tryz.func223 (an:={cuts:=[(8,[6])],loops:=[(2,[0,2,4])]})) fun F=>?_;simp only[ca_,na_])
 refine gC (fun m x y z=>[ex fun st:List UInt8 × List Tok × Nat × AC=>all [pu (m=st.1.length/\x=ay st.1/\y= .slice st.2.2.2.1 st.2.1.length st.2.2.2.2/\z= .int .i64 (st.2.2.1:Int)/\(∃f t2,fp f st.2.2.1 st.1=some t2/\ts=st.2.1++t2)/\(∃k,st.1=l.drop k)/\st.2.1.length+st.1.length<=65536/\st.2.2.1+st.1.length<=65537),Sl 3 360 st.2.2.2.1 st.2.2.2.2 st.2.1.length (st.2.1.flatMap kJ)]]++F) l.length ?_ ?_
 ·refine Imp.ex (l,[],1,(none,0)) (.all ?_)
  refine am ?_
  exact .pu ⟨rfl,rfl,rfl,rfl,⟨f0,ts,h,rfl⟩,⟨0,rfl⟩,by simpa using hl,by(try dsimp only);omega⟩ (bJ .refl)
 intro m ds x y z
 refine am ?_
 refine a8 Pick.here fun st=>aB Pick.here ?_
 obtain⟨s,tk,line,ra,rc⟩:=st
 refine am ?_
 refine aT .here fun hi=>?_
 (try dsimp only at hi)
 obtain⟨rfl,rfl,rfl,rfl,⟨f,t2,hf,rfl⟩,⟨k,hk⟩,hle,hln⟩:=hi
 (try dsimp only)
 cases s with
 |nil=>
  have:=ET hf
  subst this
  refine o_ (Sl.qT (m:=[]) (by simp)) ?_
  rw[List.append_nil]
  refine af (aR ((ra,rc)) ?_)
  exact .refl
 |cons c r=>
  have hsub:∀x∈c::r,x.toNat<128:=fun x hx=>ha x (by rw[hk]at hx;exact List.mem_of_mem_drop hx)
  have hc:=hsub c List.mem_cons_self
  have hr:r=l.drop (k+1):=by rw[<- List.drop_drop,<- hk];rfl
  simp only[List.length_cons]at hle hln
  have hix:∀ {W:World} {t:TypeId} [StrT p_ t],aQ p_ W [] (mB t (ay (c::r)) (.int .i64 0)) (.int .u8 (c.toNat:Int)):=ew 0 rfl (by simp)
  have hsl:∀ {W:World} {t:TypeId} [StrT p_ t],aQ p_ W [] (n8 t (ay (c::r)) (some (.int .i64 1)) none none) (ay r):=jn 1 rfl (by simp)
  refine o_ (Sl.Gh (m:=[]) (by simp)) ?_
  refine ai (o_ hix ?_)
  rcases B6 hf with ⟨rfl,f',h1⟩|⟨h10,hb,f',h1⟩|⟨h10,hb,hm,f',t3,h1,rfl⟩|⟨h10,hb,hm,hw,f',t3,h1,rfl⟩
  ·refine o_ (Sl.ce rfl) ?_
   refine ai (bP ?_)
   refine o_ hsl ?_
   refine cC r.length ?_ ?_
   ·simp
   refine .ex (r,tk,line+1,(ra,rc)) (.all ?_)
   refine am ?_
   exact .pu ⟨rfl,rfl,rfl,by simp,⟨f',t2,h1,rfl⟩,⟨k+1,hr⟩,by(try dsimp only);omega,by(try dsimp only);omega⟩ .refl
  ·have h10':¬(c.toNat:Int)=10:=fun e=>h10 (UInt8.toNat_inj.1 (by show c.toNat=10;omega))
   have hb':c.toNat=9\/c.toNat=13\/c.toNat=32:=by
    rcases of_decide_eq_true hb with h|h|h
    ·exact .inl (by rw[h];rfl)
    ·exact .inr (.inl (by rw[h];rfl))
    ·exact .inr (.inr (by rw[h];rfl))
   rcases hb' with hb'|hb'|hb'
   all_goals
    (first|((((refine o_ (Sl.bA ?hcq) ?_);(case hcq=>(first|omega|(simp only[List.length_nil,List.length_cons];omega)))));refine af ?_;(((refine o_ (Sl.ce ?hcq) ?_);(case hcq=>(first|omega|(simp only[List.length_nil,List.length_cons];omega)))));refine aC ?_;refine aC ?_;refine o_ av ?_;refine aC ?_;refine aC ?_;refine o_ av ?_;(refine ai ?_))|((((refine o_ (Sl.bA ?hcq) ?_);(case hcq=>(first|omega|(simp only[List.length_nil,List.length_cons];omega)))));refine af ?_;(((refine o_ (Sl.bA ?hcq) ?_);(case hcq=>(first|omega|(simp only[List.length_nil,List.length_cons];omega)))));refine ab ?_;refine ab ?_;(((refine o_ (Sl.ce ?hcq) ?_);(case hcq=>(first|omega|(simp only[List.length_nil,List.length_cons];omega)))));refine o_ ak ?_;refine aC ?_;refine aC ?_;refine o_ av ?_;(refine ai ?_))|((((refine o_ (Sl.bA ?hcq) ?_);(case hcq=>(first|omega|(simp only[List.length_nil,List.length_cons];omega)))));refine af ?_;(((refine o_ (Sl.bA ?hcq) ?_);(case hcq=>(first|omega|(simp only[List.length_nil,List.length_cons];omega)))));refine ab ?_;refine ab ?_;(((refine o_ (Sl.bA ?hcq) ?_);(case hcq=>(first|omega|(simp only[List.length_nil,List.length_cons];omega)))));refine o_ ak ?_;refine ab ?_;refine ab ?_;(((refine o_ (Sl.ce ?hcq) ?_);(case hcq=>(first|omega|(simp only[List.length_nil,List.length_cons];omega)))));refine o_ ak ?_;(refine ai ?_)))
    refine o_ hsl ?_
    refine cC r.length ?_ ?_
    ·simp
    refine .ex (r,tk,line,(ra,rc)) (.all ?_)
    refine am ?_
    exact .pu ⟨rfl,rfl,rfl,rfl,⟨f',t2,h1,rfl⟩,⟨k+1,hr⟩,by(try dsimp only);omega,by(try dsimp only);omega⟩ .refl
  ·have hm':c=59\/c=123\/c=125:=by simpa [pQ]using hm
   have hix3:0<=lB [59,123,125] c:=eO.2 (by rcases hm' with rfl|rfl|rfl <;> decide)
   have hcn:c.toNat=59\/c.toNat=123\/c.toNat=125:=by rcases hm' with rfl|rfl|rfl <;> decide
   (((refine o_ (Sl.bA ?hcq) ?_);(case hcq=>(first|omega|(simp only[List.length_nil,List.length_cons];omega)))));refine af ?_;(((refine o_ (Sl.bA ?hcq) ?_);(case hcq=>(first|omega|(simp only[List.length_nil,List.length_cons];omega)))));refine ab ?_;refine ab ?_;(((refine o_ (Sl.bA ?hcq) ?_);(case hcq=>(first|omega|(simp only[List.length_nil,List.length_cons];omega)))));refine o_ ak ?_;refine ab ?_;refine ab ?_;(((refine o_ (Sl.bA ?hcq) ?_);(case hcq=>(first|omega|(simp only[List.length_nil,List.length_cons];omega)))));refine o_ ak ?_;refine af ?_;(((refine o_ (Sl.bA ?hcq) ?_);(case hcq=>(first|omega|(simp only[List.length_nil,List.length_cons];omega)))));refine af ?_
   refine' ah (indexByte (l:=[59,123,125]) (c:=c)) ?hp fun _=>?_
   case hp=>exact .nil
   refine am ?_
   (((refine o_ (Sl.iP ?hcq) ?_);(case hcq=>(first|omega|(simp only[List.length_nil,List.length_cons];omega)))));refine ai ?_;refine o_ bO ?_
   refine dS (n:=1) (vs:=[.agg #[.int .u8 (c.toNat:Int),ay [],.int .i64 (line:Int)]]) rfl (by decide) rfl (by intro v hv;rw[List.mem_singleton.1 hv];rfl) (by decide) fun gb=>?_
   refine bQ (m:=1) (news:=kJ ⟨c,[],line⟩) (by(repeat constructor):Pick _ (Sl 3 360 ra rc tk.length (tk.flatMap kJ)) _) (bL (s:=3) (e':=360) (by kernel_rfl) .here (by rfl) (by intro u hu;simp[Value.cells]at hu;rcases hu with rfl|rfl|rfl <;> rfl)) (by omega) (by omega) fun a' c'=>?_
   refine o_ hsl ?_
   refine cC r.length ?_ ?_
   ·simp
   refine .ex (r,tk++[⟨c,[],line⟩],line,(a',c')) (.all ?_)
   refine am ?_
   (try dsimp only)
   rw[List.length_append,List.flatMap_append]
   refine .pu ⟨rfl,rfl,rfl,rfl,⟨f',t3,h1,by simp⟩,⟨k+1,hr⟩,by simp;omega,by omega⟩ ?_
   exact .pick .here az
  ·have hw':=hw
   simp only[dL,Bool.and_eq_true,Bool.not_eq_true',List.contains_eq_mem,decide_eq_true_eq,decide_eq_false_iff_not]at hw'
   obtain⟨⟨w1,w2⟩,w3⟩:=hw'
   have w1:32<c.toNat:=by have:=UInt8.lt_iff_toNat_lt.1 w1;simpa using this
   have w2:c.toNat<127:=by have:=UInt8.lt_iff_toNat_lt.1 w2;simpa using this
   have hne:∀n:Nat,n<256->(UInt8.ofNat n)∈([59,123,125,35,34]:List UInt8)->¬(c.toNat:Int)=(n:Int):=fun n hn hmm e=>w3 (by
    have:c=UInt8.ofNat n:=UInt8.toNat_inj.1 (by rw[UInt8.toNat_ofNat'];omega)
    rw[this];exact hmm)
   have n35:=hne 35 (by decide) (by decide)
   have n34:=hne 34 (by decide) (by decide)
   have hix3:lB [59,123,125] c<0:=by
    have:c∉([59,123,125]:List UInt8):=fun hx=>w3 (by simp at hx ⊢;rcases hx with h|h|h <;> simp[h])
    have:=mt eO.1 this
    omega
   (((refine o_ (Sl.bA ?hcq) ?_);(case hcq=>(first|omega|(simp only[List.length_nil,List.length_cons];omega)))));refine af ?_;(((refine o_ (Sl.bA ?hcq) ?_);(case hcq=>(first|omega|(simp only[List.length_nil,List.length_cons];omega)))));refine ab ?_;refine ab ?_;(((refine o_ (Sl.bA ?hcq) ?_);(case hcq=>(first|omega|(simp only[List.length_nil,List.length_cons];omega)))));refine o_ ak ?_;refine ab ?_;refine ab ?_;(((refine o_ (Sl.bA ?hcq) ?_);(case hcq=>(first|omega|(simp only[List.length_nil,List.length_cons];omega)))));refine o_ ak ?_;refine af ?_;(((refine o_ (Sl.bA ?hcq) ?_);(case hcq=>(first|omega|(simp only[List.length_nil,List.length_cons];omega)))));refine af ?_
   refine' ah (indexByte (l:=[59,123,125]) (c:=c)) ?hp fun _=>?_
   case hp=>exact .nil
   refine am ?_
   (((refine o_ (Sl.eS ?hcq) ?_);(case hcq=>(first|omega|(simp only[List.length_nil,List.length_cons];omega)))));refine af ?_;(((refine o_ (Sl.bA ?hcq) ?_);(case hcq=>(first|omega|(simp only[List.length_nil,List.length_cons];omega)))));refine af ?_;(((refine o_ (Sl.tX ?hcq) ?_);(case hcq=>(first|omega|(simp only[List.length_nil,List.length_cons];omega)))));refine ab ?_;refine ab ?_;(((refine o_ (Sl.eS ?hcq) ?_);(case hcq=>(first|omega|(simp only[List.length_nil,List.length_cons];omega)))));refine o_ ak ?_;refine af ?_
   refine' ah (wb (l:=c::r) (f:=330) (p:=fun c=>!dL c) hsub (fun c hc A=>UE (hsub c hc))) ?hp fun _=>?_
   case hp=>exact .nil
   refine am ?_
   obtain⟨n,hn⟩:∃n,n=(c::r).findIdx (fun c=>!dL c):=⟨_,rfl⟩
   have hnl:n<=(c::r).length:=by rw[hn];exact List.findIdx_le_length
   have htk:(c::r).takeWhile dL=(c::r).take n:=by rw[hn,List.takeWhile_eq_take_findIdx_not]
   have hdr:(c::r).dropWhile dL=(c::r).drop n:=by rw[hn,List.dropWhile_eq_drop_findIdx_not]
   have hn0:0<n:=by
    rw[hn,List.findIdx_cons,hw];simp
   rw[hdr]at h1
   rw[htk]
   refine dK (fun x=>pu (x= .int .i64 (n:Int))::Sl 3 360 ra rc tk.length (tk.flatMap kJ)::F) ?_ ?_
   rotate_left
   ·cases hany:(c::r).any (fun c=>!dL c)with
    |true=>
     rw[if_pos rfl,<- hn]
     (((refine o_ (Sl.bF ?hcq) ?_);(case hcq=>(first|omega|(simp only[List.length_nil,List.length_cons];omega)))));refine af ?_
     exact aN (.pu rfl .refl)
    |false=>
     rw[if_neg (by simp)]
     have:n=(c::r).length:=by rw[hn];exact List.findIdx_eq_length.2 (fun x hx=>by have:=List.any_eq_false.1 hany x hx;simpa using this)
     rw[this]
     (((refine o_ (Sl.bY ?hcq) ?_);(case hcq=>(first|omega|(simp only[List.length_nil,List.length_cons];omega)))));refine ai ?_;refine o_ bu ?_
     exact aN (.pu rfl .refl)
   intro ds z
   refine aT .here fun hz=>?_
   subst hz
   refine o_ (ny n rfl hnl) ?_
   refine o_ bO ?_
   refine dS (n:=1) (vs:=[.agg #[.int .u8 0,ay ((c::r).take n),.int .i64 (line:Int)]]) rfl (by decide) rfl (by intro v hv;rw[List.mem_singleton.1 hv];rfl) (by decide) fun gb=>?_
   refine bQ (m:=1) (news:=kJ ⟨0,(c::r).take n,line⟩) (by(repeat constructor):Pick _ (Sl 3 360 ra rc tk.length (tk.flatMap kJ)) _) (bL (s:=3) (e':=360) (by kernel_rfl) .here (by rfl) (by intro u hu;simp[Value.cells]at hu;rcases hu with rfl|rfl|rfl <;> rfl)) (by omega) (by omega) fun a' c'=>?_
   refine o_ (jn n rfl hnl) ?_
   have hdl:((c::r).drop n).length=r.length+1-n:=by simp
   refine cC ((c::r).drop n).length ?_ ?_
   ·rw[hdl];simp;omega
   refine .ex ((c::r).drop n,tk++[⟨0,(c::r).take n,line⟩],line,(a',c')) (.all ?_)
   refine am ?_
   (try dsimp only)
   rw[List.length_append,List.flatMap_append]
   refine .pu ⟨rfl,rfl,rfl,rfl,⟨f',t3,h1,by simp⟩,⟨k+n,by rw[<- List.drop_drop,<- hk]⟩,by rw[hdl];simp;omega,by rw[hdl];omega⟩ ?_
   exact .pick .here az
def lC (g:Nat):Value:= .pointer (some ⟨g,0,none⟩)
def y6 (n:NdR)(w k:AC):List Value:=[.slice w.1 n.words.length w.2,.int .i64 (n.line:Int),.bool n.block,.slice k.1 n.kids.length k.2]
def GJ (gs:Nat->Nat)(n:NdR)(g:Nat):HP:=ex fun q:AC × AC=>all [pt g (.cells (y6 n q.1 q.2).toArray 269),Sl 1 9 q.1.1 q.1.2 n.words.length (n.words.map ay),Sl 1 270 q.2.1 q.2.2 n.kids.length (n.kids.map fun k=>lC (gs k))]
def y8 (gs:Nat->Nat)(s:TS):HP:=BS s.nodes.length (fun i=>GJ gs (s.nd i) (gs i))
theorem EU {W:World}{L L':List HP}{gs:Nat->Nat}{s:TS}{i:Nat}{S:WP}(q:Pick L (y8 gs s) L')(hi:i<s.nodes.length)(h:∀w k:AC,aJ W (pt (gs i) (.cells (y6 (s.nd i) w k).toArray 269)::Sl 1 9 w.1 w.2 (s.nd i).words.length ((s.nd i).words.map ay)::Sl 1 270 k.1 k.2 (s.nd i).kids.length ((s.nd i).kids.map fun k=>lC (gs k))::BH s.nodes.length (fun i=>GJ gs (s.nd i) (gs i)) i::L') S):aJ W L S:=
 fY q i hi (a8 .here fun x=>aB .here (h x.1 x.2))
theorem we {s:TS}{i j:Nat}{n:NdR}:(s.upd i n).nd j=if i=j/\j<s.nodes.length then n else s.nd j:=by
 unfold TS.upd TS.nd
 rw[List.getD_eq_getElem?_getD,List.getD_eq_getElem?_getD,List.getElem?_set]
 by_cases h:i=j
 ·subst h
  by_cases h2:i<s.nodes.length
  ·simp[h2]
  ·simp[h2]
 ·simp[h]
theorem xI {s:TS}{i:Nat}{n:NdR}:(s.upd i n).nodes.length=s.nodes.length:=by simp[TS.upd]
theorem EV {W:World}{L L1 L2 L3 L' M:List HP}{gs:Nat->Nat}{s:TS}{i:Nat}{n:NdR}{w k:AC}(hi:i<s.nodes.length)(q:Pick L (pt (gs i) (.cells (y6 n w k).toArray 269)) L1)(q1:Pick L1 (Sl 1 9 w.1 w.2 n.words.length (n.words.map ay)) L2)(q2:Pick L2 (Sl 1 270 k.1 k.2 n.kids.length (n.kids.map fun k=>lC (gs k))) L3)(q3:Pick L3 (BH s.nodes.length (fun i=>GJ gs (s.nd i) (gs i)) i) L')(h:Imp W L' M):Imp W L (y8 gs (s.upd i n)::M):=by
 unfold y8
 rw[xI]
 refine eb i hi (fun j hj hne=>by rw[we,if_neg (fun c=>hne c.1.symm)]) ?_
 rw[we,if_pos ⟨rfl,hi⟩]
 exact .ex (w,k) (.all (.pick q (.pick q1 (.pick q2 (.pick q3 h)))))
theorem B7 {W:World}{g:Nat}{cs:Array Value}:Cn p_ 224 ([.bool false]++[.pointer (some ⟨g,0,none⟩)]) W [pt g (.cells cs 360)] (fun _:Unit=> .tuple #[]) (fun _=>[pt g (.cells cs 360)]):=by
 (refine Shp.cn (Sg.g_ Tryz.call224 Tryz.func224) fun F=>?_;simp only[ca_,na_])
 refine af (aR () ?_)
 exact .refl
def I8 (gs:Nat->Nat):Option Nat->Value
 |none=> .pointer none
 |some k=>lC (gs k)
theorem EW {s:TS}(h:jG s=true):0<s.opn.length/\s.opn.length<=4/\s.nodes.length<=1000/\(∀k∈s.opn,k<s.nodes.length)/\(∀k,s.now=some k->k<s.nodes.length)/\(∀i,i<s.nodes.length->(s.nd i).words.length<=1000/\(s.nd i).kids.length<=1000/\∀k∈(s.nd i).kids,k<s.nodes.length):=by
 simp only[jG,Bool.and_eq_true,decide_eq_true_eq,List.all_eq_true]at h
 obtain⟨⟨⟨⟨h1,h2,h3⟩,h4⟩,h5⟩,h6⟩:=h
 refine⟨h1,h2,h3,h4,fun k hk=>by rw[hk]at h5;simpa using h5,fun i hi=>?_⟩
 have:=h6 (s.nd i) (by unfold TS.nd;rw[List.getD_eq_getElem?_getD,List.getElem?_eq_getElem hi];exact List.getElem_mem hi)
 exact⟨this.1.1,this.1.2,this.2⟩
theorem xJ {s:TS}(h:0<s.opn.length):s.opn[s.opn.length-1]? =some s.top:=by
 unfold TS.top
 rw[List.getLast?_eq_getElem?,List.getElem?_eq_getElem (by omega)]
 rfl
theorem EX {W:World}{L:List HP}{gs:Nat->Nat}{s:TS}{n:NdR}{g:Nat}(h:∀i,i<s.nodes.length->∀k∈(s.nd i).kids,k<s.nodes.length)(hn:∀k∈n.kids,k<s.nodes.length):Imp W (y8 gs s::GJ gs n g::L) (y8 (fun i=>if i=s.nodes.length then g else gs i) {s with nodes:=s.nodes++[n]}::L):=by
 have hk:∀(m:NdR),(∀k∈m.kids,k<s.nodes.length)->(m.kids.map fun k=>lC (if k=s.nodes.length then g else gs k))=m.kids.map fun k=>lC (gs k):=fun m hm=>List.map_congr_left fun k hk=>by rw[if_neg (by have:=hm k hk;omega)]
 unfold y8
 simp only[List.length_append,List.length_cons,List.length_nil,Nat.zero_add]
 refine lK (F:=fun i=>GJ gs (s.nd i) (gs i)) (fun j hj=>?_) ?_
 ·have e:TS.nd {s with nodes:=s.nodes++[n]} j=s.nd j:=by
   unfold TS.nd
   rw[List.getD_eq_getElem?_getD,List.getD_eq_getElem?_getD,List.getElem?_append_left hj]
  rw[e,if_neg (by omega)]
  unfold GJ
  rw[hk _ (h j hj)]
 ·have e:TS.nd {s with nodes:=s.nodes++[n]} s.nodes.length=n:=by
   unfold TS.nd
   rw[List.getD_eq_getElem?_getD];simp
  rw[e,if_pos rfl]
  unfold GJ
  rw[hk _ hn]
  exact .refl
def dV (inn:List UInt8)(least most:Int)(blk many:Bool)(f:Value):Value:= .agg #[ay inn,.int .i64 least,.int .i64 most,.bool blk,.bool many,f]
def j7 (b:Nat):Value:= .func (.func 327) #[] #[.pointer (some ⟨b,0,none⟩)]
theorem uF {W:World}{f:FuncId}:Cn p_ 215 [.func (.func f) #[] #[]] W [] j7 (fun b=>[pt b (.cells #[.func (.func f) #[] #[]] 355)]):=by
 (refine Shp.cn (Sg.g_ Tryz.call215 Tryz.func215) fun F=>?_;simp only[ca_,na_])
 refine b_ fun g=>?_;refine o_ bC (aR g ?_)
 exact .refl
def m9:List UInt8:=[108,111,99,97,116,105,111,110]
theorem uG {W:World}{b g:Nat}{nm:List UInt8}{least most:Int}{fv:Value}[hfv:OC fv]{f:List UInt8->Option Value}:Cn p_ 211 ([ay nm,.int .i64 least,.int .i64 most,fv]++[.pointer (some ⟨b,0,none⟩)]) W [pt b (.cells #[.map (some g)] 265),bH g ay f] (fun _:Unit=> .tuple #[]) (fun _=>[pt b (.cells #[.map (some g)] 265),bH g ay (dE f nm (some (dV m9 least most false false fv)))]):=by
 (refine Shp.cn (Sg.g_ Tryz.call211 Tryz.func211) fun F=>?_;simp only[ca_,na_])
 refine aH ?_;refine o_ bO ?_
 refine di (eX Tryz.underlying9) (by repeat constructor) ?_
 refine aR () ?_
 exact az
theorem ek {W:World}{L:List HP}{A B:WP}(h1:aJ W L A)(h2:aJ W L B):aJ W L (zH A B):=fun w hw=>⟨h1 w hw,h2 w hw⟩
structure Bs where
 st:Int
 up:Option (Int × Int)
 prs:List (Int × Int)
 sv:Bool
 lcs:List (List Value)
def SV (p:Int × Int):List Value:=[.int .i64 p.1,.int .i64 p.2]
def nU:Option (Int × Int)->Nat
 |none=>0
 |some _=>1
def EY (up:Option (Int × Int))(n:Nat)(ap:AC):List Value:=match up with
 |none=>[]
 |some x=>[ay oJ,.slice ap.1 n ap.2,.int .i64 x.1,.int .i64 x.2]
def B8 (sv:Bool)(n:Nat)(al:AC):List Value:=if sv then [.slice none 0 0,.bool false,.slice al.1 n al.2]else []
def nS (sv:Bool):Nat:=if sv then 1 else 0
def kK (s:Bs)(ln:Int)(au asv:AC):List Value:=[.int .i64 75,.int .i64 65536,.int .i64 s.st,.int .i64 1000,.slice au.1 (nU s.up) au.2,.slice asv.1 (nS s.sv) asv.2,.int .i64 ln]
def mn (b:Nat)(s:Bs)(ln:Int)(q:Ca):List HP:=[pt b (.cells (kK s ln q.u q.s).toArray 263),Sl 4 145 q.u.1 q.u.2 (nU s.up) (EY s.up s.prs.length q.p),Sl 2 315 q.p.1 q.p.2 s.prs.length (s.prs.flatMap SV),Sl 3 200 q.s.1 q.s.2 (nS s.sv) (B8 s.sv s.lcs.length q.l),Sl 12 101 q.l.1 q.l.2 s.lcs.length s.lcs.flatten]
def dp (b:Nat)(s:Bs)(ln:Int):HP:=ex fun q:Ca=>all (mn b s ln q)
theorem nV {W:World}{L L':List HP}{b:Nat}{s:Bs}{ln:Int}{S:WP}(p:Pick L (dp b s ln) L')(h:∀q:Ca,aJ W (mn b s ln q++L') S):aJ W L S:=a8 p fun q=>aB .here (h q)
theorem kA {W:World}[hG:Gl W]{b:Nat}{w:List UInt8}{n:Int}(hw:w.length<=65536)(h:dh w=(n,0)):Cn p_ 221 [.pointer (some ⟨b,0,none⟩),ay w] W [] (fun _:Unit=> .int .i64 n) (fun _=>[]):=by
 (refine Shp.cn (Sg.g_ Tryz.call221 Tryz.func221) fun F=>?_;simp only[ca_,na_])
 refine c_ (lS (l:=w) (by omega)) fun _=>?_
 rw[h]
 refine bE ?_;refine bE ?_;(((refine o_ (Sl.cq ?hcq) ?_);(case hcq=>(first|omega|(simp only[List.length_nil,List.length_cons];omega)))));refine af (aR () ?_)
 exact az
theorem I9 {W:World}{b:Nat}{s:Bs}{ln:Int}{q:Ca}{g c:Nat}{x:Int × Int}(hu:s.up=some x)(hq:q.u=(some ⟨g,0,none⟩,c)):Cn p_ 319 [.pointer (some ⟨b,0,none⟩)] W [pt b (.cells (kK s ln q.u q.s).toArray 263)] (fun _:Unit=> .pointer (some ⟨g,0,none⟩)) (fun _=>[pt b (.cells (kK s ln q.u q.s).toArray 263)]):=by
 (refine Shp.cn (Sg.g_ Tryz.call319 Tryz.func319 (an:={drs:=[(1,.ofL [(0,1),(1,1),(2,1),(3,1),(4,1),(5,1),(6,1),(7,1),(8,1),(9,1),(10,1),(11,1),(12,1),(13,1)])]})) fun F=>?_;simp only[ca_,na_])
 unfold kK
 rw[hq,hu,show nU (some x)=1 from rfl]
 refine aW (t_ ag (t_ ae (t_ ae (cm ?_))));refine t_ ag (t_ ae (t_ ae (cm ?_)));refine t_ aI ?_;(refine t_ (hO (by omega) (by omega)) ?_)
 refine t_ (dR 0 rfl (by decide)) ?_
 rw[Nat.zero_mul,Nat.add_zero]
 refine aR () ?_
 exact az
theorem kB {W:World}{b:Nat}{s:Bs}{ln:Int}{q:Ca}{g c:Nat}(hu:s.sv=true)(hq:q.s=(some ⟨g,0,none⟩,c)):Cn p_ 324 [.pointer (some ⟨b,0,none⟩)] W [pt b (.cells (kK s ln q.u q.s).toArray 263)] (fun _:Unit=> .pointer (some ⟨g,0,none⟩)) (fun _=>[pt b (.cells (kK s ln q.u q.s).toArray 263)]):=by
 (refine Shp.cn (Sg.g_ Tryz.call324 Tryz.func324 (an:={drs:=[(1,.ofL [(0,1),(1,1),(2,1),(3,1),(4,1),(5,1),(6,1),(7,1),(8,1),(9,1),(10,1),(11,1),(12,1),(13,1)])]})) fun F=>?_;simp only[ca_,na_])
 unfold kK
 rw[hq,hu,show nS true=1 from rfl]
 refine aW (t_ ag (t_ ae (t_ ae (cm ?_))));refine t_ ag (t_ ae (t_ ae (cm ?_)));refine t_ aI ?_;(refine t_ (hO (by omega) (by omega)) ?_)
 refine t_ (dR 0 rfl (by decide)) ?_
 rw[Nat.zero_mul,Nat.add_zero]
 refine aR () ?_
 exact az
theorem y9 {W:World}{b:Nat}{s:Bs}{ln:Int}{q:Ca}{g c gl cl:Nat}(hu:s.sv=true)(hq:q.s=(some ⟨g,0,none⟩,c))(hl:q.l=(some ⟨gl,0,none⟩,cl))(h0:0<s.lcs.length)(h1:s.lcs.length<=32):Cn p_ 213 [.pointer (some ⟨b,0,none⟩)] W [pt b (.cells (kK s ln q.u q.s).toArray 263),Sl 3 200 q.s.1 q.s.2 (nS s.sv) (B8 s.sv s.lcs.length q.l)] (fun _:Unit=> .pointer (some ⟨gl,(s.lcs.length-1) * 12,none⟩)) (fun _=>[pt b (.cells (kK s ln q.u q.s).toArray 263),Sl 3 200 q.s.1 q.s.2 (nS s.sv) (B8 s.sv s.lcs.length q.l)]):=by
 (refine Shp.cn (Sg.g_ Tryz.call213 Tryz.func213 (an:={drs:=[(2,.ofL [(0,1),(1,1),(2,1),(3,1),(4,1),(5,1),(6,1),(7,1),(8,1),(9,1),(10,1),(11,1)])]})) fun F=>?_;simp only[ca_,na_])
 refine' ah (kB (b:=b) (s:=s) (ln:=ln) (q:=q) hu hq) ?hp fun _=>?_
 case hp=>exact .cons (by repeat constructor) .nil
 refine am ?_
 rw[hq,hu,show nS true=1 from rfl,show B8 true s.lcs.length q.l=[.slice none 0 0,.bool false,.slice q.l.1 s.lcs.length q.l.2]from rfl,hl]
 (try dsimp only)
 refine aW (t_ ag (t_ ae ?_));(((refine' be (bw ?hc) ?hi ?_);(case hi=>exact az);(case hc=>rfl)));refine t_ ag (t_ ae ?_);(((refine' be (bw ?hc) ?hi ?_);(case hi=>exact az);(case hc=>rfl)));refine t_ aI ?_;(refine t_ (hO (by omega) (by omega)) ?_)
 refine t_ (dR (s.lcs.length-1) (by omega) (by omega)) ?_
 rw[Nat.zero_add]
 refine aR () ?_
 exact az
variable {W:World} {b n c:Nat} {s:Bs} {ln:Int} {a:Option Addr} {A:HP}
theorem qw {ws:List (List UInt8)}{j:Nat}(h:j<ws.length):(ws.map ay)[j]? =some (ay ws[j]):=by simp[h]
def y_ (f:FuncId)(x:Nat):HP:=pt x (.cells #[fn f] 355)
theorem I_ [hG:Gl W]{x:Nat}{w:List UInt8}{v:Int}(hA:RdB W A a 1 ([w].map ay))(hw:w.length<=65536)(hv:dh w=(v,0)):Cn p_ 327 ([.pointer (some ⟨b,0,none⟩),.slice a 1 c]++[.pointer (some ⟨x,0,none⟩)]) W [dp b s ln,A,y_ 315 x] (fun _:Unit=> .tuple #[]) (fun _=>[dp b {s with st:=v} ln,A,y_ 315 x]):=by
 obtain⟨ga,oa,rfl,_⟩:=hA.at_ (by omega)
 have hto:Cn p_ 315 [.pointer (some ⟨b,0,none⟩)] W [] (fun _:Unit=> .pointer (some ⟨b,2,none⟩)) (fun _=>[]):=by
  (refine Shp.cn (Sg.g_ Tryz.call315 Tryz.func315) fun F=>?_;simp only[ca_,na_])
  refine o_ ag (o_ ae (o_ ae (aR () ?_)))
  exact .refl
 (refine Shp.cn (Sg.g_ Tryz.call327 Tryz.func327 (an:={drs:=[(0,.ofL [(0,1),(1,1),(3,2),(4,2),(5,3),(6,3),(2,0),(7,0),(8,1),(9,0)])]}) (os:=[(0,[(2,[6,5])])])) fun F=>?_;simp only[ca_,na_])
 unfold y_
 refine aW (cm ?_);(((refine' aq (bq 0 rfl ?hcq) .nil ?_);(case hcq=>(first|omega|decide|(simp;done)))))
 refine aq (dv (j:=0) hA (qw (ws:=[w]) (j:=0) (by simp))) az ?_
 refine' ah hto ?hp fun _=>?_
 case hp=>exact .nil
 refine am ?_
 refine bj ?_;refine bj ?_
 refine' ah (kA (b:=b) hw hv) ?hp fun _=>?_
 case hp=>exact .nil
 refine am ?_
 refine nV (by repeat constructor) fun q=>?_
 unfold mn kK
 refine am ?_
 refine t_ ag (bR ?_)
 refine aR () ?_
 refine .ex q (.all ?_)
 unfold mn kK
 refine am ?_
 exact az
theorem B9 [hG:Gl W]{x:Nat}{w:List UInt8}{v:Int}{u:Int × Int}(hu:s.up=some u)(hA:RdB W A a 1 ([w].map ay))(hw:w.length<=65536)(hv:dh w=(v,0)):Cn p_ 327 ([.pointer (some ⟨b,0,none⟩),.slice a 1 c]++[.pointer (some ⟨x,0,none⟩)]) W [dp b s ln,A,y_ 320 x] (fun _:Unit=> .tuple #[]) (fun _=>[dp b {s with up:=some (v,u.2)} ln,A,y_ 320 x]):=by
 obtain⟨ga,oa,rfl,_⟩:=hA.at_ (by omega)
 (refine Shp.cn (Sg.g_ Tryz.call327 Tryz.func327 (an:={drs:=[(0,.ofL [(0,1),(1,1),(3,2),(4,2),(5,3),(6,3),(2,0),(7,0),(8,1),(9,0)])]}) (os:=[(0,[(2,[6,5])])])) fun F=>?_;simp only[ca_,na_])
 unfold y_
 refine aW (cm ?_);(((refine' aq (bq 0 rfl ?hcq) .nil ?_);(case hcq=>(first|omega|decide|(simp;done)))))
 refine nV (by repeat constructor) fun q=>?_
 unfold mn
 rw[hu]
 refine a9 (by(repeat constructor):Pick _ (Sl 4 145 q.u.1 q.u.2 _ _) _) (Nat.zero_lt_one) fun g hg=>?_
 obtain⟨⟨u1,u2⟩,qp,qs,ql⟩:=q
 (try dsimp only at hg)
 subst hg
 have hto:Cn p_ 320 [.pointer (some ⟨b,0,none⟩)] W [pt b (.cells (kK s ln (some ⟨g,0,none⟩,u2) qs).toArray 263)] (fun _:Unit=> .pointer (some ⟨g,2,none⟩)) (fun _=>[pt b (.cells (kK s ln (some ⟨g,0,none⟩,u2) qs).toArray 263)]):=by
  (refine Shp.cn (Sg.g_ Tryz.call320 Tryz.func320) fun F=>?_;simp only[ca_,na_])
  refine' ah (I9 (b:=b) (s:=s) (ln:=ln) (q:=⟨(some ⟨g,0,none⟩,u2),qp,qs,ql⟩) hu rfl) ?hp fun _=>?_
  case hp=>exact .cons (by repeat constructor) .nil
  refine am ?_
  refine o_ ag (o_ ae (aR () ?_))
  exact az
 refine am ?_
 refine aq (dv (j:=0) hA (qw (ws:=[w]) (j:=0) (by simp))) az ?_
 refine' ah hto ?hp fun _=>?_
 case hp=>exact .cons (by repeat constructor) .nil
 refine am ?_
 refine bj ?_;refine bj ?_
 refine' ah (kA (b:=b) hw hv) ?hp fun _=>?_
 case hp=>exact .nil
 refine am ?_
 refine t_ ag ?_
 rw[show EY (some u) s.prs.length qp=[ay oJ,.slice qp.1 s.prs.length qp.2,.int .i64 u.1,.int .i64 u.2]from rfl]
 refine d7 (by(repeat constructor):Pick _ (Sl 4 145 (some ⟨g,0,none⟩) u2 _ _) _) (by simp) ?_
 refine aR () ?_
 refine .ex ⟨(some ⟨g,0,none⟩,u2),qp,qs,ql⟩ (.all ?_)
 unfold mn kK
 rw[hu]
 refine am ?_
 refine .pick (by repeat constructor) (.pick .here ?_)
 exact az
theorem B_ [hG:Gl W]{x:Nat}{w:List UInt8}{v:Int}{u:Int × Int}(hu:s.up=some u)(hA:RdB W A a 1 ([w].map ay))(hw:w.length<=65536)(hv:dh w=(v,0)):Cn p_ 327 ([.pointer (some ⟨b,0,none⟩),.slice a 1 c]++[.pointer (some ⟨x,0,none⟩)]) W [dp b s ln,A,y_ 321 x] (fun _:Unit=> .tuple #[]) (fun _=>[dp b {s with up:=some (u.1,v)} ln,A,y_ 321 x]):=by
 obtain⟨ga,oa,rfl,_⟩:=hA.at_ (by omega)
 (refine Shp.cn (Sg.g_ Tryz.call327 Tryz.func327 (an:={drs:=[(0,.ofL [(0,1),(1,1),(3,2),(4,2),(5,3),(6,3),(2,0),(7,0),(8,1),(9,0)])]}) (os:=[(0,[(2,[6,5])])])) fun F=>?_;simp only[ca_,na_])
 unfold y_
 refine aW (cm ?_);(((refine' aq (bq 0 rfl ?hcq) .nil ?_);(case hcq=>(first|omega|decide|(simp;done)))))
 refine nV (by repeat constructor) fun q=>?_
 unfold mn
 rw[hu]
 refine a9 (by(repeat constructor):Pick _ (Sl 4 145 q.u.1 q.u.2 _ _) _) (Nat.zero_lt_one) fun g hg=>?_
 obtain⟨⟨u1,u2⟩,qp,qs,ql⟩:=q
 (try dsimp only at hg)
 subst hg
 have hto:Cn p_ 321 [.pointer (some ⟨b,0,none⟩)] W [pt b (.cells (kK s ln (some ⟨g,0,none⟩,u2) qs).toArray 263)] (fun _:Unit=> .pointer (some ⟨g,3,none⟩)) (fun _=>[pt b (.cells (kK s ln (some ⟨g,0,none⟩,u2) qs).toArray 263)]):=by
  (refine Shp.cn (Sg.g_ Tryz.call321 Tryz.func321) fun F=>?_;simp only[ca_,na_])
  refine' ah (I9 (b:=b) (s:=s) (ln:=ln) (q:=⟨(some ⟨g,0,none⟩,u2),qp,qs,ql⟩) hu rfl) ?hp fun _=>?_
  case hp=>exact .cons (by repeat constructor) .nil
  refine am ?_
  refine o_ ag (o_ ae (aR () ?_))
  exact az
 refine am ?_
 refine aq (dv (j:=0) hA (qw (ws:=[w]) (j:=0) (by simp))) az ?_
 refine' ah hto ?hp fun _=>?_
 case hp=>exact .cons (by repeat constructor) .nil
 refine am ?_
 refine bj ?_;refine bj ?_
 refine' ah (kA (b:=b) hw hv) ?hp fun _=>?_
 case hp=>exact .nil
 refine am ?_
 refine t_ ag ?_
 rw[show EY (some u) s.prs.length qp=[ay oJ,.slice qp.1 s.prs.length qp.2,.int .i64 u.1,.int .i64 u.2]from rfl]
 refine d7 (by(repeat constructor):Pick _ (Sl 4 145 (some ⟨g,0,none⟩) u2 _ _) _) (by simp) ?_
 refine aR () ?_
 refine .ex ⟨(some ⟨g,0,none⟩,u2),qp,qs,ql⟩ (.all ?_)
 unfold mn kK
 rw[hu]
 refine am ?_
 refine .pick (by repeat constructor) (.pick .here ?_)
 exact az
end Go.Proofs.YtdjkdjepjahjfaaGreatDoor.TP
namespace Go.Proofs.YtdjkdjepjahjfaaGreatDoor.TP
open Go Go.Proofs Go.RowKit Sh Sl T FD
variable {W:World} {b n c:Nat} {s:Bs} {ln:Int} {a:Option Addr} {A:HP}
theorem za (hu:s.up=none)(hp:s.prs=[])(hA:RdB W A a 1 ([oJ].map ay)):Cn p_ 317 [.pointer (some ⟨b,0,none⟩),.slice a 1 c] W [dp b s ln,A] (fun _:Unit=> .tuple #[]) (fun _=>[dp b {s with up:=some (10,1)} ln,A]):=by
 obtain⟨ga,oa,rfl,_⟩:=hA.at_ (by omega)
 (refine Shp.cn (Sg.g_ Tryz.call317 Tryz.func317 (an:={drs:=[(0,.ofL [(0,2),(1,2),(2,3),(3,3),(4,3),(5,3),(6,1),(7,1),(8,1),(9,1),(10,0),(11,0),(12,1),(13,1),(14,1),(15,0)])]}) (os:=[(0,[(10,[5,4,3,2])])])) fun F=>?_;simp only[ca_,na_])
 refine nV (by repeat constructor) fun q=>?_
 unfold mn kK
 rw[hu,hp]
 refine am ?_
 refine aW (aq ag .nil ?_);refine aq ae .nil ?_;refine aq ae .nil ?_;(((refine' aq (aS ?hc) ?hi ?_);(case hi=>exact .pick (by repeat constructor) .nil);(case hc=>repeat constructor)));(((refine' be (bq 0 rfl ?hcq) .nil ?_);(case hcq=>(first|omega|decide|(simp;done)))))
 refine be (dv (j:=0) hA (qw (ws:=[oJ]) (j:=0) (by simp))) az ?_
 refine t_ bO ?_
 refine dS (n:=1) (vs:=[.agg #[ay oJ,.slice none 0 0,.int .i64 10,.int .i64 1]]) rfl (by decide) rfl (by intro v hv;rw[List.mem_singleton.1 hv];rfl) (by decide) fun gb=>?_
 refine bj ?_;refine bj ?_;refine bj ?_;refine bj ?_
 refine bQ (m:=1) (news:=[ay oJ,.slice none 0 0,.int .i64 10,.int .i64 1]) (by(repeat constructor):Pick _ (Sl 4 145 q.u.1 q.u.2 _ _) _) (bL (s:=4) (e':=145) (by kernel_rfl) .here (by rfl) (by intro u hu;simp[Value.cells]at hu;rcases hu with rfl|rfl|rfl|rfl <;> rfl)) (by decide) (by decide) fun a' c'=>?_
 refine t_ ag (t_ ae (t_ ae (bR ?_)))
 refine aR () ?_
 refine .ex ⟨(a',c'),(none,0),q.s,q.l⟩ (.all ?_)
 unfold mn kK
 refine am ?_
 refine .pick (by repeat constructor) (.pick .here (bJ ?_))
 exact az
theorem EZ (hs:s.sv=false)(hl:s.lcs=[]){v:Value}:Cn p_ 322 [.pointer (some ⟨b,0,none⟩),v] W [dp b s ln] (fun _:Unit=> .tuple #[]) (fun _=>[dp b {s with sv:=true} ln]):=by
 (refine Shp.cn (Sg.g_ Tryz.call322 Tryz.func322) fun F=>?_;simp only[ca_,na_])
 refine nV (by repeat constructor) fun q=>?_
 unfold mn kK
 rw[hs,hl]
 refine am ?_
 refine o_ ag (o_ ae (o_ ae (aH ?_)));refine o_ bO ?_
 refine dS (n:=1) (vs:=[.agg #[.slice none 0 0,.bool false,.slice none 0 0]]) rfl (by decide) rfl (by intro v hv;rw[List.mem_singleton.1 hv];rfl) (by decide) fun gb=>?_
 refine bQ (m:=1) (news:=[.slice none 0 0,.bool false,.slice none 0 0]) (by(repeat constructor):Pick _ (Sl 3 200 q.s.1 q.s.2 _ _) _) (bL (s:=3) (e':=200) (by kernel_rfl) .here (by rfl) (by intro u hu;simp[Value.cells]at hu;rcases hu with rfl|rfl|rfl <;> rfl)) (by decide) (by decide) fun a' c'=>?_
 refine o_ ag (o_ ae (o_ ae (bR ?_)))
 refine aR () ?_
 refine .ex ⟨q.u,q.p,(a',c'),(none,0)⟩ (.all ?_)
 unfold mn kK
 refine am ?_
 refine .pick (by repeat constructor) (.pick (by repeat constructor) (.pick (by repeat constructor) (.pick .here (bJ ?_))))
 exact az
def fq (w:List UInt8):List Value:=[ay w,.int .i64 0,ay [],ay [],.int .i64 0,.int .i64 0,ay [],.bool false,.int .i64 0,.int .i64 0,.int .i64 0,ay []]
theorem Qa [hG:Gl W]{w1 w2:List UInt8}{v1 v2:Int}{u:Int × Int}(hu:s.up=some u)(hp:s.prs.length<=16)(hA:RdB W A a 2 ([w1,w2].map ay))(hw1:w1.length<=65536)(hv1:dh w1=(v1,0))(hw2:w2.length<=65536)(hv2:dh w2=(v2,0)):Cn p_ 318 [.pointer (some ⟨b,0,none⟩),.slice a 2 c] W [dp b s ln,A] (fun _:Unit=> .tuple #[]) (fun _=>[dp b {s with prs:=s.prs++[(v1,v2)]} ln,A]):=by
 obtain⟨ga,oa,rfl,_⟩:=hA.at_ (by omega)
 (refine Shp.cn (Sg.g_ Tryz.call318 Tryz.func318 (an:={cuts:=[(3,[])],drs:=[(3,(.op 0 2 (.op 2 2 (.op 7 3 (.alt ((.op 1 0 (.alt (.ofL [(3,0),(4,3),(5,3),(6,3),(8,0),(9,0),(10,1),(11,1),(12,0)]) (.ofL [(8,0),(3,0),(4,1),(5,1),(6,1),(9,0),(10,1),(11,1),(12,0)])))) (.ofL [(8,0),(1,0),(3,0),(4,1),(5,1),(6,1),(9,0),(10,1),(11,1),(12,0)]))))))]}) (os:=[(3,[(1,[7]),(3,[7]),(8,[6,5,4])])])) fun F=>?_;simp only[ca_,na_])
 refine nV (by repeat constructor) fun q=>?_
 unfold mn
 rw[hu]
 refine a9 (by(repeat constructor):Pick _ (Sl 4 145 q.u.1 q.u.2 _ _) _) (Nat.zero_lt_one) fun g0 hg=>?_
 obtain⟨⟨u1,u2⟩,qp,qs,ql⟩:=q
 (try dsimp only at hg)
 subst hg
 refine am ?_
 (try dsimp only)
 rw[show EY (some u) s.prs.length qp=[ay oJ,.slice qp.1 s.prs.length qp.2,.int .i64 u.1,.int .i64 u.2]from rfl,show nU (some u)=1 from rfl]
 (((refine' aE (bq 0 rfl ?hcq) .nil ?_);(case hcq=>(first|omega|decide|(simp;done)))))
 refine aE (dv (j:=0) hA (qw (ws:=[w1,w2]) (j:=0) (by simp))) az ?_
 refine' ah (kA (b:=b) hw1 hv1) ?hp fun _=>?_
 case hp=>exact .nil
 refine am ?_
 refine o_ bO ?_;refine aU fun g=>?_;(((refine' aK ?hp ?hn ?hv ?h1 ?_);(case hp=>(repeat constructor));(case hn=>rfl);(case hv=>rfl);(case h1=>simp[Value.oneCell',ay])))
 refine dP ?_
 refine o_ aI ?_;(((refine o_ (Sl.ce ?hcq) ?_);(case hcq=>(first|omega|(simp only[List.length_nil,List.length_cons];omega)))));refine ai ?_;(((refine' aE (bq 1 rfl ?hcq) .nil ?_);(case hcq=>(first|omega|decide|(simp;done)))))
 refine aE (dv (j:=1) hA (qw (ws:=[w1,w2]) (j:=1) (by simp))) az ?_
 refine' ah (kA (b:=b) hw2 hv2) ?hp fun _=>?_
 case hp=>exact .nil
 refine am ?_
 refine o_ ae (bR ?_)
 refine gZ fun ds=>?_
 refine aW ?_;(((refine' aq (bN ?hn) ?hi ?_);(case hi=>exact .pick (by repeat constructor) .nil);(case hn=>rfl)))
 refine ek ?_ ?_
 ·refine' ah (I9 (b:=b) (s:=s) (ln:=ln) (q:=⟨(some ⟨g0,0,none⟩,u2),qp,qs,ql⟩) hu rfl) ?hp fun _=>?_
  case hp=>exact .cons (by repeat constructor) .nil
  refine am ?_
  refine bj ?_
  refine ek ?_ ?_
  ·refine' ah (I9 (b:=b) (s:=s) (ln:=ln) (q:=⟨(some ⟨g0,0,none⟩,u2),qp,qs,ql⟩) hu rfl) ?hp fun _=>?_
   case hp=>exact .cons (by repeat constructor) .nil
   refine am ?_
   refine bj ?_;refine aq ag .nil ?_;refine aq ae .nil ?_;(((refine' aq (bw ?hc) ?hi ?_);(case hi=>exact az);(case hc=>rfl)))
   refine dS (n:=1) (vs:=[.agg #[.int .i64 v1,.int .i64 v2]]) rfl (by decide) rfl (by intro v hv;rw[List.mem_singleton.1 hv];rfl) (by decide) fun gb=>?_
   refine bj ?_;refine bj ?_;refine bj ?_
   refine bQ (m:=1) (news:=SV (v1,v2)) (by(repeat constructor):Pick _ (Sl 2 315 qp.1 qp.2 _ _) _) (bL (s:=2) (e':=315) (by kernel_rfl) (by(repeat constructor):Pick _ (pt gb _) _) (by rfl) (by intro u hu;simp[Value.cells]at hu;rcases hu with rfl|rfl <;> rfl)) (by omega) (by omega) fun a' c'=>?_
   refine t_ ag (t_ ae (d7 (by(repeat constructor):Pick _ (Sl 4 145 (some ⟨g0,0,none⟩) u2 _ _) _) (by simp) ?_))
   refine aR () ?_
   refine .ex ⟨(some ⟨g0,0,none⟩,u2),(a',c'),qs,ql⟩ (.all ?_)
   unfold mn kK
   rw[hu]
   refine am ?_
   rw[List.length_append,List.flatMap_append]
   refine .pick (by repeat constructor) (.pick .here (.pick (by repeat constructor) ?_))
   exact az
  ·refine dS (n:=1) (vs:=[.agg #[.int .i64 v1,.int .i64 v2]]) rfl (by decide) rfl (by intro v hv;rw[List.mem_singleton.1 hv];rfl) (by decide) fun gb=>?_
   refine' ah (I9 (b:=b) (s:=s) (ln:=ln) (q:=⟨(some ⟨g0,0,none⟩,u2),qp,qs,ql⟩) hu rfl) ?hp fun _=>?_
   case hp=>exact .cons (by repeat constructor) .nil
   refine am ?_
   refine bj ?_;refine t_ ag (t_ ae ?_);(((refine' be (bw ?hc) ?hi ?_);(case hi=>exact az);(case hc=>rfl)))
   refine bQ (m:=1) (news:=SV (v1,v2)) (by(repeat constructor):Pick _ (Sl 2 315 qp.1 qp.2 _ _) _) (bL (s:=2) (e':=315) (by kernel_rfl) (by(repeat constructor):Pick _ (pt gb _) _) (by rfl) (by intro u hu;simp[Value.cells]at hu;rcases hu with rfl|rfl <;> rfl)) (by omega) (by omega) fun a' c'=>?_
   refine t_ ag (t_ ae (d7 (by(repeat constructor):Pick _ (Sl 4 145 (some ⟨g0,0,none⟩) u2 _ _) _) (by simp) ?_))
   refine aR () ?_
   refine .ex ⟨(some ⟨g0,0,none⟩,u2),(a',c'),qs,ql⟩ (.all ?_)
   unfold mn kK
   rw[hu]
   refine am ?_
   rw[List.length_append,List.flatMap_append]
   refine .pick (by repeat constructor) (.pick .here (.pick (by repeat constructor) ?_))
   exact az
 ·refine dS (n:=1) (vs:=[.agg #[.int .i64 v1,.int .i64 v2]]) rfl (by decide) rfl (by intro v hv;rw[List.mem_singleton.1 hv];rfl) (by decide) fun gb=>?_
  refine' ah (I9 (b:=b) (s:=s) (ln:=ln) (q:=⟨(some ⟨g0,0,none⟩,u2),qp,qs,ql⟩) hu rfl) ?hp fun _=>?_
  case hp=>exact .cons (by repeat constructor) .nil
  refine am ?_
  refine bj ?_
  refine' ah (I9 (b:=b) (s:=s) (ln:=ln) (q:=⟨(some ⟨g0,0,none⟩,u2),qp,qs,ql⟩) hu rfl) ?hp fun _=>?_
  case hp=>exact .cons (by repeat constructor) .nil
  refine am ?_
  refine bj ?_;refine t_ ag (t_ ae ?_);(((refine' be (bw ?hc) ?hi ?_);(case hi=>exact az);(case hc=>rfl)))
  refine bQ (m:=1) (news:=SV (v1,v2)) (by(repeat constructor):Pick _ (Sl 2 315 qp.1 qp.2 _ _) _) (bL (s:=2) (e':=315) (by kernel_rfl) (by(repeat constructor):Pick _ (pt gb _) _) (by rfl) (by intro u hu;simp[Value.cells]at hu;rcases hu with rfl|rfl <;> rfl)) (by omega) (by omega) fun a' c'=>?_
  refine t_ ag (t_ ae (d7 (by(repeat constructor):Pick _ (Sl 4 145 (some ⟨g0,0,none⟩) u2 _ _) _) (by simp) ?_))
  refine aR () ?_
  refine .ex ⟨(some ⟨g0,0,none⟩,u2),(a',c'),qs,ql⟩ (.all ?_)
  unfold mn kK
  rw[hu]
  refine am ?_
  rw[List.length_append,List.flatMap_append]
  refine .pick (by repeat constructor) (.pick .here (.pick (by repeat constructor) ?_))
  exact az
end Go.Proofs.YtdjkdjepjahjfaaGreatDoor.TP
