/- May it be stored, for how long is it fresh, how old is it. The library's own error and its table can be read ('Gl'). Heads of at most 1048576 bytes. (25 texts made one; each says below what it is.) -/
import Derived.Test.YtdjkdjepjahjfaaGreatDoorK4
import Derived.Lib.SliceRun
import Derived.LaidEqlPtr
import Derived.Laws.StructEq
set_option linter.unusedVariables false
set_option linter.unusedSimpArgs false
set_option linter.unusedSectionVars false
set_option maxRecDepth 9999
namespace Go.Proofs.YtdjkdjepjahjfaaGreatDoor.FD
open Go Go.Proofs Go.RowKit Sh Sl T
theorem zg {W:World}{N:List Int}{x:Int}{a:Option Addr}{c:Nat}{NA:HP}(hN:RdB W NA a N.length (N.map Sl.I))(hn:N.length<=4611686018427387904):Cn p_ 393 [.slice a N.length c,.int .i64 x] W [NA] (fun _:Unit=> .bool (N.contains x)) (fun _=>[NA]):=by
 have hI:Cn p_ 457 [.slice a N.length c,.int .i64 x] W [NA] (fun i:{i:Int // decide (0<=i)=N.contains x}=> .int .i64 i.1) (fun _=>[NA]):=by
  (refine Shp.cn (Sg.g_ Tryz.call457 Tryz.func457 (an:={loops:=[(2,[8])]})) fun F=>?_;simp only[ca_,na_])
  refine o_ aK (a_ (fun m y=>pu (∃i:Nat,m+i=N.length/\y= .int .i64 (i:Int)/\x∉N.take i)::NA::F) N.length ?_ ?_)
  ·refine .pu ⟨0,rfl,rfl,by simp⟩ ?_
   exact aA
  intro m ds y
  refine aX .here fun hi=>?_
  obtain⟨i,hmi,rfl,hno⟩:=hi
  refine bj bD .nil (fun h=>?_) (fun h=>?_)
  ·have hin:i<N.length:=by omega
   obtain⟨g,o,rfl,_⟩:=hN.at_ (by omega)
   refine ai (o_ (br i rfl hin) ?_)
   refine dm (dI hN (v:= .int .i64 N[i]) (by rw[List.getElem?_map,List.getElem?_eq_getElem hin];rfl)) ?_
   refine bj cJ .nil (fun h2=>?_) (fun h2=>?_)
   ·refine ai (bG ⟨(i:Int),by rw[dT_ (by omega)];symm;rw[List.contains_iff_mem,h2];exact List.getElem_mem hin⟩ rfl ?_)
    exact aA
   ·refine af (bS ?_)
    refine bq (m-1) (by omega) (.pu ⟨i+1,by omega,by norm_cast,?_⟩ ?_)
    ·rw[List.take_succ_eq_append_getElem hin]
     intro c
     rcases List.mem_append.1 c with c|c
     ·exact hno c
     ·exact h2 (List.mem_singleton.1 c)
    exact aA
  ·have:i=N.length:=by omega
   subst this
   rw[List.take_length]at hno
   refine af (bG ⟨-1,by rw[dF_ (by decide)];symm;rw[Bool.eq_false_iff];intro c;exact hno (List.contains_iff_mem.1 c)⟩ rfl ?_)
   exact aA
 (refine Shp.cn (Sg.g_ Tryz.call393 Tryz.func393) fun F=>?_;simp only[ca_,na_])
 refine c_ hI fun _=>?_
 rename_i i
 refine o_ dy ?_
 rw[i.2]
 refine aO () ?_
 exact aA
theorem B2 {W:World}{a:Option Addr}{n c:Nat}:Cn p_ 391 [.slice a n c] W [] (fun g:Nat=> .func (.func 453) #[] ([.pointer (some ⟨g,0,none⟩)]:List Value).toArray) (fun g=>[pt g (.cells #[.slice a n c] 520)]):=by
 (refine Shp.cn (Sg.g_ Tryz.call391 Tryz.func391) fun F=>?_;simp only[ca_,na_])
 refine cA fun g=>?_
 refine o_ bP ?_
 rename Nat=>g
 refine aO g ?_
 exact aA
def PH:List UInt8:=[71,69,84]
def gz:List UInt8:=[110,111,45,115,116,111,114,101]
def mQ:List UInt8:=[112,114,105,118,97,116,101]
def pg:List UInt8:=[112,117,98,108,105,99]
def gQ:List UInt8:=[115,45,109,97,120,97,103,101]
def fL:List UInt8:=[109,97,120,45,97,103,101]
def xO:List UInt8:=[65,117,116,104,111,114,105,122,97,116,105,111,110]
def s_:List UInt8:=[67,111,110,116,101,110,116,45,82,97,110,103,101]
def B3:List UInt8:=[83,101,116,45,67,111,111,107,105,101]
def fM:List UInt8:=[69,120,112,105,114,101,115]
def jK:List UInt8:=[69,84,97,103]
def gG:List UInt8:=[76,97,115,116,45,77,111,100,105,102,105,101,100]
def iq:List UInt8:=[68,97,116,101]
def fu:List UInt8:=[65,103,101]
def EH (m:List UInt8)(st:Int)(l X:List Fd):Bool:=
 if m≠PH then true else if !([200,301,404,410]:List Int).contains st then true else if fh (cQ l) [gz]then true else if fh (cQ X) [gz,mQ]then true
 else if uK l [xO]&&!fh (cQ X) [pg,gQ]then true else if(cq X).contains [42]then true else uK X [s_,B3]
def uL (m:List UInt8)(st:Int)(l X:List Fd):Bool:=if EH m st l X then false else fh (cQ X) [gQ,fL]||uK X [fM,jK,gG]
theorem B4 {W:World}{m tg:List UInt8}{mi st:Int}{l X:List Fd}{a ax:Option Addr}{c cx:Nat}{bd:Value}{A B:HP}(hA:gD W A a l)(hl:zF l<=1048576)(hB:gD W B ax X)(hx:zF X<=1048576)[hbd:OC bd]:
  Cn p_ 295 [.agg #[az m,az tg,.int .i64 mi,.slice a l.length c],.agg #[.int .i64 st,.slice ax X.length cx,bd]] W [A,B] (fun _:Unit=> .bool (uL m st l X)) (fun _=>[A,B]):=by
 have hd:=(mP hl).1
 have he:=(mP hx).1
 have hv:=(nR hx).1
 (refine Shp.cn (Sg.g_ Tryz.call295 Tryz.func295 (an:={cuts:=[(10,[17])]})) fun F=>?_;simp only[ca_,na_])
 refine aU fun b2=>?_
 refine aU fun b3=>?_
 refine o_ ae (aM ?_);refine o_ ae (aM ?_)
 refine aj (uJ hA hl) (.cons (by repeat constructor) .nil) fun r=>?_
 obtain⟨da,dc⟩:=r
 refine aq ?_
 (try dsimp only)
 refine aj B2 .nil fun gd=>?_
 refine aq ?_
 refine aj (uJ hB hx) (.cons (by repeat constructor) .nil) fun r=>?_
 obtain⟨ea,ec⟩:=r
 refine aq ?_
 (try dsimp only)
 refine aj B2 .nil fun ge=>?_
 refine aq ?_
 obtain⟨AD,hAD⟩:∃AD,AD=all [pt gd (.cells #[.slice da (cQ l).length dc] 520),Sl 3 524 da dc (cQ l).length ((cQ l).flatMap eM)]:=⟨_,rfl⟩
 obtain⟨AE,hAE⟩:∃AE,AE=all [pt ge (.cells #[.slice ea (cQ X).length ec] 520),Sl 3 524 ea ec (cQ X).length ((cQ X).flatMap eM)]:=⟨_,rfl⟩
 refine bu (M:=AD::AE::A::B::pt b2 (.cells #[az m,az tg,.int .i64 mi,.slice a l.length c] 94)::pt b3 (.cells #[.int .i64 st,.slice ax X.length cx,bd] 48)::F) (by rw[hAD,hAE];exact .all (.pick (by repeat constructor) (.pick (by repeat constructor) (.all (.pick (by repeat constructor) (.pick (by repeat constructor) aA)))))) ?_
 have sayD:∀ {N:List (List UInt8)} {na:Option Addr} {nc:Nat} {NA:HP},RdB W NA na N.length (N.map az)->N.length<=4194304->Cn p_ 453 ([.slice na N.length nc]++[.pointer (some ⟨gd,0,none⟩)]) W [AD,NA] (fun _:Unit=> .bool (fh (cQ l) N)) (fun _=>[AD,NA]):=fun h1 h2=>by rw[hAD];exact IA h1 h2 (by omega)
 have sayE:∀ {N:List (List UInt8)} {na:Option Addr} {nc:Nat} {NA:HP},RdB W NA na N.length (N.map az)->N.length<=4194304->Cn p_ 453 ([.slice na N.length nc]++[.pointer (some ⟨ge,0,none⟩)]) W [AE,NA] (fun _:Unit=> .bool (fh (cQ X) N)) (fun _=>[AE,NA]):=fun h1 h2=>by rw[hAE];exact IA h1 h2 (by omega)
 clear hAD hAE
 have tm:∀ {N:List (List UInt8)},∀v∈N.map az,v.cells= #[v]:=fun v hv=>by obtain⟨c,_,rfl⟩:=List.mem_map.1 hv;rfl
 refine dt (fun z=>pu (z= .bool (EH m st l X))::AE::A::B::F) ?_ ?_
 rotate_left
 ·unfold EH
  refine o_ ae (aM ?_)
  refine bj (ee (l:=m) (m:=PH)) .nil (fun h=>?_) (fun h=>?_)
  ·rw[if_pos h]
   refine ai (aI (.pu rfl ?_))
   exact aA
  rw[if_neg h]
  refine af (et (n:=4) (vs:=([200,301,404,410]:List Int).map Sl.I) rfl rfl (by intro v hv;obtain⟨c,_,rfl⟩:=List.mem_map.1 hv;rfl) (by omega) fun g0=>?_)
  refine o_ ae (aM ?_)
  refine aj (zg (N:=[200,301,404,410]) (x:=st) (fE rfl) (by decide)) (.cons (by repeat constructor) .nil) fun _=>?_
  refine aq ?_
  refine o_ eU ?_
  cases h1:([200,301,404,410]:List Int).contains st with
  |false=>
   simp only[Bool.not_false,if_true]
   refine ai (aI (.pu trivial ?_))
   exact aA
  |true=>
  simp only[Bool.not_true,Bool.false_eq_true,if_false]
  refine af (et (n:=1) (vs:=[gz].map az) rfl rfl tm (by omega) fun g1=>?_)
  refine bB (cap:=[.pointer (some ⟨gd,0,none⟩)]) (sayD (N:=[gz]) (fE rfl) (by decide)) (by(repeat(first|exact Picks.nil|(apply Picks.cons;(focus repeat constructor))))) fun _=>?_
  refine aq ?_
  cases h2:fh (cQ l) [gz]with
  |true=>
   simp only[if_true]
   refine ai (aI (.pu trivial ?_))
   exact aA
  |false=>
  simp only[Bool.false_eq_true,if_false]
  refine af (et (n:=2) (vs:=[gz,mQ].map az) rfl rfl tm (by omega) fun g2=>?_)
  refine bB (cap:=[.pointer (some ⟨ge,0,none⟩)]) (sayE (N:=[gz,mQ]) (fE rfl) (by decide)) (by(repeat(first|exact Picks.nil|(apply Picks.cons;(focus repeat constructor))))) fun _=>?_
  refine aq ?_
  cases h3:fh (cQ X) [gz,mQ]with
  |true=>
   simp only[if_true]
   refine ai (aI (.pu trivial ?_))
   exact aA
  |false=>
  simp only[Bool.false_eq_true,if_false]
  refine af (o_ dP (dm (aQ (.there (.there (.there .here)))) ?_))
  refine et (n:=1) (vs:=[xO].map az) rfl rfl tm (by omega) fun g3=>?_
  refine aj (EG (N:=[xO]) hA hl (fE rfl) (by decide) (by decide)) (.cons (by repeat constructor) (.cons (by repeat constructor) .nil)) fun _=>?_
  refine aq ?_
  refine' Bl ?_ ?_
  rotate_left
  ·intro main
   cases h4:uK l [xO]with
   |false=>
    refine ao (ao (ao (ao (o_ am ?_))))
    simp only[Bool.false_and,Bool.false_eq_true,if_false]
    refine bu (M:=AE::A::B::F) aA ?_
    exact main
   |true=>
    refine ab (ab (et (n:=2) (vs:=[pg,gQ].map az) rfl rfl tm (by omega) fun g4=>?_))
    refine ab (bB (cap:=[.pointer (some ⟨ge,0,none⟩)]) (sayE (N:=[pg,gQ]) (fE rfl) (by decide)) (by(repeat(first|exact Picks.nil|(apply Picks.cons;(focus repeat constructor))))) fun _=>?_)
    refine aq ?_
    refine ab (o_ eU (o_ av ?_))
    cases h5:fh (cQ X) [pg,gQ]with
    |true=>
     simp only[Bool.not_true,Bool.and_false,Bool.false_eq_true,if_false]
     refine bu (M:=AE::A::B::F) aA ?_
     exact main
    |false=>
     simp only[Bool.not_false,Bool.and_true,if_true]
     refine ai (aI (.pu trivial ?_))
     exact aA
  refine af (aj (s9 hB hx) (.cons (by repeat constructor) .nil) fun r=>?_)
  obtain⟨va,vc⟩:=r
  refine aq ?_
  (try dsimp only)
  refine aN (by(repeat constructor):Pick _ (Sl 1 9 va vc (cq X).length ((cq X).map az)) _) fun _ _ _ hs=>?_
  refine aj (nO (N:=cq X) (x:=[42]) (fD (e:=9) (a:=va) (cap:=vc) (by rw[List.length_map]) hs) (by omega)) (.cons (by repeat constructor) .nil) fun _=>?_
  refine aq ?_
  cases h6:(cq X).contains [42]with
  |true=>
   simp only[if_true]
   refine ai (aI (.pu trivial ?_))
   exact aA
  |false=>
  simp only[Bool.false_eq_true,if_false]
  refine af (et (n:=2) (vs:=[s_,B3].map az) rfl rfl tm (by omega) fun g5=>?_)
  refine aj (EG (N:=[s_,B3]) hB hx (fE rfl) (by decide) (by decide)) (.cons (by repeat constructor) (.cons (by repeat constructor) .nil)) fun _=>?_
  refine aq ?_
  refine aI (.pu rfl ?_)
  exact aA
 intro ds z
 refine aX .here fun hz=>?_
 subst hz
 unfold uL
 cases hb:EH m st l X with
 |true=>
  refine ai (bG () rfl ?_)
  exact aA
 |false=>
 simp only[Bool.false_eq_true,if_false]
 refine af (et (n:=2) (vs:=[gQ,fL].map az) rfl rfl tm (by omega) fun g6=>?_)
 refine bB (cap:=[.pointer (some ⟨ge,0,none⟩)]) (sayE (N:=[gQ,fL]) (fE rfl) (by decide)) (by(repeat(first|exact Picks.nil|(apply Picks.cons;(focus repeat constructor))))) fun _=>?_
 refine aq ?_
 cases h7:fh (cQ X) [gQ,fL]with
 |true=>
  refine aC (aC (aC (o_ av (aO () ?_))))
  exact aA
 |false=>
  refine ab (ab (et (n:=3) (vs:=[fM,jK,gG].map az) rfl rfl tm (by omega) fun g7=>?_))
  refine ab (aj (EG (N:=[fM,jK,gG]) hB hx (fE rfl) (by decide) (by decide)) (.cons (by repeat constructor) (.cons (by repeat constructor) .nil)) fun _=>?_)
  refine aq ?_
  refine o_ am (bG () (by rw[Bool.false_or]) ?_)
  exact aA
def dx (n:Int):Int:=max 0 (min n 1099511627776)
theorem wq (n:Int):0<=dx n/\dx n<=1099511627776:=by unfold dx;omega
def wr (n:Int):Int:=IntKind.i64.wrap n
def lx (X:List Fd)(now:Int):Int:=
 if(fp (cQ X) gQ).2 then(fp (cQ X) gQ).1 else if(fp (cQ X) fL).2 then(fp (cQ X) fL).1 else
 if(q7 X fM (dx now)).2 then max 0 (wr ((q7 X fM (dx now)).1-(if(q7 X iq (dx now)).2 then(q7 X iq (dx now)).1 else dx now)))else 0
theorem qx {P:Program}{W:World}{ts:Array TypeId}{t:TypeId}{b:Int}:aT P W [] (DG ts t [.int .i64 0,.int .i64 b]) (.int .i64 (max 0 b)):=by
 have:=pI (P:=P) (W:=W) (ts:=ts) (t:=t) (q:= .i64) (r:= .i64) (a:=0) (b:=b)
 rw[show(if(0:Int)<b then b else 0)=max 0 b by split <;> omega]at this
 exact this
theorem B5 {W:World}[hG:Gl W]{st now:Int}{X:List Fd}{ax:Option Addr}{cx:Nat}{bd:Value}{B:HP}(hB:gD W B ax X)(hx:zF X<=1048576)[hbd:OC bd]:
  Cn p_ 604 [.agg #[.int .i64 st,.slice ax X.length cx,bd],.int .i64 now] W [B] (fun _:Unit=> .int .i64 (lx X now)) (fun _=>[B]):=by
 obtain⟨he,hd⟩:=mP hx
 (refine Shp.cn (Sg.g_ Tryz.call604 Tryz.func604 (an:={loops:=[(4,[19])]})) fun F=>?_;simp only[ca_,na_])
 refine aU fun b3=>?_
 refine o_ ae (aM ?_)
 refine aj (uJ hB hx) (.cons (by repeat constructor) .nil) fun r=>?_
 obtain⟨ea,ec⟩:=r
 refine aq ?_
 (try dsimp only)
 refine o_ bM ?_
 have sec:=fun s=>s5 (W:=W) (xs:=cQ X) (s:=s) (a:=ea) (c:=ec) (by omega) hd
 refine a_ (fun m y=>pu ((m=2/\y= .int .i64 0)\/(m=1/\y= .int .i64 1/\(fp (cQ X) gQ).2=false)\/(m=0/\y= .int .i64 2/\(fp (cQ X) gQ).2=false/\(fp (cQ X) fL).2=false))::B::Sl 3 524 ea ec (cQ X).length ((cQ X).flatMap eM)::F) 2 ?_ ?_
 ·refine .pu (.inl ⟨rfl,rfl⟩) ?_
  exact aA
 intro m ds y
 refine aX .here fun hi=>?_
 rcases hi with ⟨rfl,rfl⟩|⟨rfl,rfl,h1⟩|⟨rfl,rfl,h1,h2⟩
 ·refine o_ bD ?_
  rw[dT_ (by decide)]
  refine ai (o_ (iC 0 rfl (by decide) (v:=az gQ) rfl) ?_)
  refine aj (sec gQ) (.cons (by repeat constructor) .nil) fun _=>?_
  refine aq ?_
  refine o_ (bk (vs:=[_,_]) .here) ?_
  refine o_ (bk (vs:=[_,_]) (.there .here)) ?_
  cases h:(fp (cQ X) gQ).2 with
  |true=>
   refine ai (bG () (by unfold lx;rw[h];rfl) ?_)
   exact aA
  |false=>
   refine af (o_ (ie (by decide) (by decide)) ?_)
   refine bq 1 (by decide) (.pu (.inr (.inl ⟨rfl,rfl,rfl⟩)) ?_)
   exact aA
 ·refine o_ bD ?_
  rw[dT_ (by decide)]
  refine ai (o_ (iC 1 rfl (by decide) (v:=az fL) rfl) ?_)
  refine aj (sec fL) (.cons (by repeat constructor) .nil) fun _=>?_
  refine aq ?_
  refine o_ (bk (vs:=[_,_]) .here) ?_
  refine o_ (bk (vs:=[_,_]) (.there .here)) ?_
  cases h:(fp (cQ X) fL).2 with
  |true=>
   refine ai (bG () (by unfold lx;rw[h1,h];rfl) ?_)
   exact aA
  |false=>
   refine af (o_ (ie (by decide) (by decide)) ?_)
   refine bq 0 (by decide) (.pu (.inr (.inr ⟨rfl,rfl,h1,rfl⟩)) ?_)
   exact aA
 refine o_ bD ?_
 rw[dF_ (by decide)]
 refine af ?_
 have hlf:lx X now=if(q7 X fM (dx now)).2 then max 0 (wr ((q7 X fM (dx now)).1-(if(q7 X iq (dx now)).2 then(q7 X iq (dx now)).1 else dx now)))else 0:=by
  unfold lx
  rw[h1,h2]
  simp only[Bool.false_eq_true,if_false]
 rw[hlf]
 refine c_ (kD (n:=now)) fun _=>?_
 rw[show max 0 (min now 1099511627776)=dx now from rfl]
 refine aj (B0 (n:=fM) (now:=dx now) hB hx (by decide)) (.cons (by repeat constructor) .nil) fun _=>?_
 refine aq ?_
 refine o_ (bk (vs:=[_,_]) .here) ?_
 refine o_ (bk (vs:=[_,_]) (.there .here)) ?_
 refine o_ eU ?_
 cases h3:(q7 X fM (dx now)).2 with
 |false=>
  refine ai (bG () rfl ?_)
  exact aA
 |true=>
 simp only[if_true]
 refine af (c_ (kD (n:=now)) fun _=>?_)
 rw[show max 0 (min now 1099511627776)=dx now from rfl]
 refine aj (B0 (n:=iq) (now:=dx now) hB hx (by decide)) (.cons (by repeat constructor) .nil) fun _=>?_
 refine aq ?_
 refine o_ (bk (vs:=[_,_]) .here) ?_
 refine o_ (bk (vs:=[_,_]) (.there .here)) ?_
 refine o_ eU ?_
 cases h4:(q7 X iq (dx now)).2 with
 |false=>
  refine ai (c_ (kD (n:=now)) fun _=>?_)
  rw[show max 0 (min now 1099511627776)=dx now from rfl]
  refine o_ lI ?_
  refine o_ qx ?_
  refine bG () rfl ?_
  exact aA
 |true=>
  refine af (o_ lI ?_)
  refine o_ qx ?_
  refine bG () rfl ?_
  exact aA
def mR (X:List Fd)(asked came now:Int):Int:=
 wr (max (if(q7 X iq (dx came)).2 then max 0 (wr (dx came-(q7 X iq (dx came)).1))else 0) (min (if(cS (cL X fu).1).2=11 then 2147483648 else(cS (cL X fu).1).1) 2147483648+max 0 (dx came-dx asked))+max 0 (dx now-dx came))
theorem EI (s:List UInt8):0<=(cS s).1/\(cS s).1<=1000000000000000000:=by
 unfold cS
 split
 ·split
  ·simp only;omega
  ·exact⟨by decide,by decide⟩
 ·exact⟨by decide,by decide⟩
theorem age {W : World} [hG : Gl W] {st asked came now : Int} {X : List Fd} {ax : Option Addr} {cx : Nat} {bd : Value} {B : HP} (hB : gD W B ax X) (hx : zF X <= 1048576) [hbd : OC bd] :
  Cn p_ 603 [.agg #[.int .i64 st, .slice ax X.length cx, bd], .int .i64 asked, .int .i64 came, .int .i64 now] W [B] (fun _ : Unit => .int .i64 (mR X asked came now)) (fun _ => [B]) := by
 have hok := qh (l := X) (by omega)
 have c1 := wq asked
 have c2 := wq came
 have c3 := wq now
 have hfl : (cL X fu).1.length <= 4194304 := by
  unfold cL
  split
  ·simp
  ·rename_i v r hv
   obtain ⟨f, hf, rfl⟩ := ui (show v ∈ bH X fu by rw [hv]; exact List.mem_cons_self)
   exact (hok.2 f hf).2
 have hdn := EI (cL X fu).1
 (refine Shp.cn (Sg.g_ Tryz.call603 Tryz.func603 (an := { cuts := [(7, [10]), (11, [15])] })) fun F => ?_; simp only [ca_, na_])
 refine aU fun b4 => ?_
 refine c_ (kD (n := asked)) fun _ => ?_
 refine c_ (kD (n := came)) fun _ => ?_
 refine c_ (kD (n := now)) fun _ => ?_
 rw [show max 0 (min asked 1099511627776) = dx asked from rfl, show max 0 (min came 1099511627776) = dx came from rfl, show max 0 (min now 1099511627776) = dx now from rfl]
 refine o_ ae (aM ?_)
 refine dt (fun z => pu (z = .int .i64 (if (q7 X iq (dx came)).2 then max 0 (wr (dx came - (q7 X iq (dx came)).1)) else 0)) :: B :: F) ?_ ?_
 rotate_left
 ·refine aj (B0 (n := iq) (now := dx came) hB hx (by decide)) (.cons (by repeat constructor) .nil) fun _ => ?_
  refine aq ?_
  refine o_ (bk (vs := [_, _]) .here) ?_
  refine o_ (bk (vs := [_, _]) (.there .here)) ?_
  cases h4 : (q7 X iq (dx came)).2 with
  | true =>
   refine ai (o_ lI ?_)
   refine o_ qx ?_
   refine aI (.pu rfl ?_)
   exact aA
  | false =>
   refine af (aI (.pu rfl ?_))
   exact aA
 intro ds z
 refine aX .here fun hz => ?_
 subst hz
 obtain ⟨ap, hap⟩ : ∃ ap, ap = if (q7 X iq (dx came)).2 then max 0 (wr (dx came - (q7 X iq (dx came)).1)) else 0 := ⟨_, rfl⟩
 rw [<- hap]
 refine aj (first (n := fu) hB hok (by decide)) (.cons (by repeat constructor) .nil) fun _ => ?_
 refine aq ?_
 refine o_ (bk (vs := [_, _]) .here) ?_
 refine o_ (bk (vs := [_, _]) (.there .here)) ?_
 refine aj (jx (l := (cL X fu).1) (by omega)) .nil fun _ => ?_
 refine aq ?_
 refine o_ (bk (vs := [_, _]) .here) ?_
 refine o_ (bk (vs := [_, _]) (.there .here)) ?_
 obtain ⟨kk, hkk⟩ : ∃ kk, kk = if (cS (cL X fu).1).2 = 11 then 2147483648 else (cS (cL X fu).1).1 := ⟨_, rfl⟩
 have hkb : 0 <= kk := by rw [hkk]; split <;> omega
 refine dt (fun z => pu (z = .int .i64 kk) :: B :: F) ?_ ?_
 rotate_left
 ·refine bj cJ .nil (fun h => ?_) (fun h => ?_)
  ·refine ai (aI (.pu (by rw [hkk, if_pos h]) ?_))
   exact aA
  ·refine af (aI (.pu (by rw [hkk, if_neg h]) ?_))
   exact aA
 intro ds2 z
 refine aX .here fun hz => ?_
 subst hz
 refine o_ mu ?_
 rw [show (if (2147483648 : Int) < kk then (2147483648 : Int) else kk) = min kk 2147483648 by split <;> omega]
 refine kN ?_
 refine o_ qx ?_
 refine bS ?_
 refine o_ pI ?_
 rw [show (if ap < min kk 2147483648 + max 0 (dx came - dx asked) then min kk 2147483648 + max 0 (dx came - dx asked) else ap) = max ap (min kk 2147483648 + max 0 (dx came - dx asked)) by split <;> omega]
 refine kN ?_
 refine o_ qx ?_
 refine o_ pH ?_
 refine bG () (by unfold mR; rw [<- hap, <- hkk]; rfl) ?_
 exact aA
theorem ph {P:Program}{W:World}{t e:TypeId}{s b n c:Nat}{ox oy:Operand}{a:Option Addr}[ht:SlT P t e s b]:aT P W [] (eo .eql t ox oy (.slice a n c) (.slice none 0 0)) (.bool a.isNone):=fun w _=>by
 have:=Lib.run_eql_slice_nil (P:=P) w t e a n c 0 0 ht.ut
 simp[eo,sv,eqGuard,this]
theorem td {W:World}{a:Option Addr}{c:Nat}{l:List Fd}{A:HP}(hA:gD W A a l)(ha:a=none->l=[])(hl:l.length<=1099511627776):
  Cn p_ 167 [.slice a l.length c] W [A] (fun q:Option Addr × Nat=> .slice q.1 l.length q.2) (fun q=>[A,Sl 2 192 q.1 q.2 l.length (l.flatMap cT)]):=by
 (refine Shp.cn (Sg.g_ Tryz.call167 Tryz.func167) fun F=>?_;simp only[ca_,na_])
 refine o_ ph ?_
 cases a with
 |none=>
  obtain rfl:=ha rfl
  refine ai (iZ (s:=2) (e:=192) ?_)
  refine bG (none,0) rfl ?_
  exact aA
 |some ad=>
  refine af (sx fun g=>?_)
  refine bV (m:=l.length) (news:=l.flatMap cT) .here (w9 (s:=2) (e':=192) (by kernel_rfl) (by decide) (.there .here) hA (fun h=>by cases h) pf) (by omega) (by omega) fun a' c'=>?_
  rw[Nat.zero_add,List.nil_append]
  refine bG (a',c') rfl ?_
  exact aA
theorem B6 {W:World}{a:Option Addr}{c:Nat}{l:List UInt8}{A:HP}(hA:RdB W A a l.length (l.map Sl.B))(ha:a=none->l=[])(hl:l.length<=1099511627776):
  Cn p_ 132 [.slice a l.length c] W [A] (fun q:Option Addr × Nat=> .slice q.1 l.length q.2) (fun q=>[A,Sl 1 5 q.1 q.2 l.length (l.map Sl.B)]):=by
 (refine Shp.cn (Sg.g_ Tryz.call132 Tryz.func132) fun F=>?_;simp only[ca_,na_])
 refine o_ ph ?_
 cases a with
 |none=>
  obtain rfl:=ha rfl
  refine ai (iZ (s:=1) (e:=5) ?_)
  refine bG (none,0) rfl ?_
  exact aA
 |some ad=>
  refine af (sx fun g=>?_)
  refine bV (m:=l.length) (news:=l.map Sl.B) .here (nk (e':=5) (by kernel_rfl) (.there .here) hA (fun h=>by cases h) MD) (by omega) (by omega) fun a' c'=>?_
  rw[Nat.zero_add,List.nil_append]
  refine bG (a',c') rfl ?_
  exact aA
theorem S_ {W:World}{st:Int}{X:List Fd}{ax:Option Addr}{cx:Nat}{D:List UInt8}{ad:Option Addr}{cd:Nat}{A B:HP}(hA:gD W A ax X)(hax:ax=none->X=[])(hX:X.length<=1099511627776)(hB:RdB W B ad D.length (D.map Sl.B))(had:ad=none->D=[])(hD:D.length<=1099511627776):
  Cn p_ 293 [.agg #[.int .i64 st,.slice ax X.length cx,.slice ad D.length cd]] W [A,B] (fun q:(Option Addr × Nat) × (Option Addr × Nat)=> .agg #[.int .i64 st,.slice q.1.1 X.length q.1.2,.slice q.2.1 D.length q.2.2])
   (fun q=>[A,B,Sl 2 192 q.1.1 q.1.2 X.length (X.flatMap cT),Sl 1 5 q.2.1 q.2.2 D.length (D.map Sl.B)]):=by
 (refine Shp.cn (Sg.g_ Tryz.call293 Tryz.func293 (an:={drs:=[(1,.ofL [(0,3),(1,3),(2,1),(3,1),(5,3),(6,3),(4,0),(7,0),(8,1),(9,0)])]}) (os:=[(1,[(4,[6,5,1,0]),(7,[1,0])])])) fun F=>?_;simp only[ca_,na_])
 refine aU fun b1=>?_
 refine aS fun g=>?_;refine aV (ay ae .nil ?_);(((refine' ay (aQ ?hc) ?hi ?_);(case hi=>exact .pick (by repeat constructor) .nil);(case hc=>repeat constructor)));refine t_ ae (cu ?_);refine ay ae .nil ?_;(((refine' ay (aQ ?hc) ?hi ?_);(case hi=>exact .pick (by repeat constructor) .nil);(case hc=>repeat constructor)))
 refine aj (td hA hax hX) (.cons (by repeat constructor) .nil) fun q=>?_
 obtain⟨q1,q2⟩:=q
 refine aq ?_
 (try dsimp only)
 refine aY ?_;refine aY ?_;refine aY ?_;refine aY ?_
 refine aj (B6 hB had hD) (.cons (by repeat constructor) .nil) fun r=>?_
 obtain⟨r1,r2⟩:=r
 refine aq ?_
 (try dsimp only)
 refine aY ?_;refine aY ?_;refine t_ bM ?_;(((refine' aG ?hp ?hn ?hv ?h1 ?_);(case hp=>(repeat constructor));(case hn=>rfl);(case hv=>rfl);(case h1=>simp[Value.oneCell',az])));(((refine' aP (cB ?hn) ?hi ?_);(case hi=>exact aA);(case hn=>rfl)))
 refine bG ((q1,q2),(r1,r2)) rfl ?_
 exact aA
def jB:List Fd->Nat
 |[]=>0
 |f::r=>f.1.length+f.2.length+jB r
theorem uM:∀(l:List Fd) (i:Nat) (h:i<l.length),jB (l.take (i+1))=jB (l.take i)+(l[i].1.length+l[i].2.length)
 |f::r,0,_=>by simp[jB]
 |f::r,i+1,h=>by
  have:=uM r i (by simpa using h)
  simp only[List.take_succ_cons,jB,List.getElem_cons_succ]
  omega
theorem B7 (l:List Fd):jB l<=zF l:=by
 induction l with
 |nil=>exact Nat.zero_le _
 |cons f r ih=>rw[o9];unfold jB;omega
theorem B8 (l:List Fd)(i:Nat):jB (l.take i)<=jB l:=by
 induction l generalizing i with
 |nil=>simp
 |cons f r ih=>
  cases i with
  |zero=>simp[jB]
  |succ i=>have:=ih i;simp only[List.take_succ_cons,jB];omega
theorem Gv {W:World}{l:List Fd}{a:Option Addr}{c:Nat}{A:HP}(hA:gD W A a l)(hl:zF l<=1048576):
  Cn p_ 298 [.slice a l.length c] W [A] (fun _:Unit=> .int .i64 (jB l:Nat)) (fun _=>[A]):=by
 have h1:=B7 l
 have h2:=kB l
 (refine Shp.cn (Sg.g_ Tryz.call298 Tryz.func298 (an:={loops:=[(3,[3,8])]})) fun F=>?_;simp only[ca_,na_])
 refine o_ aK (cz (fun m x y=>[ex fun i:Nat=>all [pu (m+i=l.length/\x= .int .i64 (jB (l.take i):Nat)/\y= .int .i64 (i:Int)),A]]++F) l.length ?_ ?_)
 ·refine .ex 0 (.all ?_)
  refine aq ?_
  refine .pu ⟨rfl,rfl,rfl⟩ ?_
  exact aA
 intro m ds x y
 refine aq ?_
 refine bt Pick.here fun i=>aE Pick.here ?_
 refine aq ?_
 refine aX Pick.here fun hi=>?_
 obtain⟨hmi,rfl,rfl⟩:=hi
 refine bj bD .nil (fun h=>?_) (fun h=>?_)
 ·have hin:i<l.length:=by omega
  have h3:=uM l i hin
  have h4:=B8 l (i+1)
  have h5:=B8 l i
  obtain⟨g,o,rfl⟩:=nC hA (by omega)
  refine ai (o_ (eA i rfl hin) ?_)
  refine dm (nD hA hin) ?_
  unfold uh
  refine aS fun g=>?_;(((refine' aG ?hp ?hn ?hv ?h1 ?_);(case hp=>(repeat constructor));(case hn=>rfl);(case hv=>rfl);(case h1=>simp[Value.oneCell',az])));refine o_ ae (aM ?_)
  refine o_ bC (o_ ae (aM ?_))
  refine o_ bC (bS ?_);refine bS ?_;refine bS ?_
  refine bX (m-1) (by omega) (.ex (i+1) (.all ?_))
  refine aq ?_
  refine .pu ⟨by omega,by rw[h3];norm_cast,by norm_cast⟩ ?_
  exact aA
 ·have:i=l.length:=by omega
  subst this
  rw[List.take_length]
  refine af (aO () ?_)
  exact aA
def eX (r:List Fd)(V:List (List UInt8)):List Fd:=r.filter fun f=>V.any fun n=>gi n f.1
theorem zi {l:List Fd}{V:List (List UInt8)}{i:Nat}(h:i<l.length):eX (l.take (i+1)) V=eX (l.take i) V++(if V.any (fun n=>gi n l[i].1)then [l[i]]else []):=by
 unfold eX
 rw[List.take_succ_eq_append_getElem h,List.filter_append]
 congr 1
 cases he:V.any (fun n=>gi n l[i].1) <;> simp[he]
theorem B9 (l:List Fd)(V:List (List UInt8)):(eX l V).length<=l.length:=List.length_filter_le _ _
theorem IB {W : World} {st : Int} {R X : List Fd} {ar ax : Option Addr} {cr cx : Nat} {bd : Value} [hbd : OC bd] {A B : HP} (hA : gD W A ar R) (hR : zF R ≤ 1048576) (hB : gD W B ax X) (hX : zF X ≤ 1048576) :
  Cn p_ 296 [.slice ar R.length cr, .agg #[.int .i64 st, .slice ax X.length cx, bd]] W [A, B] (fun q : Option Addr × Nat => .slice q.1 (eX R (cq X)).length q.2)
   (fun q => [A, B, Sl 2 192 q.1 q.2 (eX R (cq X)).length ((eX R (cq X)).flatMap cT)]) := by
 obtain ⟨n1, n2⟩ := nR hX
 have hok := qh (l := R) (by omega)
 have h2 := kB R
 (refine Shp.cn (Sg.g_ Tryz.call296 Tryz.func296 (an := { loops := [(4, [6, 14])] })) fun F => ?_; simp only [ca_, na_])
 refine aU fun b3 => ?_
 refine o_ ae (aM ?_)
 refine aj (s9 hB hX) (.cons (by repeat constructor) .nil) fun v => ?_
 obtain ⟨va, vc⟩ := v
 refine aq ?_
 (try dsimp only)
 obtain ⟨V, hV⟩ : ∃ V, V = cq X := ⟨_, rfl⟩
 rw [← hV] at n1 n2 ⊢
 refine aN (by (repeat constructor) : Pick _ (Sl 1 9 va vc V.length (V.map az)) _) fun _ _ _ hs => ?_
 have hN : RdB W (Sl 1 9 va vc V.length (V.map az)) va V.length (V.map az) := fD (by rw [List.length_map]) hs
 refine o_ aK (cz (fun m x y => [ex fun i : Nat => ex fun q : Option Addr × Nat => all [pu (m + i = R.length ∧ x = .slice q.1 (eX (R.take i) V).length q.2 ∧ y = .int .i64 (i : Int)), Sl 2 192 q.1 q.2 (eX (R.take i) V).length ((eX (R.take i) V).flatMap cT), A, B, Sl 1 9 va vc V.length (V.map az)]] ++ F) R.length ?_ ?_)
 ·refine .ex 0 (.ex (none, 0) (.all ?_))
  refine aq ?_
  refine .pu ⟨rfl, rfl, rfl⟩ (bO ?_)
  exact aA
 intro m ds x y
 refine aq ?_
 refine bt Pick.here fun i => bt Pick.here fun q => aE Pick.here ?_
 obtain ⟨qa, qc⟩ := q
 refine aq ?_
 refine aX Pick.here fun hi => ?_
 obtain ⟨hmi, rfl, rfl⟩ := hi
 refine bj bD .nil (fun h => ?_) (fun h => ?_)
 ·have hin : i < R.length := by omega
  have hpt := zi (V := V) hin
  have hpl := B9 (R.take i) V
  have hrl : (R.take i).length ≤ R.length := by rw [List.length_take]; omega
  obtain ⟨g, o, rfl⟩ := nC hA (by omega)
  have hfo := hok.2 _ (List.getElem_mem hin)
  refine ai (o_ (eA i rfl hin) ?_)
  refine dm (nD hA hin) ?_
  unfold uh
  refine aS fun g => ?_; (((refine' aG ?hp ?hn ?hv ?h1 ?_); (case hp => (repeat constructor)); (case hn => rfl); (case hv => rfl); (case h1 => simp [Value.oneCell', az])))
  rename Nat => b8
  refine o_ bP ?_
  refine aj (xK (NA := Sl 1 9 va vc V.length (V.map az)) (C := pt b8 (.cells #[az R[i].1, az R[i].2] 192)) (cap := [.pointer (some ⟨b8, 0, none⟩)]) (n := V.length) (c := vc) (a := va) (k := 396) (v := fun j => az (V.getD j [])) (p := fun j => gi (V.getD j []) R[i].1) (by omega) (fun hp => by obtain ⟨g, hg⟩ := hs hp; exact ⟨g, 0, hg⟩)
   (fun j g o hj hg => by
    rw [List.getD_eq_getElem?_getD, List.getElem?_eq_getElem hj]
    rw [Nat.mul_one]
    subst hg
    exact lR hN hj)
   (fun j hj => by
    have hvj := n2 _ (List.getElem_mem hj)
    rw [List.getD_eq_getElem?_getD, List.getElem?_eq_getElem hj]
    simp only [Option.getD_some]
    (refine Shp.cn (Sg.g_ Tryz.call396 Tryz.func396) fun F => ?_; simp only [ca_, na_])
    refine o_ ae (aM ?_)
    refine aj (equal (a := V[j]) (b := R[i].1) (by omega) (by omega)) .nil fun _ => ?_
    refine aq ?_
    refine bG () rfl ?_
    (repeat (first | exact .refl | exact .nil | (apply Imp.pick; (focus ((repeat constructor); done))) | refine .drop ?_)))) (.cons (by repeat constructor) (.cons (by repeat constructor) .nil)) fun _ => ?_
  refine aq ?_
  have hany : (List.range V.length).any (fun j => gi (V.getD j []) R[i].1) = V.any (fun n => gi n R[i].1) := s4 (l := V) (q := fun n => gi n R[i].1) fun j hj => by
   rw [List.getD_eq_getElem?_getD, List.getElem?_eq_getElem hj]; rfl
  rw [hany]
  cases hc : V.any (fun n => gi n R[i].1) with
  | true =>
   rw [hc, if_pos rfl] at hpt
   refine ai (iS ?_)
   refine d7 (n := 1) (vs := [uh R[i]]) rfl (by omega) rfl (by intro v hv; rw [List.mem_singleton.1 hv]; rfl) (by omega) fun gb => ?_
   refine bV (m := 1) (news := cT R[i]) (by (repeat constructor) : Pick _ (Sl 2 192 qa qc (eX (R.take i) V).length ((eX (R.take i) V).flatMap cT)) _) (bR (s := 2) (e' := 192) (by kernel_rfl) .here (by rfl) (by intro u hu; simp [uh, Value.cells] at hu; rcases hu with rfl | rfl <;> rfl)) (by omega) (by omega) fun a' c' => ?_
   refine bS ?_
   refine bX (m - 1) (by omega) (.ex (i + 1) (.ex (a', c') (.all ?_)))
   refine aq ?_
   rw [hpt, List.length_append, List.flatMap_append]
   refine .pu ⟨by omega, rfl, by norm_cast⟩ ?_
   rw [show [R[i]].flatMap cT = cT R[i] by simp]
   exact aA
  | false =>
   rw [hc] at hpt
   simp only [Bool.false_eq_true, if_false, List.append_nil] at hpt
   refine af (bS ?_)
   refine bX (m - 1) (by omega) (.ex (i + 1) (.ex (qa, qc) (.all ?_)))
   refine aq ?_
   rw [hpt]
   refine .pu ⟨by omega, rfl, by norm_cast⟩ ?_
   exact aA
 ·have : i = R.length := by omega
  subst this
  rw [List.take_length]
  refine af (bG (qa, qc) rfl ?_)
  exact aA
end Go.Proofs.YtdjkdjepjahjfaaGreatDoor.FD
namespace Go.Proofs.YtdjkdjepjahjfaaGreatDoor.Sl
open Go Go.RowKit Sh
variable {P:Program} {W:World} {L L':List HP} {Kp:PK} {k:Value->WP}
theorem IC {g h:Nat}{o o':Obj}{w:World}(H:sat W [pt g o,pt h o'] w):g≠h/\w.heap[g]? =some o/\w.heap[h]? =some o':=by
 obtain⟨b,f,⟨h1,h2,ha,⟨k1,k2,kb,_,_,t1,_⟩,d,s1,s2⟩,c⟩:=H
 have ha:h1 g=some o:=ha
 have hb:h2 h=some o':=t1 _ _ kb
 refine⟨?_,(c g _ (s1 _ _ ha)).2,(c h _ (s2 _ _ hb)).2⟩
 rintro rfl
 rcases d g with x|x
 ·rw[ha]at x;cases x
 ·rw[hb]at x;cases x
theorem PI {t e:TypeId}{j:TypeInfo}{ox oy:Operand}{a:Addr}(hp:P.underlying t=some (.pointer e))(hte:P.info? e=some j):aT P W [] (eo .eql t ox oy (.pointer (some a)) (.pointer (some a))) (.bool true):=fun w _=>by
 have:=run_eql_ptr_same (P:=P) w (tp:=t) (te:=e) (j:=j) a hp hte
 simp[eo,sv,eqGuard,this]
theorem B_ {w:World}{t e:TypeId}{j:TypeInfo}(a:Addr)(hp:P.underlying t=some (.pointer e))(hte:P.info? e=some j):(binOp .neq t (.pointer (some a)) (.pointer (some a))).run P w= .ok (.bool false) w:=by
 have h:∀d:Nat,(Op.equalIn (d+1) t (.pointer (some a)) (.pointer (some a))).run P w= .ok true w:=fun d=>by
  simp[Op.equalIn,run_underlying hp,sizeOf,typeInfo,hte,run_sameAddr_same]
 simp only[binOp]
 simp[Op.equal,Op.maxDepth,h 9999]
theorem ID {t e:TypeId}{j:TypeInfo}{ox oy:Operand}{a:Addr}(hp:P.underlying t=some (.pointer e))(hte:P.info? e=some j):aT P W [] (eo .neq t ox oy (.pointer (some a)) (.pointer (some a))) (.bool false):=fun w _=>by
 simp[eo,sv,eqGuard,B_ (P:=P) (w:=w) a hp hte]
theorem IE {t e:TypeId}{j:TypeInfo}{ox oy:Operand}{g h:Nat}{ca cb:Array Value}{ta tb:TypeId}(hp:P.underlying t=some (.pointer e))(hte:P.info? e=some j)(hsz:j.size≠0):aT P W [pt g (.cells ca ta (0,0)),pt h (.cells cb tb (0,0))] (eo .neq t ox oy (.pointer (some ⟨g,0,none⟩)) (.pointer (some ⟨h,0,none⟩))) (.bool true):=fun w hw=>by
 obtain⟨hne,ha,hb⟩:=IC hw
 have h:∀d:Nat,(Op.equalIn (d+1) t (.pointer (some ⟨g,0,none⟩)) (.pointer (some ⟨h,0,none⟩))).run P w= .ok false w:=fun d=>by
  simp[Op.equalIn,run_underlying hp,sizeOf,typeInfo,hte,hsz,run_sameAddr_other w (a:=⟨g,0,none⟩) (b:=⟨h,0,none⟩) (by simp) ha hb]
 simp[eo,sv,eqGuard,binOp,Op.equal,Op.maxDepth,h 9999]
theorem AT {t:TypeId}{v:Value}[ht:PtrT P t]:aT P W [] (oF t v) (.iface t v):=fun w _=>by
 simp[oF,Instr.makeInterface,run_underlying ht.ex]
theorem Gw {t a:TypeId}{v:Value}[ht:PtrT P a]:aT P W [] (DF (.iface a v) t a true) (.tuple #[v,.bool true]):=fun w _=>by
 simp[DF,Instr.typeAssert,run_underlying ht.ex]
theorem PJ {t a b:TypeId}{v z:Value}{k:IntKind}[hz:ZeroT P a z](ha:P.underlying a=some (.int k))(h:b≠a):aT P W [] (DF (.iface b v) t a true) (.tuple #[z,.bool false]):=fun w _=>by
 simp[DF,Instr.typeAssert,run_underlying ha,h,hz.run]
def zj (v:Value):HP:=fun _ h=>v= .pointer none\/∃g cs T,v= .pointer (some ⟨g,0,none⟩)/\h g=some (.cells cs T (0,0))
theorem PM {S:WP}{g:Nat}{cs:Array Value}{T:TypeId}(p:Pick L (pt g (.cells cs T (0,0))) L')(h:aR W (zj (.pointer (some ⟨g,0,none⟩))::L') S):aR W L S:=
 nh p (fun _ H=> .inr ⟨g,cs,T,rfl,H⟩) h
theorem Cb {S:WP}(h:aR W (zj (.pointer none)::L) S):aR W L S:=bu (.conv (B:=pu True) (fun _ _=> .inl rfl) (.pu trivial .refl)) h
theorem IF {t e:TypeId}{j:TypeInfo}{ox oy:Operand}{g:Nat}{ca:Array Value}{ta:TypeId}{v:Value}[ht:PtrT P t](hp:P.underlying t=some (.pointer e))(hte:P.info? e=some j)(hsz:j.size≠0):aT P W [zj v,pt g (.cells ca ta (0,0))] (eo .neq t ox oy (.pointer (some ⟨g,0,none⟩)) v) (.bool true):=fun w hw=>by
 obtain⟨b,f,⟨h1,h2,ha,r⟩,c⟩:=hw
 rcases ha with rfl|⟨g',cs,T,rfl,ha⟩
 ·refine tT (P:=P) (W:=W) w ?_
  exact⟨b,fun _=>none,trivial,fun _ _ e=>by cases e⟩
 ·have hw':sat W [pt g' (.cells cs T (0,0)),pt g (.cells ca ta (0,0))] w:=⟨b,f,⟨h1,h2,ha,r⟩,c⟩
  exact IE hp hte hsz w (hw'.pick (.there .here))
end Go.Proofs.YtdjkdjepjahjfaaGreatDoor.Sl
namespace Go.Proofs.YtdjkdjepjahjfaaGreatDoor.TP
open Go Go.Proofs Go.RowKit Sh Sl T FD
def q8:List UInt8:=[117,112]
def eY:List UInt8:=[47,97,112,105]
def rO:List UInt8:=[104,101,114,101]
def dR:List Value:=[az [47],.int .i64 3,az [],az [],.int .i64 0,.int .i64 0,az [],.bool false,.int .i64 0,.int .i64 0,.int .i64 200,az rO]
def cj:List Value:=[az eY,.int .i64 2,az [],az [],.int .i64 0,.int .i64 0,az q8,.bool true,.int .i64 0,.int .i64 0,.int .i64 0,az []]
abbrev AC:=Option Addr × Nat
structure Ca where
 u:AC
 p:AC
 s:AC
 l:AC
def jS (q:Ca)(tm rt:Int):List Value:=[az q8,.slice q.p.1 1 q.p.2,.int .i64 tm,.int .i64 rt]
def kR (q:Ca):List Value:=[.slice none 0 0,.bool false,.slice q.l.1 2 q.l.2]
def vz (st:Nat)(q:Ca):List Value:=[.int .i64 75,.int .i64 65536,.int .i64 (st:Int),.int .i64 1000,.slice q.u.1 1 q.u.2,.slice q.s.1 1 q.s.2]
def gH (q:Ca)(tm rt:Int):HP:=all [Sl 4 145 q.u.1 q.u.2 1 (jS q tm rt),Sl 2 315 q.p.1 q.p.2 1 [.int .i64 1,.int .i64 64],Sl 3 200 q.s.1 q.s.2 1 (kR q),Sl 12 101 q.l.1 q.l.2 2 (dR++cj)]
def oI (g:Nat):Value:= .iface 281 (pC g)
def zk (nu:Int)(t:List UInt8)(f:AC)(ans:Value):List Value:=[.int .i64 nu,az db,az t,.int .i64 1,.slice f.1 1 f.2,.bool true,ans]
def PN (nu:Int)(t:List UInt8)(f g:AC):List Value:=[.int .i64 nu,az db,az t,.int .i64 1,.slice f.1 1 f.2,.slice g.1 0 g.2]
def dZ (g:Nat)(nu:Int)(t:List UInt8)(f:AC)(ans:Value):HP:=pt g (.cells (zk nu t f ans).toArray 302)
def lS (f:AC):HP:=Sl 2 192 f.1 f.2 1 (fH.flatMap cT)
def d8 (r:AC)(ps:List Nat):HP:=jA 1 279 r.1 r.2 ps.length (ps.map oI)
theorem wu {W:World}{c:Nat}{bo ke ck si ln nu:Int}{rd bg:Bool}{nx hd rr q0 q1 q2 q3 got ev row out:Value}:aT p_ W [pt c (.cells #[.int .i64 bo,.int .i64 ke,.int .i64 ck,.int .i64 si,.bool rd,.bool bg,nx,hd,rr,.int .i64 ln,q0,q1,q2,q3,got,ev,row,.int .i64 nu,out] 175)] (aL 94 (.pointer (some ⟨c,10,none⟩))) (.agg #[q0,q1,q2,q3]):=
 jd (n:=4) (o:=10) (vs:=[q0,q1,q2,q3]) rfl fun i hi=>by
  rcases(show i=0\/i=1\/i=2\/i=3 by omega)with rfl|rfl|rfl|rfl <;> rfl
structure Rq where
 f:AC
 g:AC
 e:AC
 r:AC
 a:Nat
def CnS.rq (s:CnS)(c n:Nat)(x:Rq):CnS:={s with nx:=Ie c,bg:=false,si:=s.ck,rd:=true,nu:=s.nu+1,got:= .slice x.g.1 0 x.g.2,ev:= .slice x.e.1 1 x.e.2,row:= .slice x.r.1 (n+1) x.r.2}
def Gy (nu:Int)(t:List UInt8)(f:AC)(ps:List Nat)(x:Rq):List HP:=[lS f,lS x.f,Sl 6 96 x.e.1 x.e.2 1 (PN nu t x.f x.g),d8 x.r (ps++[x.a]),dZ x.a nu t f (.pointer none)]
def PO (s:CnS)(t:List UInt8)(f g r:AC)(n:Nat):Prop:=s.q0=az db/\s.q1=az t/\s.q2= .int .i64 1/\s.q3= .slice f.1 1 f.2/\s.got= .slice g.1 0 g.2/\s.ev= .slice none 0 0/\s.row= .slice r.1 n r.2/\n<63/\0<=s.nu/\s.nu<=1000000
theorem Cc {W:World}{c:Nat}{s:CnS}{t:List UInt8}{f g r:AC}{ps:List Nat}(h:PO s t f g r ps.length):
  Cn p_ 347 [pC c] W [bQ c s,lS f,d8 r ps] (fun _:Rq=> .tuple #[]) (fun x=>bQ c (s.rq c ps.length {x with g:=g})::Gy s.nu t f ps {x with g:=g}):=by
 (refine Shp.cn (Sg.g_ Tryz.call347 Tryz.func347 (an:={drs:=[(2,.ofL [(0,2),(1,2),(2,3),(3,3),(4,3),(5,1),(6,1),(7,1),(8,1),(9,1),(10,1),(11,1),(12,1),(13,1),(14,1),(15,0),(16,0),(17,1),(18,1),(19,0)]),(3,.ofL [(0,2),(1,3),(2,3),(3,3),(4,2),(5,3),(6,3),(7,3),(8,1),(9,1),(10,1),(11,1),(12,0),(13,1),(14,0),(15,1)])]}) (os:=[(2,[(15,[4,3,2])]),(3,[(12,[7,6,5,3,2,1])])])) fun F=>?_;simp only[ca_,na_])
 cases s
 rename_i bo ke ck si rd bg nx hd rr ln q0 q1 q2 q3 got ev row nu out
 obtain⟨h0,h1,h2,h3,h4,h5,h6,h7,h8,h9⟩:=h
 (try dsimp only at *)
 subst h0 h1 h2 h3 h4 h5 h6
 obtain⟨fa,fc⟩:=f
 obtain⟨ga,gc⟩:=g
 obtain⟨ra,rc⟩:=r
 unfold lS d8
 (try dsimp only)
 refine aN (by(repeat constructor):Pick _ (Sl 2 192 fa fc 1 (fH.flatMap cT)) _) fun _ _ _ hs=>?_
 have hA:gD W (Sl 2 192 fa fc 1 (fH.flatMap cT)) fa fH:=cg (l:=fH) hs
 have hfa:fa=none->fH=[]:=by
  rintro rfl
  obtain⟨g,hg⟩:=hs (by decide)
  cases hg
 (unfold bQ nJ;(try dsimp only))
 refine o_ ah (o_ ae (aB wu aA ?_))
 refine aS fun g=>?_;(((refine' aG ?hp ?hn ?hv ?h1 ?_);(case hp=>(repeat constructor));(case hn=>rfl);(case hv=>rfl);(case h1=>simp[Value.oneCell',az])));refine o_ ae (aM ?_)
 refine' aj (td (c:=fc) hA hfa (by decide)) ?hp fun q=>?_
 case hp=>(repeat(first|exact Picks.nil|(apply Picks.cons;(focus repeat constructor))))
 obtain⟨qa,qc⟩:=q
 rw[show fH.length=1 from rfl]
 refine aq ?_
 (try dsimp only)
 refine o_ ae (bU ?_);refine aV (ay ah .nil ?_);refine ay ae .nil ?_;(((refine' ay (aQ ?hc) ?hi ?_);(case hi=>exact .pick (by repeat constructor) .nil);(case hc=>repeat constructor)));refine t_ ah (t_ ae (cu ?_));(((refine' aP (bK ?hn) ?hi ?_);(case hi=>exact .pick (by repeat constructor) .nil);(case hn=>rfl)));refine t_ ah (t_ ae (cu ?_));refine t_ bM ?_
 refine d7 (n:=1) (vs:=[.agg #[.int .i64 nu,az db,az t,.int .i64 1,.slice qa 1 qc,.slice ga 0 gc]]) rfl (by decide) rfl (by intro v hv;rw[List.mem_singleton.1 hv];rfl) (by decide) fun gb=>?_
 refine cU (aI aA) (cU (aI aA) (cU (aI aA) ?_))
 refine iZ (s:=6) (e:=96) ?_
 refine bV (m:=1) (news:=PN nu t (qa,qc) (ga,gc)) .here (bR (s:=6) (e':=96) (by kernel_rfl) (by(repeat constructor):Pick _ (pt gb _) _) (by rfl) (by intro u hu;simp[PN,Value.cells]at hu;rcases hu with rfl|rfl|rfl|rfl|rfl|rfl <;> rfl)) (by decide) (by decide) fun ea ec=>?_
 rw[Nat.zero_add,List.nil_append]
 refine t_ ah (t_ ae (bU ?_));refine aV (ay ah .nil ?_);refine ay ae .nil ?_;(((refine' ay (aQ ?hc) ?hi ?_);(case hi=>exact .pick (by repeat constructor) .nil);(case hc=>repeat constructor)));refine ay ah .nil ?_;refine ay ae .nil ?_
 refine ay wu aA ?_
 refine t_ ah (t_ ae (aP wu aA ?_))
 refine' aj (Bv (c:=fc) hA oB Im) ?hp fun _=>?_
 case hp=>(repeat(first|exact Picks.nil|(apply Picks.cons;(focus repeat constructor))))
 refine aq ?_
 refine cU (aI aA) (cU (aI aA) (cU (aI aA) (cU (aI aA) (cU (aI aA) (cU (aI aA) ?_)))))
 refine t_ bM ?_;refine aU fun g=>?_;refine o_ ah (o_ ae (aM ?_))
 rename Nat=>G
 refine o_ AT ?_
 refine et (vs:=[oI G]) rfl rfl (by intro v hv;rw[List.mem_singleton.1 hv];rfl) (by decide) fun gr=>?_
 refine p8 (m:=1) (news:=[oI G]) (by(repeat constructor):Pick _ (jA 1 279 ra rc ps.length _) _) (bR (s:=1) (e':=279) (by kernel_rfl) (by(repeat constructor):Pick _ (pt gr _) _) (by rfl) (by intro u hu;rw[List.mem_singleton.1 hu];rfl)) (by omega) (by omega) fun ra' rc'=>?_
 refine o_ ah (o_ ae (bU ?_));refine o_ ah (o_ ae (aM ?_));refine bS ?_;refine o_ ah (o_ ae (bU ?_));refine o_ bP (o_ ah (o_ ae (aM ?_)));refine o_ ah (o_ ae (bU ?_));refine o_ ah (o_ ae (bU ?_));refine o_ ah (o_ ae (bU ?_));refine o_ ah (o_ ae (aM ?_));refine o_ ah (o_ ae (bU ?_));refine o_ ah (o_ ae (aM ?_));refine ab (ab (o_ ah (ab (o_ ae (ab (aM ?_))))));refine ab (o_ aK (ab ?_));(((refine o_ (Sl.bL ?hcq) ?_);(case hcq=>(first|omega|(simp only[List.length_nil,List.length_cons];omega)))));refine o_ av (af (aO ((⟨(qa,qc),(ga,gc),(ea,ec),(ra',rc'),G⟩:Rq)) ?_))
 unfold Gy lS d8 dZ zk CnS.rq
 rw[show(ps++[G]).length=ps.length+1 by simp,List.map_append]
 (try dsimp only)
 exact aA
def UP (g:Nat)(bo:Int):HP:=pt g (.cells (nI 0 0 bo 0 (none,0) 0 true).toArray 234)
theorem EJ {W:World}{c R:Nat}{s:CnS}{t:List UInt8}{f r:AC}{ps:List Nat}{a:Option Addr}{cap:Nat}(hr:s.rr=pC R)(h:PO s t f (none,0) r ps.length)(hb:0<=s.bo):
  Cn p_ 238 [pC c,.slice a 0 cap] W [bQ c s,Io R s.bo,lS f,d8 r ps] (fun x:AC × Rq=> .slice x.1.1 0 x.1.2) (fun x=>bQ c (s.rq c ps.length x.2)::UP R s.bo::Gy s.nu t f ps x.2):=by
 (refine Shp.cn (Sg.g_ Tryz.call238 Tryz.func238) fun F=>?_;simp only[ca_,na_])
 cases s
 rename_i bo ke ck si rd bg nx hd rr ln q0 q1 q2 q3 got ev row nu out
 obtain⟨h0,h1,h2,h3,h4,h5,h6,h7,h8,h9⟩:=h
 (try dsimp only at *)
 subst h0 h1 h2 h3 h4 h5 h6 hr
 unfold Io
 (unfold bQ nJ;(try dsimp only))
 refine o_ ah (o_ ae (aM ?_))
 refine' aj (Ia (G:=R) (most:=bo) hb) ?hp fun _=>?_
 case hp=>(repeat(first|exact Picks.nil|(apply Picks.cons;(focus repeat constructor))))
 refine aq ?_
 refine bI ?_;refine bI ?_;refine bI ?_;refine bI ?_;refine o_ ah (o_ ae (aM ?_))
 refine iZ (s:=1) (e:=5) (iZ (s:=1) (e:=5) ?_)
 refine bV (m:=0) (news:=[]) .here (nj (s:=1) (e':=5) (by kernel_rfl) (.there .here:Pick _ (Sl 1 5 none 0 0 []) _) (by simp)) (by decide) (by decide) fun ga gc=>?_
 refine o_ ah (o_ ae (bU ?_));(((refine o_ (Sl.bL ?hcq) ?_);(case hcq=>(first|omega|(simp only[List.length_nil,List.length_cons];omega)))));refine af ?_;(((refine o_ (Sl.cE ?hcq) ?_);(case hcq=>(first|omega|(simp only[List.length_nil,List.length_cons];omega)))));refine af (ai (iO (by repeat constructor) ?_))
 refine' aj (Cc (c:=c) (t:=t) (f:=f) (g:=(ga,gc)) (r:=r) (ps:=ps) ?hq) ?hp fun x=>?_
 case hp=>(repeat(first|exact Picks.nil|(apply Picks.cons;(focus repeat constructor))))
 case hq=>exact⟨rfl,rfl,rfl,rfl,rfl,rfl,rfl,h7,h8,h9⟩
 refine aq ?_
 refine o_ (lj 0 rfl (Nat.le_refl _)) ?_
 refine aO (((_,_),{x with g:=(ga,gc)})) ?_
 unfold UP
 (try dsimp only)
 exact aA
theorem PP {W:World}{L:List HP}{b2 b4:Nat}{Kret:WP}{Kp:PK}(h:aR W L Kret):aR W L (dfS p_ {target:= .fn (.func 144) #[.pointer (some ⟨b2,0,none⟩),.pointer (some ⟨b4,0,none⟩)],args:=#[]++ #[]} .returning Kret Kp):=by
 refine rx (f:=144) (A:=[.pointer (some ⟨b2,0,none⟩),.pointer (some ⟨b4,0,none⟩)]) (shape:=fun rv=>S.eL (.pointer (some ⟨b2,0,none⟩)) (.pointer (some ⟨b4,0,none⟩)) rv) (fun c=>by cases c) ⟨_,_,rfl⟩ (fe (cs:=[.pointer (some ⟨b2,0,none⟩),.pointer (some ⟨b4,0,none⟩)]) (bs:=[]) Tryz.call144) (fun h=>S.lL h) ?_
 unfold S.eL
 rw[mx,pK]
 refine o_ (jw (by kernel_rfl)) ?_
 exact af h
def CnS.took (s:CnS)(c n:Nat)(t:List UInt8)(H R:Nat)(f:AC)(x:Rq):CnS:={s with nx:=Ie c,hd:=pC H,rr:=pC R,ln:=0,q0:=az db,q1:=az t,q2:= .int .i64 1,q3:= .slice f.1 1 f.2,got:= .slice x.g.1 0 x.g.2,ev:= .slice x.e.1 1 x.e.2,row:= .slice x.r.1 (n+1) x.r.2,rd:=true,bg:=false,si:=s.ck,nu:=s.nu+1}
theorem PQ {W:World}[hG:Gl W]{c H:Nat}{s:CnS}{b t:List UInt8}{r:AC}{ps:List Nat}{a:Option Addr}{cap:Nat}{A:HP}(hA:RdB W A a b.length (b.map Sl.B))(hr:Pv b t)(hcap:b.length<=cap)(hn:s.nx=Ie c)(hh:s.hd=pC H)(hrd:s.rd=true)(hev:s.ev= .slice none 0 0)(hrow:s.row= .slice r.1 ps.length r.2)(hp:ps.length<63)(hu0:0<=s.nu)(hu:s.nu<=1000000)(hb0:0<=s.bo)(hb:s.bo<=1048576):
  Cn p_ 78 [pC c,.slice a b.length cap] W [bQ c s,zj s.rr,dJ H (fq false),A,d8 r ps] (fun x:AC × (Nat × Nat × AC × Rq)=> .slice x.1.1 0 x.1.2)
   (fun x=>bQ c (s.took c ps.length t x.2.1 x.2.2.1 x.2.2.2.1 x.2.2.2.2)::dJ x.2.1 (fq false)::zj (pC x.2.2.1)::A::Gy s.nu t x.2.2.2.1 ps x.2.2.2.2):=by
 (refine S.nv.cn fun F=>?_;unfold S.kf;simp only[ca_,na_])
 cases s
 rename_i bo ke ck si rd bg nx hd rr ln q0 q1 q2 q3 got ev row nu out
 (try dsimp only at *)
 subst hn hh hrd hev hrow
 (unfold bQ nJ;(try dsimp only))
 refine cA fun g=>?_;refine dH fun g=>?_;refine o_ bP (ni ?_)
 refine aM ?_;refine o_ ah (o_ ae (aM ?_));refine aM ?_;refine o_ ah (o_ ae (aM ?_))
 refine iO (by repeat constructor) ?_
 refine' ey (first:=[pC c]) (args:=[.slice a b.length cap]) (cap:=[]) (Ir (c:=c) (H:=H) (t:=t) hA hr hcap ?hc1 ?hc2 ?hc3) ?hp fun x=>?_
 case hp=>(repeat(first|exact Picks.nil|(apply Picks.cons;(focus repeat constructor))))
 case hc1=>rfl
 case hc2=>exact hb0
 case hc3=>exact hb
 obtain⟨⟨xa,xc⟩,b1,s1,H2,R,f⟩:=x
 unfold Io
 refine aq ?_
 (try dsimp only)
 (unfold bQ nJ;(try dsimp only))
 refine bU ?_;refine aM ?_;refine o_ ah (o_ ae (aM ?_))
 refine aB (IF (t:=120) (e:=234) (j:=Tryz.t234) (by kernel_rfl) (by kernel_rfl) (by decide+kernel)) aA ?_
 refine ab (aM ?_);refine ab (o_ ah (ab (o_ ae (ab (aM ?_)))));refine o_ av (ai (aV (cu ?_)));refine t_ ah (t_ ae (cu ?_));refine cu ?_
 refine iO (by repeat constructor) ?_
 refine' ey (first:=[pC c]) (args:=[.slice xa 0 xc]) (cap:=[]) (EJ (c:=c) (R:=R) (t:=t) (f:=f) (r:=r) (ps:=ps) ?hc1 ?hc2 ?hc3) ?hp fun y=>?_
 case hp=>unfold Io;(repeat(first|exact Picks.nil|(apply Picks.cons;(focus repeat constructor))))
 case hc1=>rfl
 case hc2=>exact⟨rfl,rfl,rfl,rfl,rfl,rfl,rfl,hp,hu0,hu⟩
 case hc3=>exact hb0
 obtain⟨⟨ya,yc⟩,y⟩:=y
 refine aq ?_
 (try dsimp only)
 refine bU ?_;refine aM ?_;refine bU ?_
 refine PP ?_
 unfold S.aH
 (((refine' aP (dh ?hc) ?hi ?_);(case hi=>exact aA);(case hc=>repeat constructor)))
 unfold UP
 refine PM (by(repeat constructor):Pick _ (pt R _) _) ?_
 refine aO (((ya,yc),H2,R,f,y)) ?_
 unfold CnS.took CnS.rq
 (try dsimp only)
 exact aA
theorem IG {W:World}{g:Nat}{nu:Int}{t:List UInt8}{f:AC}{p:Option Addr}:Cn p_ 608 [pC g] W [dZ g nu t f (.pointer p)] (fun _:Unit=> .bool p.isNone) (fun _=>[dZ g nu t f (.pointer p)]):=by
 (refine Shp.cn (Sg.g_ Tryz.call608 Tryz.func608) fun F=>?_;simp only[ca_,na_])
 unfold dZ zk
 refine o_ ah (o_ ae (aM ?_))
 refine o_ ss ?_
 refine aO () ?_
 exact .refl
theorem xP {W:World}{L L':List HP}{Kp:PK}{k:Value->WP}{g:Nat}{nu:Int}{t:List UInt8}{f:AC}{p:Option Addr}(h:Pick L (dZ g nu t f (.pointer p)) L')(hk:aR W (dZ g nu t f (.pointer p)::L') (k (.bool p.isNone))):aR W L (opN p_ (Ae (oI g) "gatehouse/conn.waits" []) Kp k):=
 Gi (f:=608) (fun w=>by kernel_rfl) IG (.cons h .nil) fun _=>by refine aq ?_;exact hk
theorem EK {W:World}{c p:Nat}{s:CnS}{nu:Int}{t:List UInt8}{f r:AC}{ps:List Nat}(hrow:s.row= .slice r.1 (ps.length+1) r.2)(hps:ps.length<64):
  Cn p_ 79 [pC c] W [bQ c s,d8 r (p::ps),dZ p nu t f (.pointer none)] (fun _:Unit=> .tuple #[]) (fun _=>[bQ c s,d8 r (p::ps),dZ p nu t f (.pointer none)]):=by
 (refine Shp.cn (Sg.g_ Tryz.call79 Tryz.func79 (an:={cuts:=[(13,[5]),(14,[])],loops:=[(1,[])],drs:=[(5,.ofL [(0,2),(1,2),(2,3),(3,3),(4,3),(5,1),(6,0),(7,0),(8,1),(9,1),(10,0)])]}) (os:=[(5,[(6,[4,3,2])])])) fun F=>?_;simp only[ca_,na_])
 cases s
 rename_i bo ke ck si rd bg nx hd rr ln q0 q1 q2 q3 got ev row nu out
 (try dsimp only at *)
 subst hrow
 obtain⟨ra,rc⟩:=r
 unfold d8
 rw[List.length_cons]
 refine Sl.f6 (by(repeat constructor):Pick _ (jA 1 279 ra rc (ps.length+1) _) _) fun _ _ _ hs=>?_
 obtain⟨G,o,rfl⟩:=hs (by omega)
 (unfold bQ nJ;(try dsimp only))
 refine o_ ah (o_ ae (aM ?_));refine o_ aK (jl (fun m=>_) 0 .refl ?_)
 intro m ds
 refine o_ ah (o_ ae (aM ?_));refine o_ aK ?_;(((refine o_ (Sl.gO ?hcq) ?_);(case hcq=>(first|omega|(simp only[List.length_nil,List.length_cons];omega)))));refine ab (ab (o_ ah (ab (o_ ae (ab (aM ?_))))));refine ab ?_;(((refine' aB (br 0 rfl ?hcq) .nil ?_);(case hcq=>(first|omega|decide|(simp;done)))));refine ab (aB (pZ (j:=0) (v:=oI p) rfl) aA ?_)
 refine ab (xP (by repeat constructor) ?_)
 refine ab (o_ bA (o_ av (af ?_)));(((refine o_ (Sl.gO ?hcq) ?_);(case hcq=>(first|omega|(simp only[List.length_nil,List.length_cons];omega)))));refine ab (ab (o_ ah (ab (o_ ae (ab (aM ?_))))));refine ab (o_ aK (ab ?_));(((refine o_ (Sl.bL ?hcq) ?_);(case hcq=>(first|omega|(simp only[List.length_nil,List.length_cons];omega)))));refine o_ av (ao (ao (ao (ao (ao (o_ am (af (aO () ?_))))))))
 exact aA
def CnS.inp (s:CnS)(c:Nat)(now:Int)(t:List UInt8)(x:Nat × Nat × AC × Rq):CnS:={({s with ck:=now}:CnS).took c 0 t x.1 x.2.1 x.2.2.1 x.2.2.2 with ev:= .slice none 0 0}
theorem IH {W:World}[hG:Gl W]{c H:Nat}{s:CnS}{now:Int}{b t:List UInt8}{r:AC}{a:Option Addr}{cap:Nat}{A:HP}(hA:RdB W A a b.length (b.map Sl.B))(hr:Pv b t)(hcap:b.length<=cap)(hn:s.nx=Ie c)(hh:s.hd=pC H)(hrd:s.rd=true)(hev:s.ev= .slice none 0 0)(hrow:s.row= .slice r.1 0 r.2)(hu0:0<=s.nu)(hu:s.nu<=1000000)(hb0:0<=s.bo)(hb:s.bo<=1048576)(hck:s.ck<=now)(hnow:now<=1099511627776):
  Cn p_ 33 [pC c,.slice a b.length cap,.int .i64 now] W [bQ c s,zj s.rr,dJ H (fq false),A,d8 r []] (fun x:Nat × Nat × AC × Rq=> .slice x.2.2.2.e.1 1 x.2.2.2.e.2)
   (fun x=>bQ c (s.inp c now t x)::dJ x.1 (fq false)::zj (pC x.2.1)::A::Gy s.nu t x.2.2.1 [] x.2.2.2):=by
 (refine Shp.cn (Sg.g_ Tryz.call33 Tryz.func33 (an:={loops:=[(4,[1])]})) fun F=>?_;simp only[ca_,na_])
 have hb1:=hr.2.1
 refine' aj (uu (c:=c) hn) ?hp fun _=>?_
 case hp=>(repeat(first|exact Picks.nil|(apply Picks.cons;(focus repeat constructor))))
 refine aq ?_
 refine af ?_
 refine' aj (Bu (c:=c) hck hnow) ?hp fun _=>?_
 case hp=>(repeat(first|exact Picks.nil|(apply Picks.cons;(focus repeat constructor))))
 refine aq ?_
 refine a_ (fun m y=>match m with|0=>[ex fun x:AC × (Nat × Nat × AC × Rq)=>all (pu (y= .slice x.1.1 0 x.1.2)::bQ c (({s with ck:=now}:CnS).took c 0 t x.2.1 x.2.2.1 x.2.2.2.1 x.2.2.2.2)::dJ x.2.1 (fq false)::zj (pC x.2.2.1)::A::Gy s.nu t x.2.2.2.1 [] x.2.2.2.2)]++F|_=>pu (y= .slice a b.length cap)::bQ c {s with ck:=now}::zj s.rr::dJ H (fq false)::A::d8 r []::F) 1 ?_ ?_
 ·exact .pu rfl aA
 intro m ds y
 cases m with
 |succ m=>
  refine aX .here fun hy=>?_
  subst hy
  cases s
  rename_i bo ke ck si rd bg nx hd rr ln q0 q1 q2 q3 got ev row nu out
  (try dsimp only at *)
  subst hn hh hrd hev hrow
  (unfold bQ nJ;(try dsimp only))
  refine o_ ah (o_ ae (aM ?_));refine ab (ab (o_ aK (ab ?_)));(((refine o_ (Sl.gO ?hcq) ?_);(case hcq=>(first|omega|(simp only[List.length_nil,List.length_cons];omega)))));refine o_ av (ai (iO (by repeat constructor) ?_))
  refine' aj (PQ (c:=c) (H:=H) (t:=t) (r:=r) (ps:=[]) hA hr hcap ?h1 ?h2 ?h3 ?h4 ?h5 ?h6 ?h7 ?h8 ?h9 ?h10) ?hp fun x=>?_
  case hp=>(repeat(first|exact Picks.nil|(apply Picks.cons;(focus repeat constructor))))
  case h1=>rfl
  case h2=>rfl
  case h3=>rfl
  case h4=>rfl
  case h5=>rfl
  case h6=>decide
  case h7=>exact hu0
  case h8=>exact hu
  case h9=>exact hb0
  case h10=>exact hb
  refine bq 0 (by omega) (.ex x (.all ?_))
  refine aq ?_
  exact .pu rfl aA
 |zero=>
  refine bt .here fun x=>aE .here ?_
  refine aq ?_
  refine aX .here fun hy=>?_
  obtain⟨⟨xa,xc⟩,H2,R,f,x⟩:=x
  (try dsimp only at hy ⊢)
  subst hy
  unfold Gy CnS.took
  refine aq ?_
  (try dsimp only)
  (unfold bQ nJ;(try dsimp only))
  refine o_ ah (o_ ae (aM ?_));refine ab (ab (o_ aK (ab ?_)));(((refine o_ (Sl.bZ ?hcq) ?_);(case hcq=>(first|omega|(simp only[List.length_nil,List.length_cons];omega)))));refine o_ av (af (iO (by repeat constructor) ?_))
  refine' aj (EK (c:=c) (p:=x.a) (r:=x.r) (ps:=[]) ?h1 ?h2) ?hp fun _=>?_
  case hp=>(repeat(first|exact Picks.nil|(apply Picks.cons;(focus repeat constructor))))
  case h1=>rfl
  case h2=>decide
  refine aq ?_
  (unfold bQ nJ;(try dsimp only))
  refine o_ ah (o_ ae (aM ?_));refine o_ ah (o_ ae (bU ?_))
  refine aO ((H2,R,f,x)) ?_
  unfold CnS.inp CnS.took
  refine aq ?_
  (try dsimp only)
  exact aA
def II:List UInt8:=[75,101,101,112,45,65,108,105,118,101]
def Gz (X:List FD.Fd)(D:List UInt8):List FD.Fd:=cX (cX X [nK,Eu,II]) [qm]++[(qm,ei D.length)]
def iy (X:List FD.Fd)(D:List UInt8):List UInt8:=qR nH (Gz X D)++D
def ir (X:List FD.Fd)(D:List UInt8)(x d:AC):List Value:=[.int .i64 200,.slice x.1 X.length x.2,.slice d.1 D.length d.2]
def ly (g:Nat)(X:List FD.Fd)(D:List UInt8)(x d:AC):HP:=pt g (.cells (ir X D x d).toArray 48)
theorem qy {X:List FD.Fd}(N:List (List UInt8))(h:oz X):oz (cX X N):=⟨Nat.le_trans (ky X N) h.1,fun f hf=>h.2 f (List.mem_filter.1 hf).1⟩
theorem Cd {W:World}{L:List HP}{k:Value->WP}{Kp:PK}(N:List (List UInt8)){n:Nat}{ps:List (Nat × Value)}(hn:N.length=n)(hp:ps=(N.map az).zipIdx.map fun x=>(x.2,x.1))(hm:n<=100)(h:∀g,aR W (pt g (.cells (N.map az).toArray 9)::L) (k (.slice (some ⟨g,0,none⟩) n n))):aR W L (opN p_ (cm 33 n ps) Kp k):=
 et (vs:=N.map az) (by rw[List.length_map];exact hn) hp (by intro v hv;obtain⟨c,_,rfl⟩:=List.mem_map.1 hv;rfl) (by omega) h
theorem GA {W:World}{L L':List HP}{k:Value->WP}{Kp:PK}{X:List FD.Fd}{a:Option Addr}{c:Nat}{n v:List UInt8}(p:Pick L (Sl 2 192 a c X.length (X.flatMap cT)) L')(hX:X.length<=4194304)(h:∀a' c',aR W (Sl 2 192 a' c' (X++[(n,v)]).length ((X++[(n,v)]).flatMap cT)::L') (k (.slice a' (X++[(n,v)]).length c'))):
  aR W L (opN p_ (cm 46 1 [(0,.agg #[az n,az v])]) Kp fun y=>opN p_ (jU #[46,46] 46 [.slice a X.length c,y]) Kp k):=by
 refine d7 (n:=1) (vs:=[.agg #[az n,az v]]) rfl (by decide) rfl (by intro v hv;rw[List.mem_singleton.1 hv];rfl) (by decide) fun g=>?_
 refine bV (m:=1) (news:=[az n,az v]) (.there p) (bR (s:=2) (e':=192) (by kernel_rfl) .here (by rfl) (by intro u hu;simp[Value.cells]at hu;rcases hu with rfl|rfl <;> rfl)) (by omega) (by omega) fun a' c'=>?_
 have e1:(X++[(n,v)]).length=X.length+1:=by simp
 have e2:(X++[(n,v)]).flatMap cT=X.flatMap cT++[az n,az v]:=by simp[cT]
 rw[<- e1,<- e2]
 exact bu (.pick .here (.drop .refl)) (h a' c')
theorem Ce {W:World}[hG:Gp W]{c p ra:Nat}{s:CnS}{nu:Int}{t:List UInt8}{f r xx dd:AC}{X:List FD.Fd}{D:List UInt8}{AX AD:HP}(hrow:s.row= .slice r.1 1 r.2)(hrd:s.rd=true)(hX:gD W AX xx.1 X)(hXk:oz X)(hD:RdB W AD dd.1 D.length (D.map Sl.B))(hd0:dd.1=none->D.length=0)(hh:jQ nH (Gz X D)=true)(hDl:D.length<=1048576):
  Cn p_ 146 [pC c,pC p] W [bQ c s,dZ p nu t f (pC ra),ly ra X D xx dd,AX,AD] (fun q:AC=> .tuple #[.slice q.1 (iy X D).length q.2,.int .i64 0])
   (fun q=>[bQ c s,dZ p nu t f (pC ra),ly ra X D xx dd,AX,AD,jA 1 5 q.1 q.2 (iy X D).length ((iy X D).map Sl.B)]):=by
 (refine Shp.cn (Sg.g_ Tryz.call146 Tryz.func146 (an:={cuts:=[(7,[9]),(9,[9]),(11,[67]),(14,[9])]})) fun F=>?_;simp only[ca_,na_])
 cases s
 rename_i bo ke ck si rd bg nx hd rr ln q0 q1 q2 q3 got ev row nu2 out
 (try dsimp only at *)
 subst hrow hrd
 obtain⟨xa,xc⟩:=xx
 obtain⟨da,dc⟩:=dd
 unfold dZ zk ly ir
 (unfold bQ nJ;(try dsimp only))
 refine o_ ah (o_ ae (aM ?_));refine o_ ah (o_ ae (o_ dP (aM ?_)))
 refine o_ (Sl.fK (m:=[72,69,65,68]) (by decide)) ?_
 refine o_ cP (ab (ab (o_ ah (ab (o_ ae (ab (aM ?_)))))));refine ab ?_;(((refine o_ (Sl.kq ?hcq) ?_);(case hcq=>(first|omega|(simp only[List.length_nil,List.length_cons];omega)))));refine o_ av (ab (ab (o_ ah (ab (o_ ae (ab (aM ?_)))))));refine ab ?_;(((refine o_ (Sl.kq ?hcq) ?_);(case hcq=>(first|omega|(simp only[List.length_nil,List.length_cons];omega)))));refine o_ av (o_ ah (o_ ae (aM ?_)))
 refine Cd [nK,Eu,II] rfl rfl (by decide) fun gb=>?_
 refine' aj (iJ (l:=X) (N:=[nK,Eu,II]) hX hXk (fE (by rfl)) (by decide) (by decide)) ?hp fun q=>?_
 case hp=>(repeat(first|exact Picks.nil|(apply Picks.cons;(focus repeat constructor))))
 obtain⟨qa,qc⟩:=q
 refine aq ?_
 (try dsimp only)
 refine aN (by(repeat constructor):Pick _ (Sl 2 192 qa qc _ _) _) fun _ _ _ hs=>?_
 have hk1:=qy [nK,Eu,II] hXk
 have hQ:=cg (W:=W) (a:=qa) (c:=qc) (l:=cX X [nK,Eu,II]) hs
 obtain⟨X1,hX1⟩:∃X1,X1=cX X [nK,Eu,II]:=⟨_,rfl⟩
 unfold Gz at hh
 rw[<- hX1]at hk1 hQ hh ⊢
 refine fA ?_
 refine o_ cP (ab (ab (o_ ah (ab (o_ ae (ab (aM ?_)))))));refine ab ?_;(((refine o_ (Sl.kq ?hcq) ?_);(case hcq=>(first|omega|(simp only[List.length_nil,List.length_cons];omega)))));refine o_ av (ai (cZ fun g=>?_))
 rename Nat=>gc
 refine' aj (iJ (l:=X1) (N:=[qm]) hQ hk1 (fE (by rfl)) (by decide) (by decide)) ?hp fun q=>?_
 case hp=>(repeat(first|exact Picks.nil|(apply Picks.cons;(focus repeat constructor))))
 obtain⟨pa,pc⟩:=q
 refine aq ?_
 (try dsimp only)
 refine ip fun ds=>?_
 have hk2:=(qy [qm] hk1).1
 obtain⟨X2,hX2⟩:∃X2,X2=cX X1 [qm]:=⟨_,rfl⟩
 rw[<- hX2]at hk2 hh ⊢
 refine fA ?_
 refine ai (o_ ah (o_ ae (aM ?_)));refine o_ aK (c_ (eI (i:=(D.length:Int)) (by omega) (by omega)) fun _=>?_)
 refine o_ bM ?_
 refine GA (n:=qm) (v:=ei D.length) (by(repeat constructor):Pick _ (Sl 2 192 pa pc _ _) _) hk2 fun wa wc=>?_
 refine ip fun ds=>?_
 refine fA ?_
 refine fA ?_
 refine o_ ah (o_ ae (aM ?_));refine o_ bA (af (o_ ah (o_ ae (aM ?_))));refine o_ aK ?_;(((refine o_ (Sl.cv ?hcq) ?_);(case hcq=>(first|omega|(simp only[List.length_nil,List.length_cons];omega)))));refine ab (ab (o_ ah (ab (o_ ae (ab (aM ?_))))));refine ab (o_ bA (o_ av (ip fun ds=>?_)))
 refine af (o_ ah (o_ ae (o_ dP (aM ?_))));(((refine o_ (Sl.bL ?hcq) ?_);(case hcq=>(first|omega|(simp only[List.length_nil,List.length_cons];omega)))));refine af (ip fun ds=>?_)
 refine o_ ah (o_ ae (aM ?_))
 refine aN (by(repeat constructor):Pick _ (Sl 2 192 wa wc _ _) _) fun _ _ _ hs=>?_
 have hW:=cg (W:=W) (a:=wa) (c:=wc) (l:=X2++[(qm,ei D.length)]) hs
 refine' aj (qf hW hh) ?hp fun q=>?_
 case hp=>(repeat(first|exact Picks.nil|(apply Picks.cons;(focus repeat constructor))))
 obtain⟨ba,bc⟩:=q
 refine aq ?_
 (try dsimp only)
 refine bI ?_;refine bI ?_;refine ai (o_ ah (o_ ae (aM ?_)))
 have hwb:iy X D=qR nH (X2++[(qm,ei D.length)])++D:=by unfold iy Gz;rw[<- hX1,<- hX2]
 simp only[jQ,Bool.and_eq_true,decide_eq_true_eq]at hh
 have hl:=hh.2
 obtain⟨Hd,hHd⟩:∃Hd,Hd=qR nH (X2++[(qm,ei D.length)]):=⟨_,rfl⟩
 rw[<- hHd]at hwb hl ⊢
 rw[hwb]
 have e1:(Hd++D).length=Hd.length+D.length:=List.length_append
 rw[e1,List.map_append]
 refine p8 (m:=D.length) (news:=D.map Sl.B) (by(repeat constructor):Pick _ (jA 1 5 ba bc _ _) _) (nk (e':=5) (by kernel_rfl) (by(repeat constructor):Pick _ AD _) hD hd0 (by intro u hu;obtain⟨c,_,rfl⟩:=List.mem_map.1 hu;rfl)) (by omega) (by omega) fun a' c'=>?_
 refine aO ((a',c')) ?_
 exact aA
def mS (o:AC)(O:List UInt8):HP:=jA 1 5 o.1 o.2 O.length (O.map Sl.B)
theorem EL (X:List FD.Fd)(D:List UInt8):0<(iy X D).length:=by unfold iy qR;simp[nH]
def CnS.wrote (s:CnS)(n:Nat)(x:AC × AC):CnS:={s with out:= .slice x.1.1 n x.1.2,row:= .slice x.2.1 0 x.2.2,si:=s.ck}
theorem EM {W : World} [hG : Gp W] {c p ra : Nat} {s : CnS} {nu : Int} {t O : List UInt8} {f r o xx dd : AC} {X : List FD.Fd} {D : List UInt8} {AX AD : HP} (hrow : s.row = .slice r.1 1 r.2) (hrd : s.rd = true) (hbg : s.bg = false) (ho : s.out = .slice o.1 O.length o.2) (hX : gD W AX xx.1 X) (hXk : oz X) (hD : RdB W AD dd.1 D.length (D.map Sl.B)) (hd0 : dd.1 = none -> D.length = 0) (hh : jQ nH (Gz X D) = true) (hDl : D.length <= 1048576) (hOl : O.length <= 1000000000) :
  Cn p_ 79 [pC c] W [bQ c s, d8 r [p], mS o O, dZ p nu t f (pC ra), ly ra X D xx dd, AX, AD] (fun _ : AC × AC => .tuple #[])
   (fun x => [bQ c (s.wrote (O ++ iy X D).length x), mS x.1 (O ++ iy X D), d8 x.2 [], AX, AD]) := by
 (refine Shp.cn (Sg.g_ Tryz.call79 Tryz.func79 (an := { cuts := [(13, [5]), (14, [])], loops := [(1, [])], drs := [(5, .ofL [(0, 2), (1, 2), (2, 3), (3, 3), (4, 3), (5, 1), (6, 0), (7, 0), (8, 1), (9, 1), (10, 0)])] }) (os := [(5, [(6, [4, 3, 2])])])) fun F => ?_; simp only [ca_, na_])
 cases s
 rename_i bo ke ck si rd bg nx hd rr ln q0 q1 q2 q3 got ev row nu2 out
 (try dsimp only at *)
 subst hrow hrd hbg ho
 have hwl : (iy X D).length <= 2000000 := by
  simp only [jQ, Bool.and_eq_true, decide_eq_true_eq] at hh
  unfold iy
  rw [List.length_append]
  omega
 (unfold bQ nJ; (try dsimp only))
 refine aB ah .nil ?_; refine aB ae .nil ?_; (((refine' aB (aQ ?hc) ?hi ?_); (case hi => exact .pick (by repeat constructor) .nil); (case hc => repeat constructor))); refine aB aK .nil ?_
 refine jl (fun m => match m with | 0 => [ex fun x : AC × AC => all [bQ c ⟨bo, ke, ck, si, true, false, nx, hd, rr, ln, q0, q1, q2, q3, got, ev, .slice x.2.1 0 x.2.2, nu2, .slice x.1.1 (O ++ iy X D).length x.1.2⟩, mS x.1 (O ++ iy X D), d8 x.2 [], AX, AD]] ++ F | _ => bQ c ⟨bo, ke, ck, si, true, false, nx, hd, rr, ln, q0, q1, q2, q3, got, ev, .slice r.1 1 r.2, nu2, .slice o.1 O.length o.2⟩ :: d8 r [p] :: mS o O :: dZ p nu t f (pC ra) :: ly ra X D xx dd :: AX :: AD :: F) 1 ?_ ?_
 ·(repeat (first | exact .refl | exact .nil | (apply Imp.pick; (focus ((repeat constructor); done))) | refine .drop ?_))
 intro m ds
 cases m with
 | succ m =>
  obtain ⟨ra_, rc⟩ := r
  unfold d8
  rw [show [p].length = 1 from rfl, show [p].map oI = [oI p] from rfl]
  refine Sl.f6 (by (repeat constructor) : Pick _ (jA 1 279 ra_ rc 1 _) _) fun _ _ _ hs => ?_
  obtain ⟨G, o_, rfl⟩ := hs (by decide)
  (unfold bQ nJ; (try dsimp only))
  refine aB ah .nil ?_; refine aB ae .nil ?_; (((refine' aB (aQ ?hc) ?hi ?_); (case hi => exact .pick (by repeat constructor) .nil); (case hc => repeat constructor))); refine aB aK .nil ?_; (((refine aB (Sl.gO ?hcq) .nil ?_); (case hcq => (first | omega | (simp only [List.length_nil, List.length_cons]; omega))))); refine ab ?_; refine ab ?_; refine aB ah .nil ?_; refine ab ?_; refine aB ae .nil ?_; refine ab ?_; (((refine' aB (aQ ?hc) ?hi ?_); (case hi => exact .pick (by repeat constructor) .nil); (case hc => repeat constructor))); refine ab ?_; (((refine' aB (br 0 rfl ?hcq) .nil ?_); (case hcq => (first | omega | decide | (simp; done))))); refine ab ?_
  refine aB (pZ (j := 0) (v := oI p) rfl) (by (repeat (first | exact .refl | exact .nil | (apply Imp.pick; (focus ((repeat constructor); done))) | refine .drop ?_))) ?_
  refine ab ?_
  refine xP (p := some ⟨ra, 0, none⟩) (by repeat constructor) ?_
  refine ab ?_; refine aB cP .nil ?_; refine aB av .nil ?_; refine ai ?_
  refine eb ?_
  refine aB ah .nil ?_; refine aB ae .nil ?_; (((refine' aB (aQ ?hc) ?hi ?_); (case hi => exact .pick (by repeat constructor) .nil); (case hc => repeat constructor))); (((refine' aB (br 0 rfl ?hcq) .nil ?_); (case hcq => (first | omega | decide | (simp; done)))))
  refine aB (pZ (j := 0) (v := oI p) rfl) (by (repeat (first | exact .refl | exact .nil | (apply Imp.pick; (focus ((repeat constructor); done))) | refine .drop ?_))) ?_
  refine aB (PJ (a := 242) (k := .i64) (by kernel_rfl) (by decide)) .nil ?_
  (((refine' aB (bk ?hc) .nil ?_); (case hc => repeat constructor))); (((refine' aB (bk ?hc) .nil ?_); (case hc => repeat constructor))); refine af ?_
  refine aB (Gw (a := 281)) .nil ?_
  (((refine' aB (bk ?hc) .nil ?_); (case hc => repeat constructor))); (((refine' aB (bk ?hc) .nil ?_); (case hc => repeat constructor))); refine ai ?_
  refine iO (by repeat constructor) ?_
  refine' aj (Ce (c := c) (p := p) (ra := ra) (r := (some ⟨G, o_, none⟩, rc)) (xx := xx) (dd := dd) (t := t) (f := f) ?h1 ?h2 hX hXk hD hd0 hh hDl) ?hp fun q => ?_
  case hp => (repeat (first | exact Picks.nil | (apply Picks.cons; (focus repeat constructor))))
  case h1 => rfl
  case h2 => rfl
  obtain ⟨ba, bc⟩ := q
  (try simp only [ca_, na_, -eq_self])
  (try dsimp only)
  (((refine' aB (bk ?hc) .nil ?_); (case hc => repeat constructor))); (((refine' aB (bk ?hc) .nil ?_); (case hc => repeat constructor)))
  refine fA ?_
  (((refine aB (Sl.cE ?hcq) .nil ?_); (case hcq => (first | omega | (simp only [List.length_nil, List.length_cons]; omega))))); refine af ?_
  refine ip fun ds => ?_
  (unfold bQ nJ; (try dsimp only))
  refine aB ah .nil ?_; refine aB ae .nil ?_; (((refine' aB (aQ ?hc) ?hi ?_); (case hi => exact .pick (by repeat constructor) .nil); (case hc => repeat constructor)))
  refine Sl.f6 (by (repeat constructor) : Pick _ (jA 1 5 ba bc _ _) _) fun _ _ _ hb => ?_
  obtain ⟨G2, o2, rfl⟩ := hb (EL X D)
  unfold mS
  have hR : RdB W (jA 1 5 (some ⟨G2, o2, none⟩) bc (iy X D).length ((iy X D).map Sl.B)) (some ⟨G2, o2, none⟩) (iy X D).length ((iy X D).map Sl.B) := by
   have := Bd (W := W) (e := 5) (g := G2) (o := o2) (cap := bc) (n := (iy X D).length) (s := 1) (cs := (iy X D).map Sl.B) (by simp)
   rwa [Nat.mul_one] at this
  refine p8 (m := (iy X D).length) (news := (iy X D).map Sl.B) (by (repeat constructor) : Pick _ (jA 1 5 o.1 o.2 _ _) _) (nk (e' := 5) (by kernel_rfl) (by (repeat constructor) : Pick _ (jA 1 5 (some ⟨G2, o2, none⟩) bc _ _) _) hR (fun h => by cases h) (by intro u hu; obtain ⟨c, _, rfl⟩ := List.mem_map.1 hu; rfl)) (by omega) (by omega) fun a' c' => ?_
  refine aB ah .nil ?_; refine aB ae .nil ?_; (((refine' e_ ?hp ?ho ?_); (case hp => (repeat constructor)); (case ho => repeat constructor)))
  refine ip fun ds => ?_
  refine aB ah .nil ?_; refine aB ae .nil ?_; (((refine' aB (aQ ?hc) ?hi ?_); (case hi => exact .pick (by repeat constructor) .nil); (case hc => repeat constructor)))
  refine aB (lj 1 rfl (Nat.le_refl _)) .nil ?_
  refine Sl.uq (l := 1) (by (repeat constructor) : Pick _ (jA 1 279 _ rc 1 _) _) (Nat.le_refl _) ?_
  refine aB ah .nil ?_; refine aB ae .nil ?_; (((refine' e_ ?hp ?ho ?_); (case hp => (repeat constructor)); (case ho => repeat constructor)))
  refine oS 0 (by omega) (.ex ((a', c'), (if rc = 1 then some ⟨G, o_, none⟩ else (some (⟨G, o_, none⟩ : Addr)).map (·.add (1 * 1)), rc - 1)) (.all ?_))
  (try dsimp only)
  rw [List.length_append, List.map_append]
  (try simp only [ca_, na_, -eq_self])
  (repeat (first | exact .refl | exact .nil | (apply Imp.pick; (focus ((repeat constructor); done))) | refine .drop ?_))
 | zero => 
  refine bt .here fun x => aE .here ?_
  (try simp only [ca_, na_, -eq_self])
  (unfold bQ nJ; (try dsimp only))
  refine aB ah .nil ?_; refine aB ae .nil ?_; (((refine' aB (aQ ?hc) ?hi ?_); (case hi => exact .pick (by repeat constructor) .nil); (case hc => repeat constructor))); refine aB aK .nil ?_; (((refine aB (Sl.bZ ?hcq) .nil ?_); (case hcq => (first | omega | (simp only [List.length_nil, List.length_cons]; omega))))); refine ao ?_; refine ao ?_; refine ao ?_; refine ao ?_; refine ao ?_; refine ao ?_; refine ao ?_; refine ao ?_; refine aB am .nil ?_; refine af ?_; (((refine aB (Sl.gO ?hcq) .nil ?_); (case hcq => (first | omega | (simp only [List.length_nil, List.length_cons]; omega))))); refine ab ?_; refine ab ?_; refine aB ah .nil ?_; refine ab ?_; refine aB ae .nil ?_; refine ab ?_; (((refine' aB (aQ ?hc) ?hi ?_); (case hi => exact .pick (by repeat constructor) .nil); (case hc => repeat constructor))); refine ab ?_; refine aB aK .nil ?_; refine ab ?_; (((refine aB (Sl.cv ?hcq) .nil ?_); (case hcq => (first | omega | (simp only [List.length_nil, List.length_cons]; omega))))); refine aB av .nil ?_; refine ab ?_; refine ab ?_; refine aB ah .nil ?_; refine ab ?_; refine aB ae .nil ?_; refine ab ?_; (((refine' aB (aQ ?hc) ?hi ?_); (case hi => exact .pick (by repeat constructor) .nil); (case hc => repeat constructor))); refine ab ?_; refine aB cP .nil ?_; refine aB av .nil ?_; refine ai ?_; refine aB ah .nil ?_; refine aB ae .nil ?_; (((refine' aB (aQ ?hc) ?hi ?_); (case hi => exact .pick (by repeat constructor) .nil); (case hc => repeat constructor))); refine aB ah .nil ?_; refine aB ae .nil ?_; (((refine' e_ ?hp ?ho ?_); (case hp => (repeat constructor)); (case ho => repeat constructor)))
  (first | refine bG (x) rfl ?_ | refine jW (x) ?_)
  unfold CnS.wrote
  (try dsimp only)
  (repeat (first | exact .refl | exact .nil | (apply Imp.pick; (focus ((repeat constructor); done))) | refine .drop ?_))
theorem EN {W : World} [hG : Gp W] {c p : Nat} {s : CnS} {nu : Int} {fn : Fn} {fa fb : Array Value} {t O : List UInt8} {f r o xx dd : AC} {X : List FD.Fd} {D : List UInt8} {AX AD : HP} (hn : s.nx = .func fn fa fb) (hrow : s.row = .slice r.1 1 r.2) (hrd : s.rd = true) (hbg : s.bg = false) (ho : s.out = .slice o.1 O.length o.2) (hX : gD W AX xx.1 X) (hx0 : xx.1 = none -> X = []) (hXk : oz X) (hD : RdB W AD dd.1 D.length (D.map Sl.B)) (hd0 : dd.1 = none -> D = []) (hh : jQ nH (Gz X D) = true) (hDl : D.length <= 1048576) (hOl : O.length <= 1000000000) :
  Cn p_ 92 [pC c, .int .i64 nu, .agg (ir X D xx dd).toArray] W [bQ c s, d8 r [p], mS o O, dZ p nu t f (.pointer none), AX, AD] (fun _ : AC × AC => .int .i64 0)
   (fun x => [bQ c (s.wrote (O ++ iy X D).length x), mS x.1 (O ++ iy X D), d8 x.2 [], AX, AD]) := by
 (refine Shp.cn (Sg.g_ Tryz.call92 Tryz.func92 (an := { loops := [(4, [18])], drs := [(8, .ofL [(0, 2), (1, 3), (2, 3), (3, 1), (4, 1), (6, 3), (7, 3), (5, 0), (8, 0), (9, 1), (10, 0), (11, 1), (12, 1), (13, 0)])] }) (os := [(8, [(5, [7, 6, 2, 1]), (8, [2, 1])])])) fun F => ?_; simp only [ca_, na_])
 refine aU fun b5 => ?_
 refine' aj (uu (c := c) hn) ?hp fun _ => ?_
 case hp => (repeat (first | exact Picks.nil | (apply Picks.cons; (focus repeat constructor))))
 (try simp only [ca_, na_, -eq_self])
 cases s
 rename_i bo ke ck si rd bg nx hd rr ln q0 q1 q2 q3 got ev row nu2 out
 (try dsimp only at *)
 subst hrow
 obtain ⟨ra_, rc⟩ := r
 obtain ⟨xa, xc⟩ := xx
 obtain ⟨da, dc⟩ := dd
 unfold d8
 rw [show [p].length = 1 from rfl, show [p].map oI = [oI p] from rfl]
 refine Sl.f6 (by (repeat constructor) : Pick _ (jA 1 279 ra_ rc 1 _) _) fun _ _ _ hs => ?_
 obtain ⟨G, o_, rfl⟩ := hs (by decide)
 unfold dZ zk ir
 (unfold bQ nJ; (try dsimp only))
 refine af ?_; refine aB ah .nil ?_; refine aB ae .nil ?_; (((refine' aB (aQ ?hc) ?hi ?_); (case hi => exact .pick (by repeat constructor) .nil); (case hc => repeat constructor))); refine aB aK .nil ?_
 refine a_ (fun m y => pu (y = .int .i64 0) :: _) 0 (.pu rfl .refl) ?_
 intro m ds y
 refine aX .here fun hz => ?_
 subst hz
 (((refine aB (Sl.ce ?hcq) .nil ?_); (case hcq => (first | omega | (simp only [List.length_nil, List.length_cons]; omega))))); refine ai ?_; (((refine' aB (br 0 rfl ?hcq) .nil ?_); (case hcq => (first | omega | decide | (simp; done)))))
 refine aB (pZ (j := 0) (v := oI p) rfl) (by (repeat (first | exact .refl | exact .nil | (apply Imp.pick; (focus ((repeat constructor); done))) | refine .drop ?_))) ?_
 refine aB (Gw (a := 281)) .nil ?_
 (((refine' aB (bk ?hc) .nil ?_); (case hc => repeat constructor))); (((refine' aB (bk ?hc) .nil ?_); (case hc => repeat constructor))); refine aB bA .nil ?_; refine ab ?_; refine ab ?_; refine aB ah .nil ?_; refine ab ?_; refine aB ae .nil ?_; refine ab ?_; (((refine' aB (aQ ?hc) ?hi ?_); (case hi => exact .pick (by repeat constructor) .nil); (case hc => repeat constructor))); refine ab ?_; refine ab ?_; (((refine aB (Sl.cE ?hcq) .nil ?_); (case hcq => (first | omega | (simp only [List.length_nil, List.length_cons]; omega))))); refine aB am .nil ?_; refine ab ?_; refine ab ?_; refine aB ah .nil ?_; refine ab ?_; refine aB ae .nil ?_; refine ab ?_; (((refine' aB (aQ ?hc) ?hi ?_); (case hi => exact .pick (by repeat constructor) .nil); (case hc => repeat constructor))); refine ab ?_; refine aB jZ .nil ?_; refine aB am .nil ?_; refine ab ?_; refine aB ae .nil ?_; refine ab ?_; (((refine' aB (aQ ?hc) ?hi ?_); (case hi => exact .pick (by repeat constructor) .nil); (case hc => repeat constructor))); refine ab ?_; (((refine aB (Sl.bJ ?hcq) .nil ?_); (case hcq => (first | omega | (simp only [List.length_nil, List.length_cons]; omega))))); refine aB am .nil ?_; refine ab ?_; refine aB ae .nil ?_; refine ab ?_; (((refine' aB (aQ ?hc) ?hi ?_); (case hi => exact .pick (by repeat constructor) .nil); (case hc => repeat constructor))); refine ab ?_; (((refine aB (Sl.bZ ?hcq) .nil ?_); (case hcq => (first | omega | (simp only [List.length_nil, List.length_cons]; omega))))); refine aB am .nil ?_; refine af ?_; refine aV ?_; refine ay ae .nil ?_; (((refine' ay (aQ ?hc) ?hi ?_); (case hi => exact .pick (by repeat constructor) .nil); (case hc => repeat constructor))); refine aP ae .nil ?_; (((refine' aP (aQ ?hc) ?hi ?_); (case hi => exact .pick (by repeat constructor) .nil); (case hc => repeat constructor))); refine ay ae .nil ?_; (((refine' ay (aQ ?hc) ?hi ?_); (case hi => exact .pick (by repeat constructor) .nil); (case hc => repeat constructor)))
 refine' aj (td (c := xc) hX hx0 (by have := hXk.1; omega)) ?hp fun q => ?_
 case hp => (repeat (first | exact Picks.nil | (apply Picks.cons; (focus repeat constructor))))
 obtain ⟨qa, qc⟩ := q
 (try simp only [ca_, na_, -eq_self])
 (try dsimp only)
 refine cU (aI (by (repeat (first | exact .refl | exact .nil | (apply Imp.pick; (focus ((repeat constructor); done))) | refine .drop ?_)))) (cU (aI (by (repeat (first | exact .refl | exact .nil | (apply Imp.pick; (focus ((repeat constructor); done))) | refine .drop ?_)))) (cU (aI (by (repeat (first | exact .refl | exact .nil | (apply Imp.pick; (focus ((repeat constructor); done))) | refine .drop ?_)))) (cU (aI (by (repeat (first | exact .refl | exact .nil | (apply Imp.pick; (focus ((repeat constructor); done))) | refine .drop ?_)))) ?_)))
 refine' aj (B6 (c := dc) hD hd0 (by omega)) ?hp fun q => ?_
 case hp => (repeat (first | exact Picks.nil | (apply Picks.cons; (focus repeat constructor))))
 obtain ⟨pa, pc⟩ := q
 (try simp only [ca_, na_, -eq_self])
 (try dsimp only)
 refine cU (aI (by (repeat (first | exact .refl | exact .nil | (apply Imp.pick; (focus ((repeat constructor); done))) | refine .drop ?_)))) (cU (aI (by (repeat (first | exact .refl | exact .nil | (apply Imp.pick; (focus ((repeat constructor); done))) | refine .drop ?_)))) ?_)
 refine aP bM .nil ?_; refine aU fun g => ?_; refine aP ah .nil ?_; refine aP ae .nil ?_; (((refine' e_ ?hp ?ho ?_); (case hp => (repeat constructor)); (case ho => repeat constructor)))
 rename Nat => g
 refine aN (by (repeat constructor) : Pick _ (Sl 2 192 qa qc X.length _) _) fun _ _ _ hs1 => ?_
 refine aN (by (repeat constructor) : Pick _ (Sl 1 5 pa pc D.length _) _) fun _ _ _ hs2 => ?_
 refine iO (by repeat constructor) ?_
 refine' aj (EM (c := c) (p := p) (ra := g) (r := (some ⟨G, o_, none⟩, rc)) (o := o) (O := O) (xx := (qa, qc)) (dd := (pa, pc)) (t := t) (f := f) (nu := nu) ?h1 ?h2 ?h3 ?h4 (cg hs1) hXk (fD (e := 5) (a := pa) (cap := pc) (by rw [List.length_map]) hs2) ?h0 hh hDl hOl) ?hp fun x => ?_
 case hp => unfold d8 dZ zk ly ir; (repeat (first | exact Picks.nil | (apply Picks.cons; (focus repeat constructor))))
 case h1 => rfl
 case h2 => exact hrd
 case h3 => exact hbg
 case h4 => exact ho
 case h0 =>
  rintro rfl
  rcases Nat.eq_zero_or_pos D.length with z | z
  ·exact z
  ·obtain ⟨_, h⟩ := hs2 z; cases h
 (try simp only [ca_, na_, -eq_self])
 unfold mS d8
 (try dsimp only)
 (first | refine bG (x) rfl ?_ | refine jW (x) ?_)
 (repeat (first | exact .refl | exact .nil | (apply Imp.pick; (focus ((repeat constructor); done))) | refine .drop ?_))
theorem EO {W:World}{c:Nat}{s:CnS}{f:Fn}{a b:Array Value}(hn:s.nx= .func f a b):Cn p_ 46 [pC c] W [bQ c s] (fun _:Unit=>s.out) (fun _=>[bQ c {s with out:= .slice none 0 0}]):=by
 (refine Shp.cn (Sg.g_ Tryz.call46 Tryz.func46) fun F=>?_;simp only[ca_,na_])
 refine' aj (uu (c:=c) hn) ?hp fun _=>?_
 case hp=>(repeat(first|exact Picks.nil|(apply Picks.cons;(focus repeat constructor))))
 refine aq ?_
 cases s
 (unfold bQ nJ;(try dsimp only))
 refine af (o_ ah (o_ ae (aM ?_)));refine o_ ah (o_ ae (bU ?_))
 refine aO () ?_
 exact aA
theorem EP {W:World}{c:Nat}{s:CnS}{f:Fn}{a b:Array Value}(hn:s.nx= .func f a b)(hr:s.rd=true):Cn p_ 29 [pC c] W [bQ c s] (fun _:Unit=> .bool false) (fun _=>[bQ c s]):=by
 (refine Shp.cn (Sg.g_ Tryz.call29 Tryz.func29) fun F=>?_;simp only[ca_,na_])
 refine' aj (uu (c:=c) hn) ?hp fun _=>?_
 case hp=>(repeat(first|exact Picks.nil|(apply Picks.cons;(focus repeat constructor))))
 refine aq ?_
 cases s
 (try dsimp only at *)
 subst hr
 (unfold bQ nJ;(try dsimp only))
 refine ab (ab (o_ ah (ab (o_ ae (ab (aM ?_))))));refine ab (o_ bA (ab (ao (ao (ao (ao (ao (ao (ab (o_ am (o_ am (aO () ?_))))))))))))
 exact aA
theorem EQ {W:World}{c:Nat}{s:CnS}{r:AC}(hrow:s.row= .slice r.1 0 r.2):Cn p_ 79 [pC c] W [bQ c s] (fun _:Unit=> .tuple #[]) (fun _=>[bQ c s]):=by
 (refine Shp.cn (Sg.g_ Tryz.call79 Tryz.func79 (an:={cuts:=[(13,[5]),(14,[])],loops:=[(1,[])],drs:=[(5,.ofL [(0,2),(1,2),(2,3),(3,3),(4,3),(5,1),(6,0),(7,0),(8,1),(9,1),(10,0)])]}) (os:=[(5,[(6,[4,3,2])])])) fun F=>?_;simp only[ca_,na_])
 cases s
 (try dsimp only at *)
 subst hrow
 (unfold bQ nJ;(try dsimp only))
 refine o_ ah (o_ ae (aM ?_));refine o_ aK (jl (fun m=>_) 0 .refl ?_)
 intro m ds
 refine o_ ah (o_ ae (aM ?_));refine o_ aK ?_;(((refine o_ (Sl.bZ ?hcq) ?_);(case hcq=>(first|omega|(simp only[List.length_nil,List.length_cons];omega)))));refine ao (ao (ao (ao (ao (ao (ao (ao (o_ am (af ?_)))))))));(((refine o_ (Sl.bZ ?hcq) ?_);(case hcq=>(first|omega|(simp only[List.length_nil,List.length_cons];omega)))));refine ao (ao (ao (ao (ao (ao (o_ am (ao (ao (ao (ao (ao (o_ am (af (aO () ?_))))))))))))))
 exact aA
theorem PR {W:World}{c:Nat}{s:CnS}{now:Int}{r:AC}{f:Fn}{a b:Array Value}(hn:s.nx= .func f a b)(hr:s.rd=true)(hrow:s.row= .slice r.1 0 r.2)(hc:s.ck<=now)(hnow:now<=1099511627776)(hk:0<s.ke)(hs0:0<=s.si)(hs1:s.si<=now)(hs:now-s.si<s.ke):Cn p_ 55 [pC c,.int .i64 now] W [bQ c s] (fun _:Unit=> .tuple #[]) (fun _=>[bQ c {s with ck:=now}]):=by
 (refine Shp.cn (Sg.g_ Tryz.call55 Tryz.func55 (an:={drs:=[(2,.ofL [(0,1),(1,1),(2,1),(3,1),(4,1),(5,1),(6,1),(7,1),(8,1),(9,1),(10,1),(11,1),(12,1),(13,1),(14,1),(15,1),(16,1),(17,1),(18,1),(19,1),(20,1),(21,1),(22,1),(23,1),(24,1),(25,1),(26,1),(27,1),(28,1)])]})) fun F=>?_;simp only[ca_,na_])
 refine' aj (uu (c:=c) hn) ?hp fun _=>?_
 case hp=>(repeat(first|exact Picks.nil|(apply Picks.cons;(focus repeat constructor))))
 refine aq ?_
 refine af ?_
 refine' aj (Bu (c:=c) hc hnow) ?hp fun _=>?_
 case hp=>(repeat(first|exact Picks.nil|(apply Picks.cons;(focus repeat constructor))))
 refine aq ?_
 cases s
 (try dsimp only at *)
 subst hr hrow
 (unfold bQ nJ;(try dsimp only))
 refine aV (t_ ah (t_ ae (t_ ae (cu ?_))));(((refine t_ (Sl.gO ?hcq) ?_);(case hcq=>(first|omega|(simp only[List.length_nil,List.length_cons];omega)))));refine ab (ab (t_ ah (ab (t_ ae (ab (cu ?_))))));refine t_ av (ab (ab (t_ ah (ab (t_ ae (ab (cu ?_)))))));refine ab (ab (t_ ah (ab (t_ ae (ab (cu ?_))))));refine ab ?_;(refine t_ (gI (by omega) (by omega)) ?_);refine ab (ab (t_ ah (ab (t_ ae (ab (t_ ae (ab (cu ?_))))))));refine ab ?_;(((refine t_ (Sl.eW ?hcq) ?_);(case hcq=>(first|omega|(simp only[List.length_nil,List.length_cons];omega)))));refine t_ av (af (iO (by repeat constructor) ?_))
 refine' aj (EQ (c:=c) (r:=r) ?h1) ?hp fun _=>?_
 case hp=>(repeat(first|exact Picks.nil|(apply Picks.cons;(focus repeat constructor))))
 case h1=>rfl
 refine aq ?_
 refine aO () ?_
 exact aA
end Go.Proofs.YtdjkdjepjahjfaaGreatDoor.TP
namespace Go.Proofs.YtdjkdjepjahjfaaGreatDoor.Sl
open Go Go.RowKit Sh
variable {P:Program} {W:World} {L L':List HP} {Kp:PK} {k:Value->WP}
def fN (n:Int):Value:= .int .i64 n
theorem ER {kt:TypeId}(hk:P.underlying kt=some (.int .i64)):KeyLaw P kt fN where
 check:=fun b k w=>MapKept.run_checkKey (n:=9999) (d:= .int .i64) hk (by simp[MapKept.IsKey,fN]) b
 eq:=fun k k' w=>by
  unfold fN Op.equal Op.maxDepth
  have:=run_equalIn_int (P:=P) w 9999 kt .i64 .i64 k k' hk
  rw[this]
  by_cases h:k=k' <;> simp[h]
 now:=⟨.int .i64,hk,fun k k'=> .inr (by
  by_cases h:k=k' <;> simp[Instr.sameNow,fN,h])⟩
 same:=fun k=>by simp[Instr.sameBits,fN]
variable {κ:Type} [DecidableEq κ] {enc:κ->Value} {t kt:TypeId}
def oJ (q:κ)(m:List (κ × Value)):List (κ × Value):=match iv q m 0 with
 |some (i,_)=>m.eraseIdx i
 |none=>m
theorem xQ (q:κ):∀(m:List (κ × Value)) (i j:Nat) (v:Value),iv q m i=some (j,v)->i<=j/\m[j-i]? =some (q,v)
 |[],i,j,v,h=>by simp[iv]at h
 |p::m,i,j,v,h=>by
  unfold iv at h
  by_cases c:q=p.1
  ·rw[if_pos c]at h
   simp at h
   obtain⟨rfl,rfl⟩:=h
   simp[c]
  ·rw[if_neg c]at h
   obtain⟨h1,h2⟩:=xQ q m (i+1) j v h
   refine⟨by omega,?_⟩
   rw[show j-i=(j-(i+1))+1 by omega];simpa using h2
theorem uN (q:κ):∀(m:List (κ × Value)) (i:Nat),iv q m i=none↔q∉m.map (·.1)
 |[],i=>by simp[iv]
 |p::m,i=>by
  unfold iv
  by_cases c:q=p.1
  ·rw[if_pos c];simp[c]
  ·rw[if_neg c,uN q m (i+1)];simp[c]
theorem rP (q:κ):∀(m:List (κ × Value)) (i j:Nat),(iv q m i).map (·.2)=(iv q m j).map (·.2)
 |[],i,j=>rfl
 |p::m,i,j=>by
  unfold iv
  split
  ·rfl
  ·exact rP q m (i+1) (j+1)
theorem nT (q:κ)(p:κ × Value)(m:List (κ × Value)):ju q (p::m)=if q=p.1 then some p.2 else ju q m:=by
 unfold ju
 rw[iv]
 split
 ·rfl
 ·exact rP q m 1 0
theorem zl {q:κ}{m:List (κ × Value)}:ju q m=none↔q∉m.map (·.1):=by
 unfold ju
 rw[Option.map_eq_none_iff,uN]
theorem rQ (q:κ)(p:κ × Value)(m:List (κ × Value)):oJ q (p::m)=if q=p.1 then m else p::oJ q m:=by
 unfold oJ
 rw[iv]
 by_cases c:q=p.1
 ·simp[c]
 ·rw[if_neg c,if_neg c]
  have key:∀(m:List (κ × Value)) (i:Nat),(match iv q m (i+1)with|some (j,_)=>(p::m).eraseIdx (j-i)|none=>p::m)=p::(match iv q m i with|some (j,_)=>m.eraseIdx (j-i)|none=>m):=by
   intro m
   have sh:∀(m:List (κ × Value)) (i:Nat),iv q m (i+1)=(iv q m i).map fun x=>(x.1+1,x.2):=by
    intro m
    induction m with
    |nil=>intro i;rfl
    |cons p m ih=>
     intro i
     unfold iv
     split
     ·rfl
     ·exact ih (i+1)
   intro i
   rw[sh]
   cases hf:iv q m i with
   |none=>rfl
   |some x=>
    obtain⟨j,v⟩:=x
    have:=(xQ q m i j v hf).1
    simp only[Option.map_some]
    rw[show j+1-i=(j-i)+1 by omega];rfl
  have:=key m 0
  simpa using this
theorem rR (q:κ):∀m:List (κ × Value),((oJ q m).map (·.1)).Sublist (m.map (·.1))
 |[]=>by simp[oJ,iv]
 |p::m=>by
  rw[rQ]
  split
  ·rw[List.map_cons];exact List.sublist_cons_self _ _
  ·rw[List.map_cons,List.map_cons];exact(rR q m).cons_cons _
theorem rS (q q':κ):∀m:List (κ × Value),(m.map (·.1)).Nodup->ju q' (oJ q m)=if q'=q then none else ju q' m
 |[],_=>by simp[oJ,iv,ju]
 |p::m,h=>by
  rw[List.map_cons,List.nodup_cons]at h
  have ih:=rS q q' m h.2
  rw[rQ]
  by_cases c:q=p.1
  ·rw[if_pos c,nT]
   by_cases d:q'=q
   ·rw[if_pos d,d,c]
    exact zl.2 h.1
   ·rw[if_neg d,if_neg (by rw[<- c];exact d)]
  ·rw[if_neg c,nT,nT,ih]
   by_cases d:q'=p.1
   ·rw[if_pos d,if_neg (by rw[d];exact fun e=>c e.symm),if_pos d]
   ·rw[if_neg d,if_neg d]
theorem rT (q:κ)(v:Value):∀m:List (κ × Value),(m.map (·.1)).Nodup->((lJ q v m).map (·.1)).Nodup/\∀x,x∈(lJ q v m).map (·.1)->x=q\/x∈m.map (·.1)
 |[],_=>by simp[lJ]
 |p::m,h=>by
  rw[List.map_cons,List.nodup_cons]at h
  have ih:=rT q v m h.2
  unfold lJ
  by_cases c:q=p.1
  ·rw[if_pos c]
   refine⟨by rw[List.map_cons,List.nodup_cons];exact h,fun x hx=> .inr hx⟩
  ·rw[if_neg c]
   refine⟨?_,fun x hx=>?_⟩
   ·rw[List.map_cons,List.nodup_cons]
    refine⟨fun hx=>?_,ih.1⟩
    rcases ih.2 _ hx with e|e
    ·exact c e.symm
    ·exact h.1 e
   ·rw[List.map_cons,List.mem_cons]at hx
    rcases hx with e|e
    ·exact .inr (by rw[List.map_cons,e];exact List.mem_cons_self ..)
    ·rcases ih.2 _ e with e|e
     ·exact .inl e
     ·exact .inr (by rw[List.map_cons];exact List.mem_cons_of_mem _ e)
theorem kS {α β:Type}(f:α->β):∀(l:List α) (i:Nat),(l.eraseIdx i).map f=(l.map f).eraseIdx i
 |[],_=>by simp
 |x::l,0=>by simp
 |x::l,i+1=>by simp[kS f l i]
theorem Ents.del {es:Array MapEntry}{c i:Nat}{m:List (κ × Value)}(h:Ents enc es c m):Ents enc (es.eraseIdxIfInBounds i) c (m.eraseIdx i):=by
 have e0:(es.eraseIdxIfInBounds i).toList=es.toList.eraseIdx i:=by
  unfold Array.eraseIdxIfInBounds
  split
  ·simp
  ·rw[List.eraseIdx_of_length_le];simpa using Nat.le_of_not_lt ‹_›
 refine⟨?_,?_,?_⟩
 ·rw[e0,kS,kS,h.kvs]
 ·intro e he
  rw[e0]at he
  exact h.born e (List.mem_of_mem_eraseIdx he)
 ·rw[e0,kS]
  exact h.nodup.sublist (List.eraseIdx_sublist _ _)
theorem Cf {e ty:TypeId}{g:Nat}{m:List (κ × Value)}{q:κ}{kt':TypeId}[ht:MapT P t kt e](K:KeyLaw P kt enc)(p:Pick L (jH g enc m) L')(h:aR W (jH g enc (oJ q m)::L') (k (.tuple #[]))):aR W L (opN P (tQ #[t,kt'] ty [.map (some g),enc q]) Kp k):=fun w hw=>by
 obtain⟨es,c,he,hp⟩:=oW (hw.pick p)
 have hg:=hp.pt_.1
 have hf:=iE K q w he.kvs
 refine⟨?_⟩
 cases hq:iv q m 0 with
 |none=>
  have:(tQ #[t,kt'] ty [.map (some g),enc q]).run P w= .ok (.value (.tuple #[])) {w with heap:=w.heap.setIfInBounds g (.map es c)}:=by
   simp[tQ,Builtin.delete_,run_underlying ht.ut,MapKept.run_getObj_map hg,K.check,hf,hq,Result.andThen,MapKept.run_setObj_map _ hg]
  rw[this]
  refine h _ (j9 ?_ (hp.putObj _))
  rw[show oJ q m=m by simp[oJ,hq]];exact he
 |some r=>
  obtain⟨i,u⟩:=r
  have:(tQ #[t,kt'] ty [.map (some g),enc q]).run P w= .ok (.value (.tuple #[])) {w with heap:=w.heap.setIfInBounds g (.map (es.eraseIdxIfInBounds i) c)}:=by
   simp[tQ,Builtin.delete_,run_underlying ht.ut,MapKept.run_getObj_map hg,K.check,hf,hq,Result.andThen,MapKept.run_setObj_map _ hg]
  rw[this]
  refine h _ (j9 ?_ (hp.putObj _))
  rw[show oJ q m=m.eraseIdx i by simp[oJ,hq]];exact he.del
def bN (g:Nat)(enc:κ->Value)(f:κ->Option Value):HP:=ex fun m=>all [pu ((m.map (·.1)).Nodup/\∀q,ju q m=f q),jH g enc m]
def dS (f:κ->Option Value)(q:κ)(v:Option Value):κ->Option Value:=fun x=>if x=q then v else f x
theorem Cg {g:Nat}{f:κ->Option Value}{S:WP}(p:Pick L (bN g enc f) L')(h:∀m,(m.map (·.1)).Nodup->(∀q,ju q m=f q)->aR W (jH g enc m::L') S):aR W L S:=by
 refine bt p fun m=>aE .here ?_
 refine aX .here fun hm=>h m hm.1 hm.2
theorem qz {g:Nat}{f:κ->Option Value}{M:List HP}{m:List (κ × Value)}(p:Pick L (jH g enc m) L')(h1:(m.map (·.1)).Nodup)(h2:∀q,ju q m=f q)(h:Imp W L' M):Imp W L (bN g enc f::M):=
 .ex m (.all (.pu ⟨h1,h2⟩ (.pick p h)))
theorem jC {e:TypeId}{z:Value}{g:Nat}{f:κ->Option Value}{q:κ}[ht:MapT P t kt e][hz:ZeroT P e z](K:KeyLaw P kt enc)(p:Pick L (bN g enc f) L')(h:aR W (bN g enc f::L') (k ((f q).getD z))):aR W L (opN P (iW t (.map (some g)) (enc q) false) Kp k):=
 Cg p fun m h1 h2=>aB (vQ K) (.pick .here .nil) (bu (qz .here h1 h2 .refl) (by rw[h2];exact h))
theorem rU {e:TypeId}{z:Value}{g:Nat}{f:κ->Option Value}{q:κ}[ht:MapT P t kt e][hz:ZeroT P e z](K:KeyLaw P kt enc)(p:Pick L (bN g enc f) L')(h:aR W (bN g enc f::L') (k (.tuple #[(f q).getD z,.bool (f q).isSome]))):aR W L (opN P (iW t (.map (some g)) (enc q) true) Kp k):=
 Cg p fun m h1 h2=>aB (AF K) (.pick .here .nil) (bu (qz .here h1 h2 .refl) (by rw[h2];exact h))
theorem dC {e:TypeId}{g:Nat}{f:κ->Option Value}{q:κ}{v:Value}[ht:MapT P t kt e](K:KeyLaw P kt enc)(p:Pick L (bN g enc f) L')(h:aR W (bN g enc (dS f q (some v))::L') (k undef)):aR W L (opN P (gT t (.map (some g)) (enc q) v) Kp k):=
 Cg p fun m h1 h2=>AH K .here (bu (qz .here (rT q v m h1).1 (fun x=>by rw[yA,h2];rfl) .refl) h)
theorem wv {e ty:TypeId}{g:Nat}{f:κ->Option Value}{q:κ}{kt':TypeId}[ht:MapT P t kt e](K:KeyLaw P kt enc)(p:Pick L (bN g enc f) L')(h:aR W (bN g enc (dS f q none)::L') (k (.tuple #[]))):aR W L (opN P (tQ #[t,kt'] ty [.map (some g),enc q]) Kp k):=
 Cg p fun m h1 h2=>Cf K .here (bu (qz .here (h1.sublist (rR q m)) (fun x=>by rw[rS q x m h1,h2];rfl) .refl) h)
theorem jM {e:TypeId}(enc:κ->Value)[ht:MapT P t kt e](h:∀g,aR W (bN g enc (fun _=>none)::L) (k (.map (some g)))):aR W L (opN P (pz t none) Kp k):=
 DR enc fun g=>bu (qz .here (by simp) (fun q=>by simp[ju,iv]) .refl) (h g)
theorem th {P:Program}{W:World}{t kt e:TypeId}{ox oy:Operand}{g:Nat}[ht:MapT P t kt e]:aT P W [] (eo .eql t ox oy (.map (some g)) (.map none)) (.bool false):=fun w _=>by
 have h:(Op.equal t (.map (some g)) (.map none)).run P w= .ok false w:=by
  unfold Op.equal Op.maxDepth Op.equalIn
  simp only[Sem.run_bind,run_underlying ht.ut,Result.andThen_ok]
  rfl
 simp[eo,sv,eqGuard,binOp,h,Result.andThen]
end Go.Proofs.YtdjkdjepjahjfaaGreatDoor.Sl
namespace Go.Proofs.YtdjkdjepjahjfaaGreatDoor.Sl
open Go Go.RowKit Sh
theorem GB {l m:List UInt8}:((⟨l.toArray⟩:ByteArray)==(⟨m.toArray⟩:ByteArray))=decide (l=m):=by
 rw[<- Ar,beq_toListBytes]
theorem fw {P:Program}{kt:TypeId}(hk:P.underlying kt=some .string):KeyLaw P kt az where
 check:=fun b k w=>MapKept.run_checkKey (n:=9999) (d:= .string) hk (by simp[MapKept.IsKey,az]) b
 eq:=fun k k' w=>by
  unfold az Op.equal Op.maxDepth
  have:=run_equalIn_string (P:=P) (w:=w) 9999 kt ⟨k.toArray⟩ ⟨k'.toArray⟩ hk
  rw[this,Ar]
 now:=⟨.string,hk,fun k k'=> .inr (by unfold az;simp only[Instr.sameNow];rw[GB])⟩
 same:=fun k=>by unfold az;simp only[Instr.sameBits];rw[GB];simp
end Go.Proofs.YtdjkdjepjahjfaaGreatDoor.Sl
namespace Go.Proofs.YtdjkdjepjahjfaaGreatDoor.TP
open Go Go.Proofs Go.RowKit Sh Sl T FD
def cW (m:Nat)(now:Int):List Value:=[.map (some m),.int .i64 now,.int .i64 0]
def jf (g:Nat)(now:Int):HP:=ex fun m:Nat=>all [pt g (.cells (cW m now).toArray 178),bN m az fun _=>none]
theorem Ch {W:World}{g:Nat}{now:Int}:Cn p_ 77 [.pointer (some ⟨g,0,none⟩)] W [jf g now] (fun _:Unit=> .bool false) (fun _=>[jf g now]):=by
 (refine Shp.cn (Sg.g_ Tryz.call77 Tryz.func77) fun F=>?_;simp only[ca_,na_])
 refine bt .here fun m=>aE .here ?_
 unfold cW
 refine aq ?_
 refine o_ cp ?_;refine ab (ab (o_ ah (ab (o_ ae (ab (aM ?_))))));refine ab (o_ th ?_)
 refine o_ am (aO () ?_)
 refine .ex m (.all ?_)
 refine aq ?_
 exact aA
theorem UQ {W:World}{now:Int}(h0:0<=now)(h1:now<=253402300799):Cn p_ 61 [.int .i64 now] W [] (fun g:Nat=> .tuple #[.pointer (some ⟨g,0,none⟩),.int .i64 0]) (fun g=>[jf g now]):=by
 (refine Shp.cn (Sg.g_ Tryz.call61 Tryz.func61) fun F=>?_;simp only[ca_,na_])
 (((refine o_ (Sl.bJ ?hcq) ?_);(case hcq=>(first|omega|(simp only[List.length_nil,List.length_cons];omega)))));refine ab ?_;refine ab ?_;(((refine o_ (Sl.bZ ?hcq) ?_);(case hcq=>(first|omega|(simp only[List.length_nil,List.length_cons];omega)))));refine o_ am ?_;refine af ?_
 refine jM (P:=p_) (t:=176) (kt:=9) az fun m=>?_
 refine o_ bM ?_;refine aU fun g=>?_
 refine aO g ?_
 refine .ex m (.all ?_)
 exact .pick .here (.pick .here .refl)
theorem ti {W:World}{g:Nat}{now:Int}:Cn p_ 31 [.pointer (some ⟨g,0,none⟩)] W [jf g now] (fun _:Unit=> .int .i64 now) (fun _=>[jf g now]):=by
 (refine Shp.cn (Sg.g_ Tryz.call31 Tryz.func31) fun F=>?_;simp only[ca_,na_])
 refine c_ Ch fun _=>?_
 refine af (o_ ah (o_ ae (bt .here fun m=>aE .here ?_)))
 unfold cW
 refine aq ?_
 refine aM ?_
 refine aO () ?_
 refine .ex m (.all ?_)
 refine aq ?_
 exact aA
theorem PT {W:World}{g:Nat}{now n:Int}(h0:0<=now)(hn:0<=n)(h1:now+n<=253402300799):Cn p_ 54 [.pointer (some ⟨g,0,none⟩),.int .i64 n] W [jf g now] (fun _:Unit=> .int .i64 0) (fun _=>[jf g (now+n)]):=by
 (refine Shp.cn (Sg.g_ Tryz.call54 Tryz.func54 (an:={drs:=[(3,.ofL [(0,1),(1,1),(2,1),(3,1),(4,1),(5,1),(6,1),(7,1),(8,1),(9,1),(10,1),(11,1),(12,1),(13,1),(14,0)])]})) fun F=>?_;simp only[ca_,na_])
 refine c_ Ch fun _=>?_
 refine ab (ab ?_);(((refine o_ (Sl.bJ ?hcq) ?_);(case hcq=>(first|omega|(simp only[List.length_nil,List.length_cons];omega)))));refine o_ am (af (aV (t_ ah (t_ ae (bt .here fun m=>aE .here ?_)))))
 unfold cW
 refine aq ?_
 refine cu ?_;refine t_ ah (t_ ae (cu ?_));(refine t_ (gI (by omega) (by omega)) ?_)
 refine t_ mu ?_
 rw[if_neg (by omega)]
 (refine t_ (ie (by omega) (by omega)) ?_);refine t_ ah ?_;refine t_ ae ?_;refine bU ?_
 refine aO () ?_
 refine .ex m (.all ?_)
 refine aq ?_
 exact aA
theorem PU {W:World}{g:Nat}{now:Int}{p:List UInt8}:Cn p_ 69 [.pointer (some ⟨g,0,none⟩),az p] W [jf g now] (fun _:Unit=> .tuple #[.agg #[az [],.slice none 0 0,.int .i64 0],.int .i64 0,.int .i64 3]) (fun _=>[jf g now]):=by
 (refine Shp.cn (Sg.g_ Tryz.call69 Tryz.func69 (an:={drs:=[(7,.ofL [(0,1),(1,1),(2,3),(3,3),(4,0),(5,1),(6,1)])]}) (os:=[(7,[(4,[3,2])])])) fun F=>?_;simp only[ca_,na_])
 refine aS fun g=>?_
 rename Nat=>g4
 refine c_ Ch fun _=>?_
 refine af (o_ ah (o_ ae (bt .here fun m=>aE .here ?_)))
 unfold cW
 refine aq ?_
 refine aM ?_
 refine rU (fw Tryz.underlying9) (by(repeat constructor):Pick _ (bN m az fun _=>none) _) ?_
 rw[Option.getD_none,Option.isSome_none]
 refine bI ?_;refine bI ?_;refine aS fun g=>?_;(((refine' aG ?hp ?hn ?hv ?h1 ?_);(case hp=>(repeat constructor));(case hn=>rfl);(case hv=>rfl);(case h1=>simp[Value.oneCell',az])));refine o_ cP (ai (o_ bM ?_));(((refine' aG ?hp ?hn ?hv ?h1 ?_);(case hp=>(repeat constructor));(case hn=>rfl);(case hv=>rfl);(case h1=>simp[Value.oneCell',az])));(((refine' aP (cB ?hn) ?hi ?_);(case hi=>exact aA);(case hn=>rfl)))
 refine aO () ?_
 refine .ex m (.all ?_)
 refine aq ?_
 exact aA
theorem PV {W:World}{now:Int}(h0:0<=now)(h1:now<=253402300799):Cn p_ 62 [.int .i64 now] W [] (fun g:Nat=> .pointer (some ⟨g,0,none⟩)) (fun _=>[]):=by
 (refine Shp.cn (Sg.g_ Tryz.call62 Tryz.func62) fun F=>?_;simp only[ca_,na_])
 (((refine o_ (Sl.bJ ?hcq) ?_);(case hcq=>(first|omega|(simp only[List.length_nil,List.length_cons];omega)))));refine ab ?_;refine ab ?_;(((refine o_ (Sl.bZ ?hcq) ?_);(case hcq=>(first|omega|(simp only[List.length_nil,List.length_cons];omega)))));refine o_ am ?_;refine af ?_;refine o_ bM ?_;refine aU fun g=>?_
 refine aO g ?_
 exact aA
theorem UR {W:World}{e:Int}:Cn p_ 63 [.int .i64 e] W [] (fun _:Unit=> .int .i64 e) (fun _=>[]):=by
 (refine Shp.cn (Sg.g_ Tryz.call63 Tryz.func63) fun F=>?_;simp only[ca_,na_])
 refine aO () ?_
 exact .refl
theorem US {W:World}{now:Int}(h0:0<=now)(h1:now<2000000000):Cn p_ 26 [.int .i64 now,.slice none 0 0] W [] (fun r:Nat × Nat=> .tuple #[.pointer (some ⟨r.1,0,none⟩),.pointer (some ⟨r.2,0,none⟩),.bool true]) (fun r=>[jf r.1 now]):=by
 (refine Shp.cn (Sg.g_ Tryz.call26 Tryz.func26 (an:={loops:=[(7,[10])],drs:=[(10,.ofL [(0,1),(1,1),(2,1),(3,1),(4,1),(5,1),(8,2),(9,2),(10,2),(11,3),(12,3),(13,3),(6,0),(7,0),(14,0),(15,1)]),(13,.ofL [(0,2),(1,2),(2,2),(3,3),(4,3),(5,3),(7,2),(8,2),(9,3),(10,3),(11,3),(15,2),(16,2),(17,2),(18,3),(19,3),(20,3),(21,2),(22,2),(23,3),(24,3),(25,3),(6,0),(12,0),(13,0),(14,0),(26,0),(27,1)]),(16,.ofL [(0,1),(1,1),(2,1),(3,1),(4,1),(5,1),(8,2),(9,2),(10,2),(11,3),(12,3),(13,3),(6,0),(7,0),(14,0),(15,1)])]}) (os:=[(10,[(6,[13,12,11]),(7,[13,12,11])]),(13,[(6,[25,24,23,20,19,18,11,10,9,5,4,3]),(12,[25,24,23,20,19,18,5,4,3]),(13,[25,24,23,20,19,18]),(14,[25,24,23,20,19,18])]),(16,[(6,[13,12,11]),(7,[13,12,11])])])) fun F=>?_;simp only[ca_,na_])
 (((refine o_ (gK ?h1 ?h2) ?_);(case h1=>omega);(case h2=>omega)));refine bS ?_;(((refine o_ (gK ?h1 ?h2) ?_);(case h1=>omega);(case h2=>omega)))
 rw[show(now%2000000000+2000000000)%2000000000=now by omega]
 refine' aj (UQ h0 (by omega)) ?hp fun gw=>?_
 case hp=>exact .nil
 refine aq ?_
 refine bI ?_;refine bI ?_
 refine' aj (PV h0 (by omega)) ?hp fun gr=>?_
 case hp=>exact .nil
 refine aq ?_
 refine c_ UR fun _=>?_
 (((refine o_ (Sl.cE ?hcq) ?_);(case hcq=>(first|omega|(simp only[List.length_nil,List.length_cons];omega)))));refine ab ?_;refine ab ?_;refine o_ cp ?_;refine o_ am ?_;refine ab ?_;refine ab ?_;refine o_ cp ?_;refine o_ am ?_;refine af ?_
 refine a_ (fun m y=>pu (y= .int .i64 0)::_) 0 (.pu rfl .refl) ?_
 intro m ds y
 refine aX .here fun hz=>?_
 subst hz
 refine o_ aK ?_;(((refine o_ (Sl.bJ ?hcq) ?_);(case hcq=>(first|omega|(simp only[List.length_nil,List.length_cons];omega)))));refine af (aO ((gw,gr)) ?_)
 exact aA
theorem IJ {W:World}{b:Nat}{r:Option Addr × Nat}{l:List UInt8}{c:UInt8}(hl:l.length<=16777216):Cn p_ 423 [.pointer (some ⟨b,0,none⟩),.int .u8 (c.toNat:Int)] W [bd b r l] (fun _:Option Addr × Nat=> .nilIface) (fun r'=>[bd b r' (l++[c])]):=by
 (refine Shp.cn (Sg.g_ Tryz.call423 Tryz.func423) fun F=>?_;simp only[ca_,na_])
 unfold bd
 refine aE .here ?_
 refine aq ?_
 refine aj Bb (.cons .here .nil) fun _=>?_
 refine aq ?_
 refine o_ ah (o_ ae (aM ?_));refine cZ fun g=>?_
 refine bV (m:=1) (news:=[.int .u8 (c.toNat:Int)]) (by(repeat constructor):Pick _ (Sl 1 5 r.1 r.2 l.length (l.map Sl.B)) _) (bR (s:=1) (e':=5) (by kernel_rfl) (by(repeat constructor):Pick _ (pt g _) _) (by rfl) (by intro u hu;rw[List.mem_singleton.1 hu];rfl)) (by omega) (by omega) fun a' c'=>?_
 refine o_ ah (o_ ae (bU ?_))
 refine aO ((a',c')) ?_
 refine .all ?_
 refine aq ?_
 rw[List.length_append,List.map_append]
 refine .pick (by repeat constructor) ?_
 exact .pick .here aA
theorem ES {W:World}{b:Nat}{c:UInt8}:Cn p_ 423 [.pointer (some ⟨b,0,none⟩),.int .u8 (c.toNat:Int)] W [Mg b] (fun _:Option Addr × Nat=> .nilIface) (fun r'=>[bd b r' [c]]):=by
 (refine Shp.cn (Sg.g_ Tryz.call423 Tryz.func423) fun F=>?_;simp only[ca_,na_])
 unfold Mg bd
 refine aj wg (.cons .here .nil) fun _=>?_
 refine o_ ah (o_ ae (aM ?_));refine cZ fun g=>?_
 refine bu (bO (s:=1) (e:=5) .refl) ?_
 refine bV (m:=1) (news:=[.int .u8 (c.toNat:Int)]) .here (bR (s:=1) (e':=5) (by kernel_rfl) (by(repeat constructor):Pick _ (pt g _) _) (by rfl) (by intro u hu;rw[List.mem_singleton.1 hu];rfl)) (by omega) (by omega) fun a' c'=>?_
 refine o_ ah (o_ ae (bU ?_))
 refine aO ((a',c')) ?_
 refine .all ?_
 refine aq ?_
 refine .pick (by repeat constructor) ?_
 exact .pick .here aA
def PW (c:UInt8):Bool:=decide (33<=c/\c<=126)&&!([34,37,92]:List UInt8).contains c
def mT (t:List UInt8):Bool:=!t.isEmpty&&decide (t≠[45])&&t.all PW
theorem IK {W:World}{t:List UInt8}(h:mT t=true)(hl:t.length<=8192):Cn p_ 362 [az t] W [] (fun _:Unit=>az t) (fun _=>[]):=by
 simp only[mT,Bool.and_eq_true,Bool.not_eq_true',decide_eq_true_eq,List.all_eq_true]at h
 obtain⟨⟨h0,h45⟩,hall⟩:=h
 have hne:t≠[]:=by rintro rfl;simp at h0
 have hpos:0<t.length:=List.length_pos_iff.2 hne
 (refine Shp.cn (Sg.g_ Tryz.call362 Tryz.func362 (an:={loops:=[(5,[11])],drs:=[(9,.ofL [(0,1),(1,1),(2,1),(3,1),(4,1),(5,1),(6,1),(7,1),(8,1),(9,1),(10,1),(11,1),(12,1),(13,1),(14,0)])]})) fun F=>?_;simp only[ca_,na_])
 (((refine' aB (Sl.fK ?hcq) .nil ?_);(case hcq=>(first|assumption|simp_all;done))));refine af ?_;refine aS fun g=>?_
 rename Nat=>bb
 refine mA Tryz.underlying35 Tryz.underlying5 fun gs cs rest fz=>?_
 refine o_ aK (a_ (fun m y=>[ex fun st:Nat × (Option Addr × Nat)=>all [pu (m+st.1=t.length/\y= .int .i64 (st.1:Int)),if st.1=0 then Mg bb else bd bb st.2 (t.take st.1)]]++(pt gs (.cells (t.map Sl.B++rest).toArray 5 fz)::F)) t.length ?_ ?_)
 ·refine Imp.ex (0,(none,0)) (.all ?_)
  refine aq ?_
  refine .pu ⟨by omega,rfl⟩ ?_
  rw[if_pos rfl]
  unfold Mg
  exact aA
 intro m ds y
 refine aq ?_
 refine bt Pick.here fun st=>aE .here ?_
 obtain⟨i,r⟩:=st
 refine aq ?_
 refine aX .here fun hi=>?_
 (try dsimp only at hi)
 obtain⟨hm,rfl⟩:=hi
 (try dsimp only)
 by_cases hlt:i<t.length
 ·have hv:(t.map Sl.B)[i]? =some (.int .u8 (t[i].toNat:Int)):=by simp[hlt,Sl.B]
  have hc:=hall _ (List.getElem_mem hlt)
  simp only[PW,Bool.and_eq_true,decide_eq_true_eq,Bool.not_eq_true',List.contains_eq_mem,decide_eq_false_iff_not]at hc
  obtain⟨⟨c1,c2⟩,c3⟩:=hc
  have c1:33<=t[i].toNat:=by have:=UInt8.le_iff_toNat_le.1 c1;simpa using this
  have c2:t[i].toNat<=126:=by have:=UInt8.le_iff_toNat_le.1 c2;simpa using this
  have hix:lY [34,37,92] t[i]<0:=by
   have:=mt e5.1 c3
   omega
  have hst:t.take (i+1)=t.take i++[t[i]]:=List.take_succ_eq_append_getElem hlt
  refine o_ (Sl.ce (by omega)) ?_
  refine ai (o_ (br i rfl hlt) ?_)
  refine aB (dI (sA (cs:=t.map Sl.B)) hv) aA ?_
  (((refine o_ (Sl.gO ?hcq) ?_);(case hcq=>(first|omega|(simp only[List.length_nil,List.length_cons];omega)))));refine ab ?_;refine ab ?_;(((refine o_ (Sl.ce ?hcq) ?_);(case hcq=>(first|omega|(simp only[List.length_nil,List.length_cons];omega)))));refine o_ av ?_;refine ab ?_;refine ab ?_
  refine' aj (indexByte (l:=[34,37,92]) (c:=t[i])) ?hp fun _=>?_
  case hp=>exact .nil
  refine aq ?_
  refine ab ?_;(((refine o_ (Sl.ce ?hcq) ?_);(case hcq=>(first|omega|(simp only[List.length_nil,List.length_cons];omega)))));refine o_ av (ab (ab ?_));(((refine' aB (Sl.Gj ?hcq) .nil ?_);(case hcq=>(first|assumption|simp;done))));refine o_ av (ai ?_)
  by_cases hi0:i=0
  ·rw[if_pos hi0]
   refine' aj (ES (b:=bb) (c:=t[i])) ?hp fun r2=>?_
   case hp=>exact .cons (by repeat constructor) .nil
   refine aq ?_
   refine bS ?_
   refine bq (m-1) ?_ ?_
   ·omega
   refine .ex (i+1,r2) (.all ?_)
   refine aq ?_
   refine .pu ⟨by omega,by simp⟩ ?_
   (try dsimp only)
   rw[if_neg (by omega),hst,show t.take i=[] by rw[hi0];rfl,List.nil_append]
   exact aA
  ·rw[if_neg hi0]
   refine' aj (IJ (b:=bb) (r:=r) (l:=t.take i) (c:=t[i]) (by simp;omega)) ?hp fun r2=>?_
   case hp=>exact .cons (by repeat constructor) .nil
   refine aq ?_
   refine bS ?_
   refine bq (m-1) ?_ ?_
   ·omega
   refine .ex (i+1,r2) (.all ?_)
   refine aq ?_
   refine .pu ⟨by omega,by simp⟩ ?_
   (try dsimp only)
   rw[if_neg (by omega),hst]
   exact aA
 ·have he:i=t.length:=by omega
  subst he
  rw[if_neg (by omega),List.take_length]
  (((refine o_ (Sl.bJ ?hcq) ?_);(case hcq=>(first|omega|(simp only[List.length_nil,List.length_cons];omega)))));refine af ?_
  refine' aj (pX (b:=bb) (r:=r) (l:=t) hne) ?hp fun _=>?_
  case hp=>exact .cons (by repeat constructor) .nil
  refine aq ?_
  refine aO () ?_
  exact aA
structure En where
 tm:Int
 cl:List UInt8
 me:List UInt8
 ho:List UInt8
 ta:List UInt8
 st:Int
 by_:Int
 ca:List UInt8
def pi (e:En):List Value:=[.int .i64 e.tm,az e.cl,az e.me,az e.ho,az e.ta,.int .i64 e.st,.int .i64 e.by_,az e.ca]
def xR (n:Int):Prop:=0<=n/\n<=1000000000000000000
def rV (t:List UInt8):Prop:=mT t=true/\t.length<=8192
structure EnOk (e:En):Prop where
 tm:xR e.tm
 st:xR e.st
 by_:xR e.by_
 cl:rV e.cl
 me:rV e.me
 ho:rV e.ho
 ta:rV e.ta
 ca:rV e.ca
theorem UT {W:World}{x:Nat}:Cn p_ 265 [.pointer (some ⟨x,0,none⟩)] W [] (fun _:Unit=> .agg #[.pointer (some ⟨x,0,none⟩),.pointer (some ⟨x,5,none⟩),.pointer (some ⟨x,6,none⟩)]) (fun _=>[]):=by
 (refine Shp.cn (Sg.g_ Tryz.call265 Tryz.func265 (an:={drs:=[(1,.ofL [(0,1),(1,1),(2,1),(3,1),(4,1),(5,1),(6,1),(7,1),(8,1),(9,1),(10,0)])]})) fun F=>?_;simp only[ca_,na_])
 refine aS fun g=>?_;refine aV (t_ ah (t_ ae (t_ ah (t_ ae (t_ ah (t_ ae (t_ bM ?_)))))));(((refine' aG ?hp ?hn ?hv ?h1 ?_);(case hp=>(repeat constructor));(case hn=>rfl);(case hv=>rfl);(case h1=>simp[Value.oneCell',az])));(((refine' aP (cB ?hn) ?hi ?_);(case hi=>exact aA);(case hn=>rfl)))
 refine aO () ?_
 exact aA
theorem IL {W:World}{x o:Nat}:Cn p_ 357 [.pointer (some ⟨x,o,none⟩)] W [] (fun b:Nat=> .func (.func 358) #[] #[.pointer (some ⟨b,0,none⟩)]) (fun b=>[pt b (.cells #[.pointer (some ⟨x,o,none⟩)] 354)]):=by
 (refine Shp.cn (Sg.g_ Tryz.call357 Tryz.func357) fun F=>?_;simp only[ca_,na_])
 refine cA fun g=>?_;refine o_ bP (aO g ?_)
 exact .refl
theorem Ci {W:World}{x o:Nat}:Cn p_ 359 [.pointer (some ⟨x,o,none⟩)] W [] (fun b:Nat=> .func (.func 360) #[] #[.pointer (some ⟨b,0,none⟩)]) (fun b=>[pt b (.cells #[.pointer (some ⟨x,o,none⟩)] 406)]):=by
 (refine Shp.cn (Sg.g_ Tryz.call359 Tryz.func359) fun F=>?_;simp only[ca_,na_])
 refine cA fun g=>?_;refine o_ bP (aO g ?_)
 exact .refl
theorem uO {W:World}{x o b:Nat}{cs:List Value}{T:TypeId}{t:List UInt8}(h:rV t)(ho:cs[o]? =some (az t)):Cn p_ 360 ([az []]++[.pointer (some ⟨b,0,none⟩)]) W [pt b (.cells #[.pointer (some ⟨x,o,none⟩)] 406),pt x (.cells cs.toArray T (0,0))] (fun _:Unit=> .tuple #[az t,.bool false]) (fun _=>[pt b (.cells #[.pointer (some ⟨x,o,none⟩)] 406),pt x (.cells cs.toArray T (0,0))]):=by
 (refine Shp.cn (Sg.g_ Tryz.call360 Tryz.func360 (an:={cuts:=[(3,[])],drs:=[(2,.ofL [(0,3),(1,1),(2,0),(3,1),(4,0)])]}) (os:=[(2,[(2,[0])])])) fun F=>?_;simp only[ca_,na_])
 refine eb ?_
 refine o_ (Sl.pW (m:=[]) (by simp)) ?_
 refine af (ip fun ds=>?_)
 refine aM ?_;refine o_ ah (aB (iX (cs:=cs.toArray) (by simpa using ho)) aA ?_)
 refine' aj (IK h.1 h.2) ?hp fun _=>?_
 case hp=>exact .nil
 refine aq ?_
 refine o_ (Sl.pW (m:=[]) (by simp)) ?_
 refine aO () ?_
 exact aA
theorem Cj {W:World}[hG:Gl W][hP:Gp W]{x o b:Nat}{cs:List Value}{T:TypeId}{n:Int}(h:xR n)(ho:cs[o]? =some (.int .i64 n)):Cn p_ 358 ([az []]++[.pointer (some ⟨b,0,none⟩)]) W [pt b (.cells #[.pointer (some ⟨x,o,none⟩)] 354),pt x (.cells cs.toArray T (0,0))] (fun _:Unit=> .tuple #[az (ei n),.bool false]) (fun _=>[pt b (.cells #[.pointer (some ⟨x,o,none⟩)] 354),pt x (.cells cs.toArray T (0,0))]):=by
 (refine Shp.cn (Sg.g_ Tryz.call358 Tryz.func358 (an:={cuts:=[(4,[])]})) fun F=>?_;simp only[ca_,na_])
 refine' aj (jx (l:=[]) (by decide)) ?hp fun _=>?_
 case hp=>exact .nil
 rw[show cS []=(0,21) by decide]
 refine aq ?_
 refine bI ?_;refine bI ?_
 refine eb ?_
 (((refine o_ (Sl.bL ?hcq) ?_);(case hcq=>(first|omega|(simp only[List.length_nil,List.length_cons];omega)))));refine af ?_
 refine ip fun ds=>?_
 refine aM ?_;refine o_ ah (aB (iX (cs:=cs.toArray) (by simpa using ho)) aA ?_)
 obtain⟨h1,h2⟩:=h
 refine' aj (eI (i:=n) (by omega) (by omega)) ?hp fun _=>?_
 case hp=>exact .nil
 refine aq ?_
 (((refine o_ (Sl.bL ?hcq) ?_);(case hcq=>(first|omega|(simp only[List.length_nil,List.length_cons];omega)))))
 refine aO () ?_
 exact aA
structure Bx where
 b0:Nat
 b1:Nat
 b2:Nat
 b3:Nat
 b4:Nat
 b5:Nat
 b6:Nat
 b7:Nat
def UU (q:Bx):List Value:=[.func (.func 358) #[] #[.pointer (some ⟨q.b0,0,none⟩)],.func (.func 360) #[] #[.pointer (some ⟨q.b1,0,none⟩)],.func (.func 360) #[] #[.pointer (some ⟨q.b2,0,none⟩)],.func (.func 360) #[] #[.pointer (some ⟨q.b3,0,none⟩)],.func (.func 360) #[] #[.pointer (some ⟨q.b4,0,none⟩)],.func (.func 358) #[] #[.pointer (some ⟨q.b5,0,none⟩)],.func (.func 358) #[] #[.pointer (some ⟨q.b6,0,none⟩)],.func (.func 360) #[] #[.pointer (some ⟨q.b7,0,none⟩)]]
def ET (x:Nat)(q:Bx):HP:=all [pt q.b0 (.cells #[.pointer (some ⟨x,0,none⟩)] 354),pt q.b1 (.cells #[.pointer (some ⟨x,1,none⟩)] 406),pt q.b2 (.cells #[.pointer (some ⟨x,2,none⟩)] 406),pt q.b3 (.cells #[.pointer (some ⟨x,3,none⟩)] 406),pt q.b4 (.cells #[.pointer (some ⟨x,4,none⟩)] 406),pt q.b5 (.cells #[.pointer (some ⟨x,5,none⟩)] 354),pt q.b6 (.cells #[.pointer (some ⟨x,6,none⟩)] 354),pt q.b7 (.cells #[.pointer (some ⟨x,7,none⟩)] 406)]
theorem IM {W:World}{x:Nat}:Cn p_ 267 [.pointer (some ⟨x,0,none⟩)] W [] (fun q:Bx=> .agg (UU q).toArray) (fun q=>[ET x q]):=by
 (refine Shp.cn (Sg.g_ Tryz.call267 Tryz.func267 (an:={drs:=[(3,.ofL [(0,1),(1,1),(2,1),(3,1),(5,2),(6,2),(7,3),(8,3),(10,2),(11,2),(12,3),(13,3),(15,2),(16,2),(17,3),(18,3),(20,2),(21,2),(22,3),(23,3),(25,2),(26,2),(27,3),(28,3),(30,2),(31,2),(32,3),(33,3),(35,2),(36,2),(37,3),(38,3),(4,0),(9,0),(14,0),(19,0),(24,0),(29,0),(34,0),(39,0),(40,1),(41,0)])]}) (os:=[(3,[(4,[38,37,33,32,28,27,23,22,18,17,13,12,8,7]),(9,[38,37,33,32,28,27,23,22,18,17,13,12]),(14,[38,37,33,32,28,27,23,22,18,17]),(19,[38,37,33,32,28,27,23,22]),(24,[38,37,33,32,28,27]),(29,[38,37,33,32]),(34,[38,37])])])) fun F=>?_;simp only[ca_,na_])
 refine aS fun g=>?_;refine aV (t_ ah (t_ ae (ay ah .nil ?_)));refine ay ae .nil ?_;refine ay ah .nil ?_;refine ay ae .nil ?_;refine ay ah .nil ?_;refine ay ae .nil ?_;refine ay ah .nil ?_;refine ay ae .nil ?_;refine ay ah .nil ?_;refine ay ae .nil ?_;refine ay ah .nil ?_;refine ay ae .nil ?_;refine ay ah .nil ?_;refine ay ae .nil ?_
 refine' aj (IL (x:=x) (o:=0)) ?hp fun b0=>?_
 case hp=>exact .nil
 refine aq ?_
 refine aY ?_;refine aY ?_;refine aY ?_;refine aY ?_;refine aY ?_;refine aY ?_;refine aY ?_;refine aY ?_;refine aY ?_;refine aY ?_;refine aY ?_;refine aY ?_;refine aY ?_;refine aY ?_
 refine' aj (Ci (x:=x) (o:=1)) ?hp fun b1=>?_
 case hp=>exact .nil
 refine aq ?_
 refine aY ?_;refine aY ?_;refine aY ?_;refine aY ?_;refine aY ?_;refine aY ?_;refine aY ?_;refine aY ?_;refine aY ?_;refine aY ?_;refine aY ?_;refine aY ?_
 refine' aj (Ci (x:=x) (o:=2)) ?hp fun b2=>?_
 case hp=>exact .nil
 refine aq ?_
 refine aY ?_;refine aY ?_;refine aY ?_;refine aY ?_;refine aY ?_;refine aY ?_;refine aY ?_;refine aY ?_;refine aY ?_;refine aY ?_
 refine' aj (Ci (x:=x) (o:=3)) ?hp fun b3=>?_
 case hp=>exact .nil
 refine aq ?_
 refine aY ?_;refine aY ?_;refine aY ?_;refine aY ?_;refine aY ?_;refine aY ?_;refine aY ?_;refine aY ?_
 refine' aj (Ci (x:=x) (o:=4)) ?hp fun b4=>?_
 case hp=>exact .nil
 refine aq ?_
 refine aY ?_;refine aY ?_;refine aY ?_;refine aY ?_;refine aY ?_;refine aY ?_
 refine' aj (IL (x:=x) (o:=5)) ?hp fun b5=>?_
 case hp=>exact .nil
 refine aq ?_
 refine aY ?_;refine aY ?_;refine aY ?_;refine aY ?_
 refine' aj (IL (x:=x) (o:=6)) ?hp fun b6=>?_
 case hp=>exact .nil
 refine aq ?_
 refine aY ?_;refine aY ?_
 refine' aj (Ci (x:=x) (o:=7)) ?hp fun b7=>?_
 case hp=>exact .nil
 refine aq ?_
 refine t_ bM ?_;(((refine' aG ?hp ?hn ?hv ?h1 ?_);(case hp=>(repeat constructor));(case hn=>rfl);(case hv=>rfl);(case h1=>simp[Value.oneCell',az])));(((refine' aP (cB ?hn) ?hi ?_);(case hi=>exact aA);(case hn=>rfl)))
 refine aO (⟨b0,b1,b2,b3,b4,b5,b6,b7⟩) ?_
 refine .all ?_
 refine aq ?_
 exact aA
def IN (k:Nat):Nat:=if k<4 then k+1 else 7
def PX (x:Nat):List (List Value):=(List.range 5).map fun k=>[.pointer (some ⟨x,IN k,none⟩)]
theorem xS {x k:Nat}(h:k<5):(PX x)[k]? =some [.pointer (some ⟨x,IN k,none⟩)]:=by simp[PX,h]
theorem IP {W:World}{x:Nat}:Cn p_ 266 [.pointer (some ⟨x,0,none⟩)] W [] (fun c:Nat=> .func (.func 356) #[] [.pointer (some ⟨c,0,none⟩)].toArray) (fun c=>[pt c (.cells #[.pointer (some ⟨x,0,none⟩)] 490)]):=by
 (refine Shp.cn (Sg.g_ Tryz.call266 Tryz.func266) fun F=>?_;simp only[ca_,na_])
 refine cA fun g=>?_;refine o_ bP (aO g ?_)
 exact .refl
theorem EU {W:World} {c l x:Nat} {G:Nat->HP} {Gx T T':HP}
  (hy:j3 p_ l (PX x) (fun k=>all [T,all [pt c (.cells #[.pointer (some ⟨x,0,none⟩)] 490),G k]]) (all [T',Gx]) W):
  Cn p_ 356 [yv l,.pointer (some ⟨c,0,none⟩)] W [all [T,all [pt c (.cells #[.pointer (some ⟨x,0,none⟩)] 490),G 0]]] (fun _:Bool=> .tuple #[]) (fun b=>[if b then all [T,all [pt c (.cells #[.pointer (some ⟨x,0,none⟩)] 490),G 5]]else all [T',Gx]]):=by
 (refine Shp.cn (Sg.g_ Tryz.call356 Tryz.func356 (an:={loops:=[(1,[21])],drs:=[(0,.ofL [(0,1),(1,1),(2,1),(3,1),(4,1),(5,1),(6,1),(7,1),(8,1),(9,1),(10,1),(11,1),(12,1),(13,1),(14,1),(15,1),(16,1)])]})) fun F=>?_;simp only[ca_,na_])
 refine aE .here ?_
 refine aq ?_
 refine aE (.there .here) ?_
 refine aq ?_
 refine aV (cu ?_);refine t_ ah (t_ ae (cu ?_));refine t_ ah (t_ ae (cu ?_));refine t_ ah (t_ ae (cu ?_));refine t_ ah (t_ ae (cu ?_));refine t_ ah (t_ ae (t_ bM ?_))
 refine a_ (fun m y=>[ex fun k:Nat=>all [pu (m+k=5/\y= .int .i64 (k:Int)),all [T,all [pt c (.cells #[.pointer (some ⟨x,0,none⟩)] 490),G k]]]]++F) 5 ?_ ?_
 ·refine .ex 0 (.all ?_)
  refine aq ?_
  refine .pu ⟨rfl,rfl⟩ (.all ?_)
  refine aq ?_
  refine .pick (by repeat constructor) (.all ?_)
  refine aq ?_
  exact aA
 intro m ds y
 refine aq ?_
 refine bt Pick.here fun k=>aE Pick.here ?_
 refine aq ?_
 refine aX Pick.here fun hi=>?_
 obtain⟨hm,rfl⟩:=hi
 by_cases hlt:k<5
 ·refine o_ (Sl.ce (by omega)) ?_
  refine ai (o_ (iC (v:= .pointer (some ⟨x,IN k,none⟩)) k rfl hlt (by rcases(show k=0\/k=1\/k=2\/k=3\/k=4 by omega)with rfl|rfl|rfl|rfl|rfl <;> rfl)) ?_)
  refine iB hy k (xS hlt) .here ?_ ?_
  ·(refine o_ bA ?_);refine af ?_;refine bS ?_
   refine bq (m-1) ?_ ?_
   ·omega
   refine .ex (k+1) (.all ?_)
   refine aq ?_
   exact .pu ⟨by omega,by simp⟩ .refl
  ·(refine o_ cP ?_);refine ai ?_
   refine aO false ?_
   exact .refl
 ·obtain rfl:k=5:=by omega
  refine o_ (Sl.bJ (by decide)) ?_
  refine af (aO true ?_)
  exact .refl
def zm (e:En):List (List UInt8):=[ei e.tm,e.cl,e.me,e.ho,e.ta,ei e.st,ei e.by_,e.ca]
def mU (e:En):List UInt8:=iI [32] (zm e)
theorem IQ {W:World} [hG:Gl W] [hP:Gp W] {x i:Nat} {q:Bx} {e:En} {L:List HP} {Kp:PK} {K:Value->WP} (h:EnOk e) (hi:i<8)
  (hk:aR W (ET x q::pt x (.cells (pi e).toArray 207)::L) (K (.tuple #[az ((zm e).getD i []),.bool false]))):
  aR W (ET x q::pt x (.cells (pi e).toArray 207)::L) (opN p_ (bT ((UU q).getD i (.int .i64 0)) [az []]) Kp K):=by
 refine aE .here ?_
 refine aq ?_
 rcases(show i=0\/i=1\/i=2\/i=3\/i=4\/i=5\/i=6\/i=7 by omega)with rfl|rfl|rfl|rfl|rfl|rfl|rfl|rfl
 ·refine' ey (first:=[]) (Cj (cs:=pi e) (o:=0) (b:=q.b0) h.tm rfl) ?hpp0 fun _=>bu ?hip0 hk
  case hpp0=>(repeat(first|exact Picks.nil|(apply Picks.cons;(focus repeat constructor))))
  refine .all ?_
  refine aq ?_
  exact aA
 ·refine' ey (first:=[]) (uO (cs:=pi e) (o:=1) (b:=q.b1) h.cl rfl) ?hpp1 fun _=>bu ?hip1 hk
  case hpp1=>(repeat(first|exact Picks.nil|(apply Picks.cons;(focus repeat constructor))))
  refine .all ?_
  refine aq ?_
  exact aA
 ·refine' ey (first:=[]) (uO (cs:=pi e) (o:=2) (b:=q.b2) h.me rfl) ?hpp2 fun _=>bu ?hip2 hk
  case hpp2=>(repeat(first|exact Picks.nil|(apply Picks.cons;(focus repeat constructor))))
  refine .all ?_
  refine aq ?_
  exact aA
 ·refine' ey (first:=[]) (uO (cs:=pi e) (o:=3) (b:=q.b3) h.ho rfl) ?hpp3 fun _=>bu ?hip3 hk
  case hpp3=>(repeat(first|exact Picks.nil|(apply Picks.cons;(focus repeat constructor))))
  refine .all ?_
  refine aq ?_
  exact aA
 ·refine' ey (first:=[]) (uO (cs:=pi e) (o:=4) (b:=q.b4) h.ta rfl) ?hpp4 fun _=>bu ?hip4 hk
  case hpp4=>(repeat(first|exact Picks.nil|(apply Picks.cons;(focus repeat constructor))))
  refine .all ?_
  refine aq ?_
  exact aA
 ·refine' ey (first:=[]) (Cj (cs:=pi e) (o:=5) (b:=q.b5) h.st rfl) ?hpp5 fun _=>bu ?hip5 hk
  case hpp5=>(repeat(first|exact Picks.nil|(apply Picks.cons;(focus repeat constructor))))
  refine .all ?_
  refine aq ?_
  exact aA
 ·refine' ey (first:=[]) (Cj (cs:=pi e) (o:=6) (b:=q.b6) h.by_ rfl) ?hpp6 fun _=>bu ?hip6 hk
  case hpp6=>(repeat(first|exact Picks.nil|(apply Picks.cons;(focus repeat constructor))))
  refine .all ?_
  refine aq ?_
  exact aA
 ·refine' ey (first:=[]) (uO (cs:=pi e) (o:=7) (b:=q.b7) h.ca rfl) ?hpp7 fun _=>bu ?hip7 hk
  case hpp7=>(repeat(first|exact Picks.nil|(apply Picks.cons;(focus repeat constructor))))
  refine .all ?_
  refine aq ?_
  exact aA
theorem PY {W:World}[hG:Gl W][hP:Gp W]{e:En}(h:EnOk e)(hl:(mU e).length<=65536):Cn p_ 169 [.agg (pi e).toArray] W [] (fun _:Unit=> .tuple #[az (mU e),.int .i64 0]) (fun _=>[]):=by
 (refine S.qY.cn fun F=>?_;unfold S.ou;simp only[ca_,na_])
 refine aU fun x=>?_
 refine dH fun b2=>?_
 refine dH fun b3=>?_
 refine' aj (UT (x:=x)) ?hp fun _=>?_
 case hp=>exact .nil
 refine aq ?_
 refine a_ (fun m y=>[ex fun k:Nat=>pu (m+k=3/\y= .int .i64 (k:Int))]++(pt b3 (.cells #[.int .i64 0] 29)::pt b2 (.cells #[az []] 9)::pt x (.cells (pi e).toArray 207)::F)) 3 ?_ ?_
 ·exact .ex 0 (.pu ⟨rfl,rfl⟩ .refl)
 intro m ds y
 refine aq ?_
 refine bt Pick.here fun k=>aX Pick.here fun hi=>?_
 obtain⟨hm,rfl⟩:=hi
 by_cases hlt:k<3
 ·obtain⟨⟨t1,t2⟩,⟨s1,s2⟩,⟨y1,y2⟩,_,_,_,_,_⟩:=h
  refine o_ (Sl.ce (by omega)) ?_
  refine ai ?_
  unfold pi
  rcases(show k=0\/k=1\/k=2 by omega)with rfl|rfl|rfl
  ·refine o_ (iC 0 rfl (by decide) (by rfl)) ?_
   refine o_ ah (aM ?_);(((refine o_ (Sl.bJ ?hcq) ?_);(case hcq=>(first|omega|(simp only[List.length_nil,List.length_cons];omega)))));refine ab (ab (o_ ah (ab (aM ?_))));refine ab ?_;(((refine o_ (Sl.bZ ?hcq) ?_);(case hcq=>(first|omega|(simp only[List.length_nil,List.length_cons];omega)))));refine o_ am (af (bS ?_))
   refine bq (m-1) ?_ ?_
   ·omega
   refine .ex 1 (.pu ⟨by omega,rfl⟩ ?_)
   exact aA
  ·refine o_ (iC 1 rfl (by decide) (by rfl)) ?_
   refine o_ ah (aM ?_);(((refine o_ (Sl.bJ ?hcq) ?_);(case hcq=>(first|omega|(simp only[List.length_nil,List.length_cons];omega)))));refine ab (ab (o_ ah (ab (aM ?_))));refine ab ?_;(((refine o_ (Sl.bZ ?hcq) ?_);(case hcq=>(first|omega|(simp only[List.length_nil,List.length_cons];omega)))));refine o_ am (af (bS ?_))
   refine bq (m-1) ?_ ?_
   ·omega
   refine .ex 2 (.pu ⟨by omega,rfl⟩ ?_)
   exact aA
  ·refine o_ (iC 2 rfl (by decide) (by rfl)) ?_
   refine o_ ah (aM ?_);(((refine o_ (Sl.bJ ?hcq) ?_);(case hcq=>(first|omega|(simp only[List.length_nil,List.length_cons];omega)))));refine ab (ab (o_ ah (ab (aM ?_))));refine ab ?_;(((refine o_ (Sl.bZ ?hcq) ?_);(case hcq=>(first|omega|(simp only[List.length_nil,List.length_cons];omega)))));refine o_ am (af (bS ?_))
   refine bq (m-1) ?_ ?_
   ·omega
   refine .ex 3 (.pu ⟨by omega,rfl⟩ ?_)
   exact aA
 obtain rfl:k=3:=by omega
 refine o_ (Sl.bJ (by decide)) ?_
 refine af ?_
 refine' aj (IP (x:=x)) ?hp fun c=>?_
 case hp=>exact .nil
 refine aq ?_
 refine Ao (f:=356) (cap:=[.pointer (some ⟨c,0,none⟩)]) (PX x)
  (fun k=>all [pt c (.cells #[.pointer (some ⟨x,0,none⟩)] 490),all [pt b3 (.cells #[.int .i64 0] 29),pt b2 (.cells #[az []] 9),pt x (.cells (pi e).toArray 207),all F]])
  (pu False) rfl ?_ ?_ ?_ ?_ ?_ ?_
 ·intro x hx
  obtain⟨k,_,rfl⟩:=List.mem_map.1 hx
  rfl
 ·refine .all ?_
  refine aq ?_
  refine .pick (by repeat constructor) (.all ?_)
  refine aq ?_
  refine .pick (by repeat constructor) (.pick (by repeat constructor) (.pick (by repeat constructor) (.all ?_)))
  rw[List.append_nil]
  exact .refl
 ·intro l T T' hy
  exact EU hy
 ·intro k hk F2 T0 T1 B N J hB hN hJ
  have hk:k<5:=hk
  have e0:∀h,(PX x)[k]'h=[.pointer (some ⟨x,IN k,none⟩)]:=fun h=>by
   have:=xS (x:=x) hk
   rw[List.getElem?_eq_getElem h]at this
   exact Option.some.inj this
  rw[e0]
  simp only[ji,List.headD_cons,List.tail_cons]
  refine aE (.there .here) ?_
  refine aq ?_
  refine aE (.there .here) ?_
  refine aq ?_
  refine hB _ _ _ (by repeat constructor) ?_
  refine o_ ah ?_
  have hF:∀(t:List UInt8),t.length<=8192->(pi e)[IN k]? =some (az t)->∀ {L:List HP} {KK:Value->WP},aR W (pt x (.cells (pi e).toArray 207)::L) (KK (az t))->aR W (pt x (.cells (pi e).toArray 207)::L) (opN p_ (aL 9 (.pointer (some ⟨x,IN k,none⟩))) cf KK):=fun t _ ht L KK hh=>aB (iX (cs:=(pi e).toArray) (by simpa using ht)) (.pick .here .nil) hh
  obtain⟨tt,ht1,ht2⟩:∃tt:List UInt8,tt.length<=8192/\(pi e)[IN k]? =some (az tt):=by
   rcases(show k=0\/k=1\/k=2\/k=3\/k=4 by omega)with rfl|rfl|rfl|rfl|rfl
   ·exact⟨_,h.cl.2,rfl⟩
   ·exact⟨_,h.me.2,rfl⟩
   ·exact⟨_,h.ho.2,rfl⟩
   ·exact⟨_,h.ta.2,rfl⟩
   ·exact⟨_,h.ca.2,rfl⟩
  refine aB (iX (cs:=(pi e).toArray) (T:=207) (fz:=(0,0)) (by simpa using ht2)) aA ?_
  refine o_ bC ?_;(((refine o_ (Sl.bZ ?hcq) ?_);(case hcq=>(first|omega|(simp only[List.length_nil,List.length_cons];omega)))));refine af ?_
  have tail:Imp W (pt b3 (.cells #[.int .i64 0] 29)::pt b2 (.cells #[az []] 9)::pt x (.cells (pi e).toArray 207)::all F::pt c (.cells #[.pointer (some ⟨x,0,none⟩)] 490)::T1::F2) (T1::all [pt c (.cells #[.pointer (some ⟨x,0,none⟩)] 490),all [pt b3 (.cells #[.int .i64 0] 29),pt b2 (.cells #[az []] 9),pt x (.cells (pi e).toArray 207),all F]]::F2):=by
   refine .pick (by repeat constructor) (.all ?_)
   refine aq ?_
   refine .pick (by repeat constructor) (.all ?_)
   refine aq ?_
   exact aA
  refine bu ?_ (hN _ tail)
  exact aA
 ·intro d
  refine aE (.there .here) ?_
  refine aq ?_
  refine aE (.there .here) ?_
  refine aq ?_
  refine' aj (IM (x:=x)) ?hp fun q=>?_
  case hp=>exact .nil
  refine aq ?_
  refine cz (fun m y z=>[ex fun k:Nat=>ex fun u:Option Addr × Nat=>all [pu (m+k=8/\y= .slice u.1 k u.2/\z= .int .i64 (k:Int)),Sl 1 9 u.1 u.2 k (((zm e).take k).map az)]]++(ET x q::pt x (.cells (pi e).toArray 207)::pt b3 (.cells #[.int .i64 0] 29)::pt b2 (.cells #[az []] 9)::all F::pt c (.cells #[.pointer (some ⟨x,0,none⟩)] 490)::[pt d (.deferred (some []))])) 8 ?_ ?_
  ·refine .ex 0 (.ex (none,0) (.all ?_))
   refine aq ?_
   refine .pu ⟨rfl,rfl,rfl⟩ (bO ?_)
   exact aA
  intro m ds y z
  refine aq ?_
  refine bt Pick.here fun k=>bt Pick.here fun u=>aE Pick.here ?_
  refine aq ?_
  refine aX Pick.here fun hi=>?_
  obtain⟨hm,rfl,rfl⟩:=hi
  obtain⟨ua,uc⟩:=u
  (try dsimp only)
  by_cases hlt:k<8
  ·refine o_ (Sl.ce (by omega)) ?_
   refine ai (o_ (iC (v:=(UU q).getD k (.int .i64 0)) k rfl hlt (by rcases(show k=0\/k=1\/k=2\/k=3\/k=4\/k=5\/k=6\/k=7 by omega)with rfl|rfl|rfl|rfl|rfl|rfl|rfl|rfl <;> rfl)) ?_)
   refine bu (.pick (by repeat constructor) (.pick (by repeat constructor) .refl)) (IQ (q:=q) (e:=e) h hlt ?_)
   refine bI ?_;refine bI ?_;refine cZ fun g=>?_
   refine bV (m:=1) (news:=[az ((zm e).getD k [])]) (by(repeat constructor):Pick _ (Sl 1 9 ua uc k (((zm e).take k).map az)) _) (bR (s:=1) (e':=9) (by kernel_rfl) .here (by rfl) (by intro u hu;rw[List.mem_singleton.1 hu];rfl)) (by omega) (by omega) fun a' c'=>?_
   refine bS ?_
   refine bX (m-1) ?_ ?_
   ·omega
   refine .ex (k+1) (.ex (a',c') (.all ?_))
   refine aq ?_
   refine .pu ⟨by omega,by simp,by simp⟩ ?_
   have ht:((zm e).take (k+1)).map az=((zm e).take k).map az++[az ((zm e).getD k [])]:=by
    rw[List.take_add_one,List.map_append,List.getD_eq_getElem?_getD,List.getElem?_eq_getElem (show k<(zm e).length from hlt)]
    rfl
   rw[ht]
   exact aA
  ·obtain rfl:k=8:=by omega
   refine o_ (Sl.bJ (by decide)) ?_
   refine af ?_
   rw[show(zm e).take 8=zm e from rfl]
   refine' aj (join (sep:=[32]) (V:=zm e) (a:=ua) (c:=uc) (by decide) (by decide) (Nat.le_trans hl (by decide)) (Nat.le_of_ble_eq_true rfl)) ?hp fun _=>?_
   case hp=>(repeat(first|exact Picks.nil|(apply Picks.cons;(focus repeat constructor))))
   refine aq ?_
   refine bU ?_;refine bU ?_
   refine su (by repeat constructor) ?_
   (((refine' aP (dh ?hc) ?hi ?_);(case hi=>exact aA);(case hc=>repeat constructor)));(((refine' aP (dh ?hc) ?hi ?_);(case hi=>exact aA);(case hc=>repeat constructor)))
   refine jp (M:=[]) (F:=F) aA ?_
   refine aq ?_
   refine aO () ?_
   exact .refl
 ·intro d
  refine aX (.there .here) fun hp=>hp.elim
def iz (g n:Nat):HP:=ex fun u:Option Addr × Nat=>ex fun V:List (List UInt8)=>ex fun z:Int=>all [pu (V.length=n/\0<=z/\z<=(n:Int) * 256),pt g (.cells #[.slice u.1 n u.2,.int .i64 z,.int .i64 65536,.int .i64 0] 276),Sl 1 9 u.1 u.2 n (V.map az)]
theorem UV {W:World}:Cn p_ 73 [.int .i64 65536] W [] (fun g:Nat=> .tuple #[.pointer (some ⟨g,0,none⟩),.int .i64 0]) (fun g=>[iz g 0]):=by
 (refine Shp.cn (Sg.g_ Tryz.call73 Tryz.func73) fun F=>?_;simp only[ca_,na_])
 (((refine o_ (Sl.bJ ?hcq) ?_);(case hcq=>(first|omega|(simp only[List.length_nil,List.length_cons];omega)))));refine ab ?_;refine ab ?_;(((refine o_ (Sl.bZ ?hcq) ?_);(case hcq=>(first|omega|(simp only[List.length_nil,List.length_cons];omega)))));refine o_ am ?_;refine af ?_;refine o_ bM ?_;refine aU fun g=>?_
 refine aO g ?_
 refine .ex (none,0) (.ex [] (.ex 0 (.all ?_)))
 refine aq ?_
 refine .pu ⟨rfl,by omega,by omega⟩ (.pick .here (bO ?_))
 exact .refl
theorem PZ {W:World}{g:Nat}{a b c:Value}{m:Int}(h:m≠0):Cn p_ 168 [.pointer (some ⟨g,0,none⟩)] W [pt g (.cells #[a,b,.int .i64 m,c] 276)] (fun _:Unit=> .bool false) (fun _=>[pt g (.cells #[a,b,.int .i64 m,c] 276)]):=by
 (refine Shp.cn (Sg.g_ Tryz.call168 Tryz.func168) fun F=>?_;simp only[ca_,na_])
 refine o_ cp ?_;refine ab (ab (o_ ah (ab (o_ ae (ab (aM ?_))))));refine ab ?_;(((refine o_ (Sl.bL ?hcq) ?_);(case hcq=>(first|omega|(simp only[List.length_nil,List.length_cons];omega)))));refine o_ am (aO () ?_)
 exact .refl
theorem EV {W:World}[hG:Gl W][hP:Gp W]{lg n:Nat}{e:En}(h:EnOk e)(hl:(mU e).length<=250)(hn:n<=200):Cn p_ 93 [.pointer (some ⟨lg,0,none⟩),.agg (pi e).toArray] W [iz lg n] (fun _:Unit=> .int .i64 0) (fun _=>[iz lg (n+1)]):=by
 (refine Shp.cn (Sg.g_ Tryz.call93 Tryz.func93 (an:={loops:=[(8,[])],drs:=[(8,.ofL [(0,1),(1,1),(2,1),(3,1),(4,1),(5,1),(6,1),(7,1),(8,1)]),(9,.ofL [(0,1),(1,1),(2,1),(3,1),(4,1),(5,1),(6,1),(7,1),(8,1),(9,1),(10,1),(11,1),(12,1),(13,1),(14,1),(15,0)])]})) fun F=>?_;simp only[ca_,na_])
 refine aU fun x=>?_
 refine bt (.there .here) fun u=>bt .here fun V=>bt .here fun z=>aE .here ?_
 obtain⟨ua,uc⟩:=u
 refine aq ?_
 refine aX .here fun hz=>?_
 obtain⟨hV,hz0,hz1⟩:=hz
 (try dsimp only)
 refine c_ (PZ (m:=65536) (by decide)) fun _=>?_
 refine af (iS ?_)
 refine c_ (PY h (by omega)) fun _=>?_
 refine bI ?_;refine bI ?_;(((refine o_ (Sl.cE ?hcq) ?_);(case hcq=>(first|omega|(simp only[List.length_nil,List.length_cons];omega)))));refine af (o_ ah (o_ ae (aM ?_)));refine cZ fun g=>?_
 refine bV (m:=1) (news:=[az (mU e)]) (by(repeat constructor):Pick _ (Sl 1 9 ua uc n (V.map az)) _) (bR (s:=1) (e':=9) (by kernel_rfl) .here (by rfl) (by intro u hu;rw[List.mem_singleton.1 hu];rfl)) (by omega) (by omega) fun a' c'=>?_
 refine o_ ah (o_ ae (bU ?_));refine o_ ah (o_ ae (aM ?_));refine o_ bC (bS ?_);refine bS ?_;refine o_ ah (o_ ae (bU ?_))
 refine jl (fun m=>_) 0 .refl ?_
 intro m ds
 refine aV (t_ ah (t_ ae (cu ?_)));refine t_ ah (t_ ae (cu ?_));(((refine t_ (Sl.bZ ?hcq) ?_);(case hcq=>(first|omega|(simp only[List.length_nil,List.length_cons];omega)))));refine af (aO () ?_)
 refine .ex (a',c') (.ex (V++[mU e]) (.ex (z+((mU e).length+1)) (.all ?_)))
 refine aq ?_
 refine .pu ⟨by simp[hV],by omega,by omega⟩ ?_
 rw[List.map_append]
 exact aA
end Go.Proofs.YtdjkdjepjahjfaaGreatDoor.TP
namespace Go.Proofs.YtdjkdjepjahjfaaGreatDoor.FD
open Go Go.Proofs Go.RowKit Sh Sl T
section
variable {P:Program} {W:World} {L L':List HP} {Kp:PK} {k:Value->WP}
theorem EW {t e ty:TypeId} {b g o n cap m c:Nat} {cs:List Value} {z:Value} [ht:SlT P t e 1 b] [hz:ZeroT P e z] [hc:OC z] (p:Pick L (Sl 1 e (some ⟨g,0,none⟩) cap n cs) L') (hm:0<m) (ho:o+m<=n)
  (h:aR W (Sl 1 e (some ⟨g,0,none⟩) cap n (cs.take o++List.replicate m z++cs.drop (o+m))::L') (k (.tuple #[]))):aR W L (opN P (sq #[t] ty [.slice (some ⟨g,o,none⟩) m c]) Kp k):=fun w hw=>by
 obtain⟨rest,r1,r2,r3,r4,hp⟩:=jr (hw.pick p)
 rw[Nat.mul_one]at r2
 have hrun:=Lib.run_clear_slice (P:=P) w t e ty z ht.ut hz.run (ak hc.one) hc.one g o m c hm (fun j hj=>by
  rw[hp.cell,Array.getElem?_eq_getElem (by simp;omega)];rfl) (fun j _=>hp.free)
 obtain⟨cs',c1,c2,c3⟩:=fC g o (List.replicate m z) w _ _ hp
 refine⟨?_⟩
 have:(sq #[t] ty [.slice (some ⟨g,o,none⟩) m c]).run P w= .ok (.value (.tuple #[])) (w.setCells g o (List.replicate m z)):=by
  simp[sq,hrun]
 rw[this]
 refine h _ (oV r1 (by simp;omega) r3 r4 ?_)
 have he:cs'=(cs.take o++List.replicate m z++cs.drop (o+m)++rest).toArray:=by
  apply Array.ext_getElem?
  intro j
  rw[c3]
  simp only[List.size_toArray,List.length_append,List.getElem?_toArray,List.length_replicate]
  rw[tU (n:=m) (by simp) (by omega)]
  by_cases hj:o<=j/\j<o+m
  ·rw[if_pos hj,if_pos ⟨hj.1,hj.2,by omega⟩]
  ·rw[if_neg hj,if_neg (fun c=>hj ⟨c.1,c.2.1⟩)]
 rwa [he]at c1
end
theorem IR {W:World}{l m:List (List UInt8)}{a b:Option Addr}{c d:Nat}(hl:l.length<=1099511627776):
  Cn p_ 397 [.slice a l.length c,.slice b m.length d] W [Sl 1 9 a c l.length (l.map az),Sl 1 9 b d m.length (m.map az)] (fun _:Unit=> .bool (decide (l=m)))
   (fun _=>[Sl 1 9 a c l.length (l.map az),Sl 1 9 b d m.length (m.map az)]):=by
 (refine Shp.cn (Sg.g_ Tryz.call397 Tryz.func397 (an:={loops:=[(4,[13])],drs:=[(6,.ofL [(0,1),(1,1),(2,1),(3,1),(4,1),(5,1),(6,1),(7,1),(8,1)])]})) fun F=>?_;simp only[ca_,na_])
 refine o_ aK (o_ aK (bj jY .nil (fun h=>?_) (fun h=>?_)))
 ·refine ai (bG () (by rw[dF_];intro e;apply h;rw[e]) ?_)
  exact aA
 have hlen:l.length=m.length:=by omega
 refine af (o_ aK (aN (by(repeat constructor):Pick _ (Sl 1 9 a c l.length (l.map az)) _) fun _ _ _ ha=>?_))
 refine aN (by(repeat constructor):Pick _ (Sl 1 9 b d m.length (m.map az)) _) fun _ _ _ hb=>?_
 have hN:RdB W (Sl 1 9 a c l.length (l.map az)) a l.length (l.map az):=fD (by rw[List.length_map]) ha
 have hM:RdB W (Sl 1 9 b d m.length (m.map az)) b m.length (m.map az):=fD (by rw[List.length_map]) hb
 refine a_ (fun k y=>pu (∃i:Nat,k+i=l.length/\y= .int .i64 (i:Int)/\l.take i=m.take i)::Sl 1 9 a c l.length (l.map az)::Sl 1 9 b d m.length (m.map az)::F) l.length ?_ ?_
 ·refine .pu ⟨0,rfl,rfl,rfl⟩ ?_
  exact aA
 intro k ds y
 refine aX .here fun hi=>?_
 obtain⟨i,hki,rfl,heq⟩:=hi
 refine bj bD .nil (fun h=>?_) (fun h=>?_)
 ·have hil:i<l.length:=by omega
  have him:i<m.length:=by omega
  obtain⟨ga,rfl⟩:=ha (by omega)
  obtain⟨gb,rfl⟩:=hb (by omega)
  refine ai (aV (t_ (br i rfl hil) ?_))
  refine ii (lR hN hil) ?_
  refine t_ (br i rfl him) ?_
  refine ii (lR hM him) ?_
  refine t_ ee ?_
  by_cases hx:l[i]=m[i]
  ·rw[dF_ (by simp[hx])]
   refine af (bS ?_)
   refine bq (k-1) (by omega) (.pu ⟨i+1,by omega,by norm_cast,by rw[List.take_succ_eq_append_getElem hil,List.take_succ_eq_append_getElem him,heq,hx]⟩ ?_)
   exact aA
  ·rw[dT_ hx]
   refine ai (bG () (by rw[dF_];rintro rfl;exact hx rfl) ?_)
   exact aA
 ·have:i=l.length:=by omega
  subst this
  rw[List.take_length,hlen,List.take_length]at heq
  refine af (bG () (by rw[dT_ heq]) ?_)
  exact aA
abbrev pE (g:Nat):Value:= .pointer (some ⟨g,0,none⟩)
theorem IS {W:World}{a:Option Addr}{c:Nat}{l:List Nat}(hl:l.length<=1099511627776):
  Cn p_ 299 [.slice a l.length c] W [Sl 1 437 a c l.length (l.map pE)] (fun q:Option Addr × Nat=> .slice q.1 l.length q.2) (fun q=>[Sl 1 437 a c l.length (l.map pE),Sl 1 437 q.1 q.2 l.length (l.map pE)]):=by
 (refine Shp.cn (Sg.g_ Tryz.call299 Tryz.func299) fun F=>?_;simp only[ca_,na_])
 refine aN .here fun h1 h2 h3 hs=>?_
 refine o_ ph ?_
 cases a with
 |none=>
  have:l=[]:=by
   cases l with
   |nil=>rfl
   |cons x r=>obtain⟨g,hg⟩:=hs (by simp);cases hg
  subst this
  refine ai (iZ (s:=1) (e:=437) ?_)
  refine bG (none,0) rfl ?_
  exact aA
 |some ad=>
  refine af (sx fun g=>?_)
  refine bV (m:=l.length) (news:=l.map pE) .here (nk (e':=437) (by kernel_rfl) (.there .here) (fD (by rw[List.length_map]) hs) (fun h=>by cases h) (by intro u hu;obtain⟨x,_,rfl⟩:=List.mem_map.1 hu;rfl)) (by omega) (by omega) fun a' c'=>?_
  rw[Nat.zero_add,List.nil_append]
  refine bG (a',c') rfl ?_
  exact aA
theorem uP {W:World}{g c n j:Nat}{l:List Nat}(h:j<l.length):aT p_ W [Sl 1 437 (some ⟨g,0,none⟩) c n (l.map pE)] (aL 437 (.pointer (some ⟨g,0+j,none⟩))) (pE l[j]):=by
 rw[Nat.zero_add]
 exact bF (by rw[List.getElem?_map,List.getElem?_eq_getElem h];rfl)
theorem UW {W:World} {a:Option Addr} {c:Nat} {l:List Nat} {p:Nat->Bool} {C:HP} {k:FuncId} {cap:List Value} (hl:l.length<=1099511627776)
  (hf:∀g∈l,Cn p_ k ([pE g]++cap) W [C] (fun _:Unit=> .bool (p g)) (fun _=>[C])):
  Cn p_ 452 [.slice a l.length c,.func (.func k) #[] cap.toArray] W [Sl 1 437 a c l.length (l.map pE),C]
   (fun i:{i:Int // (i= -1/\∀g∈l,p g=false)\/∃j:Nat,∃h:j<l.length,i=(j:Int)/\p l[j]=true/\∀g∈l.take j,p g=false}=> .int .i64 i.1) (fun _=>[Sl 1 437 a c l.length (l.map pE),C]):=by
 (refine Shp.cn (Sg.g_ Tryz.call452 Tryz.func452 (an:={loops:=[(2,[8])]})) fun F=>?_;simp only[ca_,na_])
 refine aN .here fun h1 h2 h3 hs=>?_
 refine o_ aK (a_ (fun m y=>pu (∃i:Nat,m+i=l.length/\y= .int .i64 (i:Int)/\∀g∈l.take i,p g=false)::Sl 1 437 a c l.length (l.map pE)::C::F) l.length ?_ ?_)
 ·refine .pu ⟨0,rfl,rfl,by simp⟩ ?_
  exact aA
 intro m ds y
 refine aX .here fun hi=>?_
 obtain⟨i,hmi,rfl,hno⟩:=hi
 refine bj bD .nil (fun h=>?_) (fun h=>?_)
 ·have hin:i<l.length:=by omega
  obtain⟨g,rfl⟩:=hs (by omega)
  refine ai (o_ (br i rfl hin) ?_)
  refine dm (uP hin) ?_
  refine bB (hf _ (List.getElem_mem hin)) (by(repeat(first|exact Picks.nil|(apply Picks.cons;(focus repeat constructor))))) fun _=>?_
  refine aq ?_
  cases hp:p l[i]with
  |true=>
   refine ai (bG ⟨(i:Int),.inr ⟨i,hin,rfl,hp,hno⟩⟩ rfl ?_)
   exact aA
  |false=>
   refine af (bS ?_)
   refine bq (m-1) (by omega) (.pu ⟨i+1,by omega,by norm_cast,?_⟩ ?_)
   ·rw[List.take_succ_eq_append_getElem hin]
    intro g hg
    rcases List.mem_append.1 hg with hg|hg
    ·exact hno g hg
    ·rw[List.mem_singleton.1 hg];exact hp
   exact aA
 ·have:i=l.length:=by omega
  subst this
  rw[List.take_length]at hno
  refine af (bG ⟨-1,.inl ⟨rfl,hno⟩⟩ rfl ?_)
  exact aA
theorem uQ {α:Type}:∀ {xs:List α} {i:Nat} (v:α),i<xs.length->(xs.set i v).take (i+1)=xs.take i++[v]
 |x::xs,0,v,_=>by simp
 |x::xs,i+1,v,h=>by simp only[List.set_cons_succ,List.take_succ_cons,List.cons_append];rw[uQ v (by simpa using h)]
theorem uR {α:Type}:∀ {xs:List α} {i j:Nat} (v:α),i<j->(xs.set i v).drop j=xs.drop j
 |[],_,_,_,_=>by simp
 |x::xs,0,j+1,v,_=>by simp
 |x::xs,i+1,j+1,v,h=>by simp only[List.set_cons_succ,List.drop_succ_cons];exact uR v (by omega)
theorem P0 {W:World} {a:Option Addr} {c:Nat} {l:List Nat} {p:Nat->Bool} {C:HP} {k:FuncId} {cap:List Value} (hl:l.length<=1099511627776)
  (hf:∀g∈l,Cn p_ k ([pE g]++cap) W [C] (fun _:Unit=> .bool (p g)) (fun _=>[C])):
  Cn p_ 389 [.slice a l.length c,.func (.func k) #[] cap.toArray] W [Sl 1 437 a c l.length (l.map pE),C]
   (fun _:Unit=> .slice a (l.filter fun g=>!p g).length c) (fun _=>[Sl 1 437 a c (l.filter fun g=>!p g).length ((l.filter fun g=>!p g).map pE),C]):=by
 (refine Shp.cn (Sg.g_ Tryz.call389 Tryz.func389 (an:={loops:=[(5,[5,6])]})) fun F=>?_;simp only[ca_,na_])
 refine aN .here fun h1 h2 h3 hs=>?_
 refine aj (UW hl hf) (by(repeat(first|exact Picks.nil|(apply Picks.cons;(focus repeat constructor))))) fun i=>?_
 obtain⟨i,hi⟩:=i
 refine aq ?_
 rcases hi with ⟨rfl,hno⟩|⟨i,hil,rfl,hpi,hno⟩
 ·refine o_ cJ ?_
  rw[dT_ rfl]
  have hfl:(l.filter fun g=>!p g)=l:=List.filter_eq_self.2 fun g hg=>by rw[hno g hg];rfl
  rw[hfl]
  refine ai (aO () ?_)
  exact aA
 refine o_ cJ ?_
 rw[dF_ (by omega)]
 obtain⟨g,rfl⟩:=hs (by omega)
 have hf0:((l.take (i+1)).filter fun g=>!p g)=l.take i:=by
  rw[List.take_succ_eq_append_getElem hil,List.filter_append,List.filter_eq_self.2 fun g hg=>by rw[hno g hg];rfl]
  simp[hpi]
 refine af (bS ?_)
 refine cz (fun m x y=>[ex fun s:(Nat × Nat) × List Value=>all [pu (m+s.1.2=l.length/\s.1.1<s.1.2/\x= .int .i64 (s.1.1:Int)/\y= .int .i64 (s.1.2:Int)/\s.2.length=l.length/\s.1.1=((l.take s.1.2).filter fun g=>!p g).length/\s.2.take s.1.1=((l.take s.1.2).filter fun g=>!p g).map pE/\s.2.drop s.1.2=(l.drop s.1.2).map pE),Sl 1 437 (some ⟨g,0,none⟩) c l.length s.2,C]]++F) (l.length-(i+1)) ?_ ?_
 ·refine .ex ((i,i+1),l.map pE) (.all ?_)
  refine aq ?_
  refine .pu ⟨by omega,by omega,rfl,by norm_cast,by rw[List.length_map],by rw[hf0,List.length_take];omega,by rw[hf0,List.map_take],by rw[List.map_drop]⟩ ?_
  exact aA
 intro m ds x y
 refine aq ?_
 refine bt Pick.here fun s=>aE Pick.here ?_
 obtain⟨⟨u,j⟩,xs⟩:=s
 refine aq ?_
 refine aX Pick.here fun hi=>?_
 obtain⟨hmj,huj,rfl,rfl,hxl,hul,htk,hdr⟩:=hi
 (try dsimp only at hmj huj hxl hul htk hdr)
 refine o_ aK (bj bD .nil (fun h=>?_) (fun h=>?_))
 ·have hjl:j<l.length:=by omega
  have hxj:xs[j]? =some (pE l[j]):=by
   have:=congrArg (fun t=>t[0]?) hdr
   simpa [List.getElem?_drop,List.getElem?_eq_getElem hjl]using this
  have htj:((l.take (j+1)).filter fun g=>!p g)=((l.take j).filter fun g=>!p g)++(if p l[j]then []else [l[j]]):=by
   rw[List.take_succ_eq_append_getElem hjl,List.filter_append]
   congr 1
   cases hpl:p l[j] <;> simp[hpl]
  have hdr':xs.drop (j+1)=(l.drop (j+1)).map pE:=by
   have:=congrArg (fun t=>t.drop 1) hdr
   simpa [List.drop_drop,<- List.map_drop]using this
  have hld:aT p_ W [Sl 1 437 (some ⟨g,0,none⟩) c l.length xs] (aL 437 (.pointer (some ⟨g,0+j,none⟩))) (pE l[j]):=by
   rw[Nat.zero_add]
   exact bF hxj
  refine ai (o_ (br j rfl hjl) ?_)
  refine dm hld ?_
  refine bB (hf _ (List.getElem_mem hjl)) (by(repeat(first|exact Picks.nil|(apply Picks.cons;(focus repeat constructor))))) fun _=>?_
  refine aq ?_
  refine o_ eU ?_
  cases hp:p l[j]with
  |true=>
   rw[hp,if_pos rfl,List.append_nil]at htj
   refine af (bS ?_)
   refine bX (m-1) (by omega) (.ex ((u,j+1),xs) (.all ?_))
   refine aq ?_
   refine .pu ⟨by omega,by omega,rfl,by norm_cast,hxl,by rw[htj];exact hul,by rw[htj];exact htk,hdr'⟩ ?_
   exact aA
  |false=>
   rw[hp]at htj
   simp only[Bool.false_eq_true,if_false]at htj
   refine ai (o_ (br u rfl (by omega)) ?_)
   rw[Nat.zero_add]
   refine dN (by(repeat constructor):Pick _ (Sl 1 437 (some ⟨g,0,none⟩) c l.length xs) _) (by omega) ?_
   refine bS ?_
   refine bS ?_
   refine bX (m-1) (by omega) (.ex ((u+1,j+1),xs.set u (pE l[j])) (.all ?_))
   refine aq ?_
   refine .pu ⟨by omega,by omega,by norm_cast,by norm_cast,by rw[List.length_set];exact hxl,by rw[htj,List.length_append,<- hul];rfl,by rw[htj,uQ _ (by omega),htk,List.map_append];rfl,by rw[uR _ (by omega)];exact hdr'⟩ ?_
   exact aA
 ·have:j=l.length:=by omega
  subst this
  rw[List.take_length]at hul htk
  refine af (o_ (lj u rfl (by omega)) ?_)
  rw[if_neg (by omega:¬c=u)]
  simp only[Option.map_some,dQ,Nat.zero_add,Nat.mul_one]
  refine EW (by(repeat constructor):Pick _ (Sl 1 437 (some ⟨g,0,none⟩) c l.length xs) _) (by omega) (by omega) ?_
  refine o_ (pL u rfl (by omega)) ?_
  refine mz (m:=u) .here (by omega) ?_
  rw[Nat.mul_one,List.append_assoc,List.take_append_of_le_length (by rw[List.length_take];omega),List.take_take,Nat.min_self,htk,hul]
  refine aO () ?_
  exact aA
end Go.Proofs.YtdjkdjepjahjfaaGreatDoor.FD
namespace Go.Proofs.YtdjkdjepjahjfaaGreatDoor.Sl
open Go Go.RowKit Sh
variable {P:Program} {W:World} {L L' L'':List HP} {Kp:PK} {k:Value->WP} {α:Type} [DecidableEq α]
theorem ww {F:α->HP}{i:α}:∀(l:List α),i∈l->l.Nodup->∀ {h:f_},all (l.map F) W h->gf (F i) (all ((l.filter fun j=>decide (j≠i)).map F)) W h
 |[],hi,_,_,_=>by simp at hi
 |j::l,hi,hn,h,H=>by
  rw[List.nodup_cons]at hn
  by_cases c:j=i
  ·subst c
   have e:(List.filter (fun x=>decide (x≠j)) (j::l))=l:=by
    rw[List.filter_cons_of_neg (by simp)]
    exact List.filter_eq_self.2 fun x hx=>by
     simp only[ne_eq,decide_not,Bool.not_eq_eq_eq_not,Bool.not_true,decide_eq_false_iff_not]
     rintro rfl
     exact hn.1 hx
   rw[e]
   exact H
  ·have hi':i∈l:=by
    rcases List.mem_cons.1 hi with e|e
    ·exact absurd e.symm c
    ·exact e
   rw[List.filter_cons_of_pos (by simpa using c),List.map_cons]
   have:=eK (fun h=>ww (i:=i) l hi' hn.2 (h:=h)) H
   exact gX this
theorem GC {F:α->HP}{i:α}:∀(l:List α),i∈l->l.Nodup->∀ {h:f_},gf (F i) (all ((l.filter fun j=>decide (j≠i)).map F)) W h->all (l.map F) W h
 |[],hi,_,_,_=>by simp at hi
 |j::l,hi,hn,h,H=>by
  rw[List.nodup_cons]at hn
  by_cases c:j=i
  ·subst c
   have e:(List.filter (fun x=>decide (x≠j)) (j::l))=l:=by
    rw[List.filter_cons_of_neg (by simp)]
    exact List.filter_eq_self.2 fun x hx=>by
     simp only[ne_eq,decide_not,Bool.not_eq_eq_eq_not,Bool.not_true,decide_eq_false_iff_not]
     rintro rfl
     exact hn.1 hx
   rw[e]at H
   exact H
  ·have hi':i∈l:=by
    rcases List.mem_cons.1 hi with e|e
    ·exact absurd e.symm c
    ·exact e
   rw[List.filter_cons_of_pos (by simpa using c),List.map_cons]at H
   exact eK (fun h=>GC (i:=i) l hi' hn.2 (h:=h)) (gX H)
def BL (l:List α)(F:α->HP):HP:=all (l.map F)
def BO (l:List α)(F:α->HP)(i:α):HP:=all ((l.filter fun j=>decide (j≠i)).map F)
theorem BO.congr {l:List α}{i:α}{F F':α->HP}(h:∀j∈l,j≠i->F j=F' j):BO l F i=BO l F' i:=by
 unfold BO
 congr 1
 exact List.map_congr_left fun j hj=>by
  rw[List.mem_filter]at hj
  exact h j hj.1 (by simpa using hj.2)
theorem BL.congr {l:List α}{F F':α->HP}(h:∀j∈l,F j=F' j):BL l F=BL l F':=by
 unfold BL
 congr 1
 exact List.map_congr_left h
theorem IT {A B:HP}{h:f_}(H:gf A B W h):all [A,B] W h:=by
 obtain⟨k1,k2,b1,b2,d,t1,t2⟩:=H
 exact⟨k1,k2,b1,⟨k2,fun _=>none,b2,trivial,fun _=> .inr rfl,fun _ _ c=>c,fun _ _ c=>by cases c⟩,d,t1,t2⟩
theorem uS {A B:HP}{h:f_}(H:all [A,B] W h):gf A B W h:=by
 obtain⟨k1,k2,b1,⟨k3,k4,b2,_,_,t3,_⟩,d,t1,t2⟩:=H
 refine⟨k1,k3,b1,b2,fun j=>?_,t1,fun j o c=>t2 j o (t3 j o c)⟩
 rcases d j with c|c
 ·exact .inl c
 ·right
  cases c':k3 j with
  |none=>rfl
  |some o=>rw[t3 j o c']at c;cases c
theorem wx {l:List α}{F:α->HP}{S:WP}(p:Pick L (BL l F) L')(i:α)(hi:i∈l)(hn:l.Nodup)(h:aR W (F i::BO l F i::L') S):aR W L S:=fun w hw=>by
 refine h w (sat.map (L:=BL l F::L') (fun f H=>?_) (hw.pick p))
 have H2:gf (all [F i,BO l F i]) (all L') W f:=by
  obtain⟨h1,h2,ha,r⟩:=H
  exact⟨h1,h2,IT (ww l hi hn ha),r⟩
 exact b_ H2
theorem nV {l:List α}{F F':α->HP}{M:List HP}(i:α)(hi:i∈l)(hn:l.Nodup)(hF:∀j∈l,j≠i->F j=F' j)(h:Imp W L (F' i::BO l F i::M)):Imp W L (BL l F'::M):=by
 refine .conv (B:=all [F' i,BO l F i]) (fun f H=>?_) (.all h)
 rw[BO.congr hF]at H
 exact GC l hi hn (uS H)
theorem xT {F:α->HP}{M:List HP}(h:Imp W L M):Imp W L (BL [] F::M):= .all (M:=M) (N:=[]) h
theorem xU {l:List α}{i:α}{F F':α->HP}{M:List HP}(hF:∀j∈l,F j=F' j)(h:Imp W L (F' i::BL l F::M)):Imp W L (BL (i::l) F'::M):=by
 refine .conv (B:=all [F' i,BL l F]) (fun f H=>?_) (.all h)
 rw[BL.congr hF]at H
 exact uS H
theorem Ck {F:α->HP}{g:α->Nat}(hF:∀j h,F j W h->∃o,h (g j)=some o):∀(l:List α) {i:α} {h:f_},i∈l->all (l.map F) W h->∃o,h (g i)=some o
 |[],_,_,hi,_=>by simp at hi
 |j::l,i,h,hi,H=>by
  obtain⟨h1,h2,ha,hb,_,s1,s2⟩:=H
  rcases List.mem_cons.1 hi with rfl|hi
  ·obtain⟨o,ho⟩:=hF _ _ ha
   exact⟨o,s1 _ _ ho⟩
  ·obtain⟨o,ho⟩:=Ck hF l hi hb
   exact⟨o,s2 _ _ ho⟩
theorem Cm {l m:List α}:l.Nodup->(∀x∈l,x∈m)->l.length<=m.length:=by
 induction l generalizing m with
 |nil=>intro _ _;simp
 |cons x l ih=>
  intro hn hs
  rw[List.nodup_cons]at hn
  have hx:=hs x List.mem_cons_self
  have:=ih (m:=m.erase x) hn.2 fun y hy=>(List.mem_erase_of_ne (by rintro rfl;exact hn.1 hy)).2 (hs y (List.mem_cons_of_mem _ hy))
  rw[List.length_erase_of_mem hx]at this
  have:=List.length_pos_of_mem hx
  simp only[List.length_cons]
  omega
end Go.Proofs.YtdjkdjepjahjfaaGreatDoor.Sl
namespace Go.Proofs.YtdjkdjepjahjfaaGreatDoor.FD
structure En where
 key:List UInt8
 met:List UInt8
 rf:List Fd
 vf:List Fd
 st:Int
 xf:List Fd
 xb:List UInt8
 asked:Int
 came:Int
 cost:Int
structure Cs where
 al:List Nat
 E:Nat->En
 ord:List Nat
 ks:List (List UInt8)
 of_:List UInt8->List Nat
 bound:Int
 bytes:Int
def q9 (E:Nat->En):List Nat->Int
 |[]=>0
 |g::r=>(E g).cost+q9 E r
structure EnOk (T:Nat)(e:En):Prop where
 rf:zF e.rf<=T
 vf:zF e.vf<=T
 xf:zF e.xf<=T
 xb:e.xb.length<=T
 c1:64<=e.cost
theorem EnOk.up {T U:Nat}{e:En}(h:EnOk T e)(hu:T<=U):EnOk U e:=⟨by have:=h.rf;omega,by have:=h.vf;omega,by have:=h.xf;omega,by have:=h.xb;omega,h.c1⟩
structure CsOk (T:Nat)(S:Cs):Prop where
 t:T<=1048576
 aln:S.al.Nodup
 ksn:S.ks.Nodup
 on:S.ord.Nodup
 oa:∀g∈S.ord,g∈S.al
 fo:∀k,∀g∈S.of_ k,g∈S.ord/\(S.E g).key=k
 fb:∀g∈S.ord,g∈S.of_ (S.E g).key
 fn:∀k,(S.of_ k).Nodup
 fk:∀k,S.of_ k≠[]->k∈S.ks
 en:∀g∈S.al,EnOk T (S.E g)
 by_:S.bytes=q9 S.E S.ord
 le:S.bytes<=S.bound
 b0:0<=S.bound
 b1:S.bound<=1048576
theorem CsOk.up {T U:Nat}{S:Cs}(h:CsOk T S)(hu:T<=U)(hU:U<=1048576):CsOk U S:={h with t:=hU,en:=fun g hg=>(h.en g hg).up hu}
theorem wy {E:Nat->En}{T:Nat}:∀ {l:List Nat},(∀g∈l,EnOk T (E g))->64 * (l.length:Int)<=q9 E l
 |[],_=>by simp[q9]
 |g::r,h=>by
  have h1:=(h g List.mem_cons_self).c1
  have h2:=wy (l:=r) fun x hx=>h x (List.mem_cons_of_mem _ hx)
  simp only[q9,List.length_cons]
  omega
theorem jD {E:Nat->En}{g:Nat}:∀ {l:List Nat},l.Nodup->g∈l->q9 E (l.filter fun x=>!decide (x=g))=q9 E l-(E g).cost
 |[],_,h=>by simp at h
 |x::r,hn,h=>by
  rw[List.nodup_cons]at hn
  by_cases c:x=g
  ·subst c
   rw[List.filter_cons_of_neg (by simp)]
   have:(r.filter fun y=>!decide (y=x))=r:=List.filter_eq_self.2 fun y hy=>by
    simp only[Bool.not_eq_true',decide_eq_false_iff_not]
    rintro rfl
    exact hn.1 hy
   rw[this]
   simp only[q9]
   omega
  ·have hr:g∈r:=by
    rcases List.mem_cons.1 h with e|e
    ·exact absurd e.symm c
    ·exact e
   rw[List.filter_cons_of_pos (by simpa using c)]
   have:=jD (E:=E) hn.2 hr
   simp only[q9]
   omega
theorem xV {E:Nat->En}{l:List Nat}{g:Nat}:q9 E (l++[g])=q9 E l+(E g).cost:=by
 induction l with
 |nil=>simp[q9]
 |cons x r ih=>simp only[List.cons_append,q9,ih];omega
theorem rW {E E':Nat->En}:∀ {l:List Nat},(∀g∈l,E g=E' g)->q9 E l=q9 E' l
 |[],_=>rfl
 |g::r,h=>by
  have h1:=h g List.mem_cons_self
  have h2:=rW (E:=E) (E':=E') (l:=r) fun x hx=>h x (List.mem_cons_of_mem _ hx)
  simp only[q9,h1,h2]
theorem CsOk.len {T:Nat}{S:Cs}(h:CsOk T S):64 * (S.ord.length:Int)<=S.bytes:=by
 rw[h.by_]
 exact wy fun g hg=>h.en g (h.oa g hg)
theorem CsOk.ordl {T:Nat}{S:Cs}(h:CsOk T S):S.ord.length<=1048576:=by
 have h1:=h.len
 have h2:=h.le
 have h3:=h.b1
 omega
theorem CsOk.ofl {T:Nat}{S:Cs}(h:CsOk T S)(k:List UInt8):(S.of_ k).length<=1048576:=by
 have:=Sl.Cm (h.fn k) fun g hg=>(h.fo k g hg).1
 have:=h.ordl
 omega
theorem EX {T:Nat}{E:Nat->En}{g:Nat}{l:List Nat}(h:∀g∈l,EnOk T (E g))(hn:l.Nodup)(hg:g∈l):(E g).cost<=q9 E l:=by
 have h1:=jD (E:=E) hn hg
 have h2:=wy (E:=E) (T:=T) (l:=l.filter fun x=>!decide (x=g)) fun x hx=>h x (List.mem_filter.1 hx).1
 omega
theorem CsOk.cost {T:Nat}{S:Cs}(h:CsOk T S){g:Nat}(hg:g∈S.ord):(S.E g).cost<=S.bytes:=by
 rw[h.by_]
 exact EX (fun g hg=>h.en g (h.oa g hg)) h.on hg
def gR (S:Cs)(g:Nat):Cs:={S with
 ord:=S.ord.filter fun x=>!decide (x=g)
 bytes:=S.bytes-(S.E g).cost
 of_:=fun k=>if k=(S.E g).key then(S.of_ k).filter (fun x=>!decide (x=g))else S.of_ k}
theorem xW {T : Nat} {S : Cs} (h : CsOk T S) {g : Nat} (hg : g ∈ S.ord) : CsOk T (gR S g) := { h with
  on := h.on.filter _
  oa := fun x hx => h.oa x (List.mem_filter.1 hx).1
  fo := fun k x hx => by
    have hx' : x ∈ S.of_ k ∧ x ≠ g := by
      simp only [gR] at hx
      split at hx
      · obtain ⟨a, b⟩ := List.mem_filter.1 hx
        exact ⟨a, by simpa using b⟩
      · rename_i c
        exact ⟨hx, by rintro rfl; exact c (h.fo k x hx).2.symm⟩
    obtain ⟨a, b⟩ := h.fo k x hx'.1
    exact ⟨List.mem_filter.2 ⟨a, by simpa using hx'.2⟩, b⟩
  fb := fun x hx => by
    obtain ⟨a, b⟩ := List.mem_filter.1 hx
    have := h.fb x a
    show x ∈ (if (S.E x).key = (S.E g).key then (S.of_ (S.E x).key).filter (fun x => !decide (x = g)) else S.of_ (S.E x).key)
    split
    · exact List.mem_filter.2 ⟨this, b⟩
    · exact this
  fn := fun k => by
    simp only [gR]
    split
    · exact (h.fn k).filter _
    · exact h.fn k
  fk := fun k hk => by
    apply h.fk k
    simp only [gR] at hk
    split at hk
    · intro e; rw [e] at hk; exact hk rfl
    · exact hk
  by_ := by
    show S.bytes - _ = q9 S.E (S.ord.filter fun x => !decide (x = g))
    rw [jD h.on hg, h.by_]
  le := by
    have h1 := h.le
    have h2 := (h.en g (h.oa g hg)).c1
    show S.bytes - (S.E g).cost ≤ S.bound
    omega }
structure Sub (S' S:Cs):Prop where
 al:S'.al=S.al
 E:S'.E=S.E
 ks:S'.ks=S.ks
 bound:S'.bound=S.bound
 ord:∀g∈S'.ord,g∈S.ord
 of_:∀k,(S'.of_ k).Sublist (S.of_ k)
theorem Sub.refl (S:Cs):Sub S S:=⟨rfl,rfl,rfl,rfl,fun _ h=>h,fun _=> .refl _⟩
theorem Sub.trans {A B C:Cs}(h:Sub A B)(k:Sub B C):Sub A C:=⟨h.al.trans k.al,h.E.trans k.E,h.ks.trans k.ks,h.bound.trans k.bound,fun g hg=>k.ord g (h.ord g hg),fun q=>(h.of_ q).trans (k.of_ q)⟩
theorem uT (S:Cs)(g:Nat):Sub (gR S g) S:=⟨rfl,rfl,rfl,rfl,fun x hx=>(List.mem_filter.1 hx).1,fun k=>by
 simp only[gR]
 split
 ·exact List.filter_sublist
 ·exact .refl _⟩
def e7 (S:Cs)(g:Nat):Cs:={S with ord:=(S.ord.filter fun x=>!decide (x=g))++[g]}
theorem nW {l:List Nat}{g:Nat}(h:l.Nodup)(hg:g∉l):(l++[g]).Nodup:=by
 rw[List.nodup_append]
 exact⟨h,by simp,fun a ha b hb=>by rw[List.mem_singleton.1 hb];rintro rfl;exact hg ha⟩
theorem nX {S:Cs}{g x:Nat}(hg:g∈S.ord):x∈(e7 S g).ord↔x∈S.ord:=by
 simp only[e7,List.mem_append,List.mem_filter,List.mem_singleton]
 constructor
 ·rintro(⟨h,_⟩|rfl)
  ·exact h
  ·exact hg
 ·intro h
  by_cases c:x=g
  ·exact .inr c
  ·exact .inl ⟨h,by simpa using c⟩
theorem uU {T : Nat} {S : Cs} (h : CsOk T S) {g : Nat} (hg : g ∈ S.ord) : CsOk T (e7 S g) := { h with
  on := nW (h.on.filter _) (by simp)
  oa := fun x hx => h.oa x ((nX hg).1 hx)
  fo := fun k x hx => ⟨(nX hg).2 (h.fo k x hx).1, (h.fo k x hx).2⟩
  fb := fun x hx => h.fb x ((nX hg).1 hx)
  by_ := by
    show S.bytes = q9 S.E _
    rw [show (e7 S g).ord = (S.ord.filter fun x => !decide (x = g)) ++ [g] from rfl, xV, jD h.on hg, h.by_]
    omega }
def eO (S:Cs)(g:Nat)(e:En):Cs:={S with
 al:=g::S.al
 E:=fun x=>if x=g then e else S.E x
 ord:=S.ord++[g]
 ks:=if e.key∈S.ks then S.ks else e.key::S.ks
 of_:=fun k=>if k=e.key then S.of_ k++[g]else S.of_ k
 bytes:=S.bytes+e.cost}
theorem IU {T : Nat} {S : Cs} (h : CsOk T S) {g : Nat} (hg : g ∉ S.al) {e : En} (he : EnOk T e) (hc : S.bytes + e.cost ≤ S.bound) : CsOk T (eO S g e) := by
  have hgo : g ∉ S.ord := fun c => hg (h.oa g c)
  have hE : ∀ x ∈ S.al, (eO S g e).E x = S.E x := fun x hx => by
    show (if x = g then e else S.E x) = _
    rw [if_neg (by rintro rfl; exact hg hx)]
  have hEg : (eO S g e).E g = e := if_pos rfl
  exact { h with
    aln := List.nodup_cons.2 ⟨hg, h.aln⟩
    ksn := by
      show (if e.key ∈ S.ks then S.ks else e.key :: S.ks).Nodup
      split
      · exact h.ksn
      · rename_i c; exact List.nodup_cons.2 ⟨c, h.ksn⟩
    on := nW h.on hgo
    oa := fun x hx => by
      rcases List.mem_append.1 hx with hx | hx
      · exact List.mem_cons_of_mem _ (h.oa x hx)
      · rw [List.mem_singleton.1 hx]; exact List.mem_cons_self
    fo := fun k x hx => by
      have old : x ∈ S.of_ k → x ∈ (eO S g e).ord ∧ ((eO S g e).E x).key = k := fun hx => by
        obtain ⟨a, b⟩ := h.fo k x hx
        exact ⟨List.mem_append_left _ a, by rw [hE x (h.oa x a)]; exact b⟩
      simp only [eO] at hx
      split at hx
      · rename_i c
        rcases List.mem_append.1 hx with hx | hx
        · exact old hx
        · rw [List.mem_singleton.1 hx, hEg]
          exact ⟨List.mem_append_right _ (List.mem_singleton.2 rfl), c.symm⟩
      · exact old hx
    fb := fun x hx => by
      show x ∈ (if ((eO S g e).E x).key = e.key then S.of_ ((eO S g e).E x).key ++ [g] else S.of_ ((eO S g e).E x).key)
      rcases List.mem_append.1 hx with hx | hx
      · have := h.fb x hx
        rw [hE x (h.oa x hx)]
        split
        · exact List.mem_append_left _ this
        · exact this
      · rw [List.mem_singleton.1 hx, hEg, if_pos rfl]
        exact List.mem_append_right _ (List.mem_singleton.2 rfl)
    fn := fun k => by
      show (if k = e.key then S.of_ k ++ [g] else S.of_ k).Nodup
      split
      · exact nW (h.fn k) fun c => hgo (h.fo k g c).1
      · exact h.fn k
    fk := fun k hk => by
      show k ∈ (if e.key ∈ S.ks then S.ks else e.key :: S.ks)
      by_cases c : k = e.key
      · subst c
        split
        · assumption
        · exact List.mem_cons_self
      · have : S.of_ k ≠ [] := by
          simp only [eO] at hk
          rwa [if_neg c] at hk
        have := h.fk k this
        split
        · exact this
        · exact List.mem_cons_of_mem _ this
    en := fun x hx => by
      rcases List.mem_cons.1 hx with rfl | hx
      · rw [hEg]; exact he
      · rw [hE x hx]; exact h.en x hx
    by_ := by
      show S.bytes + e.cost = q9 (eO S g e).E (S.ord ++ [g])
      rw [xV, hEg, rW (E := (eO S g e).E) (E' := S.E) fun x hx => hE x (h.oa x hx), h.by_]
    le := hc }
def kE (e:En)(R:List Fd):Bool:=(cq e.xf).all fun n=>decide (bH e.vf n=bH R n)
def fT (S:Cs)(key:List UInt8)(R:List Fd):Option Nat:=(S.of_ key).reverse.find? fun g=>kE (S.E g) R
theorem uV {S:Cs}{key:List UInt8}{R:List Fd}{g:Nat}(h:fT S key R=some g):g∈S.of_ key/\kE (S.E g) R=true:=by
 unfold fT at h
 exact⟨List.mem_reverse.1 (List.mem_of_find?_eq_some h),List.find?_some (p:=fun g=>kE (S.E g) R) h⟩
def jF (bound:Int):Cs:=⟨[],fun _=>⟨[],[],[],[],0,[],[],0,0,0⟩,[],[],fun _=>[],bound,0⟩
theorem qA {b:Int}(h0:0<=b)(h1:b<=1048576):CsOk 0 (jF b) where
 t:=by decide
 aln:=List.nodup_nil
 ksn:=List.nodup_nil
 on:=List.nodup_nil
 oa:=fun _ h=>by cases h
 fo:=fun _ _ h=>by cases h
 fb:=fun _ h=>by cases h
 fn:=fun _=>List.nodup_nil
 fk:=fun _ h=>absurd rfl h
 en:=fun _ h=>by cases h
 by_:=rfl
 le:=h0
 b0:=h0
 b1:=h1
end Go.Proofs.YtdjkdjepjahjfaaGreatDoor.FD
namespace Go.Proofs.YtdjkdjepjahjfaaGreatDoor.FD
open Go Go.Proofs Go.RowKit Sh Sl T
abbrev Q2:=Option Addr × Nat
def tj (g:Nat)(e:En):HP:=ex fun q:(Q2 × Q2) × (Q2 × Q2)=>all [pt g (.cells #[az e.key,az e.met,.slice q.1.1.1 e.rf.length q.1.1.2,.slice q.1.2.1 e.vf.length q.1.2.2,.int .i64 e.st,.slice q.2.1.1 e.xf.length q.2.1.2,.slice q.2.2.1 e.xb.length q.2.2.2,.int .i64 e.asked,.int .i64 e.came,.int .i64 e.cost] 444),
 Sl 2 192 q.1.1.1 q.1.1.2 e.rf.length (e.rf.flatMap cT),Sl 2 192 q.1.2.1 q.1.2.2 e.vf.length (e.vf.flatMap cT),Sl 2 192 q.2.1.1 q.2.1.2 e.xf.length (e.xf.flatMap cT),Sl 1 5 q.2.2.1 q.2.2.2 e.xb.length (e.xb.map Sl.B)]
def df (Z:Cs)(rw:List UInt8->Q2)(k:List UInt8):Option Value:=if Z.of_ k=[]then none else some (.slice (rw k).1 (Z.of_ k).length (rw k).2)
def dA (Z:Cs)(rw:List UInt8->Q2)(k:List UInt8):HP:=Sl 1 437 (rw k).1 (rw k).2 (Z.of_ k).length ((Z.of_ k).map pE)
def BE (al:List Nat)(E:Nat->En):HP:=BL al (fun g=>tj g (E g))
def fU (c:Nat)(Z:Cs):HP:=ex fun q:Q2 × Nat × (List UInt8->Q2)=>all [pt c (.cells #[.slice q.1.1 Z.ord.length q.1.2,.map (some q.2.1),.int .i64 Z.bound,.int .i64 Z.bytes] 241),Sl 1 437 q.1.1 q.1.2 Z.ord.length (Z.ord.map pE),bN q.2.1 az (df Z q.2.2),BL Z.ks (dA Z q.2.2),BE Z.al Z.E]
theorem P1 {W:World}{g:Nat}{e:En}{T:Nat}{R:List Fd}{ar:Option Addr}{cr:Nat}{A:HP}(he:EnOk T e)(hT:T<=1048576)(hA:gD W A ar R)(hR:zF R<=1048576):
  Cn p_ 300 [pE g,.slice ar R.length cr] W [tj g e,A] (fun _:Unit=> .bool (kE e R)) (fun _=>[tj g e,A]):=by
 have hxf:zF e.xf<=1048576:=by have:=he.xf;omega
 have hvf:zF e.vf<=1048576:=by have:=he.vf;omega
 obtain⟨n1,n2⟩:=nR hxf
 have hRo:=qh (l:=R) (by omega)
 have hvo:=qh (l:=e.vf) (by omega)
 have hzv:=kB e.vf
 (refine Shp.cn (Sg.g_ Tryz.call300 Tryz.func300 (an:={loops:=[(2,[14])]})) fun F=>?_;simp only[ca_,na_])
 refine bt .here fun q=>aE .here ?_
 obtain⟨⟨⟨ra,rc⟩,va,vc⟩,⟨xa,xc⟩,ba,bc⟩:=q
 refine aq ?_
 refine o_ ah (o_ ae (o_ dP (aM ?_)))
 refine aN (by(repeat constructor):Pick _ (Sl 2 192 va vc e.vf.length (e.vf.flatMap cT)) _) fun _ _ _ hv=>?_
 refine aN (by(repeat constructor):Pick _ (Sl 2 192 xa xc e.xf.length (e.xf.flatMap cT)) _) fun _ _ _ hx=>?_
 refine aj (s9 (cg hx) hxf) (.cons (by repeat constructor) .nil) fun v=>?_
 obtain⟨na,nc⟩:=v
 refine aq ?_
 (try dsimp only)
 have hfit:kE e R=(cq e.xf).all fun n=>decide (bH e.vf n=bH R n):=rfl
 rw[hfit]
 obtain⟨V,hV⟩:∃V,V=cq e.xf:=⟨_,rfl⟩
 rw[<- hV]at n1 n2 ⊢
 refine aN (by(repeat constructor):Pick _ (Sl 1 9 na nc V.length (V.map az)) _) fun _ _ _ hs=>?_
 have hN:RdB W (Sl 1 9 na nc V.length (V.map az)) na V.length (V.map az):=fD (by rw[List.length_map]) hs
 refine o_ aK (a_ (fun m y=>pu (∃i:Nat,m+i=V.length/\y= .int .i64 (i:Int)/\(V.take i).all (fun n=>decide (bH e.vf n=bH R n))=true)::tj g e::A::Sl 1 9 na nc V.length (V.map az)::F) V.length ?_ ?_)
 ·refine .pu ⟨0,rfl,rfl,rfl⟩ (.ex (((ra,rc),va,vc),(xa,xc),ba,bc) (.all ?_))
  refine aq ?_
  exact aA
 intro m ds y
 refine aX .here fun hi=>?_
 obtain⟨i,hmi,rfl,hall⟩:=hi
 refine bj bD .nil (fun h=>?_) (fun h=>?_)
 ·have hin:i<V.length:=by omega
  have hta:=List.take_succ_eq_append_getElem hin
  have hvn:=n2 _ (List.getElem_mem hin)
  obtain⟨ng,rfl⟩:=hs (by omega)
  refine ai (o_ (br i rfl hin) ?_)
  refine dm (lR hN hin) ?_
  refine bt .here fun q=>aE .here ?_
  obtain⟨⟨⟨ra,rc⟩,va,vc⟩,⟨xa,xc⟩,ba,bc⟩:=q
  refine aq ?_
  refine o_ ah (o_ ae (aM ?_))
  refine aN (by(repeat constructor):Pick _ (Sl 2 192 va vc e.vf.length (e.vf.flatMap cT)) _) fun _ _ _ hv=>?_
  refine aj (f5 (n:=V[i]) (cg hv) hvo (by omega)) (.cons (by repeat constructor) .nil) fun r=>?_
  obtain⟨r1,r2⟩:=r
  refine aq ?_
  (try dsimp only)
  refine aj (f5 (n:=V[i]) hA hRo (by omega)) (.cons (by repeat constructor) .nil) fun s=>?_
  obtain⟨s1,s2⟩:=s
  refine aq ?_
  (try dsimp only)
  have hvl:=ko e.vf V[i]
  refine aj (IR (l:=bH e.vf V[i]) (m:=bH R V[i]) (a:=r1) (b:=s1) (c:=r2) (d:=s2) (by omega)) (.cons (by repeat constructor) (.cons (by repeat constructor) .nil)) fun _=>?_
  refine aq ?_
  refine o_ eU ?_
  by_cases hq:bH e.vf V[i]=bH R V[i]
  ·rw[dT_ hq]
   refine af (bS ?_)
   refine bq (m-1) (by omega) (.pu ⟨i+1,by omega,by norm_cast,by rw[hta,List.all_append,hall];simp[hq]⟩ (.ex (((ra,rc),va,vc),(xa,xc),ba,bc) (.all ?_)))
   refine aq ?_
   exact aA
  ·rw[dF_ hq]
   refine ai (bG () (by rw[show(V.all fun n=>decide (bH e.vf n=bH R n))=false from Bool.eq_false_iff.2 fun c=>hq (by simpa using List.all_eq_true.1 c _ (List.getElem_mem hin))]) ?_)
   refine .ex (((ra,rc),va,vc),(xa,xc),ba,bc) (.all ?_)
   refine aq ?_
   exact aA
 ·have:i=V.length:=by omega
  subst this
  rw[List.take_length]at hall
  refine af (bG () (by rw[hall]) ?_)
  exact aA
theorem rX {W:World}{c:Nat}{Z:Cs}:Cn p_ 120 [pE c] W [fU c Z] (fun _:Unit=> .bool false) (fun _=>[fU c Z]):=by
 (refine Shp.cn (Sg.g_ Tryz.call120 Tryz.func120) fun F=>?_;simp only[ca_,na_])
 refine bt .here fun q=>aE .here ?_
 obtain⟨⟨oa,oc⟩,mg,rw_⟩:=q
 refine aq ?_
 refine o_ cp ?_;refine ab (ab (o_ ah (ab (o_ ae (ab (aM ?_))))));refine ab (o_ th ?_)
 refine o_ am (bG () rfl ?_)
 refine .ex ((oa,oc),mg,rw_) (.all ?_)
 refine aq ?_
 exact aA
theorem IV {W:World}{c:Nat}{Z:Cs}:Cn p_ 53 [pE c] W [fU c Z] (fun _:Unit=> .int .i64 Z.bytes) (fun _=>[fU c Z]):=by
 (refine Shp.cn (Sg.g_ Tryz.call53 Tryz.func53) fun F=>?_;simp only[ca_,na_])
 refine c_ rX fun _=>?_
 refine af (bt .here fun q=>aE .here ?_)
 obtain⟨⟨oa,oc⟩,mg,rw_⟩:=q
 refine aq ?_
 refine o_ ah (o_ ae (aM ?_))
 refine bG () rfl ?_
 refine .ex ((oa,oc),mg,rw_) (.all ?_)
 refine aq ?_
 exact aA
theorem UX {W:World}{b:Int}(h0:0<=b)(h1:b<=1048576):Cn p_ 72 [.int .i64 b] W [] (fun c:Nat=> .tuple #[pE c,.int .i64 0]) (fun c=>[fU c (jF b)]):=by
 (refine Shp.cn (Sg.g_ Tryz.call72 Tryz.func72) fun F=>?_;simp only[ca_,na_])
 refine bj bD .nil (fun h=>?_) (fun h=>?_)
 ·omega
 refine ab (ab (o_ eu ?_))
 rw[dF_ (by omega)]
 refine o_ am (af (jM az fun mg=>?_))
 refine o_ bM ?_;refine aU fun g=>?_
 rename Nat=>c
 refine bG c rfl ?_
 refine .ex ((none,0),mg,fun _=>(none,0)) (.all ?_)
 refine aq ?_
 refine .pick (by repeat constructor) (bO (.pick (by repeat constructor) (xT (xT ?_))))
 exact aA
section
variable {P:Program} {W:World} {L L' L'':List HP} {Kp:PK} {k:Value->WP}
theorem Co {α:Type}[DecidableEq α]{l:List α}{F:α->HP}{i:α}{s:Sem Next}{v:Value}(hi:i∈l)(hn:l.Nodup)(H:aT P W [F i] s v):aT P W [BL l F] s v:=fun w hw=>by
 refine H w (sat.map (fun f h=>?_) hw)
 obtain⟨h1,h2,ha,_,d,s1,s2⟩:=h
 obtain⟨k1,k2,b1,_,_,t1,_⟩:=Sl.ww l hi hn ha
 exact⟨k1,fun _=>none,b1,trivial,fun _=> .inr rfl,fun i o c=>s1 i o (t1 i o c),fun _ _ c=>by cases c⟩
theorem qB {α:Type}{A:α->HP}{s:Sem Next}{v:Value}(H:∀x,aT P W [A x] s v):aT P W [ex A] s v:=fun w hw=>by
 obtain⟨b,f,⟨h1,h2,⟨x,ha⟩,r⟩,c⟩:=hw
 exact H x w ⟨b,f,⟨h1,h2,ha,r⟩,c⟩
theorem mV {A:HP}{M:List HP}{s:Sem Next}{v:Value}(H:aT P W [A] s v):aT P W [all (A::M)] s v:=fun w hw=>by
 obtain⟨b,f,⟨h1,h2,⟨k1,k2,ka,_,_,t1,_⟩,_,_,s1,_⟩,c⟩:=hw
 exact H w ⟨b,f,⟨k1,fun _=>none,ka,trivial,fun _=> .inr rfl,fun i o e=>s1 i o (t1 i o e),fun _ _ e=>by cases e⟩,c⟩
theorem GD {α:Type}[DecidableEq α]{l:List α}{F F':α->HP}{S:WP}(i:α)(hi:i∈l)(hn:l.Nodup)(hF:∀j∈l,j≠i->F j=F' j)(p:Pick L (F' i) L')(q:Pick L' (BO l F i) L'')(h:aR W (BL l F'::L'') S):aR W L S:=
 bu (nV i hi hn hF (.pick p (.pick q .refl))) h
end
theorem wz {W:World}{al:List Nat}{E:Nat->En}{g:Nat}(hg:g∈al)(hn:al.Nodup):aT p_ W [BE al E] (aL 9 (.pointer (some ⟨g,0,none⟩))) (az (E g).key):=
 Co hg hn (qB fun q=>mV (aQ .here))
theorem xX {W:World}{al:List Nat}{E:Nat->En}{g:Nat}(hg:g∈al)(hn:al.Nodup):aT p_ W [BE al E] (aL 3 (.pointer (some ⟨g,9,none⟩))) (.int .i64 (E g).cost):=
 Co hg hn (qB fun q=>mV (aQ (by repeat constructor)))
theorem GE {W:World}{al:List Nat}{E:Nat->En}{ox oy:Operand}{a b:Nat}(ha:a∈al)(hb:b∈al):aT p_ W [BE al E] (eo .eql 437 ox oy (pE a) (pE b)) (.bool (decide (a=b))):=fun w hw=>by
 have cell:∀g∈al,∃ca ta,w.heap[g]? =some (.cells ca ta (0,0)):=fun g hg=>by
  obtain⟨_,f,⟨h1,h2,hb,_,_,s1,_⟩,hc⟩:=hw
  have key:∀(l:List Nat) (h:f_),g∈l->all (l.map fun g=>tj g (E g)) W h->∃ca ta,h g=some (.cells ca ta (0,0)):=by
   intro l
   induction l with
   |nil=>intro h hg;cases hg
   |cons x r ih=>
    intro h hg H
    obtain⟨k1,k2,ka,kb,_,t1,t2⟩:=H
    rcases List.mem_cons.1 hg with rfl|hg
    ·obtain⟨q,m1,m2,ma,_,_,u1,_⟩:=ka
     exact⟨_,_,t1 _ _ (u1 _ _ ma)⟩
    ·obtain⟨ca,ta,e⟩:=ih k2 hg kb
     exact⟨ca,ta,t2 _ _ e⟩
  obtain⟨ca,ta,e⟩:=key al h1 hg hb
  exact⟨ca,ta,(hc g _ (s1 _ _ e)).2⟩
 by_cases c:a=b
 ·subst c
  have:=run_eql_ptr_same (P:=p_) w (tp:=437) (te:=444) (j:=Tryz.t444) ⟨a,0,none⟩ (by kernel_rfl) (by kernel_rfl)
  simp[eo,sv,eqGuard,this]
 ·obtain⟨ca,ta,e1⟩:=cell a ha
  obtain⟨cb,tb,e2⟩:=cell b hb
  have:=run_eql_ptr_other (P:=p_) w (tp:=437) (te:=444) (j:=Tryz.t444) (a:=⟨a,0,none⟩) (b:=⟨b,0,none⟩) (by kernel_rfl) (by kernel_rfl) (by decide+kernel) (by simp[c]) e1 e2
  simp[eo,sv,eqGuard,this,c]
theorem jG {κ:Type}[DecidableEq κ]{P:Program}{W:World}{t kt e:TypeId}{enc:κ->Value}{z:Value}{g:Nat}{f:κ->Option Value}{q:κ}[ht:MapT P t kt e][hz:ZeroT P e z](K:KeyLaw P kt enc):aT P W [bN g enc f] (iW t (.map (some g)) (enc q) false) ((f q).getD z):=fun w hw=>by
 obtain⟨b,fr,⟨h1,h2,⟨m,k1,k2,hp,⟨j1,j2,jm,_,_,u1,_⟩,_,_,t2⟩,r⟩,c⟩:=hw
 rw[<- hp.2 q]
 exact vQ K w ⟨b,fr,⟨j1,fun _=>none,jm,trivial,fun _=> .inr rfl,fun i o e=>r.2.2.1 i o (t2 i o (u1 i o e)),fun _ _ e=>by cases e⟩,c⟩
def jO (L:List Nat)(g:Nat):List Nat:=L.filter fun x=>!decide (x=g)
theorem GF {W:World}{c g:Nat}{oa:Option Addr}{oc:Nat}{M:List Nat}{m b y:Value}{al:List Nat}{E:Nat->En}(hM:M.length<=1099511627776)(ha:∀x∈M,x∈al)(hg:g∈al):
  Cn p_ 388 [pE c,pE g] W [pt c (.cells #[.slice oa M.length oc,m,b,y] 241),Sl 1 437 oa oc M.length (M.map pE),BE al E] (fun _:Unit=> .tuple #[])
   (fun _=>[pt c (.cells #[.slice oa (jO M g).length oc,m,b,y] 241),Sl 1 437 oa oc (jO M g).length ((jO M g).map pE),BE al E]):=by
 (refine Shp.cn (Sg.g_ Tryz.call388 Tryz.func388) fun F=>?_;simp only[ca_,na_])
 refine cA fun b3=>?_
 refine o_ ah (o_ ae (aM ?_))
 refine o_ bP (bu (M:=all [pt b3 (.cells #[pE g] 437),BE al E]::Sl 1 437 oa oc M.length (M.map pE)::pt c (.cells #[.slice oa M.length oc,m,b,y] 241)::F) (.all ?_) ?_)
 ·refine aq ?_
  exact aA
 refine aj (P0 (k:=451) (cap:=[.pointer (some ⟨b3,0,none⟩)]) (p:=fun x=>decide (x=g)) (C:=all [pt b3 (.cells #[pE g] 437),BE al E]) hM (fun x hx=>by
  (refine Shp.cn (Sg.g_ Tryz.call451 Tryz.func451) fun F=>?_;simp only[ca_,na_])
  refine aE .here ?_
  refine aq ?_
  refine aM ?_
  refine dm (GE (ha x hx) hg) ?_
  refine bG () rfl ?_
  refine .all ?_
  refine aq ?_
  (repeat(first|exact .refl|exact .nil|(apply Imp.pick;(focus ((repeat constructor);done)))|refine .drop ?_)))) (by(repeat(first|exact Picks.nil|(apply Picks.cons;(focus repeat constructor))))) fun _=>?_
 refine aq ?_
 refine o_ ah (o_ ae (bU ?_))
 refine aE (by(repeat constructor):Pick _ (all [pt b3 (.cells #[pE g] 437),BE al E]) _) ?_
 refine aq ?_
 refine aO () ?_
 unfold jO
 exact aA
theorem Cp {W:World}{c g:Nat}{oa:Option Addr}{oc:Nat}{M:List Nat}{m b y:Value}{al:List Nat}{E:Nat->En}(hM:M.length<=1048576)(ha:∀x∈M,x∈al)(hg:g∈al):
  Cn p_ 301 [pE c,pE g] W [pt c (.cells #[.slice oa M.length oc,m,b,y] 241),Sl 1 437 oa oc M.length (M.map pE),BE al E] (fun _:Q2=> .tuple #[])
   (fun q=>[pt c (.cells #[.slice q.1 (jO M g++[g]).length q.2,m,b,y] 241),Sl 1 437 q.1 q.2 (jO M g++[g]).length ((jO M g++[g]).map pE),BE al E]):=by
 have hr:(jO M g).length<=M.length:=List.length_filter_le _ _
 (refine Shp.cn (Sg.g_ Tryz.call301 Tryz.func301) fun F=>?_;simp only[ca_,na_])
 refine aj (GF (E:=E) (by omega) ha hg) (by(repeat(first|exact Picks.nil|(apply Picks.cons;(focus repeat constructor))))) fun _=>?_
 refine aq ?_
 refine o_ ah (o_ ae (aM ?_));refine cZ fun g=>?_
 rename Nat=>gb
 refine bV (m:=1) (news:=[pE g]) (by(repeat constructor):Pick _ (Sl 1 437 oa oc (jO M g).length ((jO M g).map pE)) _) (bR (s:=1) (e':=437) (by kernel_rfl) .here (by rfl) (by intro u hu;simp at hu;rw[hu];rfl)) (by omega) (by omega) fun a' c'=>?_
 refine o_ ah (o_ ae (bU ?_))
 refine jW (a',c') ?_
 rw[List.length_append,List.map_append]
 exact aA
theorem zn {Z:Cs}{g:Nat}{rw_:List UInt8->Q2}{h:Z.of_ (Z.E g).key≠[]}:df (gR Z g) rw_=if jO (Z.of_ (Z.E g).key) g=[]then dS (dS (df Z rw_) (Z.E g).key (some (.slice (rw_ (Z.E g).key).1 (jO (Z.of_ (Z.E g).key) g).length (rw_ (Z.E g).key).2))) (Z.E g).key none
  else dS (df Z rw_) (Z.E g).key (some (.slice (rw_ (Z.E g).key).1 (jO (Z.of_ (Z.E g).key) g).length (rw_ (Z.E g).key).2)):=by
 funext k
 by_cases c:k=(Z.E g).key
 ·subst c
  have e:(gR Z g).of_ (Z.E g).key=jO (Z.of_ (Z.E g).key) g:=if_pos rfl
  by_cases d:jO (Z.of_ (Z.E g).key) g=[]
  ·rw[if_pos d]
   unfold df dS
   rw[e,if_pos d,if_pos rfl]
  ·rw[if_neg d]
   unfold df dS
   rw[e,if_neg d,if_pos rfl]
 ·have e:(gR Z g).of_ k=Z.of_ k:=if_neg c
  split <;> · unfold df dS;rw[e];simp[c]
theorem drop {W:World}{c g T:Nat}{Z:Cs}(hZ:CsOk T Z)(hg:g∈Z.ord):Cn p_ 294 [pE c,pE g] W [fU c Z] (fun _:Unit=> .tuple #[]) (fun _=>[fU c (gR Z g)]):=by
 have hga:=hZ.oa g hg
 have hgb:=hZ.fb g hg
 have hne:Z.of_ (Z.E g).key≠[]:=fun e=>by rw[e]at hgb;cases hgb
 have hks:=hZ.fk _ hne
 have hol:=hZ.ordl
 have hfl:=hZ.ofl (Z.E g).key
 have hc1:=(hZ.en g hga).c1
 have hc2:=hZ.cost hg
 have hle:=hZ.le
 have hb1:=hZ.b1
 have hrl:(jO (Z.of_ (Z.E g).key) g).length<=(Z.of_ (Z.E g).key).length:=List.length_filter_le _ _
 (refine Shp.cn (Sg.g_ Tryz.call294 Tryz.func294 (an:={drs:=[(1,.ofL [(0,1),(1,1),(2,1),(3,1),(4,0)]),(2,.ofL [(0,1),(1,1),(2,1),(3,1),(4,1),(5,1),(6,1),(7,1),(8,1),(9,1),(10,1),(11,0)]),(3,.ofL [(0,1),(1,1),(2,1),(3,1),(4,1),(5,1),(6,1),(7,1),(8,1),(9,1),(10,0),(11,1)]),(4,.ofL [(0,1),(1,1),(2,1),(3,1),(4,1),(5,1),(6,1),(7,1),(8,1),(9,0)]),(6,.ofL [(0,1),(1,1),(2,1),(3,1),(4,1),(5,1),(6,1),(7,1),(8,0)])]})) fun F=>?_;simp only[ca_,na_])
 refine cA fun b3=>?_
 refine bt (by(repeat constructor):Pick _ (fU c Z) _) fun q=>aE .here ?_
 obtain⟨⟨oa,oc⟩,mg,rw_⟩:=q
 refine aq ?_
 refine aV (t_ ah (t_ ae (cu ?_)))
 refine aj (GF (E:=Z.E) (by omega) hZ.oa hga) (by(repeat(first|exact Picks.nil|(apply Picks.cons;(focus repeat constructor))))) fun _=>?_
 refine aq ?_
 refine aV (t_ ah (t_ ae (cu ?_)));refine cu ?_;refine t_ ah (t_ ae (ii (xX hga hZ.aln) ?_))
 (refine t_ (gI (by omega) (by omega)) ?_);refine t_ ah ?_;refine t_ ae ?_;refine bU ?_;refine aV ?_;refine t_ ah ?_;refine t_ ae ?_;refine cu ?_;refine cu ?_;refine t_ ah ?_;refine t_ ae ?_
 refine ii (wz hga hZ.aln) ?_
 refine ii (jG (fw Tryz.underlying9)) ?_
 rw[show(df Z rw_ (Z.E g).key).getD (.slice none 0 0)= .slice (rw_ (Z.E g).key).1 (Z.of_ (Z.E g).key).length (rw_ (Z.E g).key).2 by unfold df;rw[if_neg hne];rfl]
 refine t_ bP (wx (by(repeat constructor):Pick _ (BL Z.ks (dA Z rw_)) _) (Z.E g).key hks hZ.ksn ?_)
 refine bu (M:=all [pt b3 (.cells #[pE g] 437),BE Z.al Z.E]::Sl 1 437 (rw_ (Z.E g).key).1 (rw_ (Z.E g).key).2 (Z.of_ (Z.E g).key).length ((Z.of_ (Z.E g).key).map pE)::BO Z.ks (dA Z rw_) (Z.E g).key::bN mg az (df Z rw_)::Sl 1 437 oa oc (jO Z.ord g).length ((jO Z.ord g).map pE)::pt c (.cells #[.slice oa (jO Z.ord g).length oc,.map (some mg),.int .i64 Z.bound,.int .i64 (Z.bytes-(Z.E g).cost)] 241)::F) (.all ?_) ?_
 ·unfold dA
  refine aq ?_
  exact aA
 refine aj (P0 (k:=390) (cap:=[.pointer (some ⟨b3,0,none⟩)]) (p:=fun x=>decide (x=g)) (C:=all [pt b3 (.cells #[pE g] 437),BE Z.al Z.E]) (by omega) (fun x hx=>by
  have hxa:=hZ.oa x (hZ.fo _ x hx).1
  (refine Shp.cn (Sg.g_ Tryz.call390 Tryz.func390) fun F=>?_;simp only[ca_,na_])
  refine aE .here ?_
  refine aq ?_
  refine aM ?_
  refine dm (GE hxa hga) ?_
  refine bG () rfl ?_
  refine .all ?_
  refine aq ?_
  (repeat(first|exact .refl|exact .nil|(apply Imp.pick;(focus ((repeat constructor);done)))|refine .drop ?_)))) (by(repeat(first|exact Picks.nil|(apply Picks.cons;(focus repeat constructor))))) fun _=>?_
 refine aq ?_
 refine aE (by(repeat constructor):Pick _ (all [pt b3 (.cells #[pE g] 437),BE Z.al Z.E]) _) ?_
 refine aq ?_
 have hrow:((Z.of_ (Z.E g).key).filter fun x=>!decide (x=g))=jO (Z.of_ (Z.E g).key) g:=rfl
 rw[hrow]
 refine aV (t_ ah (t_ ae (cu ?_)));refine cu ?_;refine t_ ah (t_ ae (ii (wz hga hZ.aln) ?_))
 refine dC (fw Tryz.underlying9) (by(repeat constructor):Pick _ (bN mg az (df Z rw_)) _) ?_
 refine o_ aK ?_
 have hrows:=zn (Z:=Z) (g:=g) (rw_:=rw_) (h:=hne)
 have hof:(gR Z g).of_ (Z.E g).key=jO (Z.of_ (Z.E g).key) g:=if_pos rfl
 have hfin:∀(L L' L'':List HP) (f:List UInt8->Option Value),f=df (gR Z g) rw_->Imp W L (bN mg az f::Sl 1 437 (rw_ (Z.E g).key).1 (rw_ (Z.E g).key).2 (jO (Z.of_ (Z.E g).key) g).length ((jO (Z.of_ (Z.E g).key) g).map pE)::BO Z.ks (dA Z rw_) (Z.E g).key::BE Z.al Z.E::Sl 1 437 oa oc (jO Z.ord g).length ((jO Z.ord g).map pE)::pt c (.cells #[.slice oa (jO Z.ord g).length oc,.map (some mg),.int .i64 Z.bound,.int .i64 (Z.bytes-(Z.E g).cost)] 241)::F)->aR W L (fun w=>∃x:Unit,True/\sat W (fU c (gR Z g)::F) w):=fun L _ _ f hf hi=>by
  subst hf
  refine bu hi ?_
  refine jW () ?_
  refine .ex ((oa,oc),mg,rw_) (.all ?_)
  refine aq ?_
  refine .pick (by repeat constructor) (.pick (by repeat constructor) (.pick (by repeat constructor) (nV (L:=_) (F:=dA Z rw_) (Z.E g).key hks hZ.ksn ?_ ?_)))
  ·intro k _ hk
   unfold dA
   rw[show(gR Z g).of_ k=Z.of_ k from if_neg hk]
  unfold dA
  rw[hof]
  exact aA
 refine o_ cJ ?_
 by_cases hd:jO (Z.of_ (Z.E g).key) g=[]
 ·rw[if_pos hd]at hrows
  rw[dT_ (by rw[hd];rfl)]
  refine ai (aV (t_ ah (t_ ae (cu ?_))));refine cu ?_;refine t_ ah (t_ ae (ii (wz hga hZ.aln) ?_))
  refine wv (fw Tryz.underlying9) (by(repeat constructor):Pick _ (bN mg az _) _) ?_
  refine hfin _ [] [] _ hrows.symm ?_
  exact aA
 ·rw[if_neg hd]at hrows
  rw[dF_ (by intro h;apply hd;exact List.eq_nil_of_length_eq_zero (by omega))]
  refine af (hfin _ [] [] _ hrows.symm ?_)
  exact aA
theorem find {W:World}{c T:Nat}{Z:Cs}{key:List UInt8}{R:List Fd}{ar:Option Addr}{cr:Nat}{A:HP}(hZ:CsOk T Z)(hA:gD W A ar R)(hR:zF R<=1048576):
  Cn p_ 289 [pE c,az key,.slice ar R.length cr] W [fU c Z,A] (fun _:Unit=>match fT Z key R with|some g=>pE g|none=> .pointer none) (fun _=>[fU c Z,A]):=by
 have hT:=hZ.t
 have hfl:=hZ.ofl key
 (refine Shp.cn (Sg.g_ Tryz.call289 Tryz.func289 (an:={loops:=[(3,[8])]})) fun F=>?_;simp only[ca_,na_])
 refine bt (by(repeat constructor):Pick _ (fU c Z) _) fun q=>aE .here ?_
 obtain⟨⟨oa,oc⟩,mg,rw_⟩:=q
 refine aq ?_
 refine o_ ah (o_ ae (aM ?_))
 refine dm (jG (fw Tryz.underlying9)) ?_
 by_cases hne:Z.of_ key=[]
 ·rw[show(df Z rw_ key).getD (.slice none 0 0)= .slice none 0 0 by unfold df;rw[if_pos hne];rfl]
  have hf:fT Z key R=none:=by unfold fT;rw[hne];rfl
  rw[hf]
  refine o_ aK (kN ?_)
  refine a_ (fun m y=>pu (y= .int .i64 (-1))::fU c Z::A::F) 0 ?_ ?_
  ·refine .pu rfl (.ex ((oa,oc),mg,rw_) (.all ?_))
   refine aq ?_
   exact aA
  intro m ds y
  refine aX .here fun hi=>?_
  subst hi
  refine o_ dy ?_
  rw[dF_ (by decide)]
  refine af (bG () rfl ?_)
  exact aA
 have hks:=hZ.fk _ hne
 rw[show(df Z rw_ key).getD (.slice none 0 0)= .slice (rw_ key).1 (Z.of_ key).length (rw_ key).2 by unfold df;rw[if_neg hne];rfl]
 refine o_ aK (kN ?_)
 obtain⟨ga,hga⟩:∃ga,ga=rw_:=⟨_,rfl⟩
 refine wx (by(repeat constructor):Pick _ (BL Z.ks (dA Z rw_)) _) key hks hZ.ksn ?_
 unfold dA
 have hpos:0<(Z.of_ key).length:=Nat.pos_of_ne_zero fun h=>hne (List.eq_nil_of_length_eq_zero h)
 refine be .here hpos fun gr hgr=>?_
 rw[hgr]
 refine a_ (fun m y=>[ex fun i:Nat=>all [pu (m=i/\i<=(Z.of_ key).length/\y= .int .i64 ((i:Int)-1)/\∀x∈(Z.of_ key).drop i,kE (Z.E x) R=false),Sl 1 437 (some ⟨gr,0,none⟩) (rw_ key).2 (Z.of_ key).length ((Z.of_ key).map pE),BO Z.ks (dA Z rw_) key,pt c (.cells #[.slice oa Z.ord.length oc,.map (some mg),.int .i64 Z.bound,.int .i64 Z.bytes] 241),Sl 1 437 oa oc Z.ord.length (Z.ord.map pE),bN mg az (df Z rw_),BE Z.al Z.E,A]]++F) (Z.of_ key).length ?_ ?_
 ·refine .ex (Z.of_ key).length (.all ?_)
  refine aq ?_
  refine .pu ⟨rfl,Nat.le_refl _,rfl,by simp⟩ ?_
  unfold dA
  exact aA
 intro m ds y
 refine aq ?_
 refine bt Pick.here fun i=>aE Pick.here ?_
 refine aq ?_
 refine aX Pick.here fun hi=>?_
 obtain⟨rfl,hil,rfl,hno⟩:=hi
 have fin:∀(L:List HP) (v:Value),(v=match fT Z key R with|some g=>pE g|none=> .pointer none)->Imp W L (Sl 1 437 (some ⟨gr,0,none⟩) (rw_ key).2 (Z.of_ key).length ((Z.of_ key).map pE)::BO Z.ks (dA Z rw_) key::pt c (.cells #[.slice oa Z.ord.length oc,.map (some mg),.int .i64 Z.bound,.int .i64 Z.bytes] 241)::Sl 1 437 oa oc Z.ord.length (Z.ord.map pE)::bN mg az (df Z rw_)::BE Z.al Z.E::A::F)->aR W L (fun w=>∃x:Unit,v=(match fT Z key R with|some g=>pE g|none=> .pointer none)/\sat W (fU c Z::A::F) w):=fun L v hv hi=>by
  refine bu hi ?_
  refine bG () hv ?_
  refine .ex ((oa,oc),mg,rw_) (.all ?_)
  refine aq ?_
  refine .pick (by repeat constructor) (.pick (by repeat constructor) (.pick (by repeat constructor) (nV (L:=_) (F:=dA Z rw_) key hks hZ.ksn (fun _ _ _=>rfl) ?_)))
  unfold dA
  rw[hgr]
  exact aA
 refine bj dy .nil (fun h=>?_) (fun h=>?_)
 ·obtain⟨i,rfl⟩:∃j,m=j+1:=⟨m-1,by omega⟩
  have hin:i<(Z.of_ key).length:=by omega
  have hx:=(Z.of_ key)[i]
  have hxm:(Z.of_ key)[i]∈Z.of_ key:=List.getElem_mem hin
  have hxa:=hZ.oa _ (hZ.fo _ _ hxm).1
  refine ai (o_ (br i (by omega) hin) ?_)
  refine dm (uP hin) ?_
  refine wx (by(repeat constructor):Pick _ (BE Z.al Z.E) _) (Z.of_ key)[i] hxa hZ.aln ?_
  refine aj (P1 (e:=Z.E (Z.of_ key)[i]) (g:=(Z.of_ key)[i]) (hZ.en _ hxa) hT hA hR) (.cons (by repeat constructor) (.cons (by repeat constructor) .nil)) fun _=>?_
  refine aq ?_
  refine GD (l:=Z.al) (F':=fun g=>tj g (Z.E g)) (Z.of_ key)[i] hxa hZ.aln (fun _ _ _=>rfl) (by repeat constructor) (by repeat constructor) ?_
  have hsplit:(Z.of_ key).drop i=(Z.of_ key)[i]::(Z.of_ key).drop (i+1):=(List.drop_eq_getElem_cons hin)
  cases hfit:kE (Z.E (Z.of_ key)[i]) R with
  |true=>
   have hf:fT Z key R=some (Z.of_ key)[i]:=by
    unfold fT
    have e:(Z.of_ key).reverse=(((Z.of_ key).drop (i+1)).reverse++[(Z.of_ key)[i]])++((Z.of_ key).take i).reverse:=by rw[<- List.reverse_cons,<- hsplit,<- List.reverse_append,List.take_append_drop]
    rw[e,List.append_assoc,List.find?_append]
    rw[List.find?_eq_none.2 (by intro x hx;rw[hno x (List.mem_reverse.1 hx)];simp)]
    simp[hfit]
   refine ai (o_ (br i (by omega) hin) ?_)
   refine dm (uP hin) ?_
   exact fin _ _ (by rw[hf]) (by unfold BE;(repeat(first|exact .refl|exact .nil|(apply Imp.pick;(focus ((repeat constructor);done)))|refine .drop ?_)))
  |false=>
   refine af (kN ?_)
   refine bq i (by omega) (.ex i (.all ?_))
   refine aq ?_
   refine .pu ⟨rfl,by omega,by congr 1;omega,?_⟩ ?_
   ·intro x hx
    rw[hsplit]at hx
    rcases List.mem_cons.1 hx with rfl|hx
    ·exact hfit
    ·exact hno x hx
   unfold BE
   exact aA
 ·have:m=0:=by omega
  subst this
  refine af ?_
  have hf:fT Z key R=none:=by
   unfold fT
   exact List.find?_eq_none.2 (by intro x hx;rw[hno x (by simpa using hx)];simp)
  exact fin _ _ (by rw[hf]) aA
end Go.Proofs.YtdjkdjepjahjfaaGreatDoor.FD
namespace Go.Proofs.YtdjkdjepjahjfaaGreatDoor.FD
open Go Go.Proofs Go.RowKit Sh Sl T
theorem uW {W:World} {L L':List HP} {S:WP} {T:Nat} {Z:Cs} {rw_:List UInt8->Q2} {key:List UInt8} (hZ:CsOk T Z) (p:Pick L (BL Z.ks (dA Z rw_)) L')
  (h:∀a cc,(df Z rw_ key).getD (.slice none 0 0)= .slice a (Z.of_ key).length cc->aR W (Sl 1 437 a cc (Z.of_ key).length ((Z.of_ key).map pE)::BO Z.ks (dA Z rw_) key::L') S):aR W L S:=by
 by_cases hne:Z.of_ key=[]
 ·have hv:(df Z rw_ key).getD (.slice none 0 0)= .slice none (Z.of_ key).length 0:=by unfold df;rw[if_pos hne,hne];rfl
  have h:=h none 0 hv
  rw[hne]at h
  by_cases hk:key∈Z.ks
  ·refine wx p key hk hZ.ksn ?_
   refine bu (bO (.drop .refl)) h
  ·have e:BO Z.ks (dA Z rw_) key=BL Z.ks (dA Z rw_):=by
    unfold BO BL
    rw[List.filter_eq_self.2 fun x hx=>by simp only[ne_eq,decide_not,Bool.not_eq_eq_eq_not,Bool.not_true,decide_eq_false_iff_not];rintro rfl;exact hk hx]
   rw[e]at h
   exact vL p (bu (bO .refl) h)
 ·refine wx p key (hZ.fk _ hne) hZ.ksn ?_
  exact h _ _ (by unfold df;rw[if_neg hne];rfl)
theorem wA {W:World} {L M:List HP} {Z Z':Cs} {rw_:List UInt8->Q2} {key:List UInt8} {a:Option Addr} {cc:Nat} (hn:Z.ks.Nodup) (hks:Z'.ks=if key∈Z.ks then Z.ks else key::Z.ks) (hof:∀k,k≠key->Z'.of_ k=Z.of_ k)
  (h:Imp W L (Sl 1 437 a cc (Z'.of_ key).length ((Z'.of_ key).map pE)::BO Z.ks (dA Z rw_) key::M)):Imp W L (BL Z'.ks (dA Z' fun k=>if k=key then(a,cc)else rw_ k)::M):=by
 have hF:∀k,k≠key->dA Z rw_ k=dA Z' (fun k=>if k=key then(a,cc)else rw_ k) k:=fun k hk=>by
  unfold dA
  rw[hof k hk]
  simp only[if_neg hk]
 have hK:dA Z' (fun k=>if k=key then(a,cc)else rw_ k) key=Sl 1 437 a cc (Z'.of_ key).length ((Z'.of_ key).map pE):=by
  unfold dA
  simp only[if_true]
 rw[hks]
 split
 ·rename_i hk
  refine nV key hk hn (F:=dA Z rw_) (fun j _ hj=>hF j hj) ?_
  rw[hK]
  exact h
 ·rename_i hk
  refine xU (F:=dA Z rw_) (fun j hj=>hF j (by rintro rfl;exact hk hj)) ?_
  have e:BO Z.ks (dA Z rw_) key=BL Z.ks (dA Z rw_):=by
   unfold BO BL
   rw[List.filter_eq_self.2 fun x hx=>by simp only[ne_eq,decide_not,Bool.not_eq_eq_eq_not,Bool.not_true,decide_eq_false_iff_not];rintro rfl;exact hk hx]
  rw[hK,<- e]
  exact h
theorem uX {W:World} {L M:List HP} {Z:Cs} {rw_:List UInt8->Q2} {key:List UInt8} {a:Option Addr} {cc:Nat} (hn:Z.ks.Nodup)
  (h:Imp W L (Sl 1 437 a cc (Z.of_ key).length ((Z.of_ key).map pE)::BO Z.ks (dA Z rw_) key::M)):Imp W L (BL Z.ks (dA Z fun k=>if k=key then(a,cc)else rw_ k)::M):=by
 have hF:∀k,k≠key->dA Z rw_ k=dA Z (fun k=>if k=key then(a,cc)else rw_ k) k:=fun k hk=>by
  unfold dA
  simp only[if_neg hk]
 have hK:dA Z (fun k=>if k=key then(a,cc)else rw_ k) key=Sl 1 437 a cc (Z.of_ key).length ((Z.of_ key).map pE):=by
  unfold dA
  simp only[if_true]
 by_cases hk:key∈Z.ks
 ·refine nV key hk hn (F:=dA Z rw_) (fun j _ hj=>hF j hj) ?_
  rw[hK]
  exact h
 ·have e:BO Z.ks (dA Z rw_) key=BL Z.ks (dA Z rw_):=by
   unfold BO BL
   rw[List.filter_eq_self.2 fun x hx=>by simp only[ne_eq,decide_not,Bool.not_eq_eq_eq_not,Bool.not_true,decide_eq_false_iff_not];rintro rfl;exact hk hx]
  rw[BL.congr (F':=dA Z rw_) fun j hj=>(hF j (by rintro rfl;exact hk hj)).symm,<- e]
  refine .conv (B:=all [Sl 1 437 a cc (Z.of_ key).length ((Z.of_ key).map pE),BO Z.ks (dA Z rw_) key]) (fun f H=>?_) (.all h)
  obtain⟨f',H',s⟩:=pG H
  obtain⟨k1,_,kb,_,_,t1,_⟩:=H'
  exact Ak (L:=(Z.ks.filter fun j=>decide (j≠key)).map (dA Z rw_)) kb fun i o e=>s i o (t1 i o e)
theorem zp {Z:Cs}{rw_:List UInt8->Q2}{key:List UInt8}{a:Option Addr}{cc:Nat}(h:(df Z rw_ key).getD (.slice none 0 0)= .slice a (Z.of_ key).length cc):df Z (fun k=>if k=key then(a,cc)else rw_ k)=df Z rw_:=by
 funext k
 by_cases c:k=key
 ·subst c
  unfold df at *
  split at h
  ·rename_i e;rw[if_pos e,if_pos e]
  ·rename_i e
   rw[if_neg e,if_neg e]
   simp only[if_true]
   exact congrArg some h.symm
 ·unfold df
  simp only[if_neg c]
theorem EY {W:World} {L L':List HP} {Kp:PK} {k:Value->WP} {T c:Nat} {Z:Cs} {key:List UInt8} (hZ:CsOk T Z) (p:Pick L (fU c Z) L')
  (h:∀a cc,aR W (Sl 1 437 a cc (Z.of_ key).length ((Z.of_ key).map pE)::fU c Z::L') (k (.slice a (Z.of_ key).length cc))):
  aR W L (opN p_ (dB (pE c)) Kp fun x72=>opN p_ (gB 241 x72 1) Kp fun x73=>opN p_ (aL 239 x73) Kp fun x74=>opN p_ (iW 239 x74 (az key) false) Kp fun x76=>opN p_ (bT (fn 299) [x76]) Kp k):=by
 refine bt p fun q=>aE .here ?_
 obtain⟨⟨oa,oc⟩,mg,rw_⟩:=q
 refine aq ?_
 refine o_ ah (o_ ae (aM ?_))
 refine dm (jG (fw Tryz.underlying9)) ?_
 refine uW (key:=key) hZ (by(repeat constructor):Pick _ (BL Z.ks (dA Z rw_)) _) fun a cc hv=>?_
 rw[hv]
 have hfl:=hZ.ofl key
 refine aj (IS (l:=Z.of_ key) (by omega)) (by(repeat(first|exact Picks.nil|(apply Picks.cons;(focus repeat constructor))))) fun r=>?_
 obtain⟨ra,rc⟩:=r
 refine aq ?_
 (try dsimp only)
 refine bu ?_ (h ra rc)
 refine .pick (by repeat constructor) (.ex ((oa,oc),mg,fun k=>if k=key then(a,cc)else rw_ k) (.all ?_))
 refine aq ?_
 rw[zp hv]
 refine .pick (by repeat constructor) (.pick (by repeat constructor) (.pick (by repeat constructor) (uX hZ.ksn ?_)))
 exact aA
theorem uY {W:World}{c:Nat}{Z:Cs}:aT p_ W [fU c Z] (aL 3 (.pointer (some ⟨c,2,none⟩))) (.int .i64 Z.bound):=qB fun q=>mV (aQ (by repeat constructor))
theorem Cq {W:World}{c:Nat}{Z:Cs}:aT p_ W [fU c Z] (aL 3 (.pointer (some ⟨c,3,none⟩))) (.int .i64 Z.bytes):=qB fun q=>mV (aQ (by repeat constructor))
theorem Cr {W:World}{g:Nat}{e:En}:aT p_ W [tj g e] (aL 3 (.pointer (some ⟨g,9,none⟩))) (.int .i64 e.cost):=qB fun q=>mV (aQ (by repeat constructor))
theorem P2 {W:World}{L L' L'':List HP}{S:WP}{g c:Nat}{o:Obj}{Z:Cs}(p:Pick L (pt g o) L')(q:Pick L' (fU c Z) L'')(h:g∉Z.al->aR W L S):aR W L S:=fun w hw=>by
 refine h (fun hg=>?_) w hw
 obtain⟨f,⟨h1,h2,ha,hb,d,s1,s2⟩,_⟩:=(hw.pick p).heap
 obtain⟨k1,k2,⟨x,ka⟩,_,_,t1,_⟩:=q.all hb
 obtain⟨_,m1,_,⟨_,m2,_,⟨_,m3,_,⟨_,m4,_,⟨m5,_,hbe,_,_,u5,_⟩,_,_,u4⟩,_,_,u3⟩,_,_,u2⟩,_,_,u1⟩:=ka
 obtain⟨o',ho'⟩:=Ck (W:=W) (F:=fun g=>tj g (Z.E g)) (g:=fun j=>j) (fun j h H=>by
  obtain⟨q,n1,n2,na,_,_,v1,_⟩:=H
  exact⟨_,v1 _ _ na⟩) Z.al hg hbe
 have e1:h1 g=some o:=ha
 have e2:=t1 g o' (u1 _ _ (u2 _ _ (u3 _ _ (u4 _ _ (u5 _ _ ho')))))
 rcases d g with c|c
 ·rw[e1]at c;cases c
 ·rw[e2]at c;cases c
theorem P3 {L:List Nat}{g:Nat}(h:g∈L):(jO L g).length<L.length:=by
 unfold jO
 induction L with
 |nil=>cases h
 |cons x r ih=>
  by_cases c:x=g
  ·rw[List.filter_cons_of_neg (by simp[c])]
   have:=List.length_filter_le (fun y=>!decide (y=g)) r
   simp only[List.length_cons]
   omega
  ·have hr:g∈r:=by
    rcases List.mem_cons.1 h with e|e
    ·exact absurd e.symm c
    ·exact e
   rw[List.filter_cons_of_pos (by simpa using c)]
   have:=ih hr
   simp only[List.length_cons]
   omega
def lT (key m:List UInt8)(R X:List Fd)(D:List UInt8)(st asked came:Int):En:=⟨key,m,R,eX R (cq X),st,X,D,dx asked,dx came,((key.length+D.length+64+jB X+jB (eX R (cq X)):Nat):Int)⟩
def zq (bound:Int)(key m:List UInt8)(R X:List Fd)(D:List UInt8)(st:Int):Bool:=uL m st R X&&decide ((lT key m R X D st 0 0).cost<=bound)
def Ct (T:Nat)(Z:Cs)(key m:List UInt8)(R X:List Fd)(D:List UInt8)(st asked came:Int)(Z':Cs):Prop:=
 CsOk T Z'/\if zq Z.bound key m R X D st then ∃g Y,Sub Y Z/\g∉Y.al/\Z'=eO Y g (lT key m R X D st asked came)else Z'=Z
theorem Cu (R:List Fd)(V:List (List UInt8)):zF (eX R V)<=zF R:=uB _ _
theorem EZ {key m:List UInt8}{R X:List Fd}{D:List UInt8}{st asked came:Int}{T:Nat}(hR:zF R<=T)(hX:zF X<=T)(hD:D.length<=T):EnOk T (lT key m R X D st asked came):=
 ⟨hR,Nat.le_trans (Cu _ _) hR,hX,hD,by show(64:Int)<=((key.length+D.length+64+jB X+jB (eX R (cq X)):Nat):Int);omega⟩
set_option maxRecDepth 20000 in
theorem store {W:World} [hG:Gl W] {c T:Nat} {Z:Cs} {key m tg:List UInt8} {mi st asked came:Int} {R X:List Fd} {D:List UInt8} {ar ax ad:Option Addr} {cr cx cd:Nat} {A B G:HP} (hZ:CsOk T Z)
  (hA:gD W A ar R) (har:ar=none->R=[]) (hB:gD W B ax X) (hax:ax=none->X=[]) (hG:RdB W G ad D.length (D.map Sl.B)) (had:ad=none->D=[]) (hR:zF R<=T) (hX:zF X<=T) (hD:D.length<=T) (hk:key.length<=1048576):
  Cn p_ 185 [pE c,az key,.agg #[az m,az tg,.int .i64 mi,.slice ar R.length cr],.agg #[.int .i64 st,.slice ax X.length cx,.slice ad D.length cd],.int .i64 asked,.int .i64 came] W [fU c Z,A,B,G]
   (fun _:{Z':Cs // Ct T Z key m R X D st asked came Z'}=> .bool (zq Z.bound key m R X D st)) (fun r=>[fU c r.1,A,B,G]):=by
 have hT:=hZ.t
 (refine Shp.cn (Sg.g_ Tryz.call185 Tryz.func185 (an:={loops:=[(8,[79]),(13,[])],drs:=[(3,.ofL [(0,2),(1,3),(2,3),(3,1),(4,1),(6,3),(7,3),(8,3),(10,3),(12,2),(14,2),(5,0),(9,0),(11,0),(13,0),(15,0),(16,1),(17,0),(18,1)]),(4,.ofL [(0,2),(1,2),(2,3),(3,3),(4,3),(5,3),(6,3),(7,3),(8,1),(9,1),(12,2),(13,3),(14,3),(15,3),(10,0),(11,3),(16,0),(17,1),(18,1),(19,1),(20,0)]),(5,.ofL [(0,1),(1,1),(2,1),(3,1),(4,1),(5,1),(6,1),(7,1),(8,1)]),(13,.ofL [(0,1),(1,1),(2,1),(3,1),(4,1),(5,1),(6,1),(7,1),(8,1),(9,1),(10,1),(11,1),(12,1),(13,1)]),(15,.ofL [(0,2),(1,3),(2,3),(3,3),(4,2),(5,2),(6,3),(7,3),(8,3),(9,2),(10,3),(11,1),(12,0),(13,0),(14,0)]),(17,.ofL [(0,1),(1,1),(2,1),(3,1),(4,1),(5,1),(6,1),(7,1),(8,1),(9,1),(10,1),(11,0)])]}) (os:=[(3,[(5,[10,8,7,6,2,1]),(9,[10,2,1]),(11,[2,1]),(13,[2,1]),(15,[2,1])]),(4,[(10,[15,14,13,7,6,5,4,3,2]),(16,[11,7,6,5,4,3,2])]),(15,[(12,[10,8,7,6,3,2,1]),(13,[3,2,1])])])) fun F=>?_;simp only[ca_,na_])
 refine aU fun b8=>?_
 refine aU fun b9=>?_
 refine aj rX (by(repeat(first|exact Picks.nil|(apply Picks.cons;(focus repeat constructor))))) fun _=>?_
 refine aq ?_
 refine ab (iS ?_);refine ab (iS ?_);refine ab (aj (B4 (st:=st) hA (by omega) hB (by omega)) (.cons (by repeat constructor) (.cons (by repeat constructor) .nil)) fun _=>?_)
 refine aq ?_
 refine ab (o_ eU (o_ am ?_))
 cases hst:uL m st R X with
 |false=>
  have hb:zq Z.bound key m R X D st=false:=by unfold zq;rw[hst];rfl
  rw[Bool.not_false]
  refine ai (bG (⟨Z,hZ,by rw[hb];rfl⟩:{Z':Cs // Ct T Z key m R X D st asked came Z'}) (by rw[hb]) ?_)
  exact aA
 |true=>
 rw[Bool.not_true]
 refine af (aV (ay ae .nil ?_));(((refine' ay (aQ ?hc) ?hi ?_);(case hi=>exact .pick (by repeat constructor) .nil);(case hc=>repeat constructor)));refine t_ ae (cu ?_);refine ay ae .nil ?_;(((refine' ay (aQ ?hc) ?hi ?_);(case hi=>exact .pick (by repeat constructor) .nil);(case hc=>repeat constructor)));(((refine' ay (bK ?hn) ?hi ?_);(case hi=>exact .pick (by repeat constructor) .nil);(case hn=>rfl)));(((refine' ay (bK ?hn) ?hi ?_);(case hi=>exact .pick (by repeat constructor) .nil);(case hn=>rfl)))
 refine aj (td hA har (by have:=kB R;omega)) (.cons (by repeat constructor) .nil) fun q=>?_
 obtain⟨ra,rc⟩:=q
 refine aq ?_
 (try dsimp only)
 refine aY ?_;refine aY ?_;refine aY ?_;refine aY ?_;refine aY ?_;refine aY ?_
 refine aj (IB (st:=st) hA (by omega) hB (by omega)) (.cons (by repeat constructor) (.cons (by repeat constructor) .nil)) fun q=>?_
 obtain⟨va,vc⟩:=q
 refine aq ?_
 (try dsimp only)
 refine aY ?_;refine aY ?_;refine aY ?_
 refine aj (S_ (st:=st) hB hax (by have:=kB X;omega) hG had (by omega)) (.cons (by repeat constructor) (.cons (by repeat constructor) .nil)) fun q=>?_
 obtain⟨⟨xa,xc⟩,da,dc⟩:=q
 refine aq ?_
 (try dsimp only)
 refine aY ?_;refine aY ?_
 refine c_ (kD (n:=asked)) fun _=>?_
 rw[show max 0 (min asked 1099511627776)=dx asked from rfl]
 refine aY ?_;refine aY ?_
 refine c_ (kD (n:=came)) fun _=>?_
 rw[show max 0 (min came 1099511627776)=dx came from rfl]
 refine aY ?_;refine aY ?_;refine t_ bM ?_;refine aU fun g=>?_;refine aV (ay bC .nil ?_)
 have hcx:=B7 X
 have hcv:=B7 (eX R (cq X))
 have hpk:=Cu R (cq X)
 refine ay ae .nil ?_;(((refine' ay (aQ ?hc) ?hi ?_);(case hi=>exact .pick (by repeat constructor) .nil);(case hc=>repeat constructor)));refine ay aK .nil ?_;(refine ay (ie (by omega) (by omega)) .nil ?_);(refine ay (ie (by omega) (by omega)) .nil ?_);refine t_ ae (cu ?_);refine ay ah .nil ?_;refine ay ae .nil ?_;(((refine' ay (aQ ?hc) ?hi ?_);(case hi=>exact .pick (by repeat constructor) .nil);(case hc=>repeat constructor)))
 refine aj (Gv hB (by omega)) (.cons (by repeat constructor) .nil) fun _=>?_
 refine aq ?_
 refine aY ?_;refine aY ?_;refine aY ?_;refine aY ?_;refine aY ?_;refine aY ?_;refine aY ?_;refine aY ?_;refine aY ?_;(refine ay (ie (by omega) (by omega)) .nil ?_)
 refine aN (by(repeat constructor):Pick _ (Sl 2 192 va vc (eX R (cq X)).length ((eX R (cq X)).flatMap cT)) _) fun _ _ _ hv=>?_
 refine aj (Gv (cg hv) (by omega)) (.cons (by repeat constructor) .nil) fun _=>?_
 refine aq ?_
 refine aY ?_;refine aY ?_;refine aY ?_;refine aY ?_;refine aY ?_;refine aY ?_;refine aY ?_;(refine t_ (ie (by omega) (by omega)) ?_);refine t_ ah (t_ ae (bU ?_));refine aV (t_ ah (t_ ae (cu ?_)));refine t_ ah (t_ ae ?_)
 have hco:((key.length:Int)+D.length+64+jB X+jB (eX R (cq X)))=(lT key m R X D st asked came).cost:=by simp[lT]
 rw[hco]
 have hcs:(lT key m R X D st asked came).cost<=9000000:=by rw[<- hco];omega
 have hen:EnOk T (lT key m R X D st asked came):=EZ hR hX hD
 have hc64:=hen.c1
 obtain⟨en,hen0⟩:∃en,en=lT key m R X D st asked came:=⟨_,rfl⟩
 have hsb:zq Z.bound key m R X D st=decide (en.cost<=Z.bound):=by unfold zq;rw[hst,hen0];rfl
 rw[hsb]
 refine P2 (by(repeat constructor):Pick _ (pt g _) _) (by(repeat constructor):Pick _ (fU c Z) _) fun hgal=>?_
 refine bu (M:=tj g en::fU c Z::pt b8 (.cells #[az m,az tg,.int .i64 mi,.slice ar R.length cr] 94)::A::B::G::F) (.ex (((ra,rc),va,vc),(xa,xc),da,dc) (.all ?_)) ?_
 ·rw[hen0]
  refine aq ?_
  exact aA
 rw[<- hen0]at hcs hen hc64 ⊢
 refine ii uY ?_
 refine t_ eu ?_
 by_cases hgt:Z.bound<en.cost
 ·rw[dT_ hgt]
  refine ai (bG (⟨Z,hZ,by rw[hsb,dF_ (by omega)];rfl⟩:{Z':Cs // Ct T Z key m R X D st asked came Z'}) (by rw[dF_ (by omega)]) ?_)
  exact aA
 rw[dF_ hgt]
 have hstr:∀Z',Ct T Z key m R X D st asked came Z'↔CsOk T Z'/\∃g Y,Sub Y Z/\g∉Y.al/\Z'=eO Y g en:=fun Z'=>by
  unfold Ct
  rw[hsb,dT_ (by omega),hen0]
  rfl
 rw[dT_ (by omega)]
 refine af (EY (key:=key) hZ (by(repeat constructor):Pick _ (fU c Z) _) fun ka kc=>?_)
 have hkl:=hZ.ofl key
 refine o_ aK (a_ (fun k y=>[ex fun x:Nat × Cs=>all [pu (k+x.1=(Z.of_ key).length/\y= .int .i64 (x.1:Int)/\Sub x.2 Z/\CsOk T x.2/\∀j∈(Z.of_ key).drop x.1,j∈x.2.ord),Sl 1 437 ka kc (Z.of_ key).length ((Z.of_ key).map pE),fU c x.2,tj g en,pt b8 (.cells #[az m,az tg,.int .i64 mi,.slice ar R.length cr] 94),A,B,G]]++F) (Z.of_ key).length ?_ ?_)
 ·refine .ex (0,Z) (.all ?_)
  refine aq ?_
  refine .pu ⟨rfl,rfl,Sub.refl Z,hZ,fun j hj=>(hZ.fo key j hj).1⟩ ?_
  exact aA
 intro k ds y
 refine aq ?_
 refine bt Pick.here fun x=>aE Pick.here ?_
 obtain⟨i,Y⟩:=x
 refine aq ?_
 refine aX Pick.here fun hi=>?_
 obtain⟨hki,rfl,hsub,hY,hdr⟩:=hi
 (try dsimp only at hki hsub hY hdr)
 refine bj bD .nil (fun h=>?_) (fun h=>?_)
 ·have hin:i<(Z.of_ key).length:=by omega
  refine ai (be (by(repeat constructor):Pick _ (Sl 1 437 ka kc (Z.of_ key).length ((Z.of_ key).map pE)) _) (by omega) fun gk hgk=>?_)
  subst hgk
  have hsplit:(Z.of_ key).drop i=(Z.of_ key)[i]::(Z.of_ key).drop (i+1):=(List.drop_eq_getElem_cons hin)
  have hxo:(Z.of_ key)[i]∈Y.ord:=hdr _ (by rw[hsplit];exact List.mem_cons_self)
  have hxa:=hY.oa _ hxo
  have hnd:∀j∈(Z.of_ key).drop (i+1),j≠(Z.of_ key)[i]:=fun j hj e=>by
   have:=(hZ.fn key).sublist (List.drop_sublist i _)
   rw[hsplit,List.nodup_cons]at this
   exact this.1 (e▸hj)
  refine o_ (br i rfl hin) ?_
  refine dm (uP hin) ?_
  refine o_ ae (aM ?_)
  refine bt (by(repeat constructor):Pick _ (fU c Y) _) fun q=>aE .here ?_
  obtain⟨⟨oa,oc⟩,mg,rw_⟩:=q
  refine aq ?_
  refine wx (by(repeat constructor):Pick _ (BE Y.al Y.E) _) (Z.of_ key)[i] hxa hY.aln ?_
  refine aj (P1 (e:=Y.E (Z.of_ key)[i]) (g:=(Z.of_ key)[i]) (hY.en _ hxa) hT hA (by omega)) (.cons (by repeat constructor) (.cons (by repeat constructor) .nil)) fun _=>?_
  refine aq ?_
  refine GD (l:=Y.al) (F':=fun g=>tj g (Y.E g)) (Z.of_ key)[i] hxa hY.aln (fun _ _ _=>rfl) (by repeat constructor) (by repeat constructor) ?_
  refine bu (M:=fU c Y::Sl 1 437 (some ⟨gk,0,none⟩) kc (Z.of_ key).length ((Z.of_ key).map pE)::tj g en::pt b8 (.cells #[az m,az tg,.int .i64 mi,.slice ar R.length cr] 94)::A::B::G::F) (.ex ((oa,oc),mg,rw_) (.all ?_)) ?_
  ·unfold BE
   refine aq ?_
   exact aA
  cases hfit:kE (Y.E (Z.of_ key)[i]) R with
  |true=>
   refine ai (aj (drop hY hxo) (by(repeat(first|exact Picks.nil|(apply Picks.cons;(focus repeat constructor))))) fun _=>?_)
   refine aq ?_
   refine bS ?_
   refine bq (k-1) (by omega) (.ex (i+1,gR Y (Z.of_ key)[i]) (.all ?_))
   refine aq ?_
   refine .pu ⟨by omega,by norm_cast,(uT _ _).trans hsub,xW hY hxo,fun j hj=>?_⟩ ?_
   ·exact List.mem_filter.2 ⟨hdr j (by rw[hsplit];exact List.mem_cons_of_mem _ hj),by simpa using hnd j hj⟩
   exact aA
  |false=>
   refine af (bS ?_)
   refine bq (k-1) (by omega) (.ex (i+1,Y) (.all ?_))
   refine aq ?_
   refine .pu ⟨by omega,by norm_cast,hsub,hY,fun j hj=>hdr j (by rw[hsplit];exact List.mem_cons_of_mem _ hj)⟩ ?_
   exact aA
 refine af (jl (fun k=>[ex fun Y:Cs=>all [pu (k=Y.ord.length/\Sub Y Z/\CsOk T Y),fU c Y,tj g en,A,B,G]]++F) Y.ord.length ?_ ?_)
 ·refine .ex Y (.all ?_)
  refine aq ?_
  refine .pu ⟨rfl,hsub,hY⟩ ?_
  exact aA
 clear hki hsub hY hdr h
 intro k2 ds2
 refine aq ?_
 refine bt Pick.here fun Y=>aE Pick.here ?_
 refine aq ?_
 refine aX Pick.here fun hi=>?_
 obtain⟨rfl,hsub,hY⟩:=hi
 (try dsimp only at hsub hY)
 have hbd:Y.bound=Z.bound:=hsub.bound
 have hb0:=hY.b0
 have hb1:=hY.b1
 have hle:=hY.le
 have hyl:=hY.len
 refine aV (t_ ah (t_ ae (ii Cq ?_)))
 refine t_ ah (t_ ae (ii uY ?_))
 refine t_ ah (t_ ae (ii Cr ?_))
 refine t_ (gI (by omega) (by omega)) ?_
 refine t_ eu ?_
 by_cases hmore:Y.bound-en.cost<Y.bytes
 ·rw[dT_ hmore]
  refine ai ?_
  have hol:0<Y.ord.length:=by
   rcases Nat.eq_zero_or_pos Y.ord.length with z|z
   ·have hn:Y.ord=[]:=List.eq_nil_of_length_eq_zero z
    have:=hY.by_
    rw[hn]at this
    simp only[q9]at this
    omega
   ·exact z
  have hxo:Y.ord[0]∈Y.ord:=List.getElem_mem hol
  refine bt (by(repeat constructor):Pick _ (fU c Y) _) fun q=>aE .here ?_
  obtain⟨⟨oa,oc⟩,mg,rw_⟩:=q
  refine aq ?_
  refine be (by(repeat constructor):Pick _ (Sl 1 437 oa oc Y.ord.length (Y.ord.map pE)) _) hol fun go hgo=>?_
  subst hgo
  refine o_ ah (o_ ae (o_ ae (aM ?_)))
  refine o_ (br 0 rfl hol) ?_
  refine dm (uP hol) ?_
  refine bu (M:=fU c Y::tj g en::A::B::G::F) (.ex ((some ⟨go,0,none⟩,oc),mg,rw_) (.all ?_)) ?_
  ·refine aq ?_
   exact aA
  refine aj (drop hY hxo) (by(repeat(first|exact Picks.nil|(apply Picks.cons;(focus repeat constructor))))) fun _=>?_
  refine aq ?_
  refine oS (jO Y.ord Y.ord[0]).length (P3 hxo) (.ex (gR Y Y.ord[0]) (.all ?_))
  refine aq ?_
  refine .pu ⟨rfl,(uT _ _).trans hsub,xW hY hxo⟩ ?_
  exact aA
 rw[dF_ hmore]
 refine af ?_
 have hgY:g∉Y.al:=by rw[hsub.al];exact hgal
 have hgo:g∉Y.ord:=fun c=>hgY (hY.oa g c)
 have hkey:en.key=key:=by rw[hen0];rfl
 have hfl:=hY.ofl key
 have hol:=hY.ordl
 refine bt (by(repeat constructor):Pick _ (fU c Y) _) fun q=>aE .here ?_
 obtain⟨⟨oa,oc⟩,mg,rw_⟩:=q
 refine aq ?_
 refine aV (ay ah .nil ?_);refine ay ae .nil ?_;(((refine' ay (aQ ?hc) ?hi ?_);(case hi=>exact .pick (by repeat constructor) .nil);(case hc=>repeat constructor)));refine ay ah .nil ?_;refine ay ae .nil ?_;(((refine' ay (aQ ?hc) ?hi ?_);(case hi=>exact .pick (by repeat constructor) .nil);(case hc=>repeat constructor)))
 refine ay (jG (fw Tryz.underlying9)) (.pick (by repeat constructor) .nil) ?_
 refine uW (key:=key) hY (by(repeat constructor):Pick _ (BL Y.ks (dA Y rw_)) _) fun a cc hv=>?_
 rw[hv]
 refine cZ fun g=>?_;refine aY ?_;refine aY ?_;refine aY ?_;refine aY ?_;refine aY ?_;refine aY ?_;refine aY ?_
 rename Nat=>gb
 refine bV (m:=1) (news:=[pE g]) (by(repeat constructor):Pick _ (Sl 1 437 a cc (Y.of_ key).length ((Y.of_ key).map pE)) _) (bR (s:=1) (e':=437) (by kernel_rfl) (by(repeat constructor):Pick _ (pt gb _) _) (by rfl) (by intro u hu;simp at hu;rw[hu];rfl)) (by omega) (by omega) fun a' c'=>?_
 refine aY ?_;refine aY ?_;refine aY ?_
 refine dC (fw Tryz.underlying9) (by(repeat constructor):Pick _ (bN mg az (df Y rw_)) _) ?_
 refine o_ ah (o_ ae ?_)
 have hY':CsOk T (eO Y g en):=IU hY hgY hen (by omega)
 have hEg:(eO Y g en).E g=en:=if_pos rfl
 have hrm:jO Y.ord g=Y.ord:=List.filter_eq_self.2 fun x hx=>by simp only[Bool.not_eq_true',decide_eq_false_iff_not];rintro rfl;exact hgo hx
 have hrows:dS (df Y rw_) key (some (.slice a' ((Y.of_ key).length+1) c'))=df (eO Y g en) (fun k=>if k=key then(a',c')else rw_ k):=by
  funext k
  by_cases e:k=key
  ·subst e
   have e2:(eO Y g en).of_ k=Y.of_ k++[g]:=if_pos hkey.symm
   unfold df dS
   rw[if_pos rfl,e2,if_neg (by simp),List.length_append]
   simp only[if_true]
   rfl
  ·have e2:(eO Y g en).of_ k=Y.of_ k:=if_neg (by rw[hkey];exact e)
   unfold df dS
   rw[if_neg e,e2]
   simp only[if_neg e]
 have hof:(eO Y g en).of_ key=Y.of_ key++[g]:=if_pos hkey.symm
 refine bu (M:=BE (g::Y.al) (eO Y g en).E::pt c (.cells #[.slice oa Y.ord.length oc,.map (some mg),.int .i64 Y.bound,.int .i64 Y.bytes] 241)::Sl 1 437 oa oc Y.ord.length (Y.ord.map pE)::bN mg az (df (eO Y g en) (fun k=>if k=key then(a',c')else rw_ k))::BL (eO Y g en).ks (dA (eO Y g en) fun k=>if k=key then(a',c')else rw_ k)::A::B::G::F) ?_ ?_
 ·rw[<- hrows]
  refine xU (F:=fun g=>tj g (Y.E g)) (fun j hj=>by rw[show(eO Y g en).E j=Y.E j from if_neg (by rintro rfl;exact hgY hj)]) ?_
  rw[hEg]
  unfold BE
  refine .pick (by repeat constructor) (.pick (by repeat constructor) (.pick (by repeat constructor) (.pick (by repeat constructor) (.pick (by repeat constructor) (wA hY.ksn (by rw[<- hkey];rfl) (fun k hk=>if_neg (by rw[hkey];exact hk)) ?_)))))
  rw[hof,List.length_append,List.map_append]
  exact aA
 refine aj (Cp (M:=Y.ord) (al:=g::Y.al) (E:=(eO Y g en).E) (c:=c) (g:=g) (by omega) (fun x hx=>List.mem_cons_of_mem _ (hY.oa x hx)) List.mem_cons_self) (.cons (by repeat constructor) (.cons (by repeat constructor) (.cons (by repeat constructor) .nil))) fun q=>?_
 obtain⟨ta,tc⟩:=q
 refine aq ?_
 (try dsimp only)
 rw[hrm]
 refine aV (t_ ah (t_ ae (cu ?_)));refine t_ ah (t_ ae (ii (xX (al:=g::Y.al) (E:=(eO Y g en).E) List.mem_cons_self hY'.aln) ?_))
 rw[hEg]
 (refine t_ (ie (by omega) (by omega)) ?_);refine t_ ah ?_;refine t_ ae ?_;refine bU ?_
 refine bG (⟨eO Y g en,(hstr _).2 ⟨hY',g,Y,hsub,hgY,rfl⟩⟩:{Z':Cs // Ct T Z key m R X D st asked came Z'}) rfl ?_
 refine .ex ((ta,tc),mg,fun k=>if k=key then(a',c')else rw_ k) (.all ?_)
 refine aq ?_
 unfold BE
 exact aA
end Go.Proofs.YtdjkdjepjahjfaaGreatDoor.FD
