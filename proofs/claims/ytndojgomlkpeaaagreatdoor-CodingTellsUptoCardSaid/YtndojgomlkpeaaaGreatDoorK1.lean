/- A shape for walks: what the model's run of a function's code asks, written as nested continuations over plain values, and that it suffices. No program in sight; no conditions. (22 texts made one; each says below what it is.) -/
import Derived.OrdersIn
import Derived.TacticsIn
import Derived.Below
import Derived.Scope
import Derived.Tactics
import Derived.Recover
import Derived.RangeFuncRecord
import Derived.Deep.AppendSrc
import Derived.Laws.AppendOwn
import Derived.IntWalk
import Derived.Laws.Pointers
import Derived.Laws.Cover3
import Derived.Laws.BytesString
import Derived.Laws.Strings
import Derived.ProofKit
import Derived.OpenShut
import Derived.JoinedCond
import Derived.Test.YtndojgomlkpeaaaGreatDoorChecked
import Derived.KernelRfl
import Derived.Laws.IdiomStrings
set_option linter.unusedVariables false
set_option linter.unusedSimpArgs false
set_option linter.unusedSectionVars false
namespace Go.Proofs.YtndojgomlkpeaaaGreatDoor
set_option maxRecDepth 9999
theorem ca_ {α : Type _} {a : α} {l m : List α} : (a :: l) ++ m = a :: (l ++ m) := rfl
theorem na_ {α : Type _} {l : List α} : [] ++ l = l := rfl
noncomputable abbrev p_ : Go.Program := Go.Proofs.Tryz.prog
theorem dF_ {p : Prop} [Decidable p] (h : ¬ p) : decide p = false := decide_eq_false h
theorem dT_ {p : Prop} [Decidable p] (h : p) : decide p = true := decide_eq_true h
namespace Sh
abbrev cX:=Nat->Value
abbrev WP:=World->Prop
def ev (n:Nat)(e:cX):Operand->Value
 | .tmp t=>match Nat.blt t n with
  |true=>e t
  |false=>undef
 | .const v=>v
 | .global g=> .pointer (some ⟨g,0,none⟩)
 | .func f=> .func (.func f) #[] #[]
def Gf (e:cX)(d:Nat)(v:Value):cX:=fun i=>match Nat.beq i d with
 |true=>v
 |false=>e i
def fu (e:cX)(d:Option Tmp)(v:Value):cX:=
 match d with
 |some d=>Gf e d v
 |none=>e
structure opN (P:Program)(s:Sem Next)(Kp:List PanicEntry->WP)(k:Value->WP)(w:World):Prop where
 out:match s.run P w with
 | .ok (.value v) w'=>k v w'
 | .ok .skip w'=>k undef w'
 | .ok (.enter f args) w'=>Calls P f args w' fun
   | .returned v,w''=>k v w''
   | .panicked ch,w''=>Kp ch w''
   | .outgrown,_=>False
 | .ok (.round l f tmps assign body) w'=>RoundIn Fence.wide 0 P l f tmps assign body w' fun
   | .returned v,w''=>k v w''
   | .panicked ch,w''=>Kp ch w''
   | .outgrown,_=>False
 | .halt (.panic v) w'=>Kp [{v,recovered:=false}] w'
 |_=>False
structure stS (P:Program)(s:Sem Next)(k:Value->WP)(w:World):Prop where
 out:∃v,s.run P w= .ok (.value v) w/\k v w
structure stD (P:Program)(s:Sem Next)(k:WP->Value->WP)(w:World):Prop where
 out:∃(D:WP) (v:Value),D w/\(∀w',D w'->s.run P w'= .ok (.value v) w')/\k D v w
def Bq (n:Nat)(ops:Array Oper)(e:cX)(j:Nat):Value:=
 match(ops[j]?).bind (·.dst)with
 |some t=>ev n e (.tmp t)
 |none=>undef
def P8 (v:Value)(want:Bool)(A B:WP)(w:World):Prop:=
 match v with
 | .bool b=>if b=want then A w else B w
 |_=>B w
structure gdK (v:Value)(want:Bool)(body:(Value->WP)->WP)(k:Value->WP)(w:World):Prop where
 out:P8 v want (body k) (k undef) w
structure gdD (v:Value)(want:Bool)(body:(WP->Value->WP)->WP)(k:WP->Value->WP)(w:World):Prop where
 out:P8 v want (body k) (k (fun _=>True) undef) w
def Gg (n:Nat)(ops:Array Oper)(e:cX)(o:Oper)(body:(Value->WP)->WP)(k:Value->WP):WP:=
 match o.guard with
 |none=>body k
 |some (j,want)=>gdK (Bq n ops e j) want body k
def JH (n:Nat)(ops:Array Oper)(e:cX)(o:Oper)(body:(WP->Value->WP)->WP)(k:WP->Value->WP):WP:=
 match o.guard with
 |none=>body k
 |some (j,want)=>gdD (Bq n ops e j) want body k
structure condS (v:Value)(A B:WP)(w:World):Prop where
 out:match v with
 | .bool true=>A w
 | .bool false=>B w
 |_=>False
def qm (n:Nat)(e:cX)(o:Oper):Sem Next:=
 match o.op with
 | .build t ps=>do pure (.value (<- Instr.build t (ps.toList.map fun p=>(p.1,ev n e p.2)).toArray))
 | .buildSlice t len ps=>do pure (.value (<- Instr.buildSlice t len (ps.toList.map fun p=>(p.1,ev n e p.2)).toArray))
 | .makeFunc f a b=>do pure (.value (<- Instr.makeFunc f (a.toList.map (ev n e)).toArray (b.toList.map (ev n e)).toArray))
 | .call c=>match c.callee with
  | .value f=>do
   let d <- Deferred.ofValue (ev n e f) (c.args.toList.map (ev n e)).toArray
   invoke d.target d.args
  | .builtin .append=>do pure (.value (<- Builtin.append_ c.argTypes o.type (c.args.toList.map (ev n e)).toArray))
  | .builtin .len=>do pure (.value (<- Builtin.len_ c.argTypes o.type (c.args.toList.map (ev n e)).toArray))
  | .builtin .cap=>do pure (.value (<- Builtin.cap_ c.argTypes o.type (c.args.toList.map (ev n e)).toArray))
  | .builtin .copy=>do pure (.value (<- Builtin.copy_ c.argTypes o.type (c.args.toList.map (ev n e)).toArray))
  | .builtin .delete=>do pure (.value (<- Builtin.delete_ c.argTypes o.type (c.args.toList.map (ev n e)).toArray))
  | .builtin .min=>do pure (.value (<- Builtin.min_ c.argTypes o.type (c.args.toList.map (ev n e)).toArray))
  | .builtin .max=>do pure (.value (<- Builtin.max_ c.argTypes o.type (c.args.toList.map (ev n e)).toArray))
  | .builtin .clear=>do pure (.value (<- Builtin.clear_ c.argTypes o.type (c.args.toList.map (ev n e)).toArray))
  | .invoke r nm=>invoke (.fn (.method nm) #[]) (#[ev n e r]++(c.args.toList.map (ev n e)).toArray)
  |_=>execOp (ev n e) o
 |_=>execOp (ev n e) o
def vY (P:Program)(n:Nat)(e:cX)(o:Oper)(Kp:List PanicEntry->WP)(k:Value->WP):WP:=
 match o.op with
 | .move x=>k (ev n e x)
 | .assign x=>k (ev n e x)
 |_=>opN P (qm n e o) Kp k
def zz (P:Program)(n:Nat)(e:cX)(o:Oper)(k:Value->WP):WP:=
 match o.op with
 | .move x=>k (ev n e x)
 | .assign x=>k (ev n e x)
 |_=>stS P (qm n e o) k
def mz (P:Program)(n:Nat)(ops:Array Oper)(Kp:List PanicEntry->WP)(K:cX->WP):List Oper->cX->WP
 |[],e=>K e
 |o::rest,e=>Gg n ops e o (vY P n e o Kp) fun v=>mz P n ops Kp K rest (fu e o.dst v)
def jg (ops:Array Oper):Nat->Nat->Nat->Bool
 |0,_,_=>false
 |n+1,k,i=>match ops[k]? with
  |some o=>o.after.toList.any fun e=>Region.binds .any e&&(e.on==i||jg ops n e.on i)
  |none=>false
def Rq:List (Nat × WP)->WP->WP
 |[],S=>S
 |(_,D)::r,S=>fun w=>D w/\Rq r S w
inductive DT where
 |nil
 |op (k md:Nat) (t:DT)
 |alt (a b:DT)
def DT.ofL:List (Nat × Nat)->DT
 |[]=> .nil
 |(k,md)::r=> .op k md (DT.ofL r)
def DT.len:DT->Nat
 | .nil=>0
 | .op _ _ t=>t.len+1
 | .alt a _=>a.len
def DT.heads:DT->List Nat
 | .nil=>[]
 | .op k _ _=>[k]
 | .alt a b=>a.heads++b.heads
def DT.acts:DT->List Nat
 | .nil=>[]
 | .op k md t=>match md with
  |0=>k::t.acts
  |_=>t.acts
 | .alt a b=>a.acts++b.acts
def yi (A B:WP):WP:=fun w=>A w/\B w
def gT (P:Program)(n:Nat)(ops:Array Oper)(Kp:List PanicEntry->WP)(K:cX->WP):DT->List (Nat × WP)->cX->WP
 | .nil,_,e=>K e
 | .op k md r,pend,e=>match ops[k]? with
  |none=>fun _=>False
  |some o=>match md with
   |0=>Gg n ops e o (vY P n e o Kp) fun v=>Rq (pend.filter fun p=>!jg ops ops.size k p.1) (gT P n ops Kp K r pend (fu e o.dst v))
   |1=>Gg n ops e o (zz P n e o) fun v=>gT P n ops Kp K r pend (fu e o.dst v)
   |2=>match o.op with
    | .move x=>Gg n ops e o (fun c=>c (ev n e x)) fun v=>gT P n ops Kp K r pend (fu e o.dst v)
    | .assign x=>Gg n ops e o (fun c=>c (ev n e x)) fun v=>gT P n ops Kp K r pend (fu e o.dst v)
    |_=>fun _=>False
   |_=>JH n ops e o (stD P (qm n e o)) fun D v=>gT P n ops Kp K r ((k,D)::pend) (fu e o.dst v)
 | .alt a b,pend,e=>yi (gT P n ops Kp K a pend e) (gT P n ops Kp K b pend e)
def lS (ops : Array Oper) : Bool → DT → Array Bool → Bool
  | fl, .nil, E => !fl && (Region.ready .any ops E).isEmpty
  | fl, .op k md r, E =>
    (match md with
     | 0 => match fl with
       | true => (Region.ready .any ops E).contains k
       | false => Region.ready .any ops E == [k]
     | _ => !fl && ((Region.ready .any ops E).contains k && Region.free .any ops E k && (md != 1 || r.acts.all fun p => jg ops ops.size p k))) && lS ops false r (E.setIfInBounds k true)
  | fl, .alt a b, E => (fl || (Region.ready .any ops E).all fun j => (a.heads ++ b.heads).contains j) && (a.len == b.len && (lS ops true a E && lS ops true b E))
def yj (ops:Array Oper)(r:DT):Bool:=Region.noSelect ops&&r.len==ops.size&&lS ops false r (Array.replicate ops.size false)
def oW (S:WP)(w:World):Prop:=S {w with drawn:=w.drawn+1}
@[reducible] def VF:Nat->Type->Type
 |0,α=>α
 |n+1,α=>Value->VF n α
def jh {α:Type}:(n:Nat)->VF n α->List Value->α
 |0,f,_=>f
 |n+1,f,vs=>jh n (f (vs.headD undef)) vs.tail
def zA:Nat->(List Value->Prop)->Prop
 |0,f=>f []
 |n+1,f=>∀v,zA n fun l=>f (v::l)
def iw:cX->List Nat->List Value->cX
 |e,[],_=>e
 |e,i::is,vs=>iw (Gf e i (vs.headD undef)) is vs.tail
def L_ (e:cX)(dead:List Nat)(ds:List Value)(live:List Nat)(vs:List Value):cX:=iw (iw e dead ds) live vs
def lT (e:cX)(l:List Nat):List Value:=l.map e
def Gh (n:Nat)(body:VF n WP->WP)(rest:List Value->List Value->WP)(w:World):Prop:=
 ∃J:VF n WP,(∀ds,zA n fun vs=>∀w',jh n J vs w'->rest ds vs w')/\body J w
def Nc (n:Nat)(body:(Nat->VF n WP)->Nat->List Value->List Value->WP)(vs0:List Value)(w:World):Prop:=
 ∃I:Nat->VF n WP,(∃m,jh n (I m) vs0 w)/\∀m ds,zA n fun vs=>∀w',jh n (I m) vs w'->body I m ds vs w'
def Nd (n:Nat)(I:Nat->VF n WP)(m:Nat)(vs:List Value)(w:World):Prop:=∃m',m'<m/\jh n (I m') vs w
structure Ann where
 cuts:List (Nat × List Nat):=[]
 blks:List (Nat × List Nat):=[]
 loops:List (Nat × List Nat):=[]
 drs:List (Nat × DT):=[]
 rcuts:List (Nat × List Nat):=[]
def qo {α:Type}(k:Nat):List (Nat × α)->Option α
 |[]=>none
 |(i,x)::r=>if i=k then some x else qo k r
def ey:Code->Nat
 | .region id _ _=>id
 | .seq a b=>let n:=ey a;if n=1000000 then ey b else n
 | .cond _ a b=>let n:=ey a;if n=1000000 then ey b else n
 | .block _ b=>ey b
 | .loop b=>ey b
 | .scope b=>ey b
 |_=>1000000
def wr:Code->List Nat
 | .region _ ops _=>ops.toList.filterMap (·.dst)
 | .seq a b=>wr a++wr b
 | .cond _ a b=>wr a++wr b
 | .block _ b=>wr b
 | .loop b=>wr b
 | .scope b=>wr b
 |_=>[]
def CN (o:Oper):Bool:=match o.op with
 | .defer _=>true
 |_=>false
def iy:Code->Bool
 | .region _ ops _=>ops.toList.all fun o=>!CN o
 | .seq a b=>iy a&&iy b
 | .cond _ a b=>iy a&&iy b
 | .block _ b=>iy b
 | .loop b=>iy b
 | .scope _=>false
 |_=>true
def uh:Code->Bool
 | .region .. | .skip| .label _=>true
 |_=>false
def iz (c:Code)(live:List Nat):List Nat:=(wr c).filter fun i=>!live.contains i
abbrev KT:=Exit->cX->WP
def sx (K:KT)(k:cX->WP):KT
 | .normal,e=>k e
 | .exit id,e=>K (.exit id) e
 | .goto l,e=>K (.goto l) e
 | .ret,e=>K .ret e
 | .panic c,e=>K (.panic c) e
 | .outgrown,e=>K .outgrown e
def Gi (K:KT)(id:Nat)(k:cX->WP):KT
 | .normal,e=>k e
 | .exit id',e=>if id'=id then k e else K (.exit id') e
 | .goto l,e=>K (.goto l) e
 | .ret,e=>K .ret e
 | .panic c,e=>K (.panic c) e
 | .outgrown,e=>K .outgrown e
def JI (K:KT):KT
 | .goto _,_=>fun _=>False
 | .normal,e=>K .normal e
 | .exit id,e=>K (.exit id) e
 | .ret,e=>K .ret e
 | .panic c,e=>K (.panic c) e
 | .outgrown,e=>K .outgrown e
def kV (P:Program)(n:Nat)(an:Ann)(Kp:List PanicEntry->WP):Code->KT->cX->WP
 | .skip,K,e=>K .normal e
 | .region id ops draw,K,e=>match draw with
  |false=>mz P n ops Kp (K .normal) ops.toList e
  |true=>match qo id an.drs with
   |some r=>match yj ops r with
    |true=>oW (gT P n ops Kp (K .normal) r [] e)
    |false=>fun _=>False
   |none=>fun _=>False
 | .seq x y,K,e=>match(match uh x with|true=>qo (ey y) an.rcuts|false=>qo (ey y) an.cuts)with
  |none=>kV P n an Kp x (sx K (kV P n an Kp y K)) e
  |some live=>Gh live.length (fun J=>kV P n an Kp x (sx K fun e'=>jh live.length J (lT e' live)) e) fun ds vs=>kV P n an Kp y K (L_ e (iz x live) ds live vs)
 | .cond c x y,K,e=>condS (ev n e c) (kV P n an Kp x K e) (kV P n an Kp y K e)
 | .block id b,K,e=>match qo id an.blks with
  |none=>kV P n an Kp b (Gi K id (K .normal)) e
  |some live=>Gh live.length (fun J=>kV P n an Kp b (Gi K id fun e'=>jh live.length J (lT e' live)) e) fun ds vs=>K .normal (L_ e (iz b live) ds live vs)
 | .loop b,K,e=>match qo (ey b) an.loops with
  |none=>fun _=>False
  |some live=>Nc live.length (fun I m ds vs=>kV P n an Kp b (sx K fun e'=>Nd live.length I m (lT e' live)) (L_ e (iz b live) ds live vs)) (lT e live)
 | .exit id,K,e=>K (.exit id) e
 | .ret,K,e=>K .ret e
 | .label _,K,e=>K .normal e
 | .scope b,K,e=>kV P n an Kp b (JI K) e
 |_,_,_=>fun _=>False
end Sh
namespace Sh
open Go
variable {P:Program} {n:Nat} {D:List Deferred} {Kp:List PanicEntry->WP} {R:Option Nat}

def FW (R:Option Nat):Fence:={Fence.wide with round:=R}
theorem yk {m:Nat}{f:FuncId}{args:Array Value}{w:World}{Q:Ending->World->Prop}(h:Calls P f args w Q):CallsIn (FW R) m P f args w Q:=
 ⟨trivial,fun cs _=>let ⟨e,w',fr,r,s,x⟩:=h cs;⟨e,w',fr,r,comesIn_wide.2 s,x⟩⟩
theorem yl {m:Nat}{l:Nat}{f:FuncId}{tmps:Array Value}{assign body:Code}{w:World}{Q:Ending->World->Prop}(h:RoundIn Fence.wide 0 P l f tmps assign body w Q):RoundIn (FW R) m P l f tmps assign body w Q:=
 ⟨trivial,fun c cs _=>h.2 c cs (room_wide _)⟩
def FX (R:Option Nat)(o:Oper):Prop:=R=none\/∀c,o.op≠ .defer c
theorem nT {o:Oper}(h:FX R o)(ρ:Operand->Value):o.semAt R ρ=execOp ρ o:=by
 rcases h with rfl|h
 ·rfl
 ·exact Oper.semAt_eq _ _ _ h
theorem JJ {o:Oper}(h:CN o=false):FX R o:= .inr fun c hc=>by simp[CN,hc]at h
theorem zB {id:Nat}{ops:Array Oper}{b:Bool}(h:R=none\/iy (.region id ops b)=true):∀o∈ops.toList,FX R o:=fun o ho=>by
 rcases h with h|h
 ·exact .inl h
 ·refine JJ ?_
  have:=List.all_eq_true.1 h o ho
  simpa using this

structure Rep (n:Nat)(D:List Deferred)(e:cX)(a:Act):Prop where
 defers:a.defers=D
 size:a.tmps.size=n
 at_:∀i,i<n->a.tmps[i]? =some (e i)
theorem Rep.getD {n:Nat}{D:List Deferred}{e:cX}{a:Act}(h:Rep n D e a)(t:Nat):a.tmps.getD t undef=ev n e (.tmp t):=by
 rw[Array.getD_eq_getD_getElem?]
 by_cases hl:t<n
 ·have hb:Nat.blt t n=true:=by simpa using hl
  simp only[ev,hb,h.at_ t hl,Option.getD_some]
 ·have hb:Nat.blt t n=false:=by
   cases h:Nat.blt t n with
   |false=>rfl
   |true=>exact absurd (by simpa using h) hl
  simp only[ev,hb]
  rw[Array.getElem?_eq_none (by rw[h.size];omega)];rfl
theorem Rep.eval {n:Nat}{D:List Deferred}{e:cX}{a:Act}(h:Rep n D e a):a.eval=ev n e:=by
 funext x
 cases x with
 |tmp t=>exact h.getD t
 |_=>rfl
theorem pS (e:cX)(d:Nat)(v:Value)(i:Nat):Gf e d v i=if i=d then v else e i:=by
 unfold Gf
 cases h:Nat.beq i d with
 |true=>rw[if_pos (Nat.eq_of_beq_eq_true h)]
 |false=>rw[if_neg (Nat.ne_of_beq_eq_false h)]
theorem Rep.put {n:Nat}{D:List Deferred}{e:cX}{a:Act}(h:Rep n D e a)(d:Option Tmp)(v:Value):Rep n D (fu e d v) (a.put d v):=by
 cases d with
 |none=>exact h
 |some d=>
  refine⟨h.defers,by simp[Act.put,h.size],fun i hi=>?_⟩
  simp only[Act.put,fu,pS,Array.getElem?_setIfInBounds]
  by_cases hid:d=i
  ·subst hid;simp[h.size,hi]
  ·rw[if_neg hid,if_neg (fun c=>hid c.symm)];exact h.at_ i hi
structure Agree (M:List Nat)(e e':cX):Prop where
 same:∀i,i∉M->e' i=e i
theorem Agree.refl (M:List Nat)(e:cX):Agree M e e:=⟨fun _ _=>rfl⟩
theorem Agree.trans {M M' N:List Nat}{e e' e'':cX}(h:Agree M e e')(h':Agree M' e' e'')(s:∀i∈M,i∈N)(s':∀i∈M',i∈N):Agree N e e'':=
 ⟨fun i hi=>(h'.same i (fun m=>hi (s' i m))).trans (h.same i (fun m=>hi (s i m)))⟩
theorem Agree.mono {M N:List Nat}{e e':cX}(h:Agree M e e')(s:∀i∈M,i∈N):Agree N e e':=⟨fun i hi=>h.same i fun m=>hi (s i m)⟩
theorem Agree.set (e:cX)(d:Option Tmp)(v:Value)(M:List Nat)(hd:∀t,d=some t->t∈M):Agree M e (fu e d v):=by
 cases d with
 |none=>exact .refl _ _
 |some t=>
  refine⟨fun i hi=>?_⟩
  simp only[fu,pS]
  rw[if_neg]
  rintro rfl
  exact hi (hd _ rfl)

structure PanAt (n:Nat)(D:List Deferred)(M:List Nat)(e:cX)(a:Act):Prop where
 defers:a.defers=D
 size:a.tmps.size=n
 at_:∀i,i<n->i∉M->a.tmps[i]? =some (e i)
theorem Rep.pan {M:List Nat}{e e':cX}{a:Act}(h:Rep n D e' a)(ha:Agree M e e'):PanAt n D M e a:=⟨h.defers,h.size,fun i hi hm=>by rw[h.at_ i hi,ha.same i hm]⟩
theorem PanAt.grow {M N:List Nat}{e e₁:cX}{a:Act}(h:PanAt n D M e₁ a)(ha:Agree N e e₁)(hs:∀i∈M,i∈N):PanAt n D N e a:=⟨h.defers,h.size,fun i hi hm=>by rw[h.at_ i hi (fun c=>hm (hs i c)),ha.same i hm]⟩
theorem PanAt.unput {M:List Nat}{e:cX}{a:Act}{d:Option Tmp}{v:Value}(h:PanAt n D M e (a.put d v))(hd:∀t,d=some t->t∈M):PanAt n D M e a:=by
 cases d with
 |none=>exact h
 |some d=>
  refine⟨h.defers,by simpa [Act.put]using h.size,fun i hi hm=>?_⟩
  have:=h.at_ i hi hm
  have hne:d≠i:=fun c=>hm (c▸hd d rfl)
  simpa [Act.put,Array.getElem?_setIfInBounds_ne hne]using this
def Br (n:Nat)(D:List Deferred)(Kp:List PanicEntry->WP)(K:KT)(M:List Nat)(e:cX):Exit->Act->World->Prop
 | .panic ch,a,w=>PanAt n D M e a/\Kp ch w
 | .normal,a,w=>∃e',Rep n D e' a/\Agree M e e'/\K .normal e' w
 | .exit id,a,w=>∃e',Rep n D e' a/\Agree M e e'/\K (.exit id) e' w
 | .ret,a,w=>∃e',Rep n D e' a/\Agree M e e'/\K .ret e' w
 | .goto l,a,w=>∃e',Rep n D e' a/\Agree M e e'/\K (.goto l) e' w
 | .outgrown,_,_=>False
theorem lm {α β:Type}(f:α->β)(a:Array α):(List.map f a.toList).toArray=a.map f:=by rw[<- Array.toList_map]
theorem qp (e:cX)(o:Oper):qm n e o=execOp (ev n e) o:=by
 unfold qm
 split
 ·rename_i h;simp only[execOp,h,lm]
 ·rename_i h;simp only[execOp,h,lm]
 ·rename_i h;simp only[execOp,h,lm]
 ·rename_i c h
  split
  ·rename_i hc;simp only[execOp,h,resolve,hc,lm]
  all_goals first
   |rfl
   |(rename_i hc;simp only[execOp,h,resolve,hc,lm,pure_bind,invoke,builtin])
 ·rfl
theorem CO {s:Sem Next} {k:Value->WP} {w:World} {o:Oper} {e:cX} {a:Act} {next:Act->World->Prop} {Q:Exit->Act->World->Prop} (hr:Rep n D e a)
  (ho:execOp (ev n e) o=s) (hd:FX R o) (h:opN P s Kp k w) (hn:∀v w' a',k v w'->Rep n D (fu e o.dst v) a'->next a' w')
  (hp:∀ch w',Kp ch w'->Q (.panic ch) a w'):o.wpIn (FW R) 0 P a w next Q:=by
 refine⟨fun _ _=>trivial,?_⟩
 rw[show(FW R).round=R from rfl,nT hd,hr.eval,ho]
 replace h:=h.out
 generalize s.run P w=r at h
 cases r with
 |ok n w'=>
  cases n <;> simp only at h <;> simp only[Oper.uponIn]
  case value v=>exact hn _ _ _ h (hr.put _ _)
  case skip=>exact hn _ _ _ h (hr.put _ _)
  case enter f args=>
   refine⟨fun c=>by simp[FW,Fence.wide]at c,yk (Calls.mono h fun en w'' he=>?_)⟩
   cases en with
   |returned v=>exact hn _ _ _ he (hr.put _ _)
   |panicked ch=>exact hp _ _ he
   |outgrown=>exact he.elim
  case round l f tmps assign body=>
   refine⟨fun c=>by simp[FW,Fence.wide]at c,yl (RoundIn.mono h fun en w'' he=>?_)⟩
   cases en with
   |returned v=>exact hn _ _ _ he (hr.put _ _)
   |panicked ch=>exact hp _ _ he
   |outgrown=>exact he.elim
 |halt x w'=>
  cases x <;> simp only at h <;> simp only[Oper.uponIn]
  case panic v=>exact hp _ _ h
theorem ui {k:Value->WP}{w:World}{o:Oper}{e:cX}(h:vY P n e o Kp k w):opN P (execOp (ev n e) o) Kp k w:=by
 rw[<- qp]
 unfold vY at h
 cases hop:o.op <;> rw[hop]at h <;> first
  |exact h
  |exact⟨by simp only[qm,execOp,hop];exact h⟩
theorem lU {k:Value->WP} {w:World} {o:Oper} {e:cX} {a:Act} {next:Act->World->Prop} {Q:Exit->Act->World->Prop} (hr:Rep n D e a)
  (hd:FX R o) (h:vY P n e o Kp k w) (hn:∀v w' a',k v w'->Rep n D (fu e o.dst v) a'->next a' w')
  (hp:∀ch w',Kp ch w'->Q (.panic ch) a w'):o.wpIn (FW R) 0 P a w next Q:=CO hr rfl hd (ui h) hn hp
theorem mA {k:Value->WP}{w:World}{o:Oper}{e:cX}(h:zz P n e o k w):stS P (execOp (ev n e) o) k w:=by
 rw[<- qp]
 unfold zz at h
 cases hop:o.op <;> rw[hop]at h <;> first
  |exact h
  |exact⟨⟨_,by simp only[qm,execOp,hop];rfl,h⟩⟩
theorem oX {o:Oper}{y:Nat->Option Bool}(h:o.guard=none):Region.wanted o y=true:=by simp[Region.wanted,h]
theorem uj (ops:Array Oper){e:cX}{a:Act}(hr:Rep n D e a)(j:Nat)(want:Bool):(yielded ops a.tmps j==some want)=true↔Bq n ops e j= .bool want:=by
 unfold yielded Bq
 cases h:(ops[j]?).bind (·.dst)with
 |none=>simp[undef]
 |some t=>
  simp only[Option.bind_some]
  have hg:=hr.getD t
  rw[Array.getD_eq_getD_getElem?]at hg
  rw[<- hg]
  cases a.tmps[t]? with
  |none=>simp[undef]
  |some v=>cases v <;> simp
theorem sZ {ops:Array Oper}{e:cX}{a:Act}(hr:Rep n D e a){o:Oper}{j:Nat}{want:Bool}{A B:WP}{w:World}(hg:o.guard=some (j,want))(h:P8 (Bq n ops e j) want A B w):
  (Region.wanted o (yielded ops a.tmps)=true/\A w)\/(Region.wanted o (yielded ops a.tmps)=false/\B w):=by
 have hy:=uj ops hr j want
 simp only[Region.wanted,hg]
 unfold P8 at h
 by_cases hv:Bq n ops e j= .bool want
 ·rw[hv]at h
  simp only[if_true]at h
  exact .inl ⟨hy.2 hv,h⟩
 ·refine .inr ⟨by simpa using fun c=>hv (hy.1 (by simpa using c)),?_⟩
  split at h
  ·rename_i b hb
   rw[if_neg (fun c=>hv (by rw[hb,c]))]at h
   exact h
  ·exact h
theorem ip {ops:Array Oper}{e:cX}{a:Act}(hr:Rep n D e a){o:Oper}{body:(Value->WP)->WP}{k:Value->WP}{w:World}(h:Gg n ops e o body k w):
  (Region.wanted o (yielded ops a.tmps)=true/\body k w)\/(Region.wanted o (yielded ops a.tmps)=false/\k undef w):=by
 unfold Gg at h
 cases hg:o.guard with
 |none=>rw[hg]at h;exact .inl ⟨oX hg,h⟩
 |some g=>obtain⟨j,want⟩:=g;rw[hg]at h;exact sZ hr hg h.out
theorem ym {ops:Array Oper}{e:cX}{a:Act}(hr:Rep n D e a){o:Oper}{body:(WP->Value->WP)->WP}{k:WP->Value->WP}{w:World}(h:JH n ops e o body k w):
  (Region.wanted o (yielded ops a.tmps)=true/\body k w)\/(Region.wanted o (yielded ops a.tmps)=false/\k (fun _=>True) undef w):=by
 unfold JH at h
 cases hg:o.guard with
 |none=>rw[hg]at h;exact .inl ⟨oX hg,h⟩
 |some g=>obtain⟨j,want⟩:=g;rw[hg]at h;exact sZ hr hg h.out
theorem oY {ops:Array Oper} {K:cX->WP} {Q:Exit->Act->World->Prop} (M:List Nat) (e₀:cX)
  (hn:∀e a w,Rep n D e a->Agree M e₀ e->K e w->Q .normal a w) (hp:∀ch e a w,Rep n D e a->Agree M e₀ e->Kp ch w->Q (.panic ch) a w):
  ∀(l:List Oper) (e:cX) (a:Act) (w:World),(∀o∈l,FX R o)->(∀o∈l,∀t,o.dst=some t->t∈M)->Rep n D e a->Agree M e₀ e->mz P n ops Kp K l e w->wpListIn (FW R) 0 P ops Q l a w
 |[],e,a,w,_,_,hr,ha,h=>hn e a w hr ha h
 |o::l,e,a,w,hD,hM,hr,ha,h=>by
  unfold mz at h
  unfold wpListIn
  have hd:∀t,o.dst=some t->t∈M:=hM o (by simp)
  have next:∀v w' a',mz P n ops Kp K l (fu e o.dst v) w'->Rep n D (fu e o.dst v) a'->wpListIn (FW R) 0 P ops Q l a' w':=fun v w' a' hv hr'=>
   oY M e₀ hn hp l _ a' w' (fun x hx=>hD x (by simp[hx])) (fun x hx=>hM x (by simp[hx])) hr' (ha.trans (.set e o.dst v M hd) (fun _ h=>h) (fun _ h=>h)) hv
  rcases ip hr h with ⟨hw,h⟩|⟨hw,h⟩
  ·rw[if_pos hw]
   exact lU hr (hD o (by simp)) h next (fun ch w'=>hp ch e _ w' hr ha)
  ·rw[if_neg (by simp[hw])]
   exact⟨fun _ _=>trivial,next _ _ _ h (hr.put _ _)⟩

theorem s_ (f:Nat->Value)(is:List Nat):∀(e:cX) (i:Nat),iw e is (is.map f) i=if i∈is then f i else e i:=by
 induction is with
 |nil=>intro e i;simp[iw]
 |cons j is ih=>
  intro e i
  simp only[iw,List.map_cons,List.headD_cons,List.tail_cons,ih,List.mem_cons,pS]
  by_cases h1:i∈is
  ·rw[if_pos h1,if_pos (.inr h1)]
  ·rw[if_neg h1]
   by_cases hji:i=j
   ·rw[if_pos hji,if_pos (.inl hji),hji]
   ·rw[if_neg hji,if_neg]
    rintro(h|h)
    ·exact hji h
    ·exact h1 h
theorem ig {M dead live:List Nat}{e e':cX}(h:Agree M e e')(hM:∀i∈M,i∈live\/i∈dead):L_ e dead (lT e' dead) live (lT e' live)=e':=by
 funext i
 unfold L_ lT
 rw[s_,s_]
 by_cases h1:i∈live
 ·rw[if_pos h1]
 ·rw[if_neg h1]
  by_cases h2:i∈dead
  ·rw[if_pos h2]
  ·rw[if_neg h2]
   exact(h.same i (fun m=>(hM i m).elim h1 h2)).symm
theorem yn {c:Code}{live:List Nat}{i:Nat}:i∈iz c live↔i∈wr c/\i∉live:=by
 simp[iz]
theorem lV {f:List Value->Prop}(e:cX):∀(live:List Nat),zA live.length f->f (lT e live)
 |[],h=>h
 |i::l,h=>by
  have:=lV (f:=fun vs=>f (e i::vs)) e l (h _)
  exact this

theorem pI {c:Code} {Q:Exit->Act->World->Prop} {a:Act} {w:World} (I:Nat->Act->World->Prop) (h₀:∃m,I m a w)
  (round:∀m a w,I m a w->c.wpIn (FW R) 0 P (Exit.then (fun a' w'=>∃m',m'<m/\I m' a' w') Q) a w):(Code.loop c).wpIn (FW R) 0 P Q a w:=by
 have least:∀(a:Act) (w:World),(∃m,I m a w)->∃m,I m a w/\∀m',I m' a w->m<=m':=by
  intro a w ⟨m,hm⟩
  induction m using Nat.strongRecOn with
  |_ m ih=>
   by_cases h:∃m',m'<m/\I m' a w
   ·obtain⟨m',hlt,hm'⟩:=h;exact ih m' hlt hm'
   ·refine⟨m,hm,fun m' hm'=>?_⟩
    rcases Nat.lt_or_ge m' m with hlt|hge
    ·exact absurd ⟨m',hlt,hm'⟩ h
    ·exact hge
 let μ:Act->World->Nat:=fun a w=>open Classical in if h:∃m,I m a w then Classical.choose (least a w h)else 0
 have hμ:∀a w,(∃m,I m a w)->I (μ a w) a w/\∀m',I m' a w->μ a w<=m':=by
  intro a w h
  have e:μ a w=Classical.choose (least a w h):=dif_pos h
  rw[e]
  exact Classical.choose_spec (least a w h)
 refine wpIn_loop (fun a w=>∃m,I m a w) μ h₀ fun a w h=>?_
 refine wpIn_mono (round _ a w (hμ a w h).1) fun ex a' w' hq=>?_
 cases ex with
 |normal=>
  obtain⟨m',hlt,hm'⟩:=hq
  exact⟨⟨m',hm'⟩,Nat.lt_of_le_of_lt ((hμ a' w' ⟨m',hm'⟩).2 m' hm') hlt⟩
 |_=>exact hq
end Sh
namespace Sh
open Go
variable {P:Program} {n:Nat} {R:Option Nat} {D:List Deferred} {Kp:List PanicEntry->WP} {ops:Array Oper} {Q:Exit->Act->World->Prop}
def lW (ops:Array Oper)(E:Array Bool):Prop:=
 ∀x o,ops[x]? =some o->E.getD x false=true->∀e∈o.after,Region.binds .any e=true->E.getD e.on false=true
theorem td {n k i:Nat}(h:jg ops (n+1) k i=true):
  ∃o,ops[k]? =some o/\∃e∈o.after,Region.binds .any e=true/\(e.on=i\/jg ops n e.on i=true):=by
 unfold jg at h
 cases ho:ops[k]? with
 |none=>rw[ho]at h;cases h
 |some o=>
  rw[ho]at h
  obtain⟨e,he,hb⟩:=List.any_eq_true.1 h
  simp only[Bool.and_eq_true,Bool.or_eq_true,beq_iff_eq]at hb
  exact⟨o,rfl,e,by simpa using he,hb.1,hb.2⟩
theorem oZ {E:Array Bool}(hc:lW ops E):∀n k i,E.getD k false=true->jg ops n k i=true->E.getD i false=true
 |0,_,_,_,h=>by simp[jg]at h
 |n+1,k,i,hk,h=>by
  obtain⟨o,ho,e,he,hb,h⟩:=td h
  have hE:=hc k o ho hk e he hb
  rcases h with h|h
  ·rw[<- h];exact hE
  ·exact oZ hc n e.on i hE h
theorem zC {E:Array Bool}{i:Nat}(h:E.getD i true=false):E.getD i false=false:=by
 rcases Nat.lt_or_ge i E.size with h'|h'
 ·simp[h']at h ⊢;exact h
 ·simp[Array.getElem?_eq_none h']at h
theorem Bs {E:Array Bool}(hc:lW ops E){n i j:Nat}(hj:j∈Region.ready .any ops E)(hi:E.getD i true=false):jg ops n j i=false:=by
 cases n with
 |zero=>rfl
 |succ n=>
  cases h:jg ops (n+1) j i with
  |false=>rfl
  |true=>
   obtain⟨o,ho,e,he,hb,h⟩:=td h
   obtain⟨_,o',ho',hall⟩:=mem_ready.1 hj
   obtain rfl:o=o':=Option.some.inj (ho.symm.trans ho')
   have hE:=hall e he hb
   have hf:=zC hi
   rcases h with h|h
   ·rw[h,hf]at hE;cases hE
   ·rw[oZ hc n _ _ hE h]at hf;cases hf
theorem lW.set {E:Array Bool}(hc:lW ops E){j:Nat}(hj:j∈Region.ready .any ops E):lW ops (E.setIfInBounds j true):=by
 intro x o ho hx e he hb
 obtain⟨_,o',ho',hall⟩:=mem_ready.1 hj
 by_cases hxj:j=x
 ·subst hxj
  obtain rfl:o=o':=Option.some.inj (ho.symm.trans ho')
  exact getD_set_true (hall e he hb)
 ·rw[getD_set_ne false hxj]at hx
  exact getD_set_true (hc x o ho hx e he hb)
def pJ (R:Option Nat)(P:Program)(ops:Array Oper)(Q:Exit->Act->World->Prop)(pend:List (Nat × WP)):Nat->Array Bool->Act->World->Prop
 |0,E,a,w=>Region.ready .any ops E=[]/\Q .normal a w
 |f+1,E,a,w=>(Region.ready .any ops E=[]->Q .normal a w)/\∀j∈Region.ready .any ops E,
   wpOpIn (FW R) 0 P ops Q j (fun a' w'=>(w'=w\/∀p∈pend,jg ops ops.size j p.1=false->p.2 w')/\pJ R P ops Q pend f (E.setIfInBounds j true) a' w') a w
theorem vZ (pend:List (Nat × WP)):∀(f:Nat) (E:Array Bool) (a:Act) (w:World),pJ R P ops Q pend f E a w->wpAnyIn (FW R) 0 P .any ops Q f E a w
 |0,_,_,_,h=>h
 |f+1,_,_,_,h=>⟨h.1,fun j hj=>wpOpIn_mono (fun _ _ k=>vZ pend f _ _ _ k.2) (h.2 j hj)⟩
theorem nU {p:Nat × WP}{pend:List (Nat × WP)}:∀(f:Nat) (E:Array Bool) (a:Act) (w:World),pJ R P ops Q (p::pend) f E a w->pJ R P ops Q pend f E a w
 |0,_,_,_,h=>h
 |f+1,_,_,_,h=>⟨h.1,fun j hj=>wpOpIn_mono (fun _ _ k=>⟨k.1.imp id fun c q hq=>c q (by simp[hq]),nU f _ _ _ k.2⟩) (h.2 j hj)⟩
def YD (P:Program)(ops:Array Oper)(C:WP)(o:Oper)(v:Value)(a:Act):Prop:=
 (Region.wanted o (yielded ops a.tmps)=true/\∀w,C w->(execOp a.eval o).run P w= .ok (.value v) w)\/(Region.wanted o (yielded ops a.tmps)=false/\v=undef)
theorem YD.same {C:WP} {o:Oper} {v:Value} {a a':Act} (h:YD P ops C o v a) (he:execOp a'.eval o=execOp a.eval o)
  (hw:Region.wanted o (yielded ops a'.tmps)=Region.wanted o (yielded ops a.tmps)):YD P ops C o v a':=by
 unfold YD at *;rw[he,hw];exact h
theorem YD.op {C:WP}{i:Nat}{o:Oper}{v:Value}{a:Act}{w:World}(hi:ops[i]? =some o)(hd:FX R o)(h:YD P ops C o v a)(hw:C w){K:Act->World->Prop}(hk:K (a.put o.dst v) w):wpOpIn (FW R) 0 P ops Q i K a w:=by
 unfold wpOpIn
 simp only[hi]
 rcases h with ⟨h1,h2⟩|⟨h1,rfl⟩
 ·rw[if_pos h1];refine⟨fun _ _=>trivial,?_⟩;rw[show(FW R).round=R from rfl,nT hd,h2 w hw];exact hk
 ·rw[if_neg (by simp[h1])];exact⟨fun _ _=>trivial,hk⟩
theorem Nf {C:WP} {j:Nat} {oi oj:Oper} {v:Value} (hj:ops[j]? =some oj) (hd:FX R oj) (hap:oi.apart ops oj=true)
  (hsi:∀cs b,oi.op≠ .select cs b) (hsj:∀cs b,oj.op≠ .select cs b) (hQ:∀c a w,Q (.panic c) (a.put oi.dst v) w->Q (.panic c) a w)
  {K:Act->World->Prop} {a:Act} {w:World} (hy:YD P ops C oi v a) (h:wpOpIn (FW R) 0 P ops Q j K (a.put oi.dst v) w):
  wpOpIn (FW R) 0 P ops Q j (fun a' w'=>YD P ops C oi v a'/\K (a'.put oi.dst v) w') a w:=by
 obtain⟨h1,h2,h3⟩:=Oper.apart_spec hap
 have keep:∀(a:Act),YD P ops C oi v a->∀u,YD P ops C oi v (a.put oj.dst u):=fun a hy u=>
  hy.same (execOp_put oi hsi a oj.dst u h3) (wanted_put oi a oj.dst u h3)
 unfold wpOpIn at *
 simp only[hj]at *
 rw[wanted_put oj a oi.dst v h1]at h
 by_cases hw:Region.wanted oj (yielded ops a.tmps)=true
 ·rw[if_pos hw]at h ⊢
  refine⟨fun _ _=>trivial,?_⟩
  have h:=h.2
  rw[show(FW R).round=R from rfl,nT hd]at h ⊢
  rw[execOp_put oj hsj a oi.dst v h1]at h
  cases hr:(execOp a.eval oj).run P w with
  |ok n w'=>
   rw[hr]at h
   cases n <;> simp only[Oper.uponIn]at h ⊢
   case value u=>exact⟨keep a hy u,by rw[<- Act.put_comm a v u h2];exact h⟩
   case skip=>exact⟨keep a hy _,by rw[<- Act.put_comm a v undef h2];exact h⟩
   case defer d=>
    refine⟨keep {a with defers:=d::a.defers} (hy.same rfl rfl) _,?_⟩
    rw[<- Act.put_comm _ v undef h2,<- Act.put_defers]
    exact h
   case enter f args=>
    refine⟨h.1,CallsIn.mono h.2 fun e w'' he=>?_⟩
    cases e with
    |returned u=>exact⟨keep a hy u,by rw[<- Act.put_comm a v u h2];exact he⟩
    |panicked c=>exact hQ _ _ _ he
    |outgrown=>exact he
   case row row args=>exact⟨h.1,RowsIn.mono h.2 fun u w'' he=>⟨keep a hy u,by rw[<- Act.put_comm a v u h2];exact he⟩⟩
   case round l f tmps assign body=>
    refine⟨h.1,RoundIn.mono h.2 fun e w'' he=>?_⟩
    cases e with
    |returned u=>exact⟨keep a hy u,by rw[<- Act.put_comm a v u h2];exact he⟩
    |panicked c=>exact hQ _ _ _ he
    |outgrown=>exact he
  |halt x w'=>
   rw[hr]at h
   cases x <;> simp only[Oper.uponIn]at h ⊢
   case panic u=>exact hQ _ _ _ h
 ·rw[if_neg hw]at h ⊢
  exact⟨fun _ _=>trivial,keep a hy _,by rw[<- Act.put_comm a v undef h2];exact h.2⟩
theorem kW {C:WP} {i:Nat} {oi:Oper} {v:Value} {pend:List (Nat × WP)} (hD:∀(j:Nat) o,ops[j]? =some o->FX R o) (hi:ops[i]? =some oi) (hsel:∀(j:Nat) (o:Oper) cs b,ops[j]? =some o->o.op≠ .select cs b)
  (hQ:∀c a w,Q (.panic c) (a.put oi.dst v) w->Q (.panic c) a w):
  ∀(f:Nat) (E:Array Bool) (a:Act) (w:World),lW ops E->
   (∀j oj,ops[j]? =some oj->j≠i->E.getD j true=false->(∀e∈oj.after,Region.binds .any e=true->e.on≠i)->oi.apart ops oj=true)->
   i∈Region.ready .any ops E->YD P ops C oi v a->C w->
   pJ R P ops Q ((i,C)::pend) f (E.setIfInBounds i true) (a.put oi.dst v) w->pJ R P ops Q pend (f+1) E a w:=by
 intro f
 induction f with
 |zero=>
  intro E a w hc _ hr hy hw H
  refine⟨fun h=>(by rw[h]at hr;cases hr),fun j hj=>?_⟩
  by_cases hji:j=i
  ·subst hji;exact hy.op hi (hD _ _ hi) hw ⟨.inl rfl,nU 0 _ _ _ H⟩
  ·have:=ready_mono hj hji
   rw[H.1]at this
   cases this
 |succ f ih=>
  intro E a w hc hfree hr hy hw H
  refine⟨fun h=>(by rw[h]at hr;cases hr),fun j hj=>?_⟩
  by_cases hji:j=i
  ·subst hji;exact hy.op hi (hD _ _ hi) hw ⟨.inl rfl,nU _ _ _ _ H⟩
  ·have h1:=H.2 j (ready_mono hj hji)
   have hiun:=(mem_ready.1 hr).1
   have hdep:jg ops ops.size j i=false:=Bs hc hj hiun
   obtain⟨hjun,oj,hoj,hall⟩:=mem_ready.1 hj
   have hnot:∀e∈oj.after,Region.binds .any e=true->e.on≠i:=fun e he hb heq=>by
    have h1:=hall e he hb
    rw[heq,zC hiun]at h1
    cases h1
   have h2:=Nf hoj (hD _ _ hoj) (hfree j oj hoj hji hjun hnot) (fun cs b=>hsel i oi cs b hi) (fun cs b=>hsel j oj cs b hoj) hQ hy h1
   have hfree':∀k ok,ops[k]? =some ok->k≠i->(E.setIfInBounds j true).getD k true=false->
     (∀e∈ok.after,Region.binds .any e=true->e.on≠i)->oi.apart ops ok=true:=fun k ok hk hki hun hno=>by
    refine hfree k ok hk hki ?_ hno
    by_cases hjk:j=k
    ·subst hjk;exact hjun
    ·rw[getD_set_ne true hjk]at hun;exact hun
   refine wpOpIn_mono (fun a' w' ⟨hy',hk,h3⟩=>⟨hk.imp id fun c p hp=>c p (by simp[hp]),?_⟩) h2
   refine ih (E.setIfInBounds j true) a' w' (hc.set hj) hfree' (ready_mono hr (Ne.symm hji)) hy' ?_ ?_
   ·rcases hk with rfl|hk
    ·exact hw
    ·exact hk (i,C) (by simp) hdep
   ·rw[Array.setIfInBounds_comm _ _ hji];exact h3
theorem mB {S : WP} {w : World} : ∀ {l : List (Nat × WP)}, Rq l S w -> (∀ p ∈ l, p.2 w) /\ S w
 | [], h => ⟨by simp, h⟩
 | (n, C) :: r, h => ⟨by
   intro p hp
   rcases List.mem_cons.1 hp with rfl | hp
   ·exact h.1
   ·exact (mB h.2).1 p hp, (mB h.2).2⟩
theorem zD {ops:Array Oper}:∀(t:DT) (E:Array Bool),lS ops true t E=true->1<=t.len
 | .nil,E,h=>by simp[lS]at h
 | .op k md t,E,h=>by simp[DT.len]
 | .alt a b,E,h=>by
  simp only[lS,Bool.true_or,Bool.true_and,Bool.and_eq_true]at h
  exact zD a E h.2.1
theorem te {ops:Array Oper}:∀(t:DT) (E:Array Bool),lS ops true t E=true->∃j,j∈Region.ready .any ops E
 | .nil,E,h=>by simp[lS]at h
 | .op k md t,E,h=>by
  match md,h with
  |0,h=>
   simp only[lS,Bool.and_eq_true,List.contains_eq_mem,decide_eq_true_eq]at h
   exact⟨k,h.1⟩
  |md+1,h=>simp[lS]at h
 | .alt a b,E,h=>by
  simp only[lS,Bool.true_or,Bool.true_and,Bool.and_eq_true]at h
  exact te a E h.2.1
theorem de {K:cX->WP} (M:List Nat) (e₀:cX) (hD:∀(j:Nat) o,ops[j]? =some o->FX R o) (hM:∀(j:Nat) o t,ops[j]? =some o->o.dst=some t->t∈M) (hsel:Region.noSelect ops=true)
  (hn:∀e a w,Rep n D e a->Agree M e₀ e->K e w->Q .normal a w) (hp:∀ch e a w,Rep n D e a->Agree M e₀ e->Kp ch w->Q (.panic ch) a w)
  (hQ:∀c (a:Act) d v w,(∀t,d=some t->t∈M)->Q (.panic c) (a.put d v) w->Q (.panic c) a w):
  ∀(r:DT) (E:Array Bool) (pend pend':List (Nat × WP)) (e:cX) (a:Act) (w:World),Rep n D e a->lW ops E->Agree M e₀ e->
   (∀p∈pend',p∈pend\/(∀w,p.2 w)\/∀q∈r.acts,jg ops ops.size q p.1=true)->
   gT P n ops Kp K r pend e w->
   (lS ops false r E=true->pJ R P ops Q pend' r.len E a w)/\
   (lS ops true r E=true->∀j∈r.heads,wpOpIn (FW R) 0 P ops Q j (fun a' w'=>(w'=w\/∀p∈pend',jg ops ops.size j p.1=false->p.2 w')/\pJ R P ops Q pend' (r.len-1) (E.setIfInBounds j true) a' w') a w)
 | .nil,E,pend,pend',e,a,w,hr',hc,ha,hpd,h=>⟨fun hok=>⟨by simpa [lS]using hok,hn e a w hr' ha h⟩,fun hok=>by simp[lS]at hok⟩
 | .alt a1 b1,E,pend,pend',e,a,w,hr',hc,ha,hpd,h=>by
  simp only[gT]at h
  have ih1:=de M e₀ hD hM hsel hn hp hQ a1 E pend pend' e a w hr' hc ha (fun p hp=>(hpd p hp).imp id (Or.imp id fun h q hq=>h q (by simp[DT.acts,hq]))) h.1
  have ih2:=de M e₀ hD hM hsel hn hp hQ b1 E pend pend' e a w hr' hc ha (fun p hp=>(hpd p hp).imp id (Or.imp id fun h q hq=>h q (by simp[DT.acts,hq]))) h.2
  have both:(a1.len==b1.len&&(lS ops true a1 E&&lS ops true b1 E))=true->∀j∈a1.heads++b1.heads,wpOpIn (FW R) 0 P ops Q j (fun a' w'=>(w'=w\/∀p∈pend',jg ops ops.size j p.1=false->p.2 w')/\pJ R P ops Q pend' (a1.len-1) (E.setIfInBounds j true) a' w') a w:=by
   intro hok j hj
   simp only[Bool.and_eq_true,beq_iff_eq]at hok
   rcases List.mem_append.1 hj with hj|hj
   ·exact ih1.2 hok.2.1 j hj
   ·rw[hok.1];exact ih2.2 hok.2.2 j hj
  refine⟨fun hok=>?_,fun hok=>?_⟩
  ·simp only[lS,Bool.false_or,Bool.and_eq_true,List.all_eq_true,List.contains_eq_mem,decide_eq_true_eq]at hok
   obtain⟨h1,h2⟩:=hok
   have h2':(a1.len==b1.len&&(lS ops true a1 E&&lS ops true b1 E))=true:=by simp only[Bool.and_eq_true];exact h2
   have hl:=zD a1 E h2.2.1
   obtain⟨j0,hj0⟩:=te a1 E h2.2.1
   show pJ R P ops Q pend' a1.len E a w
   obtain⟨m,hm⟩:∃m,a1.len=m+1:=⟨a1.len-1,by omega⟩
   rw[hm]
   refine⟨fun h0=>(by rw[h0]at hj0;cases hj0),fun j hj=>?_⟩
   have:=both h2' j (h1 j hj)
   rw[hm,Nat.add_sub_cancel]at this
   exact this
  ·simp only[lS,Bool.true_or,Bool.true_and]at hok
   exact both hok
 | .op k md r,E,pend,pend',e,a,w,hr',hc,ha,hpd,h=>by
  simp only[gT]at h
  cases ho:ops[k]? with
  |none=>rw[ho]at h;exact h.elim
  |some o=>
   rw[ho]at h
   simp only at h
   have step:∀v,Agree M e₀ (fu e o.dst v):=fun v=>ha.trans (.set e o.dst v M (hM k o · ho)) (fun _ h=>h) (fun _ h=>h)
   match md,h,hpd with
   |0,h,hpd=>
    have hpd':∀p∈pend',p∈pend\/(∀w,p.2 w)\/∀q∈r.acts,jg ops ops.size q p.1=true:=fun p hp=>(hpd p hp).imp id (Or.imp id fun h q hq=>h q (by simp[DT.acts,hq]))
    have main:k∈Region.ready .any ops E->lS ops false r (E.setIfInBounds k true)=true->wpOpIn (FW R) 0 P ops Q k (fun a' w'=>(w'=w\/∀p∈pend',jg ops ops.size k p.1=false->p.2 w')/\pJ R P ops Q pend' r.len (E.setIfInBounds k true) a' w') a w:=by
     intro hk hok2
     unfold wpOpIn
     simp only[ho]
     rcases ip hr' h with ⟨hw,h⟩|⟨hw,h⟩
     ·rw[if_pos hw]
      refine lU hr' (hD _ _ ho) h (fun v w' a' hv hra=>?_) (fun ch w' hch=>hp ch e _ w' hr' ha hch)
      obtain⟨h1,h2⟩:=mB hv
      refine⟨.inr fun p hp hd=>?_,(de M e₀ hD hM hsel hn hp hQ r _ pend pend' _ a' w' hra (hc.set hk) (step v) hpd' h2).1 hok2⟩
      rcases hpd p hp with h|h|h
      ·exact h1 p (by simp[h,hd])
      ·exact h w'
      ·rw[h k (by simp[DT.acts])]at hd;cases hd
     ·rw[if_neg (by simp[hw])]
      exact⟨fun _ _=>trivial,.inl trivial,(de M e₀ hD hM hsel hn hp hQ r _ pend pend' _ _ w (hr'.put _ _) (hc.set hk) (step undef) hpd' (mB h).2).1 hok2⟩
    refine⟨fun hok=>?_,fun hok=>?_⟩
    ·simp only[lS,Bool.and_eq_true]at hok
     have hr:Region.ready .any ops E=[k]:=by simpa using hok.1
     have hk:k∈Region.ready .any ops E:=by rw[hr];simp
     refine⟨fun h0=>(by rw[hr]at h0;cases h0),fun j hj=>?_⟩
     rw[hr,List.mem_singleton]at hj
     subst hj
     exact main hk hok.2
    ·simp only[lS,Bool.and_eq_true,List.contains_eq_mem,decide_eq_true_eq]at hok
     intro j hj
     simp only[DT.heads,List.mem_singleton]at hj
     subst hj
     exact main hok.1 hok.2
   |1,h,hpd=>
    have hpd':∀p∈pend',p∈pend\/(∀w,p.2 w)\/∀q∈r.acts,jg ops ops.size q p.1=true:=hpd
    refine⟨fun hok=>?_,fun hok=>by simp[lS]at hok⟩
    simp only[lS,Bool.and_eq_true,List.contains_eq_mem,decide_eq_true_eq,bne_self_eq_false,Bool.false_or,List.all_eq_true,Bool.not_false,Bool.true_and]at hok
    obtain⟨⟨⟨hk,hf⟩,dep⟩,hok2⟩:=hok
    rcases ip hr' h with ⟨hw,h⟩|⟨hw,h⟩
    ·obtain⟨v,hv,h⟩:=(mA h).out
     refine kW (hD:=hD) (C:=fun w'=>w'=w) (v:=v) ho (Region.noSelect_spec hsel) (fun c a w=>hQ c a _ _ w (fun t ht=>hM k o t ho ht)) r.len E _ w hc (Region.free_spec ho hf) hk (.inl ⟨hw,by rintro w' rfl;rw[hr'.eval];exact hv⟩) rfl ?_
     refine(de M e₀ hD hM hsel hn hp hQ r _ pend _ _ _ w (hr'.put _ _) (hc.set hk) (step v) (fun p hp=>?_) h).1 hok2
     rcases List.mem_cons.1 hp with rfl|hp
     ·exact .inr (.inr dep)
     ·exact hpd' p hp
    ·refine kW (hD:=hD) (C:=fun w'=>w'=w) (v:=undef) ho (Region.noSelect_spec hsel) (fun c a w=>hQ c a _ _ w (fun t ht=>hM k o t ho ht)) r.len E _ w hc (Region.free_spec ho hf) hk (.inr ⟨hw,rfl⟩) rfl ?_
     refine(de M e₀ hD hM hsel hn hp hQ r _ pend _ _ _ w (hr'.put _ _) (hc.set hk) (step undef) (fun p hp=>?_) h).1 hok2
     rcases List.mem_cons.1 hp with rfl|hp
     ·exact .inr (.inr dep)
     ·exact hpd' p hp
   |2,h,hpd=>
    have hpd':∀p∈pend',p∈pend\/(∀w,p.2 w)\/∀q∈r.acts,jg ops ops.size q p.1=true:=hpd
    refine⟨fun hok=>?_,fun hok=>by simp[lS]at hok⟩
    simp only[lS,Bool.and_eq_true,List.contains_eq_mem,decide_eq_true_eq,Bool.not_false,Bool.true_and]at hok
    obtain⟨⟨⟨hk,hf⟩,_⟩,hok2⟩:=hok
    have mv:∀x,(∀w',(execOp (ev n e) o).run P w'= .ok (.value (ev n e x)) w')->Gg n ops e o (fun c=>c (ev n e x)) (fun v=>gT P n ops Kp K r pend (fu e o.dst v)) w->pJ R P ops Q pend' (r.len+1) E a w:=by
     intro x hx h
     rcases ip hr' h with ⟨hw,h⟩|⟨hw,h⟩
     ·refine kW (hD:=hD) (C:=fun _=>True) (v:=ev n e x) ho (Region.noSelect_spec hsel) (fun c a w=>hQ c a _ _ w (fun t ht=>hM k o t ho ht)) r.len E _ w hc (Region.free_spec ho hf) hk (.inl ⟨hw,fun w' _=>by rw[hr'.eval];exact hx w'⟩) trivial ?_
      refine(de M e₀ hD hM hsel hn hp hQ r _ pend _ _ _ w (hr'.put _ _) (hc.set hk) (step _) (fun p hp=>?_) h).1 hok2
      rcases List.mem_cons.1 hp with rfl|hp
      ·exact .inr (.inl fun _=>trivial)
      ·exact hpd' p hp
     ·refine kW (hD:=hD) (C:=fun _=>True) (v:=undef) ho (Region.noSelect_spec hsel) (fun c a w=>hQ c a _ _ w (fun t ht=>hM k o t ho ht)) r.len E _ w hc (Region.free_spec ho hf) hk (.inr ⟨hw,rfl⟩) trivial ?_
      refine(de M e₀ hD hM hsel hn hp hQ r _ pend _ _ _ w (hr'.put _ _) (hc.set hk) (step undef) (fun p hp=>?_) h).1 hok2
      rcases List.mem_cons.1 hp with rfl|hp
      ·exact .inr (.inl fun _=>trivial)
      ·exact hpd' p hp
    cases hop:o.op <;> rw[hop]at h <;> first
     |exact h.elim
     |exact mv _ (fun w'=>by unfold execOp;simp only[hop];rfl) h
   |md+3,h,hpd=>
    have hpd':∀p∈pend',p∈pend\/(∀w,p.2 w)\/∀q∈r.acts,jg ops ops.size q p.1=true:=hpd
    refine⟨fun hok=>?_,fun hok=>by simp[lS]at hok⟩
    simp only[lS,Bool.and_eq_true,List.contains_eq_mem,decide_eq_true_eq,Bool.not_false,Bool.true_and]at hok
    obtain⟨⟨⟨hk,hf⟩,_⟩,hok2⟩:=hok
    rcases ym hr' h with ⟨hw,⟨C,v,hC,hv,h⟩⟩|⟨hw,h⟩
    ·refine kW (hD:=hD) (C:=C) (v:=v) ho (Region.noSelect_spec hsel) (fun c a w=>hQ c a _ _ w (fun t ht=>hM k o t ho ht)) r.len E _ w hc (Region.free_spec ho hf) hk (.inl ⟨hw,fun w' hw'=>by rw[hr'.eval,<- qp];exact hv w' hw'⟩) hC ?_
     refine(de M e₀ hD hM hsel hn hp hQ r _ _ _ _ _ w (hr'.put _ _) (hc.set hk) (step v) (fun p hp=>?_) h).1 hok2
     rcases List.mem_cons.1 hp with rfl|hp
     ·exact .inl (by simp)
     ·exact(hpd' p hp).imp (fun h=>by simp[h]) id
    ·refine kW (hD:=hD) (C:=fun _=>True) (v:=undef) ho (Region.noSelect_spec hsel) (fun c a w=>hQ c a _ _ w (fun t ht=>hM k o t ho ht)) r.len E _ w hc (Region.free_spec ho hf) hk (.inr ⟨hw,rfl⟩) trivial ?_
     refine(de M e₀ hD hM hsel hn hp hQ r _ _ _ _ _ w (hr'.put _ _) (hc.set hk) (step undef) (fun p hp=>?_) h).1 hok2
     rcases List.mem_cons.1 hp with rfl|hp
     ·exact .inl (by simp)
     ·exact(hpd' p hp).imp (fun h=>by simp[h]) id
end Sh
namespace Sh
open Go
variable {P:Program} {n:Nat} {R:Option Nat} {D:List Deferred} {Kp:List PanicEntry->WP}
theorem Br.grow {K:KT}{M N:List Nat}{e e₁:cX}{ex:Exit}{a:Act}{w:World}(ha:Agree N e e₁)(hs:∀i∈M,i∈N)(h:Br n D Kp K M e₁ ex a w):Br n D Kp K N e ex a w:=by
 cases ex with
 |panic ch=>exact⟨h.1.grow ha hs,h.2⟩
 |outgrown=>exact h
 |_=>obtain⟨e',h1,h2,h3⟩:=h;exact⟨e',h1,ha.trans h2 (fun _ h=>h) hs,h3⟩
theorem Br.mono {K:KT}{M N:List Nat}{e:cX}{ex:Exit}{a:Act}{w:World}(hs:∀i∈M,i∈N)(h:Br n D Kp K M e ex a w):Br n D Kp K N e ex a w:=h.grow (.refl _ _) hs
theorem kX {c:Code}{live:List Nat}:∀i∈wr c,i∈live\/i∈iz c live:=fun i hi=>by
 by_cases h:i∈live
 ·exact .inl h
 ·exact .inr (yn.2 ⟨hi,h⟩)
theorem uk {m:Nat}{body:VF m WP->WP}{rest:List Value->List Value->WP}{w:World}(h:Gh m body rest w):
  ∃J:VF m WP,(∀(e':cX) (live dead:List Nat),live.length=m->∀w',jh m J (lT e' live) w'->rest (lT e' dead) (lT e' live) w')/\body J w:=by
 obtain⟨J,h1,h2⟩:=h
 exact⟨J,fun e' live dead hl w' hv=>by subst hl;exact lV e' live (h1 (lT e' dead)) w' hv,h2⟩
theorem ji (hm:P.follows .mixedOrders=true)(an:Ann):∀(c:Code),(R=none\/iy c=true)->∀(K:KT) (e:cX) (a:Act) (w:World),Rep n D e a->kV P n an Kp c K e w->c.wpIn (FW R) 0 P (Br n D Kp K (wr c) e) a w:=by
 intro c
 induction c with
 |skip=>exact fun _ K e a w hr h=>wpIn_skip ⟨e,hr,.refl _ _,h⟩
 |region id ops draw=>
  intro hnd K e a w hr h
  cases draw with
  |false=>
   refine wpIn_region_list (oY (n:=n) (wr (.region id ops false)) e (fun e' a' w' hr' ha hk=>⟨e',hr',ha,hk⟩) (fun ch e' a' w' hr' ha hk=>⟨hr'.pan ha,hk⟩) _ e a w (zB hnd) (fun o ho t ht=>?_) hr (.refl _ _) h)
   exact List.mem_filterMap.2 ⟨o,ho,ht⟩
  |true=>
   simp only[kV]at h
   cases hl:qo id an.drs with
   |none=>rw[hl]at h;exact h.elim
   |some r=>
    rw[hl]at h
    simp only at h
    cases hok:yj ops r with
    |false=>rw[hok]at h;exact h.elim
    |true=>
     rw[hok]at h
     simp only[yj,Bool.and_eq_true,beq_iff_eq]at hok
     have hany:=de (n:=n) (Q:=Br n D Kp K (wr (.region id ops true)) e) (wr (.region id ops true)) e (R:=R) (fun j o ho=>zB hnd o (by have:=Array.mem_of_getElem? ho;simpa using this)) (fun j o t ho ht=>List.mem_filterMap.2 ⟨o,by have:=Array.mem_of_getElem? ho;simpa using this,ht⟩) hok.1.1 (fun e' a' w' hr' ha hk=>⟨e',hr',ha,hk⟩) (fun ch e' a w' hr' ha hk=>⟨hr'.pan ha,hk⟩) (fun c a d v w' hd hq=>⟨hq.1.unput hd,hq.2⟩) r (Array.replicate ops.size false) [] [] e a _ hr (fun x o ho hx=>(by rcases Nat.lt_or_ge x ops.size with h'|h' <;> simp[h']at hx)) (.refl _ _) (by simp) h
     have hany:=hany.1 hok.2
     rw[hok.1.2]at hany
     exact wpIn_region_any hm (vZ [] _ _ _ _ hany)
 |seq x y ihx ihy=>
  intro hnd K e a w hr h
  have hx0:R=none\/iy x=true:=hnd.imp id fun h=>by simp only[iy,Bool.and_eq_true]at h;exact h.1
  have hy0:R=none\/iy y=true:=hnd.imp id fun h=>by simp only[iy,Bool.and_eq_true]at h;exact h.2
  have fin:∀(K':KT) (k:cX->WP),K'=sx K k->(∀e' w',Agree (wr x) e e'->k e' w'->kV P n an Kp y K e' w')->kV P n an Kp x K' e w->(Code.seq x y).wpIn (FW R) 0 P (Br n D Kp K (wr (.seq x y)) e) a w:=by
   rintro K' k rfl hk hx
   refine wpIn_seq (wpIn_mono (ihx hx0 _ e a w hr hx) fun ex a' w' hq=>?_)
   cases ex with
   |normal=>
    obtain⟨e',hr',ha,hq⟩:=hq
    exact wpIn_mono (ihy hy0 K e' a' w' hr' (hk e' w' ha hq)) fun ex a w'' hq=>hq.grow (ha.mono fun i hi=>by simp[wr,hi]) (fun i hi=>by simp[wr,hi])
   |panic ch=>exact⟨hq.1.grow (.refl _ _) (fun i hi=>by simp[wr,hi]),hq.2⟩
   |outgrown=>exact hq
   |_=>obtain⟨e',h1,h2,h3⟩:=hq;exact⟨e',h1,h2.mono fun i hi=>by simp[wr,hi],h3⟩
  simp only[kV]at h
  split at h
  ·exact fin _ _ rfl (fun e' w' _ hk=>hk) h
  ·rename_i live _
   obtain⟨J,h1,h2⟩:=uk h
   refine fin _ _ rfl (fun e' w' ha hk=>?_) h2
   have:=h1 e' live (iz x live) rfl w' hk
   rwa [ig ha kX]at this
 |cond c x y ihx ihy=>
  intro hnd K e a w hr h
  have hx0:R=none\/iy x=true:=hnd.imp id fun h=>by simp only[iy,Bool.and_eq_true]at h;exact h.1
  have hy0:R=none\/iy y=true:=hnd.imp id fun h=>by simp only[iy,Bool.and_eq_true]at h;exact h.2
  replace h:=condS.out h
  split at h
  ·rename_i hv
   exact wpIn_cond_true (by rw[hr.eval];exact hv) (wpIn_mono (ihx hx0 K e a w hr h) fun ex a w' hq=>hq.mono fun i hi=>by simp[wr,hi])
  ·rename_i hv
   exact wpIn_cond_false (by rw[hr.eval];exact hv) (wpIn_mono (ihy hy0 K e a w hr h) fun ex a w' hq=>hq.mono fun i hi=>by simp[wr,hi])
  ·exact h.elim
 |block id b ih=>
  intro hnd K e a w hr h
  have fin:∀(k:cX->WP),(∀e' w',Agree (wr b) e e'->k e' w'->K .normal e' w')->kV P n an Kp b (Gi K id k) e w->(Code.block id b).wpIn (FW R) 0 P (Br n D Kp K (wr (.block id b)) e) a w:=by
   intro k hk hb
   refine wpIn_block (wpIn_mono (ih hnd _ e a w hr hb) fun ex a w' hq=>?_)
   cases ex with
   |normal=>obtain⟨e',h1,h2,h3⟩:=hq;exact⟨e',h1,h2,hk e' w' h2 h3⟩
   |exit id'=>
    obtain⟨e',h1,h2,h3⟩:=hq
    simp only[Exit.inBlock]
    simp only[Gi]at h3
    by_cases hid:id'=id
    ·rw[if_pos hid]at h3 ⊢;exact⟨e',h1,h2,hk e' w' h2 h3⟩
    ·rw[if_neg hid]at h3 ⊢;exact⟨e',h1,h2,h3⟩
   |panic ch=>exact hq
   |outgrown=>exact hq
   |_=>obtain⟨e',h1,h2,h3⟩:=hq;exact⟨e',h1,h2,h3⟩
  simp only[kV]at h
  cases hl:qo id an.blks with
  |none=>rw[hl]at h;exact fin _ (fun e' w' _ hk=>hk) h
  |some live=>
   rw[hl]at h
   obtain⟨J,h1,h2⟩:=uk h
   refine fin _ (fun e' w' ha hk=>?_) h2
   have:=h1 e' live (iz b live) rfl w' hk
   rwa [ig ha kX]at this
 |loop b ih=>
  intro hnd K e a w hr h
  simp only[kV]at h
  cases hl:qo (ey b) an.loops with
  |none=>rw[hl]at h;exact h.elim
  |some live=>
   rw[hl]at h
   obtain⟨I,h0,h1⟩:=h
   refine pI (fun m a w=>∃e',Rep n D e' a/\Agree (wr b) e e'/\jh live.length (I m) (lT e' live) w) ?_ ?_
   ·obtain⟨m,hm⟩:=h0;exact⟨m,e,hr,.refl _ _,hm⟩
   ·rintro m a' w' ⟨e',hr',ha,hv⟩
    have hb:=lV e' live (h1 m (lT e' (iz b live))) w' hv
    simp only at hb
    rw[ig ha kX]at hb
    refine wpIn_mono (ih hnd _ e' a' w' hr' hb) fun ex a w'' hq=>?_
    cases ex with
    |normal=>
     obtain⟨e3,hr3,h2,m',hlt,h3⟩:=hq
     exact⟨m',hlt,e3,hr3,ha.trans h2 (fun _ h=>h) (fun _ h=>h),h3⟩
    |panic ch=>exact⟨hq.1.grow ha (fun _ h=>h),hq.2⟩
    |outgrown=>exact hq
    |_=>obtain⟨e3,h1,h2,h3⟩:=hq;exact⟨e3,h1,ha.trans h2 (fun _ h=>h) (fun _ h=>h),h3⟩
 |rangeFunc=>exact fun _ K e a w hr h=>h.elim
 |exit id=>exact fun _ K e a w hr h=>wpIn_exit ⟨e,hr,.refl _ _,h⟩
 |scope b ih=>
  intro hnd K e a w hr h
  obtain rfl:R=none:=hnd.resolve_right (by simp[iy])
  refine wpIn_wide.2 (wp_scope_straight ((wpIn_wide (n:=0)).1 (wpIn_mono (ih (.inl rfl) _ e a w hr h) fun ex a w' hq=>?_)))
  cases ex with
  |goto l=>obtain⟨e',h1,h2,h3⟩:=hq;exact h3
  |_=>exact hq
 |label l=>exact fun _ K e a w hr h=>wpIn_label ⟨e,hr,.refl _ _,h⟩
 |goto l=>exact fun _ K e a w hr h=>h.elim
 |ret=>exact fun _ K e a w hr h=>wpIn_ret ⟨e,hr,.refl _ _,h⟩
 |refuse s=>exact fun _ K e a w hr h=>h.elim
theorem iA (hm:P.follows .mixedOrders=true)(an:Ann)(c:Code)(K:KT)(e:cX)(a:Act)(w:World)(hr:Rep n D e a)(h:kV P n an Kp c K e w):c.wp P (Br n D Kp K (wr c) e) a w:=
 wpIn_wide.1 (ji (R:=none) hm an c (.inl rfl) K e a w hr h)

def Gj:List Value->Value
 |[v]=>v
 |vs=> .tuple vs.toArray
def gW (P:Program)(n:Nat):List ResultVar->cX->List Value->(Value->WP)->WP
 |[],_,acc,K=>K (Gj acc)
 | .tmp t::r,e,acc,K=>gW P n r e (acc++[ev n e (.tmp t)]) K
 | .cell a t::r,e,acc,K=>stS P (do pure (.value (<- do loadVar t (<- asAddr (ev n e (.tmp a)))))) fun v=>gW P n r e (acc++[v]) K
def lX (n:Nat)(e:cX):ResultVar->Sem Value
 | .tmp t=>pure (ev n e (.tmp t))
 | .cell a t=>do loadVar t (<- asAddr (ev n e (.tmp a)))
theorem lY {e:cX}{K:Value->WP}{w:World}:∀(rs:List ResultVar) (acc:List Value),gW P n rs e acc K w->
  ∃vs,(rs.mapM (lX n e)).run P w= .ok vs w/\K (Gj (acc++vs)) w
 |[],acc,h=>⟨[],rfl,by simpa [gW]using h⟩
 | .tmp t::r,acc,h=>by
  obtain⟨vs,h1,h2⟩:=lY r _ h
  exact⟨ev n e (.tmp t)::vs,by simp[List.mapM_cons,lX,h1],by simpa using h2⟩
 | .cell a t::r,acc,h=>by
  obtain⟨v,hv,h⟩:=h.out
  obtain⟨vs,h1,h2⟩:=lY r _ h
  refine⟨v::vs,?_,by simpa using h2⟩
  have hr:(lX n e (.cell a t)).run P w= .ok v w:=by
   simp only[Sem.run_bind]at hv
   simp only[lX,Sem.run_bind]
   generalize (asAddr (ev n e (.tmp a))).run P w=r1 at hv
   cases r1 with
   |ok x w1=>
    simp only[Result.andThen_ok]at hv ⊢
    generalize (loadVar t x).run P w1=r2 at hv
    cases r2 with
    |ok y w2=>simp at hv ⊢;exact hv
    |halt y w2=>simp at hv
   |halt x w1=>simp at hv
  simp[List.mapM_cons,hr,h1]
theorem dP {fn:Func}{e:cX}{a:Act}(hr:Rep n D e a){K:Value->WP}{w:World}(h:gW P n fn.results.toList e [] K w):∃v,(results fn a.tmps).run P w= .ok v w/\K v w:=by
 obtain⟨vs,h1,h2⟩:=lY _ _ h
 refine⟨Gj vs,?_,by simpa using h2⟩
 have hf:(fun(x:ResultVar)=>(match x with
   | .tmp t=>pure (a.tmps.getD t undef)
   | .cell c t=>do loadVar t (<- asAddr (a.tmps.getD c undef)):Sem Value))=lX n e:=by
  funext x;cases x <;> simp only[lX,hr.getD]
 have hs:results fn a.tmps=(do
   let vs <- fn.results.mapM (lX n e)
   pure (if h:vs.size=1 then vs[0]else .tuple vs)):=by
  unfold results;rw[<- hf];rfl
 rw[hs,Array.mapM_eq_mapM_toList]
 simp only[Sem.run_bind,Sem.run_map,h1,Result.andThen_ok,Sem.run_pure]
 congr 1
 match vs with
 |[]=>rfl
 |[v]=>rfl
 |v::u::r=>simp[Gj]
def yo (P:Program)(n:Nat)(rs:List ResultVar)(K:Value->WP):KT
 | .normal,e=>gW P n rs e [] K
 | .ret,e=>gW P n rs e [] K
 |_,_=>fun _=>False
def qq:List Value->cX
 |[],_=>undef
 |v::_,0=>v
 |_::vs,i+1=>qq vs i
def CP (P:Program)(an:Ann)(fn:Func)(args:List Value)(Kp:List PanicEntry->WP)(K:Value->WP):WP:=
 match fn.body with
 |some c=>kV P (args.length+(fn.ntmps-args.length)) an Kp c (yo P (args.length+(fn.ntmps-args.length)) fn.results.toList K) (qq args)
 |none=>fun _=>False
theorem mC:∀(l:List Value) (i:Nat),qq l i=l.getD i undef
 |[],_=>rfl
 |v::vs,0=>rfl
 |v::vs,i+1=>by simp only[qq,mC vs i,List.getD_cons_succ]
theorem ul (hm:P.follows .mixedOrders=true){f:FuncId}{fn:Func}(hf:P.funcs[f]? =some fn){an:Ann}{args:List Value}{K:Value->WP}{w:World}(h:CP P an fn args Kp K w):
  Calls P f args.toArray w fun
   | .returned v,w'=>K v w'
   | .panicked ch,w'=>Kp ch w'
   | .outgrown,_=>False:=by
 unfold CP at h
 cases hb:fn.body with
 |none=>rw[hb]at h;exact h.elim
 |some c=>
  rw[hb]at h
  refine calls_of_wp hf hb ?_
  have hr:Rep (args.length+(fn.ntmps-args.length)) [] (qq args) {tmps:=args.toArray++Array.replicate (fn.ntmps-args.toArray.size) undef,defers:=[]}:=by
   refine⟨rfl,by simp,fun i hi=>?_⟩
   rw[mC,List.getD_eq_getElem?_getD,Array.getElem?_append]
   by_cases hl:i<args.length
   ·simp[hl]
   ·rw[if_neg (by simpa using hl),Array.getElem?_eq_getElem (by simp;omega)]
    simp only[List.getElem?_eq_none (Nat.le_of_not_lt hl),Array.getElem_replicate,Option.getD_none]
  refine wp_mono (iA (D:=[]) hm an c _ _ _ w hr h) fun ex a w' hq=>?_
  cases ex with
  |normal=>
   obtain⟨e',hr',_,hk⟩:=hq
   obtain⟨v,h1,h2⟩:=dP hr' hk
   exact⟨hr'.defers,v,h1,h2⟩
  |ret=>
   obtain⟨e',hr',_,hk⟩:=hq
   obtain⟨v,h1,h2⟩:=dP hr' hk
   exact⟨hr'.defers,v,h1,h2⟩
  |panic ch=>exact⟨hq.1.defers,hq.2⟩
  |exit id=>obtain⟨_,_,_,hk⟩:=hq;exact hk.elim
  |goto l=>obtain⟨_,_,_,hk⟩:=hq;exact hk.elim
  |outgrown=>exact hq.elim
end Sh
namespace Sh
open Go
variable {P:Program} {n:Nat} {Kp:List PanicEntry->WP}
def JK (Kret:WP)(Kp:List PanicEntry->WP):FrameMode->WP
 | .returning=>Kret
 | .panicking ch=>Kp ch
 | .run=>fun _=>False
structure dfS (P:Program)(d:Deferred)(u:FrameMode)(Kret:WP)(Kp:List PanicEntry->WP)(w:World):Prop where
 out:u≠ .run/\∃fv cap f args,d.target= .fn fv cap/\(invoke d.target d.args).run P w= .ok (.enter f args) w/\CallsD P f args u w fun
    | .returned _,u',w'=>JK Kret Kp (settle u') w'
    | .panicked chain,u',w'=>JK Kret Kp (raised u' chain) w'
    | .outgrown,_,_=>False
structure opDf (f:Value)(args:List Value)(k:Deferred->WP)(w:World):Prop where
 out:∃fn first cap,f= .func fn first cap/\k {target:= .fn fn cap,args:=first++args.toArray} w
def fy (P:Program)(d:Deferred)(Kret:WP)(Kp:List PanicEntry->WP):List PanicEntry->WP:=fun ch=>dfS P d (.panicking ch) Kret Kp
def pT:Code->Option (List Oper × Oper × Operand × Array Operand × Array Oper)
 | .region _ ops false=>match ops.toList.reverse with
  |o::pre=>match o.op,o.guard with
   | .defer c,none=>match c.callee with
    | .value f=>some (pre.reverse,o,f,c.args,ops)
    |_=>none
   |_,_=>none
  |[]=>none
 |_=>none
def Gk (P:Program)(n:Nat)(an:Ann)(Kp:List PanicEntry->WP)(K0:KT)(k1:Deferred->Code->cX->WP):Code->cX->WP
 | .seq x y,e=>match pT x with
  |some (pre,o,f,args,ops)=>mz P n ops Kp (fun e'=>opDf (ev n e' f) (args.toList.map (ev n e')) fun d=>k1 d y (fu e' o.dst undef)) pre e
  |none=>kV P n an Kp x (sx K0 (Gk P n an Kp K0 k1 y)) e
 |c,e=>kV P n an Kp c K0 e
def iB (rs:List ResultVar):List Nat:=rs.map fun
 | .tmp t=>t
 | .cell a _=>a
def Ng (P:Program)(n:Nat)(rs:List ResultVar)(d:Deferred)(Kp:List PanicEntry->WP)(K:Value->WP):KT
 | .normal,e=>dfS P d .returning (gW P n rs e [] K) Kp
 | .ret,e=>dfS P d .returning (gW P n rs e [] K) Kp
 |_,_=>fun _=>False
def Nh (P:Program)(n:Nat)(an:Ann)(rs:List ResultVar)(Kp:List PanicEntry->WP)(K:Value->WP)(d:Deferred)(y:Code)(e:cX):WP:=
 match(iB rs).all fun i=>!(wr y).contains i with
 |true=>kV P n an (fun ch=>dfS P d (.panicking ch) (gW P n rs e [] K) Kp) y (Ng P n rs d Kp K) e
 |false=>fun _=>False
def zE (P:Program)(an:Ann)(fn:Func)(args:List Value)(Kp:List PanicEntry->WP)(K:Value->WP):WP:=
 match fn.body with
 |some c=>Gk P (args.length+(fn.ntmps-args.length)) an Kp (yo P (args.length+(fn.ntmps-args.length)) fn.results.toList K) (Nh P (args.length+(fn.ntmps-args.length)) an fn.results.toList Kp K) c (qq args)
 |none=>fun _=>False
theorem lZ {K:Value->WP}{e e':cX}:∀(rs:List ResultVar) (acc:List Value),(∀i∈iB rs,ev n e (.tmp i)=ev n e' (.tmp i))->gW P n rs e acc K=gW P n rs e' acc K
 |[],acc,_=>rfl
 | .tmp t::r,acc,h=>by
  have h0:=h t (by simp[iB])
  simp only[gW,h0]
  exact lZ r _ fun i hi=>h i (by simp[iB]at hi ⊢;exact .inr hi)
 | .cell a t::r,acc,h=>by
  have h0:=h a (by simp[iB])
  simp only[gW,h0]
  congr 1
  funext v
  exact lZ r _ fun i hi=>h i (by simp[iB]at hi ⊢;exact .inr hi)
theorem um {fn:Func} {tmps:Array Value} {R:Ending->World->Prop} {d:Deferred} {u:FrameMode} {Kret:WP} {w:World}
  (hk:∀w,Kret w->∃v,(results fn tmps).run P w= .ok v w/\R (.returned v) w) (hp:∀ch w,Kp ch w->R (.panicked ch) w) (h:dfS P d u Kret Kp w):Leaves P fn tmps R [d] u w:=by
 obtain⟨h1,fv,cap,f,args,h2,h3,h4⟩:=h.out
 have lv:∀u w,JK Kret Kp u w->Leaves P fn tmps R [] u w:=fun u w h=>by
  cases u with
  |run=>exact h.elim
  |returning=>exact hk w h
  |panicking ch=>exact hp ch w h
 refine⟨h1,fv,cap,f,args,h2,h3,h4.mono fun e u' w' he=>?_⟩
 cases e with
 |returned v=>exact lv _ _ he
 |panicked ch=>exact lv _ _ he
 |outgrown=>exact he.elim
theorem mD {D:List Deferred} {ops:Array Oper} {Q:Exit->Act->World->Prop} {o:Oper} {f:Operand} {c:Call} {k:Deferred->cX->WP} (hop:o.op= .defer c) (hc:c.callee= .value f) (hg:o.guard=none) (M:List Nat) (e₀:cX)
  (hn:∀d e a w,Rep n (d::D) (fu e o.dst undef) a->Agree M e₀ e->k d (fu e o.dst undef) w->Q .normal a w) (hp:∀ch e a w,Rep n D e a->Agree M e₀ e->Kp ch w->Q (.panic ch) a w):
  ∀(l:List Oper) (e:cX) (a:Act) (w:World),(∀o∈l,∀t,o.dst=some t->t∈M)->Rep n D e a->Agree M e₀ e->mz P n ops Kp (fun e'=>opDf (ev n e' f) (c.args.toList.map (ev n e')) fun d=>k d (fu e' o.dst undef)) l e w->wpListIn (FW none) 0 P ops Q (l++[o]) a w
 |[],e,a,w,_,hr,ha,h=>by
  have h:opDf (ev n e f) (c.args.toList.map (ev n e)) (fun d=>k d (fu e o.dst undef)) w:=h
  obtain⟨fnn,first,cap,hf,hk⟩:=h.out
  rw[List.nil_append]
  unfold wpListIn
  rw[if_pos (by simp[Region.wanted,hg])]
  refine⟨fun _ _=>trivial,?_⟩
  rw[show(FW none).round=none from rfl,Oper.semAt_none]
  have hx:(execOp a.eval o).run P w= .ok (.defer {target:= .fn fnn cap,args:=first++(c.args.toList.map (ev n e)).toArray}) w:=by
   rw[hr.eval]
   simp only[execOp,hop,resolve,hc,hf,Deferred.ofValue,Sem.run_bind,Sem.run_pure,Result.andThen_ok,lm]
  rw[hx]
  simp only[Oper.uponIn]
  unfold wpListIn
  refine hn _ e _ w ?_ ha hk
  have hr2:Rep n ({target:= .fn fnn cap,args:=first++(c.args.toList.map (ev n e)).toArray}::D) e {a with defers:={target:= .fn fnn cap,args:=first++(c.args.toList.map (ev n e)).toArray}::a.defers}:=⟨by rw[hr.defers],hr.size,hr.at_⟩
  exact hr2.put _ _
 |o'::l,e,a,w,hM,hr,ha,h=>by
  unfold mz at h
  rw[List.cons_append]
  unfold wpListIn
  have hd:∀t,o'.dst=some t->t∈M:=hM o' (by simp)
  have next:∀v w' a',mz P n ops Kp (fun e'=>opDf (ev n e' f) (c.args.toList.map (ev n e')) fun d=>k d (fu e' o.dst undef)) l (fu e o'.dst v) w'->Rep n D (fu e o'.dst v) a'->wpListIn (FW none) 0 P ops Q (l++[o]) a' w':=fun v w' a' hv hr'=>
   mD hop hc hg M e₀ hn hp l _ a' w' (fun x hx=>hM x (by simp[hx])) hr' (ha.trans (.set e o'.dst v M hd) (fun _ h=>h) (fun _ h=>h)) hv
  rcases ip hr h with ⟨hw,h⟩|⟨hw,h⟩
  ·rw[if_pos hw]
   exact lU hr (.inl rfl) h next (fun ch w'=>hp ch e _ w' hr ha)
  ·rw[if_neg (by simp[hw])]
   exact⟨fun _ _=>trivial,next _ _ _ h (hr.put _ _)⟩
theorem uo {x:Code}{pre:List Oper}{o:Oper}{f:Operand}{args:Array Operand}{ops:Array Oper}(h:pT x=some (pre,o,f,args,ops)):
  ∃id c,x= .region id ops false/\o.op= .defer c/\c.callee= .value f/\c.args=args/\o.guard=none/\ops.toList=pre++[o]:=by
 unfold pT at h
 split at h
 ·rename_i id ops'
  split at h
  ·rename_i o' pre' hrev
   split at h
   ·rename_i c hop hg
    split at h
    ·rename_i f' hc
     simp only[Option.some.injEq,Prod.mk.injEq]at h
     obtain⟨rfl,rfl,rfl,rfl,rfl⟩:=h
     refine⟨id,c,rfl,hop,hc,rfl,hg,?_⟩
     have:=congrArg List.reverse hrev
     rw[List.reverse_reverse,List.reverse_cons]at this
     exact this
    ·cases h
   ·cases h
  ·cases h
 ·cases h
theorem yp (hm:P.follows .mixedOrders=true)(an:Ann){fn:Func}{K:Value->WP}{R:Ending->World->Prop}(hK:∀v w,K v w->R (.returned v) w)(hKp:∀ch w,Kp ch w->R (.panicked ch) w):
  ∀(c:Code) (e:cX) (a:Act) (w:World),Rep n [] e a->Gk P n an Kp (yo P n fn.results.toList K) (Nh P n an fn.results.toList Kp K) c e w->c.wp P (bodyPostD P fn R) a w:=by
 have post0:∀ {M:List Nat} {e:cX} {ex:Exit} {a:Act} {w:World},Br n [] Kp (yo P n fn.results.toList K) M e ex a w->bodyPostD P fn R ex a w:=by
  intro M e ex a w hq
  cases ex with
  |normal=>
   obtain⟨e',hr',_,hk⟩:=hq
   obtain⟨v,h1,h2⟩:=dP hr' hk
   show Leaves P fn a.tmps R a.defers .returning w
   rw[hr'.defers]
   exact⟨v,h1,hK v w h2⟩
  |ret=>
   obtain⟨e',hr',_,hk⟩:=hq
   obtain⟨v,h1,h2⟩:=dP hr' hk
   show Leaves P fn a.tmps R a.defers .returning w
   rw[hr'.defers]
   exact⟨v,h1,hK v w h2⟩
  |panic ch=>
   show Leaves P fn a.tmps R a.defers (.panicking ch) w
   rw[hq.1.defers]
   exact hKp ch w hq.2
  |exit id=>obtain⟨_,_,_,hk⟩:=hq;exact hk.elim
  |goto l=>obtain⟨_,_,_,hk⟩:=hq;exact hk.elim
  |outgrown=>exact hq.elim
 have plain:∀(c:Code) (e:cX) (a:Act) (w:World),Rep n [] e a->kV P n an Kp c (yo P n fn.results.toList K) e w->c.wp P (bodyPostD P fn R) a w:=fun c e a w hr h=>
  wp_mono (iA hm an c _ e a w hr h) fun ex a w hq=>post0 hq
 intro c
 induction c with
 |seq x y _ ihy=>
  intro e a w hr h
  simp only[Gk]at h
  cases hd:pT x with
  |none=>
   rw[hd]at h
   refine wp_seq (wp_mono (iA hm an x _ e a w hr h) fun ex a' w' hq=>?_)
   cases ex with
   |normal=>
    obtain⟨e',hr',_,hk⟩:=hq
    exact ihy e' a' w' hr' hk
   |panic ch=>exact post0 (M:=wr x) (e:=e) (ex:= .panic ch) (show Br n [] Kp (yo P n fn.results.toList K) (wr x) e (.panic ch) a' w' from hq)
   |outgrown=>exact hq.elim
   |ret=>exact post0 (M:=wr x) (e:=e) (ex:= .ret) hq
   |exit id=>obtain⟨_,_,_,hk⟩:=hq;exact hk.elim
   |goto l=>obtain⟨_,_,_,hk⟩:=hq;exact hk.elim
  |some q=>
   obtain⟨pre,o,f,args,ops⟩:=q
   rw[hd]at h
   obtain⟨id,c,rfl,hop,hc,rfl,hg,hops⟩:=uo hd
   simp only at h
   refine wp_seq ((wpIn_wide (n:=0)).1 (wpIn_region_list ?_))
   rw[hops]
   refine mD (n:=n) (D:=[]) (Kp:=Kp) (Q:=Exit.then (Code.wp P y (bodyPostD P fn R)) (bodyPostD P fn R)) hop hc hg (k:=fun d e'=>Nh P n an fn.results.toList Kp K d y e') (wr (.region id ops false)) e (fun d e1 a1 w1 hr1 _ hk=>?_) (fun ch e1 a1 w1 hr1 ha hk=>post0 (M:=wr (.region id ops false)) (e:=e) (ex:= .panic ch) ⟨hr1.pan ha,hk⟩) pre e a w (fun o' ho' t ht=>?_) hr (.refl _ _) h
   ·show y.wp P (bodyPostD P fn R) a1 w1
    have hk:Nh P n an fn.results.toList Kp K d y (fu e1 o.dst undef) w1:=hk
    unfold Nh at hk
    cases hall:(iB fn.results.toList).all (fun i=>!(wr y).contains i)with
    |true=>
     rw[hall]at hk
     refine wp_mono (iA hm an y _ _ a1 w1 hr1 hk) fun ex a' w' hq=>?_
     have ret1:∀e',Rep n [d] e' a'->∀w,gW P n fn.results.toList e' [] K w->∃v,(results fn a'.tmps).run P w= .ok v w/\R (.returned v) w:=fun e' hr' w hk=>by
      obtain⟨v,h1,h2⟩:=dP hr' hk
      exact⟨v,h1,hK v w h2⟩
     cases ex with
     |normal=>
      obtain⟨e',hr',_,hk⟩:=hq
      show Leaves P fn a'.tmps R a'.defers .returning w'
      rw[hr'.defers]
      exact um (ret1 e' hr') hKp hk
     |ret=>
      obtain⟨e',hr',_,hk⟩:=hq
      show Leaves P fn a'.tmps R a'.defers .returning w'
      rw[hr'.defers]
      exact um (ret1 e' hr') hKp hk
     |panic ch=>
      obtain⟨hpan,hk⟩:=hq
      show Leaves P fn a'.tmps R a'.defers (.panicking ch) w'
      rw[hpan.defers]
      refine um (fun w hw=>?_) hKp hk
      have hr':Rep n [d] (fun i=>a'.tmps.getD i undef) a':=⟨hpan.defers,hpan.size,fun i hi=>by
       rw[Array.getD_eq_getD_getElem?,Array.getElem?_eq_getElem (by rw[hpan.size];exact hi)];rfl⟩
      refine ret1 _ hr' w ?_
      rw[<- lZ fn.results.toList [] (e:=fu _ o.dst undef) (fun i hi=>?_)]
      ·exact hw
      ·have hni:i∉wr y:=by
        have:=List.all_eq_true.1 hall i hi
        simpa using this
       by_cases hlt:i<n
       ·have h1:=hpan.at_ i hlt hni
        have hb:Nat.blt i n=true:=by simpa using hlt
        simp only[ev,hb]
        rw[Array.getD_eq_getD_getElem?,h1];rfl
       ·have hb:Nat.blt i n=false:=by
         cases hx:Nat.blt i n with
         |false=>rfl
         |true=>exact absurd (by simpa using hx) hlt
        simp only[ev,hb]
     |exit id=>obtain⟨_,_,_,hk⟩:=hq;exact hk.elim
     |goto l=>obtain⟨_,_,_,hk⟩:=hq;exact hk.elim
     |outgrown=>exact hq.elim
    |false=>
     rw[hall]at hk
     exact hk.elim
   ·refine List.mem_filterMap.2 ⟨o',?_,ht⟩
    rw[hops];exact List.mem_append_left _ ho'
 |skip=>exact fun e a w hr h=>plain _ e a w hr h
 |region id ops draw=>exact fun e a w hr h=>plain _ e a w hr h
 |cond c x y _ _=>exact fun e a w hr h=>plain _ e a w hr h
 |block id b _=>exact fun e a w hr h=>plain _ e a w hr h
 |loop b _=>exact fun e a w hr h=>plain _ e a w hr h
 |rangeFunc=>exact fun e a w hr h=>plain _ e a w hr h
 |exit id=>exact fun e a w hr h=>plain _ e a w hr h
 |scope b _=>exact fun e a w hr h=>plain _ e a w hr h
 |label l=>exact fun e a w hr h=>plain _ e a w hr h
 |goto l=>exact fun e a w hr h=>plain _ e a w hr h
 |ret=>exact fun e a w hr h=>plain _ e a w hr h
 |refuse s=>exact fun e a w hr h=>plain _ e a w hr h
theorem sA (hm:P.follows .mixedOrders=true){f:FuncId}{fn:Func}(hf:P.funcs[f]? =some fn){an:Ann}{args:List Value}{K:Value->WP}{w:World}(h:zE P an fn args Kp K w):
  Calls P f args.toArray w fun
   | .returned v,w'=>K v w'
   | .panicked ch,w'=>Kp ch w'
   | .outgrown,_=>False:=by
 unfold zE at h
 cases hb:fn.body with
 |none=>rw[hb]at h;exact h.elim
 |some c=>
  rw[hb]at h
  refine calls_of_wp_defers hf hb ?_
  have hr:Rep (args.length+(fn.ntmps-args.length)) [] (qq args) {tmps:=args.toArray++Array.replicate (fn.ntmps-args.toArray.size) undef,defers:=[]}:=by
   refine⟨rfl,by simp,fun i hi=>?_⟩
   rw[mC,List.getD_eq_getElem?_getD,Array.getElem?_append]
   by_cases hl:i<args.length
   ·simp[hl]
   ·rw[if_neg (by simpa using hl),Array.getElem?_eq_getElem (by simp;omega)]
    simp only[List.getElem?_eq_none (Nat.le_of_not_lt hl),Array.getElem_replicate,Option.getD_none]
  exact yp hm an (fun v w h=>h) (fun ch w h=>h) c _ _ w hr h
end Sh
namespace Sh
open Go
variable {P:Program} {n:Nat} {Kp:List PanicEntry->WP}
def eP:FrameMode->Value × FrameMode
 | .panicking ({v,recovered:=false,goexit:=false}::older)=>(v,.panicking ({v,recovered:=true}::older))
 |m=>(.nilIface,m)
theorem sB {c₀:Frame}{cs:List Frame}{u:FrameMode}(hu:c₀.mode=u):
  recoverD (c₀::cs)=some ((eP u).1,{c₀ with mode:=(eP u).2}::cs)\/(recoverD (c₀::cs)=none/\eP u=(.nilIface,u)):=by
 unfold recoverD eP
 subst hu
 simp only
 split <;> simp_all
def mE (b:Option Code):Option (List Oper × Oper × Array Oper × Code):=
 match b with
 |some (.seq (.region _ ops false) y)=>match ops.toList with
  |o::rest=>match o.op,o.guard with
   | .call c,none=>match c.callee with
    | .builtin .recover=>some (rest,o,ops,y)
    |_=>none
   |_,_=>none
  |[]=>none
 |_=>none
theorem sD {b:Option Code}{rest:List Oper}{o:Oper}{ops:Array Oper}{y:Code}(h:mE b=some (rest,o,ops,y)):
  ∃id c,b=some (.seq (.region id ops false) y)/\ops.toList=o::rest/\o.op= .call c/\o.guard=none/\c.callee= .builtin .recover:=by
 unfold mE at h
 split at h
 ·rename_i id ops' y'
  split at h
  ·rename_i o' rest' hops
   split at h
   ·rename_i c hop hg
    split at h
    ·rename_i hc
     simp only[Option.some.injEq,Prod.mk.injEq]at h
     obtain⟨rfl,rfl,rfl,rfl⟩:=h
     exact⟨id,c,rfl,hops,hop,hg,hc⟩
    ·cases h
   ·cases h
  ·cases h
 ·cases h
def qr (P:Program)(n:Nat)(ops:Array Oper)(K:cX->WP):List Oper->cX->WP
 |[],e=>K e
 |o::rest,e=>Gg n ops e o (zz P n e o) fun v=>qr P n ops K rest (fu e o.dst v)
def Gm (P:Program)(an:Ann)(fn:Func)(args:List Value)(rv:Value)(Kp:List PanicEntry->WP)(K:Value->WP):WP:=
 match mE fn.body with
 |some (rest,o,ops,y)=>qr P (args.length+(fn.ntmps-args.length)) ops (kV P (args.length+(fn.ntmps-args.length)) an Kp y (yo P (args.length+(fn.ntmps-args.length)) fn.results.toList K)) rest (fu (qq args) o.dst rv)
 |none=>fun _=>False
theorem mF {ops:Array Oper} {K:cX->WP} {cs:List Frame} {Q:Exit->Act->List Frame->World->Prop}
  (hn:∀e a w,Rep n [] e a->K e w->Q .normal a cs w):
  ∀(l:List Nat) (L:List Oper) (e:cX) (a:Act) (w:World),l.map (fun i=>ops[i]?)=L.map some->Rep n [] e a->qr P n ops K L e w->wpOpsS P ops Q l a cs w
 |[],[],e,a,w,_,hr,h=>hn e a w hr h
 |[],o::L,e,a,w,hl,hr,h=>by simp at hl
 |i::l,[],e,a,w,hl,hr,h=>by simp at hl
 |i::l,o::L,e,a,w,hl,hr,h=>by
  simp only[List.map_cons,List.cons.injEq]at hl
  obtain⟨hi,hl⟩:=hl
  unfold qr at h
  unfold wpOpsS
  rw[hi]
  simp only
  have next:∀v w' a',qr P n ops K L (fu e o.dst v) w'->Rep n [] (fu e o.dst v) a'->wpOpsS P ops Q l a' cs w':=fun v w' a' hv hr'=>mF hn l L _ a' w' hl hr' hv
  rcases ip hr h with ⟨hw,h⟩|⟨hw,h⟩
  ·rw[if_pos hw]
   obtain⟨v,hv,hk⟩:=(mA h).out
   rw[hr.eval,hv]
   exact next _ _ _ hk (hr.put _ _)
  ·rw[if_neg (by simp[hw])]
   exact next _ _ _ h (hr.put _ _)
theorem kh (hm:P.follows .mixedOrders=true){f:FuncId}{fn:Func}(hf:P.funcs[f]? =some fn){an:Ann}{args:List Value}{K:Value->WP}{w:World}{u:FrameMode}(h:Gm P an fn args (eP u).1 Kp K w):
  CallsD P f args.toArray u w fun
   | .returned v,u',w'=>u'=(eP u).2/\K v w'
   | .panicked ch,u',w'=>u'=(eP u).2/\Kp ch w'
   | .outgrown,_,_=>False:=by
 unfold Gm at h
 cases hs:mE fn.body with
 |none=>rw[hs]at h;exact h.elim
 |some q=>
     obtain⟨rest,o,ops,y⟩:=q
     rw[hs]at h
     obtain⟨id,c,hb,hops,hop,hg,hc⟩:=sD hs
     simp only at h
     refine callsD_of_wpS hf hb fun c₀ cs hu=>?_
     have hr:Rep (args.length+(fn.ntmps-args.length)) [] (qq args) {tmps:=args.toArray++Array.replicate (fn.ntmps-args.toArray.size) undef,defers:=[]}:=by
      refine⟨rfl,by simp,fun i hi=>?_⟩
      rw[mC,List.getD_eq_getElem?_getD,Array.getElem?_append]
      by_cases hl:i<args.length
      ·simp[hl]
      ·rw[if_neg (by simpa using hl),Array.getElem?_eq_getElem (by simp;omega)]
       simp only[List.getElem?_eq_none (Nat.le_of_not_lt hl),Array.getElem_replicate,Option.getD_none]
     generalize hA:({tmps:=args.toArray++Array.replicate (fn.ntmps-args.toArray.size) undef,defers:=[]}:Act)=A at hr
     refine wpS_seq (wpS_region ?_)
     have hsz:ops.size=rest.length+1:=by rw[<- Array.length_toList,hops];rfl
     rw[hsz,List.range_succ_eq_map]
     have h0:ops[0]? =some o:=by rw[<- Array.getElem?_toList,hops];rfl
     have tailm:(List.map Nat.succ (List.range rest.length)).map (fun i=>ops[i]?)=rest.map some:=by
      rw[List.map_map]
      apply List.ext_getElem?
      intro j
      rw[List.getElem?_map,List.getElem?_map]
      by_cases hj:j<rest.length
      ·rw[List.getElem?_range hj,List.getElem?_eq_getElem hj]
       simp only[Option.map_some,Function.comp_apply]
       rw[<- Array.getElem?_toList,hops,List.getElem?_cons_succ,List.getElem?_eq_getElem hj]
      ·rw[List.getElem?_eq_none (by simpa using hj),List.getElem?_eq_none (by omega)];rfl
     have go:∀(u':FrameMode),u'=(eP u).2->∀(cs':List Frame),cs'={c₀ with mode:=u'}::cs->wpOpsS P ops (Exit.thenS (y.wpS P (bodyPostS P fn c₀ cs fun
       | .returned v,u',w'=>u'=(eP u).2/\K v w'
       | .panicked ch,u',w'=>u'=(eP u).2/\Kp ch w'
       | .outgrown,_,_=>False)) (bodyPostS P fn c₀ cs fun
       | .returned v,u',w'=>u'=(eP u).2/\K v w'
       | .panicked ch,u',w'=>u'=(eP u).2/\Kp ch w'
       | .outgrown,_,_=>False)) (List.map Nat.succ (List.range rest.length)) (A.put o.dst (eP u).1) cs' w:=by
      rintro u' rfl cs' rfl
      refine mF (n:=args.length+(fn.ntmps-args.length)) (fun e a w hr hk=>?_) _ rest _ _ w tailm (hr.put o.dst (eP u).1) h
      ·refine wpS_of_wp (wp_mono (iA (D:=[]) hm an y _ e a w hr hk) fun ex a' w' hq=>?_)
       cases ex with
       |normal=>
        obtain⟨e',hr',_,hk⟩:=hq
        obtain⟨v,h1,h2⟩:=dP hr' hk
        exact⟨hr'.defers,_,rfl,v,h1,rfl,h2⟩
       |ret=>
        obtain⟨e',hr',_,hk⟩:=hq
        obtain⟨v,h1,h2⟩:=dP hr' hk
        exact⟨hr'.defers,_,rfl,v,h1,rfl,h2⟩
       |panic ch=>exact⟨hq.1.defers,_,rfl,rfl,hq.2⟩
       |exit id=>obtain⟨_,_,_,hk⟩:=hq;exact hk.elim
       |goto l=>obtain⟨_,_,_,hk⟩:=hq;exact hk.elim
       |outgrown=>exact hq.elim
     unfold wpOpsS
     rw[h0]
     simp only
     rw[if_pos (by simp[Region.wanted,hg])]
     have hx:(execOp A.eval o).run P w= .ok .recover w:=by
      simp[execOp,hop,resolve,hc,invoke,builtin]
     rw[hx]
     simp only
     rcases sB (cs:=cs) hu with hrec|⟨hrec,hrv⟩
     ·rw[hrec]
      exact go _ rfl _ rfl
     ·rw[hrec]
      have e1:(eP u).1= .nilIface:=by rw[hrv]
      have e2:(eP u).2=u:=by rw[hrv]
      have:=go _ rfl (c₀::cs) (by rw[e2,<- hu])
      rw[e1]at this
      exact this
end Sh
namespace Sh
open Go
variable {P:Program} {n:Nat} {Kp:List PanicEntry->WP}
structure tkS (d:Nat)(S:WP)(w:World):Prop where
 out:w.heap[d]? =some (.deferred (some []))/\S (w.putObj d (.deferred none))
def fA:List Nat->WP->WP
 |[],S=>S
 |d::ds,S=>tkS d (fA ds S)
def ez (ds:List Nat)(Kp:List PanicEntry->WP):List PanicEntry->WP:=fun ch=>fA ds (Kp ch)
def v9 (P:Program)(n:Nat)(rs:List ResultVar)(ds:List Nat)(K:Value->WP):KT
 | .normal,e=>fA ds (gW P n rs e [] K)
 | .ret,e=>fA ds (gW P n rs e [] K)
 |_,_=>fun _=>False
def CQ (P:Program)(l:Nat)(vs:List Value)(w:World)(R:Ending->World->Prop):Prop:=
 ∃fn tmps assign body,(Instr.yield l vs.toArray).run P w= .ok (.round l fn tmps assign body) w/\RoundIn Fence.wide 0 P l fn tmps assign body w R
abbrev P9:=LoopState->Option Code->Loop
def CR (l:Nat)(rec:P9)(S:WP)(w:World):Prop:=w.heap[l]? =some (.loop (rec .ready none))/\S (w.putObj l (.loop (rec .busy none)))
def Gn (l:Nat)(rec:P9)(jump:Option Code)(S:WP)(w:World):Prop:=w.heap[l]? =some (.loop (rec .busy none))/\S (w.putObj l (.loop (rec (if jump.isNone then .ready else .done) jump)))
def Gq {α:Type}:(n:Nat)->(List Value->α)->VF n α
 |0,f=>f []
 |n+1,f=>fun v=>Gq n fun l=>f (v::l)
theorem tf {α:Type}:∀(n:Nat) (f:List Value->α) (vs:List Value),vs.length=n->jh n (Gq n f) vs=f vs
 |0,f,[],_=>rfl
 |n+1,f,v::vs,h=>by
  simp only[jh,Gq,List.headD_cons,List.tail_cons]
  exact tf n (fun l=>f (v::l)) vs (by simpa using h)
structure rfS (P:Program)(fv:Value)(np:Nat)(rnd:VF np ((WP->WP)->WP->WP->WP))(Kn Kj:Nat->WP)(Kp:Nat->List PanicEntry->WP)(w:World):Prop where
 out:∃f cap,fv= .func (.func f) #[] cap/\(∀(a:Array Value) (w:World),(callFunc f a).run P w= .ok (.enter f a) w)/\
  ∀rec:P9,(∀(vs:List Value) (w':World) (R:Ending->World->Prop),vs.length=np->w'.heap[w.heap.size+1]? =some (.loop (rec .ready none))->
    jh np rnd vs (CR (w.heap.size+1) rec) (Gn (w.heap.size+1) rec none (R (.returned (.bool true)))) (Gn (w.heap.size+1) rec (some .ret) (R (.returned (.bool false)))) w'->CQ P (w.heap.size+1) vs w' R)->
   Calls P f (#[.func (.yield (w.heap.size+1)) #[] #[]]++cap) ((w.alloc (.deferred (some []))).alloc (.loop (rec .ready none))) fun
    | .returned _,w₃=>(w₃.heap[w.heap.size+1]? =some (.loop (rec .ready none))/\Kn w.heap.size (w₃.putObj (w.heap.size+1) (.loop (rec .exhausted none))))\/
      (w₃.heap[w.heap.size+1]? =some (.loop (rec .done (some .ret)))/\Kj w.heap.size (w₃.putObj (w.heap.size+1) (.loop (rec .exhausted (some .ret)))))
    | .panicked ch,w₃=>Kp w.heap.size ch w₃
    | .outgrown,_=>False
def Ni (B:WP->WP)(k:cX->WP):KT
 | .normal,e=>B (k e)
 |_,_=>fun _=>False
def Nj (N J:WP):KT
 | .normal,_=>N
 | .ret,_=>J
 |_,_=>fun _=>False
def dI:List PanicEntry->WP:=fun _ _=>False
def yq (P:Program)(n:Nat)(an:Ann)(ps:List Nat)(asg body:Code)(e:cX):VF ps.length ((WP->WP)->WP->WP->WP):=
 Gq ps.length fun vs B N J=>kV P n an dI asg (Ni B (kV P n an dI body (Nj N J))) (iw e ps vs)
def o0:Code->Bool
 | .rangeFunc .. =>true
 | .seq a b=>o0 a||o0 b
 | .block _ b=>match b with
  | .rangeFunc .. =>true
  |_=>false
 |_=>false
def P_ (P:Program)(n:Nat)(an:Ann)(rs:List ResultVar)(Kp:List PanicEntry->WP)(K:Value->WP)(g:Operand)(ps:Array Tmp)(asg body:Code)(k:List Nat->cX->WP)(ds:List Nat)(e:cX):WP:=
 match iy asg&&iy body with
 |true=>rfS P (ev n e g) ps.toList.length (yq P n an ps.toList asg body e) (fun d=>k (d::ds) e) (fun d=>fA (d::ds) (gW P n rs e [] K)) (fun d ch=>fA (d::ds) (Kp ch))
 |false=>fun _=>False
def Bt (P:Program)(n:Nat)(an:Ann)(rs:List ResultVar)(Kp:List PanicEntry->WP)(K:Value->WP):Code->(List Nat->cX->WP)->List Nat->cX->WP
 | .seq x y,k,ds,e=>match o0 x||o0 y with
  |true=>(match(match o0 x||uh x with|true=>none|false=>qo (ey y) an.cuts)with
   |none=>Bt P n an rs Kp K x (fun ds e=>Bt P n an rs Kp K y k ds e) ds e
   |some live=>Gh live.length (fun J=>kV P n an (ez ds Kp) x (sx (v9 P n rs ds K) fun e'=>jh live.length J (lT e' live)) e) fun dd vs=>Bt P n an rs Kp K y k ds (L_ e (iz x live) dd live vs))
  |false=>kV P n an (ez ds Kp) (.seq x y) (sx (v9 P n rs ds K) (k ds)) e
 | .block id b,k,ds,e=>match b with
  | .rangeFunc g ps asg body=>P_ P n an rs Kp K g ps asg body k ds e
  |b=>kV P n an (ez ds Kp) (.block id b) (sx (v9 P n rs ds K) (k ds)) e
 | .rangeFunc g ps asg body,k,ds,e=>P_ P n an rs Kp K g ps asg body k ds e
 |c,k,ds,e=>kV P n an (ez ds Kp) c (sx (v9 P n rs ds K) (k ds)) e
def zG (P:Program)(an:Ann)(fn:Func)(args:List Value)(Kp:List PanicEntry->WP)(K:Value->WP):WP:=
 match fn.body with
 |some c=>Bt P (args.length+(fn.ntmps-args.length)) an fn.results.toList Kp K c (fun ds e=>fA ds (gW P (args.length+(fn.ntmps-args.length)) fn.results.toList e [] K)) [] (qq args)
 |none=>fun _=>False
def fj (ds:List Nat):List Deferred:=ds.map fun d=>{target:= .collected d,args:=#[]}
theorem uq {fn:Func}{tmps:Array Value}{R:Ending->World->Prop}{S:WP}{u:FrameMode}(hu:u≠ .run)(hS:∀w,S w->LeavesIn Fence.wide 0 P fn tmps R [] u w):
  ∀(ds:List Nat) (w:World),fA ds S w->LeavesInM Fence.wide 0 P fn tmps R (fj ds) u w
 |[],w,h=>hS w h
 |d::ds,w,h=>⟨hu,.inl ⟨d,_,rfl,run_takeDeferred h.out.1,uq hu hS ds _ h.out.2⟩⟩
theorem tg {e:cX}:∀(ps:List Nat) (vs:List Value) (e:cX) (t:Array Value),ps.length=vs.length->t.size=n->(∀i,i<n->t[i]? =some (e i))->
  Rep n [] (iw e ps vs) {tmps:=(ps.zip vs).foldl (fun t (x:Nat × Value)=>t.setIfInBounds x.1 x.2) t,defers:=[]}
 |[],[],e,t,_,h1,h2=>⟨rfl,h1,h2⟩
 |p::ps,v::vs,e,t,h,h1,h2=>by
  simp only[List.zip_cons_cons,List.foldl_cons,iw,List.headD_cons,List.tail_cons]
  refine tg (e:=e) ps vs _ _ (by simpa using h) (by simpa using h1) fun i hi=>?_
  rw[Array.getElem?_setIfInBounds,pS]
  by_cases hp:p=i
  ·subst hp
   rw[if_pos rfl,if_pos (by omega),if_pos rfl]
  ·rw[if_neg hp,if_neg (fun c=>hp c.symm)];exact h2 i hi
theorem v_ (hm:P.follows .mixedOrders=true) (an:Ann) {rs:List ResultVar} {K:Value->WP} (g:Operand) (ps:Array Tmp) (asg body:Code) (ds:List Nat) (e:cX) (a:Act) (w:World) (Kn:Nat->WP) (Q:Exit->Act->World->Prop) (hr:Rep n (fj ds) e a) (hnd:(iy asg&&iy body)=true)
  (hn:∀d a' w',Rep n (fj (d::ds)) e a'->Kn d w'->Q .normal a' w') (hj:∀d a' w',Rep n (fj (d::ds)) e a'->fA (d::ds) (gW P n rs e [] K) w'->Q .ret a' w')
  (hp:∀d ch a' w',Rep n (fj (d::ds)) e a'->fA (d::ds) (Kp ch) w'->Q (.panic ch) a' w')
  (h:rfS P (ev n e g) ps.toList.length (yq P n an ps.toList asg body e) Kn (fun d=>fA (d::ds) (gW P n rs e [] K)) (fun d ch=>fA (d::ds) (Kp ch)) w):
  (Code.rangeFunc g ps asg body).wpIn Fence.wide 0 P Q a w:=by
 simp only[Bool.and_eq_true]at hnd
 obtain⟨f,cap,hfv,hent,h⟩:=h.out
 refine wpIn_rangeFunc fun fnid _=>?_
 obtain⟨rec,hrec⟩:∃rec:P9,rec=fun st pe=>{state:=st,pending:=pe,fn:=fnid,tmps:=a.tmps,params:=ps,assign:=asg,body,defers:=w.heap.size}:=⟨_,rfl⟩
 have hg:a.eval g= .func (.func f) #[] cap:=by rw[hr.eval];exact hfv
 have hr2:∀d,Rep n (fj (d::ds)) e {a with defers:=[{target:= .collected d,args:=#[]}]++a.defers}:=fun d=>⟨by show [({target:= .collected d,args:=#[]}:Deferred)]++a.defers=_;rw[hr.defers];rfl,hr.size,hr.at_⟩
 refine⟨w.heap.size+1,[{target:= .collected w.heap.size,args:=#[]}],(w.alloc (.deferred (some []))).alloc (.loop (rec .ready none)),{target:= .fn (.func f) cap,args:=#[.func (.yield (w.heap.size+1)) #[] #[]]},(w.alloc (.deferred (some []))).alloc (.loop (rec .ready none)),f,
  #[.func (.yield (w.heap.size+1)) #[] #[]]++cap,(w.alloc (.deferred (some []))).alloc (.loop (rec .ready none)),?_,?_,fun _ _=>trivial,?_,fun c=>by simp[Fence.wide]at c,?_⟩
 ·rw[hrec];exact run_enterLoop_outer _ _ _ _ _
 ·simp only[resolve,hg]
  simp[go_sem]
 ·simp[invoke,go_sem,hent]
 ·refine callsIn_wide.2 ((h rec ?_).mono ?_)
  ·intro vs w' R' hvs hl hrnd
   have hy:=run_yield (P:=P) (args:=vs.toArray) hl (by rw[hrec];simpa using hvs)
   rw[hrec]at hy
   refine⟨_,_,_,_,hy,roundIn_of_wpIn trivial ?_⟩
   have hrnd:kV P n an dI asg (Ni (CR (w.heap.size+1) rec) (kV P n an dI body (Nj (Gn (w.heap.size+1) rec none (R' (.returned (.bool true)))) (Gn (w.heap.size+1) rec (some .ret) (R' (.returned (.bool false))))))) (iw e ps.toList vs) w':=by
    unfold yq at hrnd
    rwa [tf _ _ _ hvs]at hrnd
   have hr3:Rep n [] (iw e ps.toList vs) {tmps:=(ps.zip vs.toArray).foldl (fun(t:Array Value) (x:Nat × Value)=>t.setIfInBounds x.1 x.2) a.tmps,defers:=[]}:=by
    have:=tg (n:=n) (e:=e) ps.toList vs e a.tmps hvs.symm hr.size hr.at_
    rw[<- Array.foldl_toList]
    simpa using this
   refine wpIn_mono (ji (R:=some (w.heap.size+1)) (D:=[]) hm an asg (.inr hnd.1) _ _ _ w' hr3 hrnd) fun ex a1 w1 hq=>?_
   cases ex with
   |normal=>
    obtain⟨e1,hr1,_,hb1,hb2⟩:=hq
    refine⟨_,by have:=run_beginRound (P:=P) hb1 (by rw[hrec]);rw[hrec]at this;exact this,?_⟩
    rw[hrec]at hb2
    refine wpIn_mono (ji (R:=some (w.heap.size+1)) (D:=[]) hm an body (.inr hnd.2) _ _ _ _ hr1 hb2) fun ex a2 w2 hq=>?_
    cases ex with
    |normal=>
     obtain⟨e2,hr2,_,hc1,hc2⟩:=hq
     exact⟨_,_,run_endRound (P:=P) none hc1,hc2⟩
    |ret=>
     obtain⟨e2,hr2,_,hc1,hc2⟩:=hq
     exact⟨_,_,run_endRound (P:=P) (some .ret) hc1,hc2⟩
    |exit id=>obtain⟨_,_,_,hk⟩:=hq;exact hk.elim
    |goto l=>obtain⟨_,_,_,hk⟩:=hq;exact hk.elim
    |panic ch=>exact hq.2.elim
    |outgrown=>exact hq.elim
   |exit id=>obtain⟨_,_,_,hk⟩:=hq;exact hk.elim
   |ret=>obtain⟨_,_,_,hk⟩:=hq;exact hk.elim
   |goto l=>obtain⟨_,_,_,hk⟩:=hq;exact hk.elim
   |panic ch=>exact hq.2.elim
   |outgrown=>exact hq.elim
  ·intro en w3 he
   cases en with
   |returned v=>
    rcases he with ⟨h1,h2⟩|⟨h1,h2⟩
    ·exact⟨none,_,by have:=run_endLoop (P:=P) h1 (by rw[hrec];simp);rw[hrec]at this;exact this,hn _ _ _ (hr2 _) (by rw[hrec]at h2;exact h2)⟩
    ·exact⟨some .ret,_,by have:=run_endLoop (P:=P) h1 (by rw[hrec];simp);rw[hrec]at this;exact this,wpIn_ret (hj _ _ _ (hr2 _) (by rw[hrec]at h2;exact h2))⟩
   |panicked ch=>exact hp _ _ _ _ (hr2 _) he
   |outgrown=>exact he.elim
theorem yr (hm:P.follows .mixedOrders=true)(an:Ann){rs:List ResultVar}{K:Value->WP}:
  ∀(c:Code) (k:List Nat->cX->WP) (Q:Exit->Act->World->Prop) (ds:List Nat) (e:cX) (a:Act) (w:World),
   (∀ds e a w,Rep n (fj ds) e a->k ds e w->Q .normal a w)->(∀ds e a w,Rep n (fj ds) e a->fA ds (gW P n rs e [] K) w->Q .ret a w)->(∀ds ch a w,a.defers=fj ds->fA ds (Kp ch) w->Q (.panic ch) a w)->
   Rep n (fj ds) e a->Bt P n an rs Kp K c k ds e w->c.wpIn Fence.wide 0 P Q a w:=by
 have leaf:∀(c:Code) (k:List Nat->cX->WP) (Q:Exit->Act->World->Prop) (ds:List Nat) (e:cX) (a:Act) (w:World),
   (∀ds e a w,Rep n (fj ds) e a->k ds e w->Q .normal a w)->(∀ds e a w,Rep n (fj ds) e a->fA ds (gW P n rs e [] K) w->Q .ret a w)->(∀ds ch a w,a.defers=fj ds->fA ds (Kp ch) w->Q (.panic ch) a w)->
   Rep n (fj ds) e a->kV P n an (ez ds Kp) c (sx (v9 P n rs ds K) (k ds)) e w->c.wpIn Fence.wide 0 P Q a w:=by
  intro c k Q ds e a w hN hR hP hr h
  refine wpIn_mono (ji (R:=none) hm an c (.inl rfl) _ e a w hr h) fun ex a w hq=>?_
  cases ex with
  |normal=>obtain⟨e',hr',_,hk⟩:=hq;exact hN _ _ _ _ hr' hk
  |ret=>obtain⟨e',hr',_,hk⟩:=hq;exact hR _ _ _ _ hr' hk
  |panic ch=>exact hP _ _ _ _ hq.1.defers hq.2
  |exit id=>obtain⟨_,_,_,hk⟩:=hq;exact hk.elim
  |goto l=>obtain⟨_,_,_,hk⟩:=hq;exact hk.elim
  |outgrown=>exact hq.elim
 have range:∀(g:Operand) (ps:Array Tmp) (asg body:Code) (k:List Nat->cX->WP) (Q:Exit->Act->World->Prop) (ds:List Nat) (e:cX) (a:Act) (w:World),
   (∀ds e a w,Rep n (fj ds) e a->k ds e w->Q .normal a w)->(∀ds e a w,Rep n (fj ds) e a->fA ds (gW P n rs e [] K) w->Q .ret a w)->(∀ds ch a w,a.defers=fj ds->fA ds (Kp ch) w->Q (.panic ch) a w)->
   Rep n (fj ds) e a->P_ P n an rs Kp K g ps asg body k ds e w->(Code.rangeFunc g ps asg body).wpIn Fence.wide 0 P Q a w:=by
  intro g ps asg body k Q ds e a w hN hR hP hr h
  unfold P_ at h
  cases hnd:(iy asg&&iy body)with
  |false=>rw[hnd]at h;exact h.elim
  |true=>
   rw[hnd]at h
   exact v_ hm an g ps asg body ds e a w _ Q hr hnd (fun d a' w' hr' hk=>hN _ _ _ _ hr' hk) (fun d a' w' hr' hk=>hR _ _ _ _ hr' hk) (fun d ch a' w' hr' hk=>hP _ _ _ _ hr'.defers hk) h
 intro c
 induction c with
 |seq x y ihx ihy=>
  intro k Q ds e a w hN hR hP hr h
  simp only[Bt]at h
  cases hrf:(o0 x||o0 y)with
  |false=>rw[hrf]at h;exact leaf _ k Q ds e a w hN hR hP hr h
  |true=>
   rw[hrf]at h
   simp only at h
   generalize hlk:(match(o0 x||uh x)with|true=>none|false=>qo (ey y) an.cuts:Option (List Nat))=lk at h
   cases lk with
   |none=>
    refine wpIn_seq (ihx _ _ ds e a w (fun ds e a w hr hk=>?_) (fun ds e a w hr hk=>hR _ _ _ _ hr hk) (fun ds ch a w hd hk=>hP _ _ _ _ hd hk) hr h)
    exact ihy k Q ds e a w hN hR hP hr hk
   |some live=>
    obtain⟨J,h1,h2⟩:=uk h
    refine wpIn_seq (wpIn_mono (ji (R:=none) hm an x (.inl rfl) _ e a w hr h2) fun ex a' w' hq=>?_)
    cases ex with
    |normal=>
     obtain⟨e',hr',ha,hk⟩:=hq
     have:=h1 e' live (iz x live) rfl w' hk
     rw[ig ha kX]at this
     exact ihy k Q ds e' a' w' hN hR hP hr' this
    |ret=>obtain⟨e',hr',_,hk⟩:=hq;exact hR _ _ _ _ hr' hk
    |panic ch=>exact hP _ _ _ _ hq.1.defers hq.2
    |exit id=>obtain⟨_,_,_,hk⟩:=hq;exact hk.elim
    |goto l=>obtain⟨_,_,_,hk⟩:=hq;exact hk.elim
    |outgrown=>exact hq.elim
 |block id b ih=>
  intro k Q ds e a w hN hR hP hr h
  cases b with
  |rangeFunc g ps asg body=>
   exact wpIn_block (range g ps asg body k (Exit.inBlock id Q) ds e a w (fun ds e a w hr hk=>hN _ _ _ _ hr hk) (fun ds e a w hr hk=>hR _ _ _ _ hr hk) (fun ds ch a w hd hk=>hP _ _ _ _ hd hk) hr h)
  |skip=>exact leaf _ k Q ds e a w hN hR hP hr h
  |region id ops draw=>exact leaf _ k Q ds e a w hN hR hP hr h
  |seq x1 x2=>exact leaf _ k Q ds e a w hN hR hP hr h
  |cond c x1 x2=>exact leaf _ k Q ds e a w hN hR hP hr h
  |block id b=>exact leaf _ k Q ds e a w hN hR hP hr h
  |loop b=>exact leaf _ k Q ds e a w hN hR hP hr h
  |exit id=>exact leaf _ k Q ds e a w hN hR hP hr h
  |scope b=>exact leaf _ k Q ds e a w hN hR hP hr h
  |label l=>exact leaf _ k Q ds e a w hN hR hP hr h
  |goto l=>exact leaf _ k Q ds e a w hN hR hP hr h
  |ret=>exact leaf _ k Q ds e a w hN hR hP hr h
  |refuse s=>exact leaf _ k Q ds e a w hN hR hP hr h
 |rangeFunc g ps asg body=>exact fun k Q ds e a w hN hR hP hr h=>range g ps asg body k Q ds e a w hN hR hP hr h
 |skip=>exact fun k Q ds e a w hN hR hP hr h=>leaf _ k Q ds e a w hN hR hP hr h
 |region id ops draw=>exact fun k Q ds e a w hN hR hP hr h=>leaf _ k Q ds e a w hN hR hP hr h
 |cond c x y _ _=>exact fun k Q ds e a w hN hR hP hr h=>leaf _ k Q ds e a w hN hR hP hr h
 |loop b _=>exact fun k Q ds e a w hN hR hP hr h=>leaf _ k Q ds e a w hN hR hP hr h
 |exit id=>exact fun k Q ds e a w hN hR hP hr h=>leaf _ k Q ds e a w hN hR hP hr h
 |scope b _=>exact fun k Q ds e a w hN hR hP hr h=>leaf _ k Q ds e a w hN hR hP hr h
 |label l=>exact fun k Q ds e a w hN hR hP hr h=>leaf _ k Q ds e a w hN hR hP hr h
 |goto l=>exact fun k Q ds e a w hN hR hP hr h=>leaf _ k Q ds e a w hN hR hP hr h
 |ret=>exact fun k Q ds e a w hN hR hP hr h=>leaf _ k Q ds e a w hN hR hP hr h
 |refuse s=>exact fun k Q ds e a w hN hR hP hr h=>leaf _ k Q ds e a w hN hR hP hr h
theorem sE (hm:P.follows .mixedOrders=true){f:FuncId}{fn:Func}(hf:P.funcs[f]? =some fn){an:Ann}{args:List Value}{K:Value->WP}{w:World}(h:zG P an fn args Kp K w):
  Calls P f args.toArray w fun
   | .returned v,w'=>K v w'
   | .panicked ch,w'=>Kp ch w'
   | .outgrown,_=>False:=by
 unfold zG at h
 cases hb:fn.body with
 |none=>rw[hb]at h;exact h.elim
 |some c=>
  rw[hb]at h
  refine(callsIn_wide (n:=0)).1 (callsIn_of_wp_marks hf hb trivial ?_ rfl)
  have hr:Rep (args.length+(fn.ntmps-args.length)) (fj []) (qq args) {tmps:=args.toArray++Array.replicate (fn.ntmps-args.toArray.size) undef,defers:=[]}:=by
   refine⟨rfl,by simp,fun i hi=>?_⟩
   rw[mC,List.getD_eq_getElem?_getD,Array.getElem?_append]
   by_cases hl:i<args.length
   ·simp[hl]
   ·rw[if_neg (by simpa using hl),Array.getElem?_eq_getElem (by simp;omega)]
    simp only[List.getElem?_eq_none (Nat.le_of_not_lt hl),Array.getElem_replicate,Option.getD_none]
  have ret0:∀(ds:List Nat) (e:cX) (a:Act) (w:World),Rep (args.length+(fn.ntmps-args.length)) (fj ds) e a->fA ds (gW P (args.length+(fn.ntmps-args.length)) fn.results.toList e [] K) w->LeavesInM Fence.wide 0 P fn a.tmps (fun
   | .returned v,w'=>K v w'
   | .panicked ch,w'=>Kp ch w'
   | .outgrown,_=>False) a.defers .returning w:=by
   intro ds e a w hr h
   rw[hr.defers]
   refine uq (by simp) (fun w' hw'=>?_) ds w h
   obtain⟨v,h1,h2⟩:=dP hr hw'
   exact⟨v,h1,h2⟩
  refine yr hm an c _ _ [] _ _ w ret0 ret0 (fun ds ch a w hd h=>?_) hr h
  show LeavesInM Fence.wide 0 P fn a.tmps _ a.defers (.panicking ch) w
  rw[hd]
  exact uq (fn:=fn) (tmps:=a.tmps) (R:=fun
   | .returned v,w'=>K v w'
   | .panicked ch,w'=>Kp ch w'
   | .outgrown,_=>False) (u:= .panicking ch) (S:=Kp ch) (by simp) (fun w' hw'=>hw') ds w h
end Sh
namespace Sh
open Go
abbrev PK:=List PanicEntry->WP
def sv (s:Sem Value):Sem Next:=do pure (.value (<- s))
@[irreducible] def iV (c a b:Value):Sem Next:=execOp (fun| .tmp 0=>c| .tmp 1=>a|_=>b) {dst:=none,op:= .pick (.tmp 0) (.tmp 1) (.tmp 2),type:=0,pos:= "",after:=#[],guard:=none}
@[irreducible] def ck (t:TypeId):Sem Next:=do pure (.value (<- Instr.alloc t true (.tuple #[])))
@[irreducible] def j7 (t:TypeId)(v:Value):Sem Next:=do pure (.value (<- Instr.box t v))
@[irreducible] def aM (t:TypeId)(ps:List (Nat × Value)):Sem Next:=do pure (.value (<- Instr.build t ps.toArray))
@[irreducible] def cm (t:TypeId)(n:Nat)(ps:List (Nat × Value)):Sem Next:=do pure (.value (<- Instr.buildSlice t n ps.toArray))
@[irreducible] def aI (t:TypeId)(x:Value):Sem Next:=do pure (.value (<- Instr.loadAt t x))
@[irreducible] def aJ (t:TypeId)(x v:Value):Sem Next:=do Instr.storeAt t x v;pure .skip
@[irreducible] def j8 (x:Value):Sem Next:=execOp (fun _=>x) {dst:=none,op:= .nilCheck (.tmp 0),type:=0,pos:= "",after:=#[],guard:=none}
@[irreducible] def aY (op:BinOp)(t:TypeId)(x y:Value):Sem Next:=sv (do eqGuard op t (.tmp 0) (.tmp 0) x y;binOp op t x y)
@[irreducible] def kj (op:BinOp)(t:TypeId)(ox oy:Operand)(x y:Value):Sem Next:=sv (do eqGuard op t ox oy x y;binOp op t x y)
@[irreducible] def Bu (op:UnOp)(x:Value):Sem Next:=do pure (.value (<- Op.unary op x))
@[irreducible] def fR (s t:TypeId)(x:Value):Sem Next:=do pure (.value (<- convert s t x))
@[irreducible] def ly (t:TypeId)(x:Value)(l h m:Option Value):Sem Next:=do pure (.value (<- Instr.sliceAt t x l h m))
@[irreducible] def jf (t:TypeId)(x:Value)(f:Nat):Sem Next:=do pure (.value (<- Instr.fieldAt t x f))
@[irreducible] def Rr (t:TypeId)(x:Value)(f:Nat):Sem Next:=do pure (.value (<- Instr.field t x f))
@[irreducible] def iR (t:TypeId)(x i:Value):Sem Next:=do pure (.value (<- Instr.indexAt t x i))
@[irreducible] def nQ (t:TypeId)(x i:Value):Sem Next:=do pure (.value (<- Instr.index t x i))
@[irreducible] def o7 (t:TypeId)(x i:Value)(ok:Bool):Sem Next:=do pure (.value (<- Instr.lookup t x i ok))
@[irreducible] def iW (t:TypeId)(m k v:Value):Sem Next:=do Instr.mapUpdate t m k v;pure .skip
@[irreducible] def jB (t:TypeId)(m k:Value):Sem Next:=do pure (.value (<- Instr.mapEntry t m k))
@[irreducible] def qs (t:TypeId)(m s v:Value):Sem Next:=do Instr.entryStore t m s v;pure .skip
@[irreducible] def JL (t:TypeId)(x:Value):Sem Next:=do pure (.value (<- Instr.range t x))
@[irreducible] def Nk (it:Value)(str:Bool)(t:TypeId):Sem Next:=do pure (.value (<- Instr.next it str t))
@[irreducible] def JM (it:Value):Sem Next:=do pure (.value (<- Instr.entry it))
@[irreducible] def Nl (x:Value)(t a:TypeId)(ok:Bool):Sem Next:=do pure (.value (<- Instr.typeAssert x t a ok))
@[irreducible] def l7 (x:Value)(i:Nat):Sem Next:=do pure (.value (<- Instr.extract x i))
@[irreducible] def yt (t:TypeId)(x:Value):Sem Next:=do pure (.value (<- Instr.makeInterface t x))
@[irreducible] def ur (f:Fn)(a b:List Value):Sem Next:=do pure (.value (<- Instr.makeFunc f a.toArray b.toArray))
@[irreducible] def qt (t:TypeId)(r:Option Value):Sem Next:=do pure (.value (<- Instr.makeMap t r))
@[irreducible] def o8 (t:TypeId)(l c:Value):Sem Next:=do pure (.value (<- Instr.makeSlice t l c))
@[irreducible] def CS (t:TypeId)(x:Value):Sem Next:=do pure (.value (<- Instr.arrayAt t x))
@[irreducible] def qv (x:Value):Sem Next:=do pure (.value (<- Instr.panic x))
@[irreducible] def iS (ts:Array TypeId)(t:TypeId)(a:List Value):Sem Next:=do pure (.value (<- Builtin.append_ ts t a.toArray))
@[irreducible] def ii (ts:Array TypeId)(t:TypeId)(a:List Value):Sem Next:=do pure (.value (<- Builtin.len_ ts t a.toArray))
@[irreducible] def wb (ts:Array TypeId)(t:TypeId)(a:List Value):Sem Next:=do pure (.value (<- Builtin.cap_ ts t a.toArray))
@[irreducible] def CT (ts:Array TypeId)(t:TypeId)(a:List Value):Sem Next:=do pure (.value (<- Builtin.copy_ ts t a.toArray))
@[irreducible] def Rs (ts:Array TypeId)(t:TypeId)(a:List Value):Sem Next:=do pure (.value (<- Builtin.delete_ ts t a.toArray))
@[irreducible] def JN (ts:Array TypeId)(t:TypeId)(a:List Value):Sem Next:=do pure (.value (<- Builtin.min_ ts t a.toArray))
@[irreducible] def JO (ts:Array TypeId)(t:TypeId)(a:List Value):Sem Next:=do pure (.value (<- Builtin.max_ ts t a.toArray))
@[irreducible] def JP (ts:Array TypeId)(t:TypeId)(a:List Value):Sem Next:=do pure (.value (<- Builtin.clear_ ts t a.toArray))
@[irreducible] def bN (f:Value)(a:List Value):Sem Next:=do
 let d <- Deferred.ofValue f a.toArray
 invoke d.target d.args
@[irreducible] def Rt (r:Value)(nm:String)(a:List Value):Sem Next:=invoke (.fn (.method nm) #[]) (#[r]++a.toArray)
def fn (f:FuncId):Value:= .func (.func f) #[] #[]
def after (Kp:PK)(K:Value->WP):Ending->World->Prop
 | .returned v,w=>K v w
 | .panicked ch,w=>Kp ch w
 | .outgrown,_=>False
theorem iC {P:Program} {f:FuncId} {args:Array Value} {w:World} {Kp:PK} {K:Value->WP} (h:Calls P f args w fun
   | .returned v,w'=>K v w'
   | .panicked ch,w'=>Kp ch w'
   | .outgrown,_=>False):Calls P f args w (after Kp K):=h.mono fun e w' h=>by cases e <;> exact h
@[irreducible] def dG (t:TypeId)(x:Value):Sem Next:=do pure (.value (<- do loadVar t (<- asAddr x)))
def yu (body:(WP)->WP)(rest:List Value->WP)(w:World):Prop:=
 ∃J:WP,(∀(ds:List Value) (w':World),J w'->rest ds w')/\body J w
def zH (body:(Nat->WP)->Nat->List Value->WP)(w:World):Prop:=
 ∃I:Nat->WP,(∃m,I m w)/\∀(m:Nat) (ds:List Value) (w':World),I m w'->body I m ds w'
def zI (I:Nat->WP)(m:Nat)(w:World):Prop:=∃m',m'<m/\I m' w
def uu (body:(Value->WP)->WP)(rest:List Value->Value->WP)(w:World):Prop:=
 ∃J:Value->WP,(∀(ds:List Value) (x0:Value) (w':World),J x0 w'->rest ds x0 w')/\body J w
def o9 (body:(Nat->Value->WP)->Nat->List Value->Value->WP)(x0:Value)(w:World):Prop:=
 ∃I:Nat->Value->WP,(∃m,I m x0 w)/\∀(m:Nat) (ds:List Value) (y0:Value) (w':World),I m y0 w'->body I m ds y0 w'
def iD (I:Nat->Value->WP)(m:Nat)(x0:Value)(w:World):Prop:=∃m',m'<m/\I m' x0 w
def sG (body:(Value->Value->WP)->WP)(rest:List Value->Value->Value->WP)(w:World):Prop:=
 ∃J:Value->Value->WP,(∀(ds:List Value) (x0 x1:Value) (w':World),J x0 x1 w'->rest ds x0 x1 w')/\body J w
def th (body:(Nat->Value->Value->WP)->Nat->List Value->Value->Value->WP)(x0 x1:Value)(w:World):Prop:=
 ∃I:Nat->Value->Value->WP,(∃m,I m x0 x1 w)/\∀(m:Nat) (ds:List Value) (y0 y1:Value) (w':World),I m y0 y1 w'->body I m ds y0 y1 w'
def qw (I:Nat->Value->Value->WP)(m:Nat)(x0 x1:Value)(w:World):Prop:=∃m',m'<m/\I m' x0 x1 w
def JQ (body:(Value->Value->Value->WP)->WP)(rest:List Value->Value->Value->Value->WP)(w:World):Prop:=
 ∃J:Value->Value->Value->WP,(∀(ds:List Value) (x0 x1 x2:Value) (w':World),J x0 x1 x2 w'->rest ds x0 x1 x2 w')/\body J w
def CU (body:(Nat->Value->Value->Value->WP)->Nat->List Value->Value->Value->Value->WP)(x0 x1 x2:Value)(w:World):Prop:=
 ∃I:Nat->Value->Value->Value->WP,(∃m,I m x0 x1 x2 w)/\∀(m:Nat) (ds:List Value) (y0 y1 y2:Value) (w':World),I m y0 y1 y2 w'->body I m ds y0 y1 y2 w'
def zJ (I:Nat->Value->Value->Value->WP)(m:Nat)(x0 x1 x2:Value)(w:World):Prop:=∃m',m'<m/\I m' x0 x1 x2 w
def JR (body:(Value->Value->Value->Value->WP)->WP)(rest:List Value->Value->Value->Value->Value->WP)(w:World):Prop:=
 ∃J:Value->Value->Value->Value->WP,(∀(ds:List Value) (x0 x1 x2 x3:Value) (w':World),J x0 x1 x2 x3 w'->rest ds x0 x1 x2 x3 w')/\body J w
def IE (body:(Nat->Value->Value->Value->Value->WP)->Nat->List Value->Value->Value->Value->Value->WP)(x0 x1 x2 x3:Value)(w:World):Prop:=
 ∃I:Nat->Value->Value->Value->Value->WP,(∃m,I m x0 x1 x2 x3 w)/\∀(m:Nat) (ds:List Value) (y0 y1 y2 y3:Value) (w':World),I m y0 y1 y2 y3 w'->body I m ds y0 y1 y2 y3 w'
def IG (I:Nat->Value->Value->Value->Value->WP)(m:Nat)(x0 x1 x2 x3:Value)(w:World):Prop:=∃m',m'<m/\I m' x0 x1 x2 x3 w
end Sh
namespace Sl
open Go Go.RowKit Sh
abbrev jC:=Nat->Option Obj
abbrev HP:=World->jC->Prop
def pt (g:Nat)(o:Obj):HP:=fun _ h=>h g=some o
def pu (φ:Prop):HP:=fun _ _=>φ
def ex {α:Type}(A:α->HP):HP:=fun W h=>∃x,A x W h
def i_ (A B:HP):HP:=fun W h=>∃h1 h2:jC,A W h1/\B W h2/\(∀i,h1 i=none\/h2 i=none)/\(∀i o,h1 i=some o->h i=some o)/\(∀i o,h2 i=some o->h i=some o)
def all:List HP->HP
 |[]=>fun _ _=>True
 |A::l=>i_ A (all l)
structure sat (W:World)(L:List HP)(w:World):Prop where
 base:Below W.heap.size W w
 heap:∃h:jC,all L W h/\∀i o,h i=some o->W.heap.size<=i/\w.heap[i]? =some o
theorem jj {A B C:HP}{W:World}{h:jC}(H:i_ A (i_ B C) W h):i_ B (i_ A C) W h:=by
 obtain⟨h1,h2,ha,⟨h21,h22,hb,hc,d2,s21,s22⟩,d1,s1,s2⟩:=H
 refine⟨h21,fun i=>match h1 i with|some o=>some o|none=>h22 i,hb,⟨h1,h22,ha,hc,?_,?_,?_⟩,?_,?_,?_⟩
 ·intro i
  rcases d1 i with h|h
  ·exact .inl h
  ·right
   cases h':h22 i with
   |none=>rfl
   |some o=>rw[s22 i o h']at h;cases h
 ·intro i o hi;simp only[hi]
 ·intro i o hi
  have:h1 i=none:=by
   rcases d1 i with h|h
   ·exact h
   ·rw[s22 i o hi]at h;cases h
  simp only[this,hi]
 ·intro i
  cases h21i:h21 i with
  |none=>exact .inl rfl
  |some o=>
   right
   have h1i:h1 i=none:=by
    rcases d1 i with h|h
    ·exact h
    ·rw[s21 i o h21i]at h;cases h
   have h22i:h22 i=none:=by
    rcases d2 i with h|h
    ·rw[h21i]at h;cases h
    ·exact h
   simp only[h1i,h22i]
 ·intro i o hi;exact s2 i o (s21 i o hi)
 ·intro i o hi
  cases h1i:h1 i with
  |some o'=>simp only[h1i]at hi;rw[<- hi];exact s1 i o' h1i
  |none=>simp only[h1i]at hi;exact s2 i o (s22 i o hi)
theorem eA {A B B':HP}{W:World}{h:jC}(f:∀h,B W h->B' W h)(H:i_ A B W h):i_ A B' W h:=by
 obtain⟨h1,h2,ha,hb,r⟩:=H
 exact⟨h1,h2,ha,f h2 hb,r⟩
inductive Pick:List HP->HP->List HP->Prop
 |here {A:HP} {l:List HP}:Pick (A::l) A l
 |there {A B:HP} {l l':List HP} (h:Pick l A l'):Pick (B::l) A (B::l')
theorem Pick.all {L L':List HP}{A:HP}(p:Pick L A L'):∀ {W:World} {h:jC},all L W h->all (A::L') W h:=by
 induction p with
 |here=>intro W h H;exact H
 |there p ih=>intro W h H;exact jj (eA (fun h=>ih) H)
theorem Pick.back {L L':List HP}{A:HP}(p:Pick L A L'):∀ {W:World} {h:jC},Sl.all (A::L') W h->Sl.all L W h:=by
 induction p with
 |here=>intro W h H;exact H
 |there p ih=>intro W h H;exact eA (fun h=>ih) (jj H)
theorem sat.map {W:World}{L M:List HP}{w:World}(f:∀h,all L W h->all M W h)(H:sat W L w):sat W M w:=
 ⟨H.base,let ⟨h,a,b⟩:=H.heap;⟨h,f h a,b⟩⟩
theorem sat.pick {W:World}{L L':List HP}{A:HP}{w:World}(p:Pick L A L')(H:sat W L w):sat W (A::L') w:=H.map fun _=>p.all
theorem sat.back {W:World}{L L':List HP}{A:HP}{w:World}(p:Pick L A L')(H:sat W (A::L') w):sat W L w:=H.map fun _=>p.back
theorem wd {A:HP}{l:List HP}{W:World}{h:jC}(H:all (A::l) W h):∃h',all l W h'/\∀i o,h' i=some o->h i=some o:=by
 obtain⟨h1,h2,_,hb,_,_,s2⟩:=H
 exact⟨h2,hb,s2⟩
theorem sat.drop {W:World}{L:List HP}{A:HP}{w:World}(H:sat W (A::L) w):sat W L w:=by
 obtain⟨h,a,b⟩:=H.heap
 obtain⟨h',a',s⟩:=wd a
 exact⟨H.base,h',a',fun i o hi=>b i o (s i o hi)⟩
inductive Imp (W:World):List HP->List HP->Prop
 |refl {F:List HP}:Imp W F F
 |nil {F:List HP}:Imp W F []
 |drop {A:HP} {L M:List HP} (h:Imp W L M):Imp W (A::L) M
 |pick {A:HP} {L L' M:List HP} (p:Pick L A L') (h:Imp W L' M):Imp W L (A::M)
 |ex {α:Type} {A:α->HP} {L M:List HP} (x:α) (h:Imp W L (A x::M)):Imp W L (ex A::M)
 |pu {φ:Prop} {L M:List HP} (hp:φ) (h:Imp W L M):Imp W L (pu φ::M)
 |all {L N M:List HP} (h:Imp W L (N++M)):Imp W L (Sl.all N::M)
 |conv {A B:HP} {L M:List HP} (e:∀h,B W h->A W h) (h:Imp W L (B::M)):Imp W L (A::M)
 |convL {A B:HP} {L L' M:List HP} (p:Pick L A L') (e:∀h,A W h->B W h) (h:Imp W (B::L') M):Imp W L M
theorem zK {φ:Prop}{B:HP}{W:World}{h:jC}(hp:φ)(H:B W h):i_ (pu φ) B W h:=
 ⟨fun _=>none,h,hp,H,fun _=> .inl rfl,fun _ _ c=>(by cases c),fun _ _ c=>c⟩
theorem Gr {α:Type}{A:α->HP}{B:HP}{W:World}{h:jC}(x:α)(H:i_ (A x) B W h):i_ (ex A) B W h:=by
 obtain⟨h1,h2,ha,r⟩:=H
 exact⟨h1,h2,⟨x,ha⟩,r⟩
theorem pf {A B C:HP}{W:World}{h:jC}(H:i_ A (i_ B C) W h):i_ (i_ A B) C W h:=by
 obtain⟨h1,h2,ha,⟨h21,h22,hb,hc,d2,s21,s22⟩,d1,s1,s2⟩:=jj H
 -- h1: B, h21: A, h22: C
 refine⟨fun i=>match h1 i with|some o=>some o|none=>h21 i,h22,⟨h21,h1,hb,ha,?_,?_,?_⟩,hc,?_,?_,?_⟩
 ·intro i
  rcases d1 i with h|h
  ·exact .inr h
  ·left
   cases h':h21 i with
   |none=>rfl
   |some o=>rw[s21 i o h']at h;cases h
 ·intro i o hi
  have:h1 i=none:=by
   rcases d1 i with h|h
   ·exact h
   ·rw[s21 i o hi]at h;cases h
  simp only[this,hi]
 ·intro i o hi;simp only[hi]
 ·intro i
  cases h22i:h22 i with
  |none=>exact .inr rfl
  |some o=>
   left
   have h1i:h1 i=none:=by
    rcases d1 i with h|h
    ·exact h
    ·rw[s22 i o h22i]at h;cases h
   have h21i:h21 i=none:=by
    rcases d2 i with h|h
    ·exact h
    ·rw[h22i]at h;cases h
   simp only[h1i,h21i]
 ·intro i o hi
  cases h1i:h1 i with
  |some o'=>simp only[h1i]at hi;rw[<- hi];exact s1 i o' h1i
  |none=>simp only[h1i]at hi;exact s2 i o (s21 i o hi)
 ·intro i o hi;exact s2 i o (s22 i o hi)
theorem all_append {N M:List HP}{W:World}:∀ {h:jC},all (N++M) W h->i_ (all N) (all M) W h:=by
 induction N with
 |nil=>intro h H;exact⟨fun _=>none,h,trivial,H,fun _=> .inl rfl,fun _ _ c=>(by cases c),fun _ _ c=>c⟩
 |cons A N ih=>intro h H;exact pf (eA (fun h=>ih) H)
theorem cy {N M:List HP}{W:World}:∀ {h:jC},i_ (all N) (all M) W h->all (N++M) W h:=by
 induction N with
 |nil=>
  intro h H
  -- the left part is nothing: grow the right one
  obtain⟨h1,h2,_,hb,_,_,s2⟩:=H
  revert hb s2
  induction M generalizing h h2 with
  |nil=>intro _ _;trivial
  |cons B M ih=>
   intro hb s2
   obtain⟨k1,k2,b1,b2,d,t1,t2⟩:=hb
   exact⟨k1,k2,b1,b2,d,fun i o c=>s2 i o (t1 i o c),fun i o c=>s2 i o (t2 i o c)⟩
 |cons A N ih=>
  intro h H
  have e:i_ A (i_ (all N) (all M)) W h:=by
   obtain⟨h1,h2,⟨k1,k2,ha,hn,dk,t1,t2⟩,hm,d,s1,s2⟩:=H
   refine⟨k1,fun i=>match k2 i with|some o=>some o|none=>h2 i,ha,⟨k2,h2,hn,hm,?_,?_,?_⟩,?_,?_,?_⟩
   ·intro i
    rcases d i with c|c
    ·left
     cases c':k2 i with
     |none=>rfl
     |some o=>rw[t2 i o c']at c;cases c
    ·exact .inr c
   ·intro i o c;simp only[c]
   ·intro i o c
    have:k2 i=none:=by
     rcases d i with c'|c'
     ·cases c'':k2 i with
      |none=>rfl
      |some o=>rw[t2 i o c'']at c';cases c'
     ·rw[c]at c';cases c'
    simp only[this,c]
   ·intro i
    cases c:k1 i with
    |none=>exact .inl rfl
    |some o=>
     right
     have c2:k2 i=none:=by
      rcases dk i with c'|c'
      ·rw[c]at c';cases c'
      ·exact c'
     have c3:h2 i=none:=by
      rcases d i with c'|c'
      ·rw[t1 i o c]at c';cases c'
      ·exact c'
     simp only[c2,c3]
   ·intro i o c;exact s1 i o (t1 i o c)
   ·intro i o c
    cases c2:k2 i with
    |some o'=>simp only[c2]at c;rw[<- c];exact s1 i o' (t2 i o' c2)
    |none=>simp only[c2]at c;exact s2 i o c
  exact eA (fun h=>ih) e
theorem JS:∀ {L:List HP} {W:World} {h h':jC},all L W h->(∀i o,h i=some o->h' i=some o)->all L W h'
 |[],_,_,_,_,_=>trivial
 |_::_,_,_,_,⟨h1,h2,ha,hb,d,s1,s2⟩,s=>⟨h1,h2,ha,hb,d,fun i o c=>s i o (s1 i o c),fun i o c=>s i o (s2 i o c)⟩
theorem Imp.all' {W:World}{L M:List HP}(H:Imp W L M):∀h,Sl.all L W h->Sl.all M W h:=by
 induction H with
 |refl=>exact fun _ h=>h
 |nil=>exact fun _ _=>trivial
 |drop _ ih=>
  intro h H
  obtain⟨h',a,s⟩:=wd H
  exact JS (ih h' a) s
 |pick p _ ih=>exact fun h H=>eA ih (p.all H)
 |ex x _ ih=>exact fun h H=>Gr x (ih h H)
 |pu hp _ ih=>exact fun h H=>zK hp (ih h H)
 |all _ ih=>exact fun h H=>all_append (ih h H)
 |conv e _ ih=>exact fun h H=>(by obtain⟨h1,h2,ha,r⟩:=ih h H;exact⟨h1,h2,e h1 ha,r⟩)
 |convL p e _ ih=>exact fun h H=>ih h (by obtain⟨h1,h2,ha,r⟩:=p.all H;exact⟨h1,h2,e h1 ha,r⟩)
theorem Imp.sat {W:World}{L M:List HP}(H:Imp W L M){w:World}(h:Sl.sat W L w):Sl.sat W M w:=h.map H.all'

theorem sat.start (W:World):sat W [] W:=⟨Below.refl _ _,fun _=>none,trivial,fun _ _ c=>by cases c⟩
theorem sat.keep {W:World}{L:List HP}{w w':World}(H:sat W L w)(hb:Below w.heap.size w w'):sat W L w':=by
 obtain⟨h,a,b⟩:=H.heap
 refine⟨H.base.trans (hb.mono H.base.size),h,a,fun i o hi=>?_⟩
 obtain⟨b1,b2⟩:=b i o hi
 have hlt:i<w.heap.size:=by
  rcases Nat.lt_or_ge i w.heap.size with c|c
  ·exact c
  ·rw[Array.getElem?_eq_none c]at b2;cases b2
 exact⟨b1,(hb.block i hlt).trans b2⟩
theorem sat.drew {W:World}{L:List HP}{w:World}(H:sat W L w):sat W L w.drew:=H.keep (Below.refl _ _).drew
theorem sat.pt_ {W:World}{L:List HP}{w:World}{g:Nat}{o:Obj}(H:sat W (pt g o::L) w):w.heap[g]? =some o/\W.heap.size<=g:=by
 obtain⟨h,⟨h1,h2,ha,_,_,s1,_⟩,b⟩:=H.heap
 have:=b g o (s1 g o ha)
 exact⟨this.2,this.1⟩
theorem sat.fst {W:World}{L:List HP}{A:HP}{w:World}(H:sat W (A::L) w):∃h,A W h/\∀i o,h i=some o->W.heap.size<=i/\w.heap[i]? =some o:=by
 obtain⟨h,⟨h1,h2,ha,_,_,s1,_⟩,b⟩:=H.heap
 exact⟨h1,ha,fun i o c=>b i o (s1 i o c)⟩
theorem sat.change {W:World} {L:List HP} {A:HP} {w w':World} (H:sat W (A::L) w) (hos:w'.os=w.os) (htape:w'.tape=w.tape) (hout:w'.output=w.output) (hsz:w.heap.size<=w'.heap.size)
  {B:HP} (hB:∀h,A W h->(∀i o,h i=some o->W.heap.size<=i/\w.heap[i]? =some o)->∃h':jC,B W h'/\(∀i o,h' i=some o->W.heap.size<=i/\w'.heap[i]? =some o)/\(∀i,h' i≠none->h i≠none\/w.heap.size<=i)/\
   (∀i,i<w.heap.size->h i=none->w'.heap[i]? =w.heap[i]?)/\(∀i,h i≠none->W.heap.size<=i)):sat W (B::L) w':=by
 obtain⟨h,⟨h1,h2,ha,hl,d,s1,s2⟩,b⟩:=H.heap
 obtain⟨h',hb,b',n',k',q'⟩:=hB h1 ha (fun i o c=>b i o (s1 i o c))
 have lt2:∀i o,h2 i=some o->i<w.heap.size:=fun i o c=>by
  rcases Nat.lt_or_ge i w.heap.size with e|e
  ·exact e
  ·have:=(b i o (s2 i o c)).2;rw[Array.getElem?_eq_none e]at this;cases this
 have dj:∀i,h' i=none\/h2 i=none:=fun i=>by
  cases c:h2 i with
  |none=>exact .inr rfl
  |some o=>
   left
   cases c':h' i with
   |none=>rfl
   |some o'=>
    rcases n' i (by rw[c'];simp)with e|e
    ·rcases d i with e'|e'
     ·exact absurd e' e
     ·rw[c]at e';cases e'
    ·exact absurd (lt2 i o c) (by omega)
 refine⟨H.base.trans ⟨hos,htape,hout,hsz,fun k hk=>?_⟩,fun i=>match h' i with|some o=>some o|none=>h2 i,⟨h',h2,hb,hl,dj,?_,?_⟩,?_⟩
 ·refine k' k (Nat.lt_of_lt_of_le hk H.base.size) ?_
  cases c:h1 k with
  |none=>rfl
  |some o=>exact absurd (q' k (by rw[c];simp)) (by omega)
 ·intro i o c;simp only[c]
 ·intro i o c
  have:h' i=none:=by
   rcases dj i with e|e
   ·exact e
   ·rw[c]at e;cases e
  simp only[this,c]
 ·intro i o c
  cases c1:h' i with
  |some o'=>simp only[c1]at c;rw[<- c];exact b' i o' c1
  |none=>
   simp only[c1]at c
   obtain⟨e1,e2⟩:=b i o (s2 i o c)
   refine⟨e1,?_⟩
   rw[k' i (lt2 i o c) ?_]
   ·exact e2
   ·rcases d i with e|e
    ·exact e
    ·rw[c]at e;cases e
theorem sat.alloc {W:World}{L:List HP}{w:World}(H:sat W L w)(o:Obj):sat W (pt w.heap.size o::L) (w.alloc o):=by
 have H':sat W (pu True::L) w:=H.map fun _=>zK trivial
 refine H'.change (w':=w.alloc o) rfl rfl rfl (by simp) fun h _ hh=>⟨fun i=>if i=w.heap.size then some o else none,by simp[pt],fun i o' c=>?_,fun i c=>?_,fun i hi _=>Below.heap_alloc w o i hi,fun i c=>?_⟩
 ·by_cases e:i=w.heap.size
  ·subst e;simp at c;subst c;exact⟨H.base.size,Array.getElem?_push_size⟩
  ·simp[e]at c
 ·by_cases e:i=w.heap.size
  ·exact .inr (by omega)
  ·simp[e]at c
 ·cases e:h i with
  |none=>exact absurd e c
  |some o'=>exact(hh i o' e).1
theorem sat.turn {W : World} {L : List HP} {w w' : World} {g : Nat} {o o' : Obj} (H : sat W (pt g o :: L) w) (hos : w'.os = w.os) (htape : w'.tape = w.tape) (hout : w'.output = w.output)
  (hsz : w'.heap.size = w.heap.size) (hg : w'.heap[g]? = some o') (hr : ∀ i, i ≠ g → w'.heap[i]? = w.heap[i]?) : sat W (pt g o' :: L) w' := by
 have hge := H.pt_.2
 obtain ⟨h, ⟨h1, h2, ha, hl, d, s1, s2⟩, b⟩ := H.heap
 have H1 : sat W ((fun (_ : World) (k : jC) => k g = some o ∧ ∀ i, i ≠ g → k i = none) :: L) w :=
  ⟨H.base, h, ⟨fun i => if i = g then some o else none, h2, ⟨by simp, fun i hi => by simp [hi]⟩, hl, fun i => (by
   by_cases e : i = g
   ·subst e
    right
    rcases d i with c | c
    ·have : h1 i = some o := ha
     rw [this] at c; cases c
    ·exact c
   ·exact .inl (by simp [e])), fun i o'' c => (by
   by_cases e : i = g
   ·subst e; simp at c; subst c; exact s1 i o ha
   ·simp [e] at c), s2⟩, b⟩
 refine H1.change hos htape hout (by omega) fun h hh hb => ⟨fun i => if i = g then some o' else none, by simp [pt], fun i o'' c => ?_, fun i c => ?_, fun i _ c => ?_, fun i c => ?_⟩
 ·by_cases e : i = g
  ·subst e; simp at c; subst c; exact ⟨hge, hg⟩
  ·simp [e] at c
 ·by_cases e : i = g
  ·subst e; left; rw [hh.1]; simp
  ·simp [e] at c
 ·refine hr i ?_
  rintro rfl
  rw [hh.1] at c; cases c
 ·by_cases e : i = g
  ·subst e; exact hge
  ·exact absurd (hh.2 i e) c
theorem sat.setCell {W:World}{L:List HP}{w:World}{g o:Nat}{cs:Array Value}{T:TypeId}{fz:Nat × Nat}(H:sat W (pt g (.cells cs T fz)::L) w)(v:Value):
  sat W (pt g (.cells (cs.setIfInBounds o v) T fz)::L) (w.setCell ⟨g,o,none⟩ v):=by
 have hg:=H.pt_.1
 refine H.turn rfl rfl rfl (by simp) ?_ ?_
 ·simp[World.setCell,Array.getElem?_modify,hg]
 ·intro i hi
  exact Below.heap_setCell w ⟨g,o,none⟩ v i hi
theorem sat.cell {W:World}{L:List HP}{w:World}{g o:Nat}{cs:Array Value}{T:TypeId}{fz:Nat × Nat}(H:sat W (pt g (.cells cs T fz)::L) w):w.cell? ⟨g,o,none⟩=cs[o]? :=by
 simp[World.cell?,H.pt_.1]
theorem sat.free {W:World}{L:List HP}{w:World}{g o:Nat}{cs:Array Value}{T:TypeId}(H:sat W (pt g (.cells cs T (0,0))::L) w):w.frozen? ⟨g,o,none⟩=false:=by
 simp[World.frozen?,H.pt_.1]

def aZ (W:World)(L:List HP)(S:WP):Prop:=∀w,sat W L w->S w
variable {P:Program} {W:World} {L L' L'':List HP} {Kp:PK} {k:Value->WP} {S:WP}
theorem bF {M:List HP}(i:Imp W L M)(h:aZ W M S):aZ W L S:=fun w hw=>h w (i.sat hw)
theorem yw {A:HP}(p:Pick L A L')(h:aZ W (A::L') S):aZ W L S:=fun w hw=>h w (hw.pick p)
theorem aG {φ:Prop}(p:Pick L (pu φ) L')(h:φ->aZ W L' S):aZ W L S:=fun w hw=>by
 have hw':=hw.pick p
 obtain⟨_,⟨_,_,hp,_⟩,_⟩:=hw'.heap
 exact h hp w hw'.drop
theorem aH {α:Type}{A:α->HP}(p:Pick L (ex A) L')(h:∀x,aZ W (A x::L') S):aZ W L S:=fun w hw=>by
 have hw':=hw.pick p
 obtain⟨f,⟨h1,h2,⟨x,ha⟩,r⟩,b⟩:=hw'.heap
 exact h x w ⟨hw'.base,f,⟨h1,h2,ha,r⟩,b⟩
theorem ap {M:List HP}(p:Pick L (all M) L')(h:aZ W (M++L') S):aZ W L S:=fun w hw=>h w (sat.map (L:=Sl.all M::L') (fun _ H=>cy H) (hw.pick p))
theorem CV {A B:HP}(p:Pick L A L')(e:∀h,A W h->B W h)(h:aZ W (B::L') S):aZ W L S:=fun w hw=>h w (sat.map (L:=A::L') (fun _ ⟨h1,h2,ha,r⟩=>⟨h1,h2,e h1 ha,r⟩) (hw.pick p))
theorem bA (h:aZ W L S):aZ W L (oW S):=fun w hw=>h _ (show sat W L w.drew from hw.drew)
theorem bZ {A:List HP}(i:Imp W L A)(h:aZ W L S):aZ W L (fun w=>sat W A w/\S w):=fun w hw=>⟨i.sat hw,h w hw⟩
def bg (P:Program)(W:World)(A:List HP)(s:Sem Next)(v:Value):Prop:=∀w,sat W A w->s.run P w= .ok (.value v) w
theorem am {A:List HP}{s:Sem Next}{v:Value}(hr:bg P W A s v)(i:Imp W L A)(h:aZ W L (k v)):aZ W L (opN P s Kp k):=fun w hw=>
 ⟨by rw[hr w (i.sat hw)];exact h w hw⟩
theorem aT {A:List HP}{s:Sem Next}{v:Value}(hr:bg P W A s v)(i:Imp W L A)(h:aZ W L (k v)):aZ W L (stS P s k):=fun w hw=>⟨v,hr w (i.sat hw),h w hw⟩
theorem bh {A:List HP}{s:Sem Next}{v:Value}{kd:WP->Value->WP}(hr:bg P W A s v)(i:Imp W L A)(h:aZ W L (kd (sat W A) v)):aZ W L (stD P s kd):=fun w hw=>
 ⟨sat W A,v,i.sat hw,fun w' hw'=>hr w' hw',h w hw⟩
theorem ab {A B:WP}(h:aZ W L A):aZ W L (condS (.bool true) A B):=fun w hw=>⟨h w hw⟩
theorem aa {A B:WP}(h:aZ W L B):aZ W L (condS (.bool false) A B):=fun w hw=>⟨h w hw⟩
theorem ae {b:Bool}{body:(Value->WP)->WP}(h:aZ W L (body k)):aZ W L (gdK (.bool b) b body k):=fun w hw=>⟨by show(if b=b then body k w else k undef w);rw[if_pos rfl];exact h w hw⟩
theorem ao {body:(Value->WP)->WP}(h:aZ W L (k undef)):aZ W L (gdK (.bool true) false body k):=fun w hw=>⟨h w hw⟩
theorem af {body:(Value->WP)->WP}(h:aZ W L (k undef)):aZ W L (gdK (.bool false) true body k):=fun w hw=>⟨h w hw⟩
theorem dg {want:Bool}{body:(Value->WP)->WP}(h:aZ W L (k undef)):aZ W L (gdK undef want body k):=fun w hw=>⟨h w hw⟩

structure Cn {α:Type}(P:Program)(f:FuncId)(args:List Value)(W:World)(A:List HP)(r:α->Value)(B:α->List HP):Prop where
 call:∀(a:Array Value) (w:World),(callFunc f a).run P w= .ok (.enter f a) w
 run:∀(F:List HP) (w:World),sat W (A++F) w->Calls P f args.toArray w (fun e w'=>∃x,e= .returned (r x)/\sat W (B x++F) w')
def gH:PK:=fun _ _=>False
theorem Cn.of {α : Type} {f : FuncId} {args : List Value} {A : List HP} {r : α → Value} {B : α → List HP} {shape : PK → (Value → WP) → WP}
  (hc : ∀ (a : Array Value) (w : World), (callFunc f a).run P w = .ok (.enter f a) w)
  (hs : ∀ {Kp : PK} {K : Value → WP} {w : World}, shape Kp K w → Calls P f args.toArray w (after Kp K))
  (h : ∀ F, aZ W (A ++ F) (shape gH fun v w' => ∃ x, v = r x ∧ sat W (B x ++ F) w')) : Cn P f args W A r B :=
 ⟨hc, fun F w hw => (hs (h F w hw)).mono fun e w' he => by
  cases e with
  | returned v => obtain ⟨x, rfl, h2⟩ := he; exact ⟨x, rfl, h2⟩
  | panicked ch => exact he.elim
  | outgrown => exact he.elim⟩
theorem ti {f:FuncId}{args:List Value}(hc:∀(a:Array Value) (w:World),(callFunc f a).run P w= .ok (.enter f a) w)(w:World):
  (bN (fn f) args).run P w= .ok (.enter f args.toArray) w:=by
 unfold bN fn Deferred.ofValue
 simp[invoke,hc]
inductive Picks:List HP->List HP->List HP->Prop
 |nil {L:List HP}:Picks L [] L
 |cons {L L' F A:List HP} {a:HP} (p:Pick L a L') (h:Picks L' A F):Picks L (a::A) F
theorem Picks.sat {A F:List HP}(p:Picks L A F){w:World}(h:Sl.sat W L w):Sl.sat W (A++F) w:=by
 have:∀h,Sl.all L W h->Sl.all (A++F) W h:=by
  clear h w
  induction p with
  |nil=>exact fun _ h=>h
  |cons p _ ih=>exact fun h H=>eA ih (p.all H)
 exact h.map this
theorem aB {α:Type} {f:FuncId} {args:List Value} {A F:List HP} {r:α->Value} {B:α->List HP} (hf:Cn P f args W A r B) (p:Picks L A F)
  (h:∀x,aZ W (B x++F) (k (r x))):aZ W L (opN P (bN (fn f) args) Kp k):=fun w hw=>by
 refine⟨?_⟩
 rw[ti hf.call]
 refine(hf.run F w (p.sat hw)).mono fun e w' ⟨x,he,hs⟩=>?_
 subst he
 exact h x w' hs
theorem aR {α:Type}{r:α->Value}{M:α->List HP}{v:Value}(x:α)(hv:v=r x)(i:Imp W L (M x)):aZ W L (fun w'=>∃x,v=r x/\sat W (M x) w'):=fun w hw=>⟨x,hv,i.sat hw⟩
theorem dR {α:Type}{M:α->List HP}(x:α)(i:Imp W L (M x)):aZ W L (fun w'=>∃x:α,True/\sat W (M x) w'):=fun w hw=>⟨x,trivial,i.sat hw⟩

theorem mG {body:(Nat->WP)->Nat->List Value->WP}(J:Nat->List HP)(m:Nat)(i:Imp W L (J m))(h:∀m ds,aZ W (J m) (body (fun m w=>sat W (J m) w) m ds)):aZ W L (zH body):=fun w hw=>
 ⟨fun m w=>sat W (J m) w,⟨m,i.sat hw⟩,fun m ds w' hw'=>h m ds w' hw'⟩
theorem a_ {body:(Nat->Value->WP)->Nat->List Value->Value->WP}{a:Value}(J:Nat->Value->List HP)(m:Nat)(i:Imp W L (J m a))(h:∀m ds x,aZ W (J m x) (body (fun m x w=>sat W (J m x) w) m ds x)):aZ W L (o9 body a):=fun w hw=>
 ⟨fun m x w=>sat W (J m x) w,⟨m,i.sat hw⟩,fun m ds x w' hw'=>h m ds x w' hw'⟩
theorem bI {body:(Nat->Value->Value->WP)->Nat->List Value->Value->Value->WP}{a b:Value}(J:Nat->Value->Value->List HP)(m:Nat)(i:Imp W L (J m a b))(h:∀m ds x y,aZ W (J m x y) (body (fun m x y w=>sat W (J m x y) w) m ds x y)):aZ W L (th body a b):=fun w hw=>
 ⟨fun m x y w=>sat W (J m x y) w,⟨m,i.sat hw⟩,fun m ds x y w' hw'=>h m ds x y w' hw'⟩
theorem gD {body:(Nat->Value->Value->Value->WP)->Nat->List Value->Value->Value->Value->WP}{a b c:Value}(J:Nat->Value->Value->Value->List HP)(m:Nat)(i:Imp W L (J m a b c))(h:∀m ds x y z,aZ W (J m x y z) (body (fun m x y z w=>sat W (J m x y z) w) m ds x y z)):aZ W L (CU body a b c):=fun w hw=>
 ⟨fun m x y z w=>sat W (J m x y z) w,⟨m,i.sat hw⟩,fun m ds x y z w' hw'=>h m ds x y z w' hw'⟩
theorem iX {J:Nat->List HP}{m:Nat}(m':Nat)(hm:m'<m)(i:Imp W L (J m')):aZ W L (zI (fun m w=>sat W (J m) w) m):=fun w hw=>⟨m',hm,i.sat hw⟩
theorem aK {J:Nat->Value->List HP}{m:Nat}{a:Value}(m':Nat)(hm:m'<m)(i:Imp W L (J m' a)):aZ W L (iD (fun m x w=>sat W (J m x) w) m a):=fun w hw=>⟨m',hm,i.sat hw⟩
theorem bo {J:Nat->Value->Value->List HP}{m:Nat}{a b:Value}(m':Nat)(hm:m'<m)(i:Imp W L (J m' a b)):aZ W L (qw (fun m x y w=>sat W (J m x y) w) m a b):=fun w hw=>⟨m',hm,i.sat hw⟩
theorem cr {J:Nat->Value->Value->Value->List HP}{m:Nat}{a b c:Value}(m':Nat)(hm:m'<m)(i:Imp W L (J m' a b c)):aZ W L (zJ (fun m x y z w=>sat W (J m x y z) w) m a b c):=fun w hw=>⟨m',hm,i.sat hw⟩
theorem cP {body:WP->WP}{rest:List Value->WP}(J:List HP)(hr:∀ds,aZ W J (rest ds))(hb:aZ W L (body fun w=>sat W J w)):aZ W L (yu body rest):=fun w hw=>⟨fun w=>sat W J w,fun ds w' hw'=>hr ds w' hw',hb w hw⟩
theorem dD {body:(Value->WP)->WP}{rest:List Value->Value->WP}(J:Value->List HP)(hr:∀ds x,aZ W (J x) (rest ds x))(hb:aZ W L (body fun x w=>sat W (J x) w)):aZ W L (uu body rest):=fun w hw=>⟨fun x w=>sat W (J x) w,fun ds x w' hw'=>hr ds x w' hw',hb w hw⟩
theorem ja {body:(Value->Value->WP)->WP}{rest:List Value->Value->Value->WP}(J:Value->Value->List HP)(hr:∀ds x y,aZ W (J x y) (rest ds x y))(hb:aZ W L (body fun x y w=>sat W (J x y) w)):aZ W L (sG body rest):=fun w hw=>⟨fun x y w=>sat W (J x y) w,fun ds x y w' hw'=>hr ds x y w' hw',hb w hw⟩
theorem pU {body:WP->WP}{rest:List Value->WP}(hb:aZ W L (body fun w=>∀ds,rest ds w)):aZ W L (yu body rest):=fun w hw=>⟨fun w=>∀ds,rest ds w,fun ds w' hw'=>hw' ds,hb w hw⟩
theorem pV {body:(Value->WP)->WP}{rest:List Value->Value->WP}(hb:aZ W L (body fun x w=>∀ds,rest ds x w)):aZ W L (uu body rest):=fun w hw=>⟨fun x w=>∀ds,rest ds x w,fun ds x w' hw'=>hw' ds,hb w hw⟩
theorem zM {body:(Value->Value->WP)->WP}{rest:List Value->Value->Value->WP}(hb:aZ W L (body fun x y w=>∀ds,rest ds x y w)):aZ W L (sG body rest):=fun w hw=>⟨fun x y w=>∀ds,rest ds x y w,fun ds x y w' hw'=>hw' ds,hb w hw⟩
theorem fB {R:List Value->WP}(h:∀ds,aZ W L (R ds)):aZ W L (fun w=>∀ds,R ds w):=fun w hw ds=>h ds w hw
theorem aD {M:List HP}(i:Imp W L M):aZ W L (fun w=>sat W M w):=fun w hw=>i.sat hw
end Sl
namespace Sl
open Go Go.RowKit Sh
variable {P:Program} {W:World} {L L' L'':List HP} {Kp:PK} {k:Value->WP}

theorem mx {n:Int}(h1: -9223372036854775808<=n)(h2:n<=9223372036854775807):IntKind.i64.wrap n=n:=IntWalk.i64_in n ⟨h1,h2⟩
theorem bU {t:TypeId}{a b:Int}(h1: -9223372036854775808<=a+b)(h2:a+b<=9223372036854775807):bg P W [] (aY .add t (.int .i64 a) (.int .i64 b)) (.int .i64 (a+b)):=fun w _=>by
 simp[aY,sv,eqGuard,binOp,Op.intArith,mx h1 h2]
theorem dv {t:TypeId}{a b:Int}(h1: -9223372036854775808<=a-b)(h2:a-b<=9223372036854775807):bg P W [] (aY .sub t (.int .i64 a) (.int .i64 b)) (.int .i64 (a-b)):=fun w _=>by
 simp[aY,sv,eqGuard,binOp,Op.intArith,mx h1 h2]
theorem eh {t:TypeId}{a b:Int}(h1: -9223372036854775808<=a * b)(h2:a * b<=9223372036854775807):bg P W [] (aY .mul t (.int .i64 a) (.int .i64 b)) (.int .i64 (a * b)):=fun w _=>by
 simp[aY,sv,eqGuard,binOp,Op.intArith,mx h1 h2]
theorem uv {t:TypeId}{q:IntKind}{a b:Int}:bg P W [] (aY .add t (.int q a) (.int q b)) (.int q (q.wrap (a+b))):=fun w _=>by
 simp[aY,sv,eqGuard,binOp,Op.intArith]
theorem CW {t:TypeId}{q:IntKind}{a b:Int}:bg P W [] (aY .sub t (.int q a) (.int q b)) (.int q (q.wrap (a-b))):=fun w _=>by
 simp[aY,sv,eqGuard,binOp,Op.intArith]
theorem CX {t:TypeId}{q:IntKind}{a b:Int}:bg P W [] (aY .mul t (.int q a) (.int q b)) (.int q (q.wrap (a * b))):=fun w _=>by
 simp[aY,sv,eqGuard,binOp,Op.intArith]
theorem hH {t:TypeId}{a b:Int}(ha:0<=a)(hb:0<b)(h2:a<=9223372036854775807):bg P W [] (aY .quo t (.int .i64 a) (.int .i64 b)) (.int .i64 (a / b)):=fun w _=>by
 have h0:¬b=0:=by omega
 have e:a.tdiv b=a / b:=Int.tdiv_eq_ediv_of_nonneg ha
 have l1:0<=a / b:=Int.ediv_nonneg ha (by omega)
 have l2:a / b<=a:=Int.ediv_le_self b ha
 simp[aY,sv,eqGuard,binOp,Op.intDiv,h0,e,mx (n:=a / b) (by omega) (by omega)]
theorem mH {t:TypeId}{q:IntKind}{a b:Int}(ha:0<=a)(hb:0<b):bg P W [] (aY .rem t (.int q a) (.int q b)) (.int q (a%b)):=fun w _=>by
 have h0:¬b=0:=by omega
 have e:a.tmod b=a%b:=Int.tmod_eq_emod_of_nonneg ha
 simp[aY,sv,eqGuard,binOp,Op.intDiv,h0,e]
theorem fS {t:TypeId}{q r:IntKind}{a b:Int}(hb:0<=b):bg P W [] (aY .shl t (.int q a) (.int r b)) (.int q (q.wrap (a * 2^(min b.toNat q.bits)))):=fun w _=>by
 have h0:¬b<0:=by omega
 simp[aY,sv,eqGuard,binOp,Op.shift,h0]
theorem eQ {t:TypeId}{q r:IntKind}{a b:Int}(hb:0<=b):bg P W [] (aY .shr t (.int q a) (.int r b)) (.int q (a.fdiv (2^(min b.toNat q.bits)))):=fun w _=>by
 have h0:¬b<0:=by omega
 simp[aY,sv,eqGuard,binOp,Op.shift,h0]
def co (o:BinOp)(q:IntKind)(a b:Int):Int:=
 let x:=BitVec.ofInt q.bits a
 let y:=BitVec.ofInt q.bits b
 q.wrap (match o with| .and=>x &&& y| .or=>x ||| y| .xor=>x ^^^ y|_=>x &&& ~~~y:BitVec q.bits).toNat
theorem fT {t:TypeId}{q:IntKind}{a b:Int}:bg P W [] (aY .and t (.int q a) (.int q b)) (.int q (co .and q a b)):=fun w _=>by
 simp[aY,sv,eqGuard,binOp,Op.intBits,co]
theorem sH {t:TypeId}{q:IntKind}{a b:Int}:bg P W [] (aY .or t (.int q a) (.int q b)) (.int q (co .or q a b)):=fun w _=>by
 simp[aY,sv,eqGuard,binOp,Op.intBits,co]
theorem we {t:TypeId}{q:IntKind}{a b:Int}:bg P W [] (aY .xor t (.int q a) (.int q b)) (.int q (co .xor q a b)):=fun w _=>by
 simp[aY,sv,eqGuard,binOp,Op.intBits,co]
theorem az {t:TypeId}{q:IntKind}{a b:Int}:bg P W [] (aY .lss t (.int q a) (.int q b)) (.bool (decide (a<b))):=fun w _=>by
 simp[aY,sv,eqGuard,binOp,Op.intCmp]
theorem cZ {t:TypeId}{q:IntKind}{a b:Int}:bg P W [] (aY .leq t (.int q a) (.int q b)) (.bool (decide (a<=b))):=fun w _=>by
 simp[aY,sv,eqGuard,binOp,Op.intCmp]
theorem aV {t:TypeId}{q:IntKind}{a b:Int}:bg P W [] (aY .gtr t (.int q a) (.int q b)) (.bool (decide (b<a))):=fun w _=>by
 simp[aY,sv,eqGuard,binOp,Op.intCmp]
theorem cH {t:TypeId}{q:IntKind}{a b:Int}:bg P W [] (aY .geq t (.int q a) (.int q b)) (.bool (decide (b<=a))):=fun w _=>by
 simp[aY,sv,eqGuard,binOp,Op.intCmp]
theorem aP {t:TypeId}{ox oy:Operand}{q:IntKind}{a b:Int}:bg P W [] (kj .eql t ox oy (.int q a) (.int q b)) (.bool (decide (a=b))):=fun w _=>by
 simp[kj,sv,eqGuard,binOp,Op.intCmp]
 by_cases h:a=b <;> simp[h]
theorem bK {t:TypeId}{ox oy:Operand}{q:IntKind}{a b:Int}:bg P W [] (kj .neq t ox oy (.int q a) (.int q b)) (.bool (decide (a≠b))):=fun w _=>by
 simp[kj,sv,eqGuard,binOp,Op.intCmp]
 by_cases h:a=b <;> simp[h]
theorem fU {b:Bool}:bg P W [] (Bu .not (.bool b)) (.bool (!b)):=fun w _=>by simp[Bu,Op.unary]
theorem dJ:bg P W [] (Bu .not (.bool true)) (.bool false):=fU
theorem dh:bg P W [] (Bu .not (.bool false)) (.bool true):=fU
theorem qx {ts:Array TypeId}{t:TypeId}{q r:IntKind}{a b:Int}:bg P W [] (JN ts t [.int q a,.int r b]) (.int q (if b<a then b else a)):=fun w _=>by
 simp[JN,Builtin.min_,Builtin.min2]
theorem zN {ts:Array TypeId}{t:TypeId}{q r:IntKind}{a b:Int}:bg P W [] (JO ts t [.int q a,.int r b]) (.int q (if a<b then b else a)):=fun w _=>by
 simp[JO,Builtin.max_,Builtin.max2]
theorem ah {a b:Value}:bg P W [] (iV (.bool true) a b) a:=fun w _=>by simp[iV,execOp,asBool]
theorem ag {a b:Value}:bg P W [] (iV (.bool false) a b) b:=fun w _=>by simp[iV,execOp,asBool]
theorem bk {vs:Array Value}{i:Nat}{v:Value}(h:vs[i]? =some v):bg P W [] (l7 (.tuple vs) i) v:=fun w _=>by
 simp[l7,Instr.extract,h]
class IntT (P:Program)(t:TypeId)(q:outParam IntKind):Prop where
 run:∀w,(underlying t).run P w= .ok (.int q) w
theorem br {s t:TypeId}{p q r:IntKind}{n:Int}[hs:IntT P s p][ht:IntT P t q]:bg P W [] (fR s t (.int r n)) (.int q (q.wrap n)):=fun w _=>by
 simp[fR,convert,hs.run,ht.run,Conv.intToInt]
theorem ay {A:List HP}{s:Sem Next}{φ:Prop}[Decidable φ](hr:bg P W A s (.bool (decide φ)))(i:Imp W L A)(ht:φ->aZ W L (k (.bool true)))(hf:¬φ->aZ W L (k (.bool false))):aZ W L (opN P s Kp k):=by
 refine am hr i ?_
 by_cases h:φ
 ·rw[dT_ h];exact ht h
 ·rw[dF_ h];exact hf h
theorem qy {A:List HP}{s:Sem Next}{φ:Prop}[Decidable φ](hr:bg P W A s (.bool (decide φ)))(i:Imp W L A)(ht:φ->aZ W L (k (.bool true)))(hf:¬φ->aZ W L (k (.bool false))):aZ W L (stS P s k):=by
 refine aT hr i ?_
 by_cases h:φ
 ·rw[dT_ h];exact ht h
 ·rw[dF_ h];exact hf h
class OC (a:Value):Prop where
 one:a.oneCell'=true
instance {q:IntKind}{n:Int}:OC (.int q n):=⟨rfl⟩
instance {b:Bool}:OC (.bool b):=⟨rfl⟩
instance {s:ByteArray}:OC (.string s):=⟨rfl⟩
instance {a:Option Addr}:OC (.pointer a):=⟨rfl⟩
instance {a:Option Addr}{n c:Nat}:OC (.slice a n c):=⟨rfl⟩
instance {m:Option Nat}:OC (.map m):=⟨rfl⟩
instance {f:Fn}{a b:Array Value}:OC (.func f a b):=⟨rfl⟩
instance {t:TypeId}{v:Value}:OC (.iface t v):=⟨rfl⟩
class RV (P:Program)(s:Sem Next)(v:outParam Value):Prop where
 run:∀W,bg P W [] s v
theorem b_ {s:Sem Next}{v:Value}[h:RV P s v]:bg P W [] s v:=h.run W
theorem bb {cs:Array Value}:(Value.agg cs).cells=cs:=rfl
theorem ak {a:Value}(h:a.oneCell'=true):a.cells= #[a]:=by cases a <;> first|rfl|cases h

theorem au {a:Addr}:bg P W [] (j8 (.pointer (some a))) (.pointer (some a)):=fun w _=>by simp[j8,execOp]
class PtrT (P:Program)(t:TypeId):Prop where
 ex:P.underlying t=some (.pointer (P.pointee t))
theorem Gs {t:TypeId}{ox oy:Operand}{p:Option Addr}[ht:PtrT P t]:bg P W [] (kj .eql t ox oy (.pointer p) (.pointer none)) (.bool p.isNone):=fun w _=>by
 simp[kj,sv,eqGuard,run_eql_pointer_nil w t p ht.ex]
theorem qz {t:TypeId}{ox oy:Operand}{a:Addr}[ht:PtrT P t]:bg P W [] (kj .eql t ox oy (.pointer (some a)) (.pointer none)) (.bool false):=Gs
class FldT (P:Program)(t:TypeId)(f:Nat)(o:outParam Nat):Prop where
 run:∀(g b:Nat) (w:World),(Instr.fieldAt t (.pointer (some ⟨g,b,none⟩)) f).run P w= .ok (.pointer (some ⟨g,b+o,none⟩)) w
theorem cT {t:TypeId}{f o g b:Nat}[h:FldT P t f o]:bg P W [] (jf t (.pointer (some ⟨g,b,none⟩)) f) (.pointer (some ⟨g,b+o,none⟩)):=fun w _=>by
 simp[jf,h.run]
theorem aj {t:TypeId}{f o g:Nat}[h:FldT P t f o]:bg P W [] (jf t (.pointer (some ⟨g,0,none⟩)) f) (.pointer (some ⟨g,o,none⟩)):=fun w _=>by
 simp[jf,h.run]
inductive Nth:List Value->Nat->Value->Prop
 |here {v:Value} {l:List Value}:Nth (v::l) 0 v
 |there {u v:Value} {l:List Value} {n:Nat} (h:Nth l n v):Nth (u::l) (n+1) v
theorem Nth.get {l:List Value}{n:Nat}{v:Value}(h:Nth l n v):l.toArray[n]? =some v:=by
 induction h with
 |here=>simp
 |there _ ih=>simpa using ih
inductive Put:List Value->Nat->Value->List Value->Prop
 |here {u v:Value} {l:List Value}:Put (u::l) 0 v (v::l)
 |there {u v:Value} {l l':List Value} {n:Nat} (h:Put l n v l'):Put (u::l) (n+1) v (u::l')
theorem Put.set {l l':List Value}{n:Nat}{v:Value}(h:Put l n v l'):l.toArray.setIfInBounds n v=l'.toArray/\n<l.length:=by
 induction h with
 |here=>simp
 |there _ ih=>obtain⟨h1,h2⟩:=ih;simp at h1 ⊢;exact⟨h1,h2⟩
class OneT (P:Program)(t:TypeId):Prop where
 agg:∀w,(isAgg t).run P w= .ok false w
 size:∀w,(sizeOf t).run P w= .ok 1 w
theorem e_ {t:TypeId}{g o:Nat}{cs:Array Value}{T:TypeId}{fz:Nat × Nat}{v:Value}[ht:OneT P t](hc:cs[o]? =some v):bg P W [pt g (.cells cs T fz)] (aI t (.pointer (some ⟨g,o,none⟩))) v:=fun w hw=>by
 have h:w.cell? ⟨g,o,none⟩=some v:=by rw[hw.cell,hc]
 simp[aI,Instr.loadAt,Instr.sureAddr,loadVar,ht.agg,h]
theorem bC {t:TypeId}{g o:Nat}{cs:List Value}{T:TypeId}{fz:Nat × Nat}{v:Value}[ht:OneT P t](hc:Nth cs o v):bg P W [pt g (.cells cs.toArray T fz)] (aI t (.pointer (some ⟨g,o,none⟩))) v:=e_ hc.get
theorem l8 {t:TypeId} {g o:Nat} {cs:Array Value} {T:TypeId} {v:Value} [ht:OneT P t] [hv:OC v] (p:Pick L (pt g (.cells cs T (0,0))) L') (ho:o<cs.size)
  (h:aZ W (pt g (.cells (cs.setIfInBounds o v) T (0,0))::L') (k undef)):aZ W L (opN P (aJ t (.pointer (some ⟨g,o,none⟩)) v) Kp k):=fun w hw=>by
 have hw':=hw.pick p
 have hc:w.cell? ⟨g,o,none⟩=some cs[o]:=by rw[hw'.cell,Array.getElem?_eq_getElem ho]
 have hf:=hw'.free (o:=o)
 have hcells:v.cells= #[v]:=by exact ak hv.one
 refine⟨?_⟩
 have hr:(aJ t (.pointer (some ⟨g,o,none⟩)) v).run P w= .ok .skip (w.setCell ⟨g,o,none⟩ v):=by
  simp[aJ,Instr.storeAt,Instr.sureAddr,storeVar,ht.size,hcells,storeCells,Addr.add,run_store,hv.one,hc,hf]
 rw[hr]
 exact h _ (hw'.setCell v)
theorem eR {t:TypeId} {g o:Nat} {cs cs':List Value} {T:TypeId} {v:Value} [ht:OneT P t] (p:Pick L (pt g (.cells cs.toArray T (0,0))) L') (ho:Put cs o v cs') [hv:OC v]
  (h:aZ W (pt g (.cells cs'.toArray T (0,0))::L') (k undef)):aZ W L (opN P (aJ t (.pointer (some ⟨g,o,none⟩)) v) Kp k):=by
 refine l8 p (by simpa using ho.set.2) ?_
 rw[ho.set.1];exact h
theorem bM {vs:List Value}{i:Nat}{v:Value}(h:Nth vs i v):bg P W [] (l7 (.tuple vs.toArray) i) v:=bk h.get
end Sl
namespace Sl
open Go Go.RowKit Sh
variable {P:Program} {W:World} {L L':List HP} {Kp:PK} {k:Value->WP}
structure CnP {α β:Type}(P:Program)(f:FuncId)(args:List Value)(W:World)(A:List HP)(r:α->Value)(B:α->List HP)(pc:β->List PanicEntry)(Bp:β->List HP):Prop where
 call:∀(a:Array Value) (w:World),(callFunc f a).run P w= .ok (.enter f a) w
 run:∀(F:List HP) (w:World),sat W (A++F) w->Calls P f args.toArray w (fun e w'=>(∃x,e= .returned (r x)/\sat W (B x++F) w')\/∃y,e= .panicked (pc y)/\sat W (Bp y++F) w')
theorem CnP.of {α β : Type} {f : FuncId} {args : List Value} {A : List HP} {r : α → Value} {B : α → List HP} {pc : β → List PanicEntry} {Bp : β → List HP} {shape : PK → (Value → WP) → WP}
  (hc : ∀ (a : Array Value) (w : World), (callFunc f a).run P w = .ok (.enter f a) w)
  (hs : ∀ {Kp : PK} {K : Value → WP} {w : World}, shape Kp K w → Calls P f args.toArray w (after Kp K))
  (h : ∀ F, aZ W (A ++ F) (shape (fun ch w' => ∃ y, ch = pc y ∧ sat W (Bp y ++ F) w') fun v w' => ∃ x, v = r x ∧ sat W (B x ++ F) w')) : CnP P f args W A r B pc Bp :=
 ⟨hc, fun F w hw => (hs (h F w hw)).mono fun e w' he => by
  cases e with
  | returned v => obtain ⟨x, rfl, h2⟩ := he; exact .inl ⟨x, rfl, h2⟩
  | panicked ch => obtain ⟨y, rfl, h2⟩ := he; exact .inr ⟨y, rfl, h2⟩
  | outgrown => exact he.elim⟩
theorem bf {α β:Type} {f:FuncId} {args:List Value} {A F:List HP} {r:α->Value} {B:α->List HP} {pc:β->List PanicEntry} {Bp:β->List HP} (hf:CnP P f args W A r B pc Bp) (p:Picks L A F)
  (h:∀x,aZ W (B x++F) (k (r x))) (hp:∀y,aZ W (Bp y++F) (Kp (pc y))):aZ W L (opN P (bN (fn f) args) Kp k):=fun w hw=>by
 refine⟨?_⟩
 rw[ti hf.call]
 refine(hf.run F w (p.sat hw)).mono fun e w' he=>?_
 rcases he with ⟨x,he,hs⟩|⟨y,he,hs⟩
 ·subst he;exact h x w' hs
 ·subst he;exact hp y w' hs
def pe (v:Value):List PanicEntry:=[{v,recovered:=false}]
theorem jD {t:TypeId}{x:Value}(h:aZ W L (Kp (pe (.iface t x)))):aZ W L (opN P (qv (.iface t x)) Kp k):=fun w hw=>by
 refine⟨?_⟩
 have:(qv (.iface t x)).run P w= .halt (.panic (.iface t x)) w:=by simp[qv,Instr.panic,goPanic]
 rw[this]
 exact h w hw
theorem lE {t:TypeId}{v:Value}{q:IntKind}[ht:IntT P t q]:bg P W [] (yt t v) (.iface t v):=fun w _=>by
 simp[yt,Instr.makeInterface,ht.run]
theorem bT {β:Type}{pc:β->List PanicEntry}{M:β->List HP}{ch:List PanicEntry}(y:β)(hv:ch=pc y)(i:Imp W L (M y)):aZ W L (fun w'=>∃y,ch=pc y/\sat W (M y) w'):=fun w hw=>⟨y,hv,i.sat hw⟩
theorem gI {f:FuncId}{bs cs:List Value}:bg P W [] (ur (.func f) bs cs) (.func (.func f) bs.toArray cs.toArray):=fun w _=>by
 simp[ur,Instr.makeFunc]
theorem CY {fn:Fn}{a b:Array Value}{args:List Value}{kd:Deferred->WP}(h:aZ W L (kd {target:= .fn fn b,args:=a++args.toArray})):aZ W L (opDf (.func fn a b) args kd):=fun w hw=>⟨fn,a,b,rfl,h w hw⟩
theorem zO {f : FuncId} {A : List Value} {d : Deferred} {u : FrameMode} {Kret : WP} {Kq : PK} {shape : Value → PK → (Value → WP) → WP} (hu : u ≠ .run) (ht : ∃ fv cap, d.target = .fn fv cap)
  (hinv : ∀ w, (invoke d.target d.args).run P w = .ok (.enter f A.toArray) w)
  (hs : ∀ {Kp' : PK} {K : Value → WP} {w : World}, shape (eP u).1 Kp' K w → CallsD P f A.toArray u w fun
   | .returned v, u', w' => u' = (eP u).2 ∧ K v w'
   | .panicked ch, u', w' => u' = (eP u).2 ∧ Kp' ch w'
   | .outgrown, _, _ => False)
  (h : aZ W L (shape (eP u).1 (fun ch => JK Kret Kq (raised (eP u).2 ch)) fun _ => JK Kret Kq (settle (eP u).2))) : aZ W L (dfS P d u Kret Kq) := fun w hw => by
 obtain ⟨fv, cap, ht⟩ := ht
 refine ⟨hu, fv, cap, f, A.toArray, ht, hinv w, (hs (h w hw)).mono fun e u' w' he => ?_⟩
 cases e with
 | returned v => obtain ⟨rfl, h2⟩ := he; exact h2
 | panicked ch => obtain ⟨rfl, h2⟩ := he; exact h2
 | outgrown => exact he.elim
theorem C0 {Kret:WP}{Kq:PK}:JK Kret Kq (settle (eP .returning).2)=Kret:=rfl
theorem C1 {Kret:WP}{Kq:PK}{v:Value}:JK Kret Kq (settle (eP (.panicking (pe v))).2)=Kret:=rfl
theorem zP:(eP .returning).1= .nilIface:=rfl
theorem zQ {v:Value}:(eP (.panicking (pe v))).1=v:=rfl
theorem iY {f:FuncId}{cs bs:List Value}(hc:∀(a:Array Value) (w:World),(callFunc f a).run P w= .ok (.enter f a) w)(w:World):(invoke (.fn (.func f) cs.toArray) bs.toArray).run P w= .ok (.enter f (bs++cs).toArray) w:=by
 simp[invoke,hc]
end Sl
namespace Sl
open Go Go.RowKit Sh
variable {P:Program} {W:World} {L L':List HP} {Kp:PK} {k:Value->WP}
theorem qA {f:FuncId}{cap:Array Value}{args:List Value}(hc:∀(a:Array Value) (w:World),(callFunc f a).run P w= .ok (.enter f a) w)(w:World):
  (bN (.func (.func f) #[] cap) args).run P w= .ok (.enter f (args.toArray++cap)) w:=by
 unfold bN Deferred.ofValue
 simp[invoke,hc]
theorem dS {α:Type} {f:FuncId} {args cap:List Value} {A F:List HP} {r:α->Value} {B:α->List HP} (hf:Cn P f (args++cap) W A r B) (p:Picks L A F)
  (h:∀x,aZ W (B x++F) (k (r x))):aZ W L (opN P (bN (.func (.func f) #[] cap.toArray) args) Kp k):=fun w hw=>by
 refine⟨?_⟩
 rw[qA hf.call,show args.toArray++cap.toArray=(args++cap).toArray by simp]
 refine(hf.run F w (p.sat hw)).mono fun e w' ⟨x,he,hs⟩=>?_
 subst he
 exact h x w' hs
def kl (P:Program)(l:Nat)(xs:List (List Value))(I:Nat->HP)(Ix:HP)(W:World):Prop:=
 ∀i (hi:i<xs.length) (F:List HP) (w:World),sat W (I i::F) w->CQ P l xs[i] w fun e w'=>
  (e= .returned (.bool true)/\sat W (I (i+1)::F) w')\/(e= .returned (.bool false)/\sat W (Ix::F) w')
def yv (l:Nat):Value:= .func (.yield l) #[] #[]
theorem iZ {l:Nat} {xs:List (List Value)} {I:Nat->HP} {Ix:HP} {args:List Value} (hy:kl P l xs I Ix W) (i:Nat) (hi:xs[i]? =some args) (p:Pick L (I i) L')
  (ht:aZ W (I (i+1)::L') (k (.bool true))) (hf:aZ W (Ix::L') (k (.bool false))):aZ W L (opN P (bN (yv l) args) Kp k):=fun w hw=>by
 have hlt:i<xs.length:=by
  rcases Nat.lt_or_ge i xs.length with c|c
  ·exact c
  ·rw[List.getElem?_eq_none c]at hi;cases hi
 have he:xs[i]=args:=by rw[List.getElem?_eq_getElem hlt]at hi;exact Option.some.inj hi
 obtain⟨fn,tmps,assign,body,hr,hR⟩:=hy i hlt L' w (hw.pick p)
 rw[he]at hr
 refine⟨?_⟩
 have:(bN (yv l) args).run P w= .ok (.round l fn tmps assign body) w:=by
  unfold bN yv Deferred.ofValue
  simp[invoke,hr]
 rw[this]
 refine hR.mono fun e w' he=>?_
 rcases he with ⟨rfl,hs⟩|⟨rfl,hs⟩
 ·exact ht w' hs
 ·exact hf w' hs
theorem sat.putO {w:World}{g:Nat}{o o':Obj}(H:sat W (pt g o::L) w):sat W (pt g o'::L) (w.putObj g o'):=by
 have hg:=H.pt_.1
 have hlt:g<w.heap.size:=(Array.getElem?_eq_some_iff.1 hg).1
 exact H.turn rfl rfl rfl (by simp) (World.putObj_heap_same hlt) (fun i hi=>World.putObj_heap_other hi)
theorem uw {d:Nat}{S:WP}(p:Pick L (pt d (.deferred (some []))) L')(h:aZ W L' S):aZ W L (tkS d S):=fun w hw=>by
 have hw':=hw.pick p
 exact⟨hw'.pt_.1,h _ (hw'.putO (o':= .deferred none)).drop⟩
theorem Bw {fv : Value} {f : FuncId} {cap : List Value} {np : Nat} {rnd : VF np ((WP → WP) → WP → WP → WP)} {Kn Kj : Nat → WP} {Kq : Nat → PK} (xs : List (List Value)) (I : Nat → HP) (Ix : HP) (hf : fv = .func (.func f) #[] cap.toArray)
  (hxs : ∀ x ∈ xs, x.length = np) (hi : Imp W L [I 0])
  (hit : ∀ (l : Nat) (T T' : HP), kl P l xs (fun i => all [T, I i]) (all [T', Ix]) W → Cn P f (yv l :: cap) W [all [T, I 0]] (fun _ : Bool => .tuple #[]) (fun b => [if b then all [T, I xs.length] else all [T', Ix]]))
  (hbody : ∀ i (hi : i < xs.length) (F : List HP) (T0 T1 : HP) (B : WP → WP) (N J : WP), (∀ L L' S, Pick L T0 L' → aZ W (T1 :: L') S → aZ W L (B S)) → (∀ L, Imp W L (T1 :: I (i + 1) :: F) → aZ W L N) → (∀ L, Imp W L (T1 :: Ix :: F) → aZ W L J) →
   aZ W (T0 :: I i :: F) (jh np rnd xs[i] B N J))
  (hn : ∀ d, aZ W [pt d (.deferred (some [])), I xs.length] (Kn d)) (hj : ∀ d, aZ W [pt d (.deferred (some [])), Ix] (Kj d)) : aZ W L (rfS P fv np rnd Kn Kj Kq) := fun w hw => by
 have hcall := (hit 0 (pu False) (pu False) (fun i hi F w hs => (by obtain ⟨h, ⟨h1, h2, ⟨h3, h4, hp, _⟩, _⟩, _⟩ := hs.heap; exact hp.elim))).call
 refine ⟨f, cap.toArray, hf, hcall, fun rec hrec => ?_⟩
 obtain ⟨l, hl⟩ : ∃ l, l = w.heap.size + 1 := ⟨_, rfl⟩
 have h0 : sat W [all [all [pt l (.loop (rec .ready none)), pt w.heap.size (.deferred (some []))], I 0]] ((w.alloc (.deferred (some []))).alloc (.loop (rec .ready none))) := by
  have := ((hi.sat hw).alloc (.deferred (some []))).alloc (.loop (rec .ready none))
  rw [World.size_alloc, ← hl] at this
  exact (Imp.all (N := [_, _]) (Imp.all (N := [_, _]) .refl)).sat this
 rw [← hl] at hrec ⊢
 have hy : kl P l xs (fun i => all [all [pt l (.loop (rec .ready none)), pt w.heap.size (.deferred (some []))], I i]) (all [all [pt l (.loop (rec .done (some .ret))), pt w.heap.size (.deferred (some []))], Ix]) W := by
  intro i hi F w' hs
  have hs1 : sat W (pt l (.loop (rec .ready none)) :: pt w.heap.size (.deferred (some [])) :: I i :: F) w' :=
   hs.map fun h H => cy (N := [_, _]) (M := I i :: F) (by
    have := cy (N := [_, _]) (M := F) H
    exact this)
  refine hrec xs[i] w' _ (hxs _ (List.getElem_mem hi)) hs1.pt_.1 ?_
  refine hbody i hi F (all [pt l (.loop (rec .ready none)), pt w.heap.size (.deferred (some []))]) (all [pt l (.loop (rec .busy none)), pt w.heap.size (.deferred (some []))]) _ _ _ ?_ ?_ ?_ w' ?_
  ·intro L1 L2 S p hS w1 hw1
   have h1 : sat W (pt l (.loop (rec .ready none)) :: pt w.heap.size (.deferred (some [])) :: L2) w1 := sat.map (L := all [pt l (.loop (rec .ready none)), pt w.heap.size (.deferred (some []))] :: L2) (fun h H => cy (N := [_, _]) H) (hw1.pick p)
   refine ⟨h1.pt_.1, hS _ ?_⟩
   exact (Imp.all (N := [_, _]) .refl).sat (h1.putO (o' := .loop (rec .busy none)))
  ·intro L1 i1 w1 hw1
   have h1 : sat W (pt l (.loop (rec .busy none)) :: pt w.heap.size (.deferred (some [])) :: I (i + 1) :: F) w1 := sat.map (L := all [pt l (.loop (rec .busy none)), pt w.heap.size (.deferred (some []))] :: I (i + 1) :: F) (fun h H => cy (N := [_, _]) H) (i1.sat hw1)
   refine ⟨h1.pt_.1, .inl ⟨rfl, ?_⟩⟩
   exact (Imp.all (N := [_, _]) (Imp.all (N := [_, _]) .refl)).sat (h1.putO (o' := .loop (rec .ready none)))
  ·intro L1 i1 w1 hw1
   have h1 : sat W (pt l (.loop (rec .busy none)) :: pt w.heap.size (.deferred (some [])) :: Ix :: F) w1 := sat.map (L := all [pt l (.loop (rec .busy none)), pt w.heap.size (.deferred (some []))] :: Ix :: F) (fun h H => cy (N := [_, _]) H) (i1.sat hw1)
   refine ⟨h1.pt_.1, .inr ⟨rfl, ?_⟩⟩
   exact (Imp.all (N := [_, _]) (Imp.all (N := [_, _]) .refl)).sat (h1.putO (o' := .loop (rec .done (some .ret))))
  ·exact (Imp.all (N := [_, _]) .refl).sat hs1
 have hc := (hit l _ _ hy).run [] _ (by simpa using h0)
 rw [show (yv l :: cap).toArray = #[.func (.yield l) #[] #[]] ++ cap.toArray by simp [yv]] at hc
 refine hc.mono fun e w' he => ?_
 obtain ⟨b, rfl, hs⟩ := he
 cases b with
 | true =>
  left
  have h1 : sat W (pt l (.loop (rec .ready none)) :: [pt w.heap.size (.deferred (some [])), I xs.length]) w' :=
   hs.map fun h H => cy (N := [_, _]) (M := [I xs.length]) (by
    have := cy (N := [_, _]) (M := []) H
    exact this)
  exact ⟨h1.pt_.1, hn _ _ (h1.putO (o' := .loop (rec .exhausted none))).drop⟩
 | false =>
  right
  have h1 : sat W (pt l (.loop (rec .done (some .ret))) :: [pt w.heap.size (.deferred (some [])), Ix]) w' :=
   hs.map fun h H => cy (N := [_, _]) (M := [Ix]) (by
    have := cy (N := [_, _]) (M := []) H
    exact this)
  exact ⟨h1.pt_.1, hj _ _ (h1.putO (o' := .loop (rec .exhausted (some .ret)))).drop⟩
theorem C2 {M:List HP}{S:WP}(h:aZ W (M++L) S):aZ W (L++M) S:=fun w hw=>by
 refine h w (hw.map fun f H=>cy ?_)
 obtain⟨h1,h2,ha,hb,d,s1,s2⟩:=all_append H
 exact⟨h2,h1,hb,ha,fun i=>(d i).symm,s2,s1⟩
theorem km {M F:List HP}{S:WP}(i:Imp W L (M++[all F]))(h:aZ W (M++F) S):aZ W L S:=by
 refine bF i (C2 (L:=M) (M:=[all F]) ?_)
 refine ap (M:=F) (L':=M) .here (C2 h)
end Sl
namespace Sl
open Go Go.RowKit Sh
variable {P:Program} {W:World} {L L' L'':List HP} {Kp:PK} {k:Value->WP}
class SlT (P:Program)(t:TypeId)(e:outParam TypeId)(s bytes:outParam Nat):Prop where
 ut:P.underlying t=some (.slice e)
 info:∃i z,P.info? e=some i/\i.zero=some z/\i.size=s/\i.bytes=bytes/\z.cells.size=s
def Sl (s:Nat)(e:TypeId)(a:Option Addr)(cap n:Nat)(cs:List Value):HP:=fun _ h=>
 cs.length=n * s/\n<=cap/\cap<=maxLen/\((a=none/\cap=0)\/∃g rest,a=some ⟨g,0,none⟩/\rest.length=(cap-n) * s/\h g=some (.cells (cs++rest).toArray e (0,0)))
theorem Sl.nil (s:Nat)(e:TypeId)(W:World)(h:jC):Sl s e none 0 0 [] W h:=⟨by simp,Nat.le_refl _,by unfold maxLen;omega,.inl ⟨rfl,rfl⟩⟩
theorem bR {s:Nat}{e:TypeId}{M:List HP}(h:Imp W L M):Imp W L (Sl s e none 0 0 []::M):= .conv (B:=pu True) (fun h _=>Sl.nil s e W h) (.pu trivial h)
theorem Gt {s:Nat}{e:TypeId}{g n:Nat}{cs:List Value}{M:List HP}(p:Pick L (pt g (.cells cs.toArray e (0,0))) L')(hn:cs.length=n * s)(hm:n<=maxLen)(h:Imp W L' M):Imp W L (Sl s e (some ⟨g,0,none⟩) n n cs::M):=
 .conv (B:=pt g (.cells cs.toArray e (0,0))) (fun h hh=>⟨hn,Nat.le_refl _,hm,.inr ⟨g,[],rfl,by simp,by rw[List.append_nil];exact hh⟩⟩) (.pick p h)
theorem tj {s:Nat}{e:TypeId}{g n:Nat}{cs:List Value}{S:WP}(p:Pick L (pt g (.cells cs.toArray e (0,0))) L')(hn:cs.length=n * s)(hm:n<=maxLen)(h:aZ W (Sl s e (some ⟨g,0,none⟩) n n cs::L') S):aZ W L S:=
 CV p (fun h hh=>⟨hn,Nat.le_refl _,hm,.inr ⟨g,[],rfl,by simp,by rw[List.append_nil];exact hh⟩⟩) h
theorem aF {s:Nat} {e:TypeId} {a:Option Addr} {cap n:Nat} {cs:List Value} {S:WP} (p:Pick L (Sl s e a cap n cs) L')
  (h:cs.length=n * s->n<=cap->cap<=maxLen->(0<n->∃g,a=some ⟨g,0,none⟩)->aZ W L S):aZ W L S:=fun w hw=>by
 obtain⟨f,⟨h1,h2,h3,h4⟩,_⟩:=(hw.pick p).fst
 refine h h1 h2 h3 (fun hn=>?_) w hw
 rcases h4 with ⟨rfl,rfl⟩|⟨g,rest,rfl,_⟩
 ·omega
 ·exact⟨g,rfl⟩
theorem dA {s:Nat} {e:TypeId} {a:Option Addr} {cap n:Nat} {cs:List Value} {S:WP} (p:Pick L (Sl s e a cap n cs) L') (hn:0<n)
  (h:∀g,a=some ⟨g,0,none⟩->aZ W L S):aZ W L S:=aF p fun _ _ _ h4=>by obtain⟨g,hg⟩:=h4 hn;exact h g hg
theorem jb {s:Nat}{e:TypeId}{g cap n:Nat}{cs:List Value}{w:World}(H:sat W (Sl s e (some ⟨g,0,none⟩) cap n cs::L) w):
  ∃rest,rest.length=(cap-n) * s/\cs.length=n * s/\n<=cap/\cap<=maxLen/\sat W (pt g (.cells (cs++rest).toArray e (0,0))::L) w:=by
 obtain⟨f,⟨h1,h2,⟨l1,l2,l3,hd⟩,r⟩,b⟩:=H.heap
 rcases hd with ⟨c,_⟩|⟨g',rest,c,e1,e2⟩
 ·cases c
 ·injection c with c;injection c with c;subst c
  exact⟨rest,e1,l1,l2,l3,H.base,f,⟨h1,h2,e2,r⟩,b⟩
theorem kY {s:Nat} {e:TypeId} {g cap n:Nat} {cs rest:List Value} {w:World} (hr:rest.length=(cap-n) * s) (hc:cs.length=n * s) (hn:n<=cap) (hm:cap<=maxLen)
  (H:sat W (pt g (.cells (cs++rest).toArray e (0,0))::L) w):sat W (Sl s e (some ⟨g,0,none⟩) cap n cs::L) w:=by
 obtain⟨f,⟨h1,h2,ha,r⟩,b⟩:=H.heap
 exact⟨H.base,f,⟨h1,h2,⟨hc,hn,hm,.inr ⟨g,rest,rfl,hr,ha⟩⟩,r⟩,b⟩
theorem aC {t e ty:TypeId}{s b:Nat}{a:Option Addr}{n cap:Nat}[ht:SlT P t e s b]:bg P W [] (ii #[t] ty [.slice a n cap]) (.int .i64 (n:Int)):=fun w _=>by
 simp[ii,Builtin.len_,run_underlying ht.ut,goInt]
theorem JT {t ty:TypeId}{s:ByteArray}(ht:P.underlying t=some .string):bg P W [] (ii #[t] ty [.string s]) (.int .i64 (s.size:Int)):=fun w _=>by
 simp[ii,Builtin.len_,run_underlying ht,goInt]
theorem di {e:TypeId}{i:TypeInfo}(h:P.info? e=some i)(w:World):(sizeOf e).run P w= .ok i.size w:=by
 simp[sizeOf,typeInfo,h]
theorem cR {t e:TypeId}{s b:Nat}{g o n cap:Nat}{q:IntKind}{i:Int}(j:Nat)[ht:SlT P t e s b](hi:i=(j:Int))(hlt:j<n):bg P W [] (iR t (.slice (some ⟨g,o,none⟩) n cap) (.int q i)) (.pointer (some ⟨g,o+j * s,none⟩)):=fun w _=>by
 obtain⟨inf,z,h1,_,h3,_⟩:=ht.info
 subst hi
 have hl:(j:Int)<(n:Int):=by omega
 have hn:¬((n:Int)<=1/\False):=by simp
 simp[iR,Instr.indexAt,asIntOf,run_underlying ht.ut,di h1,h3,hlt,Addr.add]
theorem bj {t e:TypeId}{b:Nat}{g o n cap:Nat}{q:IntKind}{i:Int}(j:Nat)[ht:SlT P t e 1 b](hi:i=(j:Int))(hlt:j<n):bg P W [] (iR t (.slice (some ⟨g,o,none⟩) n cap) (.int q i)) (.pointer (some ⟨g,o+j,none⟩)):=by
 have:=cR (P:=P) (W:=W) (g:=g) (o:=o) (cap:=cap) (q:=q) (t:=t) j hi hlt
 rwa [Nat.mul_one]at this
theorem cI {t e:TypeId}{s:Nat}{g j cap n:Nat}{cs:List Value}{v:Value}[ht:OneT P t](hc:cs[j]? =some v):bg P W [Sl s e (some ⟨g,0,none⟩) cap n cs] (aI t (.pointer (some ⟨g,j,none⟩))) v:=fun w hw=>by
 obtain⟨rest,_,_,_,_,hw'⟩:=jb hw
 refine e_ (fz:=(0,0)) ?_ w hw'
 have hj:j<cs.length:=by
  rcases Nat.lt_or_ge j cs.length with h|h
  ·exact h
  ·rw[List.getElem?_eq_none h]at hc;cases hc
 simpa [List.getElem?_append_left hj]using hc
theorem fZ {t e:TypeId} {s:Nat} {g j cap n:Nat} {cs:List Value} {v:Value} [ht:OneT P t] [hv:OC v] (p:Pick L (Sl s e (some ⟨g,0,none⟩) cap n cs) L') (hj:j<cs.length)
  (h:aZ W (Sl s e (some ⟨g,0,none⟩) cap n (cs.set j v)::L') (k undef)):aZ W L (opN P (aJ t (.pointer (some ⟨g,j,none⟩)) v) Kp k):=fun w hw=>by
 obtain⟨rest,r1,r2,r3,r4,hw'⟩:=jb (hw.pick p)
 refine l8 (L:=pt g (.cells (cs++rest).toArray e (0,0))::L') .here (by simp;omega) ?_ w hw'
 intro w'' hw''
 refine h w'' (kY r1 (by simpa using r2) r3 r4 ?_)
 have he:((cs++rest).toArray.setIfInBounds j v)=(cs.set j v++rest).toArray:=by
  simp[hj]
 rwa [he]at hw''

theorem iE (g o:Nat):∀(vs:List Value) (w:World) (cs:Array Value) (T:TypeId),sat W (pt g (.cells cs T (0,0))::L) w->∃cs':Array Value,sat W (pt g (.cells cs' T (0,0))::L) (w.setCells g o vs)/\cs'.size=cs.size/\∀i,cs'[i]? =if o<=i/\i<o+vs.length/\i<cs.size then vs[i-o]? else cs[i]? :=by
 intro vs
 induction vs generalizing o with
 |nil=>intro w cs T H;exact⟨cs,H,rfl,fun i=>by rw[if_neg (by simp;omega)]⟩
 |cons v vs ih=>
  intro w cs T H
  obtain⟨cs',h1,h2,h3⟩:=ih (o+1) _ _ _ (H.setCell (o:=o) v)
  refine⟨cs',h1,by simpa using h2,fun i=>?_⟩
  rw[h3]
  simp only[Array.size_setIfInBounds,List.length_cons]
  by_cases hi:i=o
  ·subst hi
   rw[if_neg (by omega)]
   by_cases hs:i<cs.size
   ·rw[if_pos ⟨Nat.le_refl _,by omega,hs⟩];simp[hs]
   ·rw[if_neg (fun c=>hs c.2.2)];simp[hs]
  ·by_cases hc:o+1<=i/\i<o+1+vs.length/\i<cs.size
   ·rw[if_pos hc,if_pos ⟨by omega,by omega,hc.2.2⟩]
    rw[show i-o=(i-(o+1))+1 from by omega,List.getElem?_cons_succ]
   ·rw[if_neg hc,if_neg (fun c=>hc ⟨by omega,by omega,c.2.2⟩),Array.getElem?_setIfInBounds_ne (fun c=>hi c.symm)]
theorem bO {t tx ty e:TypeId} {s bytes:Nat} {a:Option Addr} {cap n m:Nat} {cs news:List Value} {y:Value} [ht:SlT P t e s bytes] (p:Pick L (Sl s e a cap n cs) L')
  (hsrc:∀w,sat W L w->Src P s tx y m news w) (h1:(n+m) * bytes<=140737488355328) (h2:n+m<=4611686018427387904)
  (h:∀a' cap',aZ W (Sl s e a' cap' (n+m) (cs++news)::L') (k (.slice a' (n+m) cap'))):aZ W L (opN P (iS #[t,tx] ty [.slice a n cap,y]) Kp k):=fun w hw=>by
 obtain⟨i,z,hi,hz,hs,hb,hzs⟩:=ht.info
 subst hs;subst hb
 have S:=hsrc w hw
 have hw':=hw.pick p
 have hnl:=S.newsLen
 refine⟨?_⟩
 have hrun:∃a' cap' w',(Builtin.append_ #[t,tx] ty #[.slice a n cap,y]).run P w= .ok (.slice a' (n+m) cap') w'/\sat W (Sl i.size e a' cap' (n+m) (cs++news)::L') w':=by
  obtain⟨f,⟨l1,l2,l3,hd⟩,_⟩:=hw'.fst
  have grow:cap<n+m->(Builtin.firstCells i.size n (.slice a n cap)).run P w.drew= .ok cs.toArray w.drew->∃a' cap' w',(Builtin.append_ #[t,tx] ty #[.slice a n cap,y]).run P w= .ok (.slice a' (n+m) cap') w'/\sat W (Sl i.size e a' cap' (n+m) (cs++news)::L') w':=by
   intro hg hold
   have hr:=run_append_grow_src (P:=P) w t tx ty e i z ht.ut hi hz a n cap cs hold y m news S hg (by omega) (growslice_fits hg h1)
   refine⟨_,_,_,hr,?_⟩
   have hge:=grownCap_ge w (n+m) cap e
   have hle:=grownCap_le_maxLen w (n+m) cap e (by unfold maxLen;omega)
   have ha:=(hw'.drop.drew).alloc (.cells ((cs++news).toArray++Builtin.zeroCells z.cells (grownCap w (n+m) cap e-(n+m))) e)
   have he:(cs++news).toArray++Builtin.zeroCells z.cells (grownCap w (n+m) cap e-(n+m))=(cs++news++(Builtin.zeroCells z.cells (grownCap w (n+m) cap e-(n+m))).toList).toArray:=by
    apply Array.ext';simp
   rw[he]at ha ⊢
   refine kY (g:=w.heap.size) ?_ ?_ hge hle ha
   ·rw[Array.length_toList,size_zeroCells,hzs]
   ·rw[List.length_append,l1,hnl,Nat.add_mul]
  by_cases hfit:n+m<=cap
  ·rcases hd with ⟨rfl,hc0⟩|⟨g,rest,rfl,_,_⟩
   ·-- nothing is appended onto nothing
    have hn0:n=0:=by omega
    have hm0:m=0:=by omega
    subst hn0;subst hm0;subst hc0
    have hnews:news=[]:=List.eq_nil_of_length_eq_zero (by simpa using hnl)
    have hcs:cs=[]:=List.eq_nil_of_length_eq_zero (by simpa using l1)
    subst hnews;subst hcs
    refine⟨none,0,w,?_,hw'⟩
    rcases S.kind with ⟨e',hk⟩|hk <;> simp[Builtin.append_,run_underlying ht.ut,run_underlying hk,sizeOf,typeInfo,hi,S.len,S.cells]
   ·obtain⟨rest,r1,r2,r3,r4,hp⟩:=jb hw'
    have hsz:(cs++rest).length=cap * i.size:=by rw[List.length_append,r1,r2,<- Nat.add_mul];congr 1;omega
    have hrl:rest.length+n * i.size=cap * i.size:=by rw[r1,<- Nat.add_mul];congr 1;omega
    have hbnd:(n+m) * i.size<=cap * i.size:=Nat.mul_le_mul_right _ hfit
    rw[Nat.add_mul]at hbnd
    have hr:=run_append_room_src (P:=P) w t tx ty e i ht.ut hi g 0 n cap y m news S hfit (fun j hj=>by
      rw[hp.cell,Array.getElem?_eq_getElem (by simp only[List.size_toArray,hsz];omega)];rfl) (fun j _=>hp.free)
    refine⟨_,_,_,hr,?_⟩
    obtain⟨cs',c1,c2,c3⟩:=iE g (0+n * i.size) news w _ _ hp
    have he:cs'=(cs++news++rest.drop news.length).toArray:=by
     apply Array.ext_getElem?
     intro j
     rw[c3]
     simp only[List.size_toArray,hsz,List.getElem?_toArray,Nat.zero_add]
     by_cases hj:n * i.size<=j/\j<n * i.size+news.length/\j<cap * i.size
     ·rw[if_pos hj,List.getElem?_append_left (by simp;omega),List.getElem?_append_right (by omega),r2]
     ·rw[if_neg hj]
      by_cases hj1:j<n * i.size
      ·rw[List.getElem?_append_left (by omega),List.append_assoc,List.getElem?_append_left (by omega)]
      ·rw[List.getElem?_append_right (by omega),List.getElem?_append_right (by simp;omega),List.getElem?_drop]
       by_cases hj2:j<cap * i.size
       ·congr 1;simp;omega
       ·rw[List.getElem?_eq_none (by omega),List.getElem?_eq_none (by simp;omega)]
    rw[he]at c1
    refine kY ?_ ?_ hfit r4 c1
    ·rw[List.length_drop,r1,hnl,<- Nat.sub_mul];congr 1;omega
    ·rw[List.length_append,r2,hnl,Nat.add_mul]
  ·refine grow (by omega) ?_
   rcases hd with ⟨rfl,hc0⟩|⟨g,rest,rfl,_,_⟩
   ·have hcs:cs=[]:=List.eq_nil_of_length_eq_zero (by rw[l1,show n=0 by omega];simp)
    subst hcs
    simp[Builtin.firstCells]
   ·obtain⟨rest,r1,r2,r3,r4,hp⟩:=jb hw'
    refine run_firstCells_some w.drew i.size n ⟨g,0,none⟩ n cap cs l1 fun j u hu=>?_
    have:(⟨g,0,none⟩:Addr).add j=⟨g,j,none⟩:=by unfold Addr.add;split <;> simp_all
    rw[this]
    show w.cell? ⟨g,j,none⟩=some u
    rw[hp.cell]
    have hj:j<cs.length:=by
     rcases Nat.lt_or_ge j cs.length with c|c
     ·exact c
     ·rw[List.getElem?_eq_none c]at hu;cases hu
    simpa [List.getElem?_append_left hj]using hu
 obtain⟨a',cap',w',hr,hs⟩:=hrun
 have:(iS #[t,tx] ty [.slice a n cap,y]).run P w= .ok (.value (.slice a' (n+m) cap')) w':=by simp[iS,hr]
 rw[this]
 exact h a' cap' w' hs

theorem cA {tx e' T:TypeId}{s g m c:Nat}{cs:Array Value}{fz:Nat × Nat}(hk:P.underlying tx=some (.slice e'))(p:Pick L (pt g (.cells cs T fz)) L')(hl:cs.size=m * s)(h1:∀u∈cs.toList,u.oneCell'=true):
  ∀w,sat W L w->Src P s tx (.slice (some ⟨g,0,none⟩) m c) m cs.toList w:=fun w hw=>
 Src.ofSlice w hk _ _ _ _ (by simpa using hl) (fun j u hu=>by
  have:(⟨g,0,none⟩:Addr).add j=⟨g,j,none⟩:=by unfold Addr.add;split <;> simp_all
  rw[this,(hw.pick p).cell];simpa using hu) h1
theorem yx {tx e' e:TypeId}{s:Nat}{a:Option Addr}{cap m:Nat}{cs:List Value}(hk:P.underlying tx=some (.slice e'))(p:Pick L (Sl s e a cap m cs) L')(h1:∀u∈cs,u.oneCell'=true):
  ∀w,sat W L w->Src P s tx (.slice a m cap) m cs w:=fun w hw=>by
 have hw':=hw.pick p
 obtain⟨f,⟨l1,l2,l3,hd⟩,_⟩:=hw'.fst
 rcases hd with ⟨rfl,hc0⟩|⟨g,rest,rfl,_,_⟩
 ·have hm:m=0:=by omega
  subst hm
  have hcs:cs=[]:=List.eq_nil_of_length_eq_zero (by simpa using l1)
  subst hcs
  exact Src.ofNil w hk cap
 ·obtain⟨rest,r1,r2,r3,r4,hp⟩:=jb hw'
  refine Src.ofSlice w hk _ _ _ _ l1 (fun j u hu=>?_) h1
  have:(⟨g,0,none⟩:Addr).add j=⟨g,j,none⟩:=by unfold Addr.add;split <;> simp_all
  rw[this,hp.cell]
  have hj:j<cs.length:=by
   rcases Nat.lt_or_ge j cs.length with c|c
   ·exact c
   ·rw[List.getElem?_eq_none c]at hu;cases hu
  simpa [List.getElem?_append_left hj]using hu

theorem IH {t:TypeId}{v:Value}(h:∀g,aZ W (pt g (.cells v.cells t)::L) (k (.pointer (some ⟨g,0,none⟩)))):aZ W L (opN P (j7 t v) Kp k):=fun w hw=>by
 refine⟨?_⟩
 have:(j7 t v).run P w= .ok (.value (.pointer (some ⟨w.heap.size,0,none⟩))) (w.alloc (.cells v.cells t)):=by
  simp[j7,Instr.box,newVar,newRow]
 rw[this]
 exact h _ _ (hw.alloc _)
theorem wh {t:TypeId}{z:Value}(hz:∀w,(zeroValue t).run P w= .ok z w)(h:∀g,aZ W (pt g (.cells z.cells t)::L) (k (.pointer (some ⟨g,0,none⟩)))):aZ W L (opN P (ck t) Kp k):=fun w hw=>by
 refine⟨?_⟩
 have:(ck t).run P w= .ok (.value (.pointer (some ⟨w.heap.size,0,none⟩))) (w.alloc (.cells z.cells t)):=by
  simp[ck,Instr.alloc,hz,newVar,newRow]
 rw[this]
 exact h _ _ (hw.alloc _)
theorem eI {t e:TypeId}{b:Nat}{v:Value}[ht:SlT P t e 1 b][hv:OC v](h:∀g,aZ W (pt g (.cells #[v] e)::L) (k (.slice (some ⟨g,0,none⟩) 1 1))):aZ W L (opN P (cm t 1 [(0,v)]) Kp k):=fun w hw=>by
 refine⟨?_⟩
 obtain⟨i,z,hi,hz,hs,hb,hzs⟩:=ht.info
 have hc:v.cells= #[v]:=ak hv.one
 have hr:Array.range 1= #[0]:=rfl
 have:(cm t 1 [(0,v)]).run P w= .ok (.value (.slice (some ⟨w.heap.size,0,none⟩) 1 1)) (w.alloc (.cells #[v] e)):=by
  simp[cm,Instr.buildSlice,run_underlying ht.ut,di hi,hs,zeroValue,typeInfo,hi,hz,Instr.fill,hc,hr,newRow]
 rw[this]
 exact h _ _ (hw.alloc _)

class AggT (P:Program)(t:TypeId)(n:outParam Nat):Prop where
 agg:∀w,(isAgg t).run P w= .ok true w
 size:∀w,(sizeOf t).run P w= .ok n w
class ArrT (P:Program)(t:TypeId)(len:outParam Nat)(e:outParam TypeId)(s:outParam Nat):Prop where
 ut:∀w,(underlying t).run P w= .ok (.array len e) w
 size:∀w,(sizeOf e).run P w= .ok s w
theorem dm {t e:TypeId}{s len:Nat}{g o:Nat}{q:IntKind}{i:Int}(j:Nat)[ht:ArrT P t len e s](hi:i=(j:Int))(hlt:j<len):bg P W [] (iR t (.pointer (some ⟨g,o,none⟩)) (.int q i)) (.pointer (some ⟨g,o+j * s,none⟩)):=fun w _=>by
 subst hi
 simp[iR,Instr.indexAt,asIntOf,ht.ut,ht.size,hlt,Addr.add,Instr.sureAddr]
theorem cg {t:TypeId}{n g:Nat}{cs:Array Value}{T:TypeId}{fz:Nat × Nat}[ht:AggT P t n](hn:cs.size=n):bg P W [pt g (.cells cs T fz)] (aI t (.pointer (some ⟨g,0,none⟩))) (.agg cs):=fun w hw=>by
 have h:(loadCells ⟨g,0,none⟩ n).run P w= .ok cs w:=by
  subst hn
  have:=run_loadCells_list (P:=P) w ⟨g,0,none⟩ cs.toList (fun j v hv=>by
   have e:(⟨g,0,none⟩:Addr).add j=⟨g,j,none⟩:=by unfold Addr.add;split <;> simp_all
   rw[e,hw.cell];simpa using hv)
  simpa using this
 simp[aI,Instr.loadAt,Instr.sureAddr,loadVar,ht.agg,ht.size,h]
theorem ux {g:Nat}{T:TypeId}(vs:List Value)(w:World){cs:Array Value}(H:sat W (pt g (.cells cs T (0,0))::L) w)(hn:cs.size=vs.length)(h1:∀u∈vs,u.oneCell'=true):
  ∃w',(storeCells ⟨g,0,none⟩ vs).run P w= .ok () w'/\sat W (pt g (.cells vs.toArray T (0,0))::L) w':=by
 have hst:=run_storeCells_cells (P:=P) g 0 vs 0 w (fun j hj=>by rw[H.cell,Array.getElem?_eq_getElem (by omega)];rfl) (fun j _=>H.free) h1
 obtain⟨cs',c1,c2,c3⟩:=iE g (0+0) vs w cs T H
 refine⟨_,hst,?_⟩
 have he:cs'=vs.toArray:=by
  apply Array.ext_getElem?
  intro j
  rw[c3]
  simp only[Nat.add_zero,Nat.zero_le,true_and,Nat.zero_add,Nat.sub_zero,List.getElem?_toArray]
  by_cases hj:j<vs.length/\j<cs.size
  ·rw[if_pos hj]
  ·rw[if_neg hj,Array.getElem?_eq_none (by omega),List.getElem?_eq_none (by omega)]
 rwa [he]at c1
theorem bS {t T:TypeId} {n g:Nat} {cs vs:Array Value} [ht:AggT P t n] (p:Pick L (pt g (.cells cs T (0,0))) L') (hn:cs.size=n) (hv:vs.size=n) (h1:∀u∈vs.toList,u.oneCell'=true)
  (h:aZ W (pt g (.cells vs T (0,0))::L') (k undef)):aZ W L (opN P (aJ t (.pointer (some ⟨g,0,none⟩)) (.agg vs)) Kp k):=fun w hw=>by
 obtain⟨w',hr,hs⟩:=ux (P:=P) vs.toList w (hw.pick p) (by simp;omega) h1
 refine⟨?_⟩
 have:(aJ t (.pointer (some ⟨g,0,none⟩)) (.agg vs)).run P w= .ok .skip w':=by
  simp[aJ,Instr.storeAt,Instr.sureAddr,storeVar,ht.size,Value.cells,hv,hr]
 rw[this]
 exact h w' (by simpa using hs)
class ZeroT (P:Program)(t:TypeId)(z:outParam Value):Prop where
 run:∀w,(zeroValue t).run P w= .ok z w
theorem bp {t:TypeId}{cs:Array Value}[hz:ZeroT P t (.agg cs)](h:∀g,aZ W (pt g (.cells cs t (0,0))::L) (k (.pointer (some ⟨g,0,none⟩)))):aZ W L (opN P (ck t) Kp k):=wh hz.run h
theorem dx {t:TypeId}{z:Value}[hz:ZeroT P t z][hc:OC z](h:∀g,aZ W (pt g (.cells #[z] t (0,0))::L) (k (.pointer (some ⟨g,0,none⟩)))):aZ W L (opN P (ck t) Kp k):=wh hz.run (by rw[ak hc.one];exact h)
theorem bV {t:TypeId}{cs:Array Value}(h:∀g,aZ W (pt g (.cells cs t (0,0))::L) (k (.pointer (some ⟨g,0,none⟩)))):aZ W L (opN P (j7 t (.agg cs)) Kp k):=IH h
theorem fb {t:TypeId}{v:Value}[hc:OC v](h:∀g,aZ W (pt g (.cells #[v] t (0,0))::L) (k (.pointer (some ⟨g,0,none⟩)))):aZ W L (opN P (j7 t v) Kp k):=IH (by rw[ak hc.one];exact h)
theorem cG {t:TypeId}{n g:Nat}{cs:Array Value}{T:TypeId}{fz:Nat × Nat}[ht:AggT P t n](hn:cs.size=n):bg P W [pt g (.cells cs T fz)] (dG t (.pointer (some ⟨g,0,none⟩))) (.agg cs):=fun w hw=>by
 have:=cg (P:=P) (t:=t) hn w hw
 simp[aI,Instr.loadAt,Instr.sureAddr]at this
 simp[dG,asAddr,this]
theorem cB {t:TypeId}{g o:Nat}{cs:List Value}{T:TypeId}{fz:Nat × Nat}{v:Value}[ht:OneT P t](hc:Nth cs o v):bg P W [pt g (.cells cs.toArray T fz)] (dG t (.pointer (some ⟨g,o,none⟩))) v:=fun w hw=>by
 have:=bC (P:=P) (t:=t) hc w hw
 simp[aI,Instr.loadAt,Instr.sureAddr]at this
 simp[dG,asAddr,this]
end Sl
namespace Sl
open Go Go.RowKit Sh
variable {P:Program} {W:World} {L L' L'':List HP} {Kp:PK} {k:Value->WP} {A:HP}
structure RdB (W:World)(A:HP)(a:Option Addr)(n:Nat)(cs:List Value):Prop where
 len:cs.length=n
 at_:0<n->∃g o,a=some ⟨g,o,none⟩/\∀w L,sat W (A::L) w->∀j v,cs[j]? =some v->w.cell? ⟨g,o+j,none⟩=some v
theorem sat.only {w:World}(h:sat W (A::L) w):sat W [A] w:=(Imp.pick (L':=L) .here .nil).sat h
theorem cp (g o j:Nat):(⟨g,o,none⟩:Addr).add j=⟨g,o+j,none⟩:=by unfold Addr.add;split <;> simp_all
theorem cq {e:TypeId}{a:Option Addr}{cap n:Nat}{cs:List Value}(hl:cs.length=n)(ha:0<n->∃g,a=some ⟨g,0,none⟩):RdB W (Sl 1 e a cap n cs) a n cs:=⟨hl,fun hn=>by
 obtain⟨g,rfl⟩:=ha hn
 refine⟨g,0,rfl,fun w L hw j v hv=>?_⟩
 obtain⟨rest,r1,r2,r3,r4,hp⟩:=jb hw
 rw[Nat.zero_add,hp.cell]
 have hj:j<cs.length:=by
  rcases Nat.lt_or_ge j cs.length with c|c
  ·exact c
  ·rw[List.getElem?_eq_none c]at hv;cases hv
 simpa [List.getElem?_append_left hj]using hv⟩
theorem tm {g n:Nat}{cs:List Value}{T:TypeId}{fz:Nat × Nat}(h:cs.length=n):RdB W (pt g (.cells cs.toArray T fz)) (some ⟨g,0,none⟩) n cs:=⟨h,fun _=>⟨g,0,rfl,fun w L hw j v hv=>by rw[Nat.zero_add,hw.cell];simpa using hv⟩⟩
theorem JU {g o n:Nat}{cs:List Value}(hl:cs.length=n)(hg:g<W.heap.size)(hc:∀j v,cs[j]? =some v->W.cell? ⟨g,o+j,none⟩=some v):RdB W A (some ⟨g,o,none⟩) n cs:=
 ⟨hl,fun _=>⟨g,o,rfl,fun w L hw j v hv=>by rw[hw.base.cell (p:=⟨g,o+j,none⟩) hg];exact hc j v hv⟩⟩
theorem RdB.cut {a:Option Addr}{n cap l h:Nat}{cs:List Value}(H:RdB W A a n cs)(h1:l<=h)(h2:h<=n)(h3:n<=cap):RdB W A (if cap=l then a else a.map (·.add (l * 1))) (h-l) ((cs.drop l).take (h-l)):=by
 have hl:=H.len
 refine⟨by simp;omega,fun hn=>?_⟩
 obtain⟨g,o,rfl,hc⟩:=H.at_ (by omega)
 rw[if_neg (by omega)]
 refine⟨g,o+l,by simp[cp],fun w L hw j v hv=>?_⟩
 rw[Nat.add_assoc]
 refine hc w L hw (l+j) v ?_
 rw[List.getElem?_take]at hv
 split at hv
 ·rwa [List.getElem?_drop]at hv
 ·cases hv
theorem dF {tx e':TypeId}{a:Option Addr}{n cap:Nat}{cs:List Value}(hk:P.underlying tx=some (.slice e'))(p:Pick L A L')(H:RdB W A a n cs)(ha:a=none->n=0)(h1:∀u∈cs,u.oneCell'=true):
  ∀w,sat W L w->Src P 1 tx (.slice a n cap) n cs w:=fun w hw=>by
 have hl:=H.len
 rcases Nat.eq_zero_or_pos n with h0|hn
 ·subst h0
  have hcs:cs=[]:=List.eq_nil_of_length_eq_zero hl
  subst hcs
  cases a with
  |none=>exact Src.ofNil w hk cap
  |some ad=>exact Src.ofSlice w hk ad 0 cap [] (by simp) (fun j u hu=>by simp at hu) (by simp)
 ·obtain⟨g,o,rfl,hc⟩:=H.at_ hn
  exact Src.ofSlice w hk _ _ _ _ (by omega) (fun j u hu=>by rw[cp];exact hc w L' (hw.pick p) j u hu) h1
theorem bP {t:TypeId}{g o n j:Nat}{cs:List Value}{v:Value}[ht:OneT P t](H:RdB W A (some ⟨g,o,none⟩) n cs)(hv:cs[j]? =some v):bg P W [A] (aI t (.pointer (some ⟨g,o+j,none⟩))) v:=fun w hw=>by
 have hl:=H.len
 have hj:j<cs.length:=by
  rcases Nat.lt_or_ge j cs.length with c|c
  ·exact c
  ·rw[List.getElem?_eq_none c]at hv;cases hv
 obtain⟨g',o',e,hc⟩:=H.at_ (by omega)
 injection e with e;injection e with e1 e2;subst e1;subst e2
 have h:=hc w [] hw j v hv
 simp[aI,Instr.loadAt,Instr.sureAddr,loadVar,ht.agg,h]

theorem eC {q:IntKind}{i:Int}{y:Nat}{c:BoundsCode}(j:Nat)(hi:i=(j:Int))(h:j<=y)(w:World):(Instr.sliceBound (.int q i) y c).run P w= .ok j w:=by
 subst hi
 have:(0:Int)<=j/\(j:Int)<=y:=⟨by omega,by omega⟩
 simp[Instr.sliceBound,asIntOf,this]
theorem tq {t e:TypeId}{s b n cap:Nat}{a:Option Addr}{q r:IntKind}{i j:Int}(l h:Nat)[ht:SlT P t e s b](hi:i=(l:Int))(hj:j=(h:Int))(h1:l<=h)(h2:h<=cap):
  bg P W [] (ly t (.slice a n cap) (some (.int q i)) (some (.int r j)) none) (.slice (if cap=l then a else a.map (·.add (l * s))) (h-l) (cap-l)):=fun w _=>by
 obtain⟨inf,z,k1,_,k3,_⟩:=ht.info
 simp[ly,Instr.sliceAt,Instr.slice,Instr.sliceBounds,run_underlying ht.ut,eC h hj h2,eC l hi h1,di k1,k3]
theorem qB {t e:TypeId}{s b n cap:Nat}{a:Option Addr}{r:IntKind}{j:Int}(h:Nat)[ht:SlT P t e s b](hj:j=(h:Int))(h2:h<=cap):
  bg P W [] (ly t (.slice a n cap) none (some (.int r j)) none) (.slice (if cap=0 then a else a.map (·.add (0 * s))) h cap):=fun w _=>by
 obtain⟨inf,z,k1,_,k3,_⟩:=ht.info
 simp[ly,Instr.sliceAt,Instr.slice,Instr.sliceBounds,run_underlying ht.ut,eC h hj h2,di k1,k3]
theorem ph {t e:TypeId}{s b n cap:Nat}{a:Option Addr}{q:IntKind}{i:Int}(l:Nat)[ht:SlT P t e s b](hi:i=(l:Int))(h1:l<=n):
  bg P W [] (ly t (.slice a n cap) (some (.int q i)) none none) (.slice (if cap=l then a else a.map (·.add (l * s))) (n-l) (cap-l)):=fun w _=>by
 obtain⟨inf,z,k1,_,k3,_⟩:=ht.info
 simp[ly,Instr.sliceAt,Instr.slice,Instr.sliceBounds,run_underlying ht.ut,eC l hi h1,di k1,k3]

def B (c:UInt8):Value:= .int .u8 (c.toNat:Int)
instance {c:UInt8}:OC (B c):=⟨rfl⟩
theorem dY {l:List UInt8}:∀u∈l.map B,u.oneCell'=true:=by
 intro u hu;obtain⟨c,_,rfl⟩:=List.mem_map.1 hu;rfl
theorem wi {l:List UInt8}{j:Nat}(h:j<l.length):(l.map B)[j]? =some (B l[j]):=by simp[h]
def bm (l:List UInt8):Value:= .string ⟨l.toArray⟩
instance {l:List UInt8}:OC (bm l):=⟨rfl⟩
class StrT (P:Program)(t:TypeId):Prop where
 ut:P.underlying t=some .string
class BytesT (P:Program)(t:TypeId):Prop where
 ut:∃e,P.underlying t=some (.slice e)/\P.underlying e=some (.int .u8)
theorem iF {s t:TypeId}{a:Option Addr}{n cap:Nat}{l:List UInt8}[hs:BytesT P s][ht:StrT P t](H:RdB W A a n (l.map B))(ha:a=none->n=0):bg P W [A] (fR s t (.slice a n cap)) (bm l):=fun w hw=>by
 obtain⟨e,h1,h2⟩:=hs.ut
 have hl:l.length=n:=by simpa using H.len
 have key:(Conv.bytesToString (.slice a n cap)).run P w= .ok (bm l) w:=by
  rcases Nat.eq_zero_or_pos n with h0|hn
  ·subst h0
   have hl0:l=[]:=List.eq_nil_of_length_eq_zero hl
   subst hl0
   cases a with
   |none=>simp[Conv.bytesToString,bm];rfl
   |some ad=>
    rw[run_bytesToString w ad 0 cap [] (by simp[loadCells,loadCellsFrom])]
    rfl
  ·obtain⟨g,o,rfl,hc⟩:=H.at_ hn
   have hlc:=run_loadCells_list (P:=P) w ⟨g,o,none⟩ (l.map B) (fun j v hv=>by rw[cp];exact hc w [] hw j v hv)
   rw[List.length_map,hl]at hlc
   have hm:l.map B=(l.map fun c=>(c.toNat:Int)).map (Value.int .u8):=by simp[B,Function.comp_def]
   rw[hm]at hlc
   rw[run_bytesToString w _ n cap _ hlc]
   have hf:∀(m:List UInt8) (s:ByteArray),(m.map fun c=>(c.toNat:Int)).foldl (fun r n=>r.push (UInt8.ofNat n.toNat)) s=⟨s.data++m.toArray⟩:=by
    intro m
    induction m with
    |nil=>intro s;simp
    |cons c m ih=>
     intro s
     simp only[List.map_cons,List.foldl_cons,ih]
     simp[ByteArray.push]
   rw[hf]
   simp[bm,ByteArray.empty,ByteArray.emptyWithCapacity]
   rfl
 have hcv:=run_convert_bytes_string (P:=P) w s t e a n cap h1 h2 ht.ut
 simp[fR,hcv,key]
theorem C3 {l m:List UInt8}:((⟨l.toArray⟩:ByteArray).toList==(⟨m.toArray⟩:ByteArray).toList)=decide (l=m):=by
 rw[ByteArray.toList_mk,ByteArray.toList_mk]
 by_cases h:l=m <;> simp[h]
theorem cS {t:TypeId}{ox oy:Operand}{l m:List UInt8}:bg P W [] (kj .eql t ox oy (bm l) (bm m)) (.bool (decide (l=m))):=fun w _=>by
 simp[kj,sv,eqGuard,bm,binOp_string_eql]
 by_cases h:l=m <;> simp[h]
theorem ij {t:TypeId}{ox oy:Operand}{l m:List UInt8}:bg P W [] (kj .neq t ox oy (bm l) (bm m)) (.bool (decide (l≠m))):=fun w _=>by
 simp[kj,sv,eqGuard,bm,binOp_string_neq]
 by_cases h:l=m <;> simp[h]
theorem ce {t ty:TypeId}{l:List UInt8}[ht:StrT P t]:bg P W [] (ii #[t] ty [bm l]) (.int .i64 (l.length:Int)):=by
 have:=JT (P:=P) (W:=W) (t:=t) (ty:=ty) (s:=⟨l.toArray⟩) ht.ut
 simpa [bm,ByteArray.size]using this
theorem cU {s:Nat}{e:TypeId}{S:WP}(h:aZ W (Sl s e none 0 0 []::L) S):aZ W L S:=bF (bR .refl) h
end Sl
namespace Sl
open Go Sh
structure Shp (P:Program)(f:FuncId)(args:List Value)(sh:PK->(Value->WP)->WP):Prop where
 call:∀(a:Array Value) (w:World),(callFunc f a).run P w= .ok (.enter f a) w
 run:∀ {Kp:PK} {K:Value->WP} {w:World},sh Kp K w->Calls P f args.toArray w (after Kp K)
theorem SZ {P:Program} {f:FuncId} {fn:Func} {an:Ann} {args:List Value} {sh:PK->(Value->WP)->WP} (hm:P.follows .mixedOrders=true) (hc:∀(a:Array Value) (w:World),(callFunc f a).run P w= .ok (.enter f a) w) (hf:P.funcs[f]? =some fn)
  (he:∀Kp K,CP P an fn args Kp K=sh Kp K):Shp P f args sh:=⟨hc,fun {Kp K w} h=>iC (ul hm hf (an:=an) (args:=args) (cast (congrFun (he Kp K) w).symm h))⟩
theorem Ru {P:Program} {f:FuncId} {fn:Func} {an:Ann} {args:List Value} {sh:PK->(Value->WP)->WP} (hm:P.follows .mixedOrders=true) (hc:∀(a:Array Value) (w:World),(callFunc f a).run P w= .ok (.enter f a) w) (hf:P.funcs[f]? =some fn)
  (he:∀Kp K,zE P an fn args Kp K=sh Kp K):Shp P f args sh:=⟨hc,fun {Kp K w} h=>iC (sA hm hf (an:=an) (args:=args) (cast (congrFun (he Kp K) w).symm h))⟩
theorem Rv {P:Program} {f:FuncId} {fn:Func} {an:Ann} {args:List Value} {sh:PK->(Value->WP)->WP} (hm:P.follows .mixedOrders=true) (hc:∀(a:Array Value) (w:World),(callFunc f a).run P w= .ok (.enter f a) w) (hf:P.funcs[f]? =some fn)
  (he:∀Kp K,zG P an fn args Kp K=sh Kp K):Shp P f args sh:=⟨hc,fun {Kp K w} h=>iC (sE hm hf (an:=an) (args:=args) (cast (congrFun (he Kp K) w).symm h))⟩
theorem Shp.cn {P:Program}{W:World}{f:FuncId}{args:List Value}{sh:PK->(Value->WP)->WP}{α:Type}{A:List HP}{r:α->Value}{B:α->List HP}(H:Shp P f args sh)(h:∀F,aZ W (A++F) (sh gH fun v w=>∃x,v=r x/\sat W (B x++F) w)):Cn P f args W A r B:=
 Cn.of (shape:=sh) H.call H.run h
theorem Shp.cnP {P:Program}{W:World}{f:FuncId}{args:List Value}{sh:PK->(Value->WP)->WP}{α β:Type}{A:List HP}{r:α->Value}{B:α->List HP}{pc:β->List PanicEntry}{Bp:β->List HP}(H:Shp P f args sh)(h:∀F,aZ W (A++F) (sh (fun ch w=>∃y,ch=pc y/\sat W (Bp y++F) w) fun v w=>∃x,v=r x/\sat W (B x++F) w)):CnP P f args W A r B pc Bp:=
 CnP.of (shape:=sh) H.call H.run h
end Sl
namespace Cl
open Go Sl Go.RowKit Go.ChangeShapes Go.WideShapes
variable {H:Type} {enc:TypeId × Value->H} {P:Program}
def zR (P:Program)(ts:List TypeId):Bool:=ts.all fun t=>P.readableRec t&&decide (t<P.types.size)
theorem lF (hl:laidOutB P=true){W W':World}(hb:Below W.heap.size W W'):∀ {ts:List TypeId} {vs:List Value} {ds:List (DataW H)} {ps:List MemPlace},zR P ts=true->
  DataW.TrodAll enc P W 0 (fun _=>true) true ts vs ds ps->(∀x∈ps,x.block<W.heap.size)->DataW.TrodAll enc P W' 0 (fun b=>decide (b<W.heap.size)) true ts vs ds ps
 |[],vs,ds,ps,_,h,_=>by
  obtain⟨rfl,rfl,rfl⟩:=trodAll_nil h
  exact trodAll_mk0
 |t::ts,vs,ds,ps,hr,h,hlt=>by
  obtain⟨v,vs',d,ds',p,q,rfl,rfl,rfl,h1,h2⟩:=trodAll_cons h
  simp only[zR,List.all_cons,Bool.and_eq_true,decide_eq_true_eq]at hr
  exact trodAll_cons_mk (Below.trod hl hr.1.1 hr.1.2 h1 hb fun x hx=>hlt x (by simp[hx])) (lF hl hb (by simpa [zR]using hr.2) h2 fun x hx=>hlt x (by simp[hx]))
theorem yy {fn:Func} {s:ChangeSpec} {W W':World} {args:Array Value} {ds gs:List (DataW H)} {before:List MemPlace} {t:TypeId} {apart:Bool}
  (hl:laidOutB P=true) (hts:zR P fn.params.toList=true) (hvs:s.vars=[]) (hrt:fn.resultTypes= #[t]) (ht:P.underlying t=some .bool)
  (hW:DataW.Whole enc P fn.params.toList s.vars apart W args.toList ds gs before) (h1:(s.fn H (ds++gs)).results=[.lit (.bool true)]) (h2:(s.fn H (ds++gs)).args=ds) (h3:(s.fn H (ds++gs)).vars=gs)
  (hb:Below W.heap.size W W'):s.post enc P fn apart true false false W args (.bool true) W':=by
 have hW':=hW
 obtain⟨p,q,hA,hV,rfl,hz,hn⟩:=hW'
 have hlt:=hW.lt
 refine⟨ds,gs,p++q,[],p,q,hW,?_,?_,?_,hb.frame _,fun c=>by cases c⟩
 ·rw[h1,hrt]
  exact trodAll_cons_mk (shut_bool ht _) trodAll_mk0
 ·rw[h2]
  exact lF hl hb hts hA fun x hx=>hlt x (by simp[hx])
 ·rw[h3]
  rw[hvs]at hV ⊢
  obtain⟨rfl,rfl⟩:=trodVars_none hV
  rfl
theorem C4 {f:FuncId}{args:List Value}{W:World}{α:Type}{B:α->List HP}(h:Cn P f args W [] (fun _:α=> .bool true) B):Calls P f args.toArray W fun e w'=>e= .returned (.bool true)/\Below W.heap.size W w':=
 (h.run [] W (sat.start W)).mono fun e w' ⟨x,he,hs⟩=>⟨he,hs.base⟩
end Cl
namespace Sl
open Go Go.RowKit Sh
variable {P:Program} {W:World} {L L':List HP} {Kp:PK} {k:Value->WP} {A:HP}
theorem C5 {t e ty:TypeId}{s b:Nat}{a:Option Addr}{n cap:Nat}[ht:SlT P t e s b]:bg P W [] (wb #[t] ty [.slice a n cap]) (.int .i64 (cap:Int)):=fun w _=>by
 simp[wb,Builtin.cap_,run_underlying ht.ut,goInt]
theorem jE {t:TypeId}{n m g o j:Nat}{cs vs:List Value}[ht:AggT P t n](H:RdB W A (some ⟨g,o,none⟩) m cs)(hn:vs.length=n)(hc:∀i,i<n->cs[j+i]? =vs[i]?):bg P W [A] (aI t (.pointer (some ⟨g,o+j,none⟩))) (.agg vs.toArray):=fun w hw=>by
 have h:(loadCells ⟨g,o+j,none⟩ n).run P w= .ok vs.toArray w:=by
  subst hn
  refine run_loadCells_list (P:=P) w ⟨g,o+j,none⟩ vs (fun i v hv=>?_)
  have hi:i<vs.length:=by
   rcases Nat.lt_or_ge i vs.length with c|c
   ·exact c
   ·rw[List.getElem?_eq_none c]at hv;cases hv
  have hcv:=hc i hi
  rw[hv]at hcv
  have hl:=H.len
  have hlt:j+i<cs.length:=by
   rcases Nat.lt_or_ge (j+i) cs.length with c|c
   ·exact c
   ·rw[List.getElem?_eq_none c]at hcv;cases hcv
  obtain⟨g',o',e,hcell⟩:=H.at_ (by omega)
  injection e with e;injection e with e1 e2;subst e1;subst e2
  rw[cp,Nat.add_assoc]
  exact hcell w [] hw (j+i) v hcv
 simp[aI,Instr.loadAt,Instr.sureAddr,loadVar,ht.agg,ht.size,h]
theorem nV {s:Nat}{e:TypeId}{a:Option Addr}{cap n:Nat}{cs:List Value}(hl:cs.length=n * s)(ha:0<n->∃g,a=some ⟨g,0,none⟩):RdB W (Sl s e a cap n cs) a (n * s) cs:=⟨hl,fun hn=>by
 obtain⟨g,rfl⟩:=ha (by
  rcases Nat.eq_zero_or_pos n with z|z
  ·subst z;simp at hn
  ·exact z)
 refine⟨g,0,rfl,fun w L hw j v hv=>?_⟩
 obtain⟨rest,r1,r2,r3,r4,hp⟩:=jb hw
 rw[Nat.zero_add,hp.cell]
 have hj:j<cs.length:=by
  rcases Nat.lt_or_ge j cs.length with c|c
  ·exact c
  ·rw[List.getElem?_eq_none c]at hv;cases hv
 simpa [List.getElem?_append_left hj]using hv⟩
theorem C7 {a:Option Addr}{n m:Nat}{cs:List Value}(H:RdB W A a n cs)(hm:m<=n):RdB W A a m (cs.take m):=by
 refine⟨by rw[List.length_take,H.len];omega,fun h0=>?_⟩
 obtain⟨g,o,e,hc⟩:=H.at_ (by omega)
 refine⟨g,o,e,fun w L hw j v hv=>hc w L hw j v ?_⟩
 rw[List.getElem?_take]at hv
 split at hv
 ·exact hv
 ·cases hv
theorem nW {t e:TypeId}{s b:Nat}[ht:SlT P t e s b](h:∀g,aZ W (Sl s e (some ⟨g,0,none⟩) 0 0 []::L) (k (.slice (some ⟨g,0,none⟩) 0 0))):aZ W L (opN P (cm t 0 []) Kp k):=fun w hw=>by
 refine⟨?_⟩
 obtain⟨i,z,hi,hz,hs,hb,hzs⟩:=ht.info
 have e0:(Array.range 0).map (fun _=>(default:Value))= #[]:=Array.eq_empty_of_size_eq_zero (by simp)
 have:(cm t 0 []).run P w= .ok (.value (.slice (some ⟨w.heap.size,0,none⟩) 0 0)) (w.alloc (.cells #[] e)):=by
  simp[cm,Instr.buildSlice,run_underlying ht.ut,di hi,newRow,Instr.fill]
  rw[e0]
 rw[this]
 exact h _ _ ((Gt (cs:=[]) .here (by simp) (by unfold maxLen;omega) .refl).sat (hw.alloc (.cells #[] e)))
theorem mI {tx e':TypeId}{s:Nat}{a:Option Addr}{n cap:Nat}{cs:List Value}(hk:P.underlying tx=some (.slice e'))(hs:0<s)(p:Pick L A L')(H:RdB W A a (n * s) cs)(ha:a=none->n=0)(h1:∀u∈cs,u.oneCell'=true):
  ∀w,sat W L w->Src P s tx (.slice a n cap) n cs w:=fun w hw=>by
 have hl:=H.len
 rcases Nat.eq_zero_or_pos n with h0|hn
 ·subst h0
  have hcs:cs=[]:=List.eq_nil_of_length_eq_zero (by simpa using hl)
  subst hcs
  cases a with
  |none=>exact Src.ofNil w hk cap
  |some ad=>exact Src.ofSlice w hk ad 0 cap [] (by simp) (fun j u hu=>by simp at hu) (by simp)
 ·obtain⟨g,o,rfl,hc⟩:=H.at_ (Nat.mul_pos hn hs)
  exact Src.ofSlice w hk _ _ _ _ hl (fun j u hu=>by rw[cp];exact hc w L' (hw.pick p) j u hu) h1
end Sl
namespace Sl
open Go Go.RowKit Sh
variable {P:Program} {W:World} {L L' L'':List HP} {Kp:PK} {k:Value->WP}
theorem zS {F:Nat->HP}{i:Nat}:∀(l:List Nat),i∈l->l.Nodup->∀ {h:jC},all (l.map F) W h->i_ (F i) (all ((l.filter fun j=>decide (j≠i)).map F)) W h
 |[],hi,_,_,_=>by simp at hi
 |j::l,hi,hn,h,H=>by
  rw[List.nodup_cons]at hn
  by_cases c:j=i
  ·subst c
   have e:(List.filter (fun x=>decide (x≠j)) (j::l))=l:=by
    rw[List.filter_cons_of_neg (by simp)]
    exact List.filter_eq_self.2 fun x hx=>by
     simp only[ne_eq,decide_not,Bool.not_eq_eq_eq_not,Bool.not_true,decide_eq_false_iff_not]
     rintro rfl
     exact hn.1 hx
   rw[e]
   exact H
  ·have hi':i∈l:=by
    rcases List.mem_cons.1 hi with e|e
    ·exact absurd e.symm c
    ·exact e
   rw[List.filter_cons_of_pos (by simpa using c),List.map_cons]
   have:=eA (fun h=>zS (i:=i) l hi' hn.2 (h:=h)) H
   exact jj this
theorem C8 {F:Nat->HP}{i:Nat}:∀(l:List Nat),i∈l->l.Nodup->∀ {h:jC},i_ (F i) (all ((l.filter fun j=>decide (j≠i)).map F)) W h->all (l.map F) W h
 |[],hi,_,_,_=>by simp at hi
 |j::l,hi,hn,h,H=>by
  rw[List.nodup_cons]at hn
  by_cases c:j=i
  ·subst c
   have e:(List.filter (fun x=>decide (x≠j)) (j::l))=l:=by
    rw[List.filter_cons_of_neg (by simp)]
    exact List.filter_eq_self.2 fun x hx=>by
     simp only[ne_eq,decide_not,Bool.not_eq_eq_eq_not,Bool.not_true,decide_eq_false_iff_not]
     rintro rfl
     exact hn.1 hx
   rw[e]at H
   exact H
  ·have hi':i∈l:=by
    rcases List.mem_cons.1 hi with e|e
    ·exact absurd e.symm c
    ·exact e
   rw[List.filter_cons_of_pos (by simpa using c),List.map_cons]at H
   exact eA (fun h=>C8 (i:=i) l hi' hn.2 (h:=h)) (jj H)
def BS (n:Nat)(F:Nat->HP):HP:=all ((List.range n).map F)
def BH (n:Nat)(F:Nat->HP)(i:Nat):HP:=all (((List.range n).filter fun j=>decide (j≠i)).map F)
theorem BH.congr {n i:Nat}{F F':Nat->HP}(h:∀j,j<n->j≠i->F j=F' j):BH n F i=BH n F' i:=by
 unfold BH
 congr 1
 exact List.map_congr_left fun j hj=>by
  rw[List.mem_filter]at hj
  exact h j (List.mem_range.1 hj.1) (by simpa using hj.2)
theorem II {n:Nat}{F:Nat->HP}{S:WP}(p:Pick L (BS n F) L')(i:Nat)(hi:i<n)(h:aZ W (F i::BH n F i::L') S):aZ W L S:=fun w hw=>by
 refine h w (sat.map (L:=BS n F::L') (fun f H=>?_) (hw.pick p))
 have H2:i_ (all [F i,BH n F i]) (all L') W f:=by
  obtain⟨h1,h2,ha,r⟩:=H
  refine⟨h1,h2,?_,r⟩
  obtain⟨k1,k2,b1,b2,d,t1,t2⟩:=zS (List.range n) (List.mem_range.2 hi) List.nodup_range ha
  exact⟨k1,k2,b1,⟨k2,fun _=>none,b2,trivial,fun _=> .inr rfl,fun _ _ c=>c,fun _ _ c=>by cases c⟩,d,t1,t2⟩
 exact cy H2
theorem uy {n:Nat}{F F':Nat->HP}{M:List HP}(i:Nat)(hi:i<n)(hF:∀j,j<n->j≠i->F j=F' j)(h:Imp W L (F' i::BH n F i::M)):Imp W L (BS n F'::M):=by
 refine .conv (B:=all [F' i,BH n F i]) (fun f H=>?_) (.all h)
 refine C8 (List.range n) (List.mem_range.2 hi) List.nodup_range ?_
 have e:=BH.congr hF
 obtain⟨k1,k2,b1,⟨k3,k4,b2,_,_,t3,_⟩,d,t1,t2⟩:=H
 rw[e]at b2
 refine⟨k1,k3,b1,b2,fun j=>?_,t1,fun j o c=>t2 j o (t3 j o c)⟩
 rcases d j with c|c
 ·exact .inl c
 ·right
  cases c':k3 j with
  |none=>rfl
  |some o=>rw[t3 j o c']at c;cases c
theorem Gu {F:Nat->HP}{M:List HP}(h:Imp W L M):Imp W L (BS 0 F::M):= .all (M:=M) (N:=[]) h
theorem Gv {n:Nat}{F F':Nat->HP}{M:List HP}(hF:∀j,j<n->F j=F' j)(h:Imp W L (BS n F::F' n::M)):Imp W L (BS (n+1) F'::M):=by
 refine .conv (B:=all [BS n F,F' n]) (fun f H=>?_) (.all h)
 unfold BS
 rw[List.range_succ,List.map_append]
 refine cy ?_
 obtain⟨k1,k2,b1,b2,d,t1,t2⟩:=H
 refine⟨k1,k2,?_,b2,d,t1,t2⟩
 have e:(List.range n).map F'=(List.range n).map F:=List.map_congr_left fun j hj=>(hF j (List.mem_range.1 hj)).symm
 rw[e];exact b1
theorem uz {t e:TypeId}{s b n cap:Nat}{g:Nat}{r:IntKind}{j:Int}(h:Nat)[ht:SlT P t e s b](hj:j=(h:Int))(h2:h<=cap):
  bg P W [] (ly t (.slice (some ⟨g,0,none⟩) n cap) none (some (.int r j)) none) (.slice (some ⟨g,0,none⟩) h cap):=by
 have:=qB (P:=P) (W:=W) (t:=t) (n:=n) (a:=some ⟨g,0,none⟩) (r:=r) h hj h2
 have e:(if cap=0 then some (⟨g,0,none⟩:Addr)else(some (⟨g,0,none⟩:Addr)).map (·.add (0 * s)))=some ⟨g,0,none⟩:=by
  split
  ·rfl
  ·simp[cp]
 rwa [e]at this
theorem zT {t:TypeId}{g o n i j:Nat}{cs:List Value}{v:Value}{A:HP}[ht:OneT P t](H:RdB W A (some ⟨g,o,none⟩) n cs)(hv:cs[i+j]? =some v):bg P W [A] (aI t (.pointer (some ⟨g,o+i+j,none⟩))) v:=by
 rw[Nat.add_assoc];exact bP H hv
end Sl
namespace Sl
open Go Sh
variable {P:Program} {W:World} {L L' M F:List HP} {Kp:PK} {k:Value->WP} {S:WP}
theorem aw (h:Imp W L M:=by repeat(first|exact .refl|exact .nil|(apply Imp.pick;(focus ((repeat constructor);done)))|refine .drop ?_)):Imp W L M:=h
theorem aq {A B:Prop}(h:B)(e:A=B:=by first|(simp only[ca_,na_,-eq_self];exact rfl)|exact rfl):A:=e▸h
theorem o_ {s:Sem Next}{v:Value}(hr:bg P W [] s v)(h:aZ W L (k v)):aZ W L (opN P s Kp k):=am hr .nil h
theorem t_ {s:Sem Next}{v:Value}(hr:bg P W [] s v)(h:aZ W L (k v)):aZ W L (stS P s k):=aT hr .nil h
theorem bt {A:List HP}{s:Sem Next}{v:Value}(hr:bg P W A s v)(h:aZ W L (k v))(i:Imp W L A:=by exact .pick (by repeat constructor) .nil):aZ W L (opN P s Kp k):=am hr i h
theorem eJ {A:List HP}{s:Sem Next}{v:Value}(hr:bg P W A s v)(h:aZ W L (k v))(i:Imp W L A:=by exact .pick (by repeat constructor) .nil):aZ W L (stS P s k):=aT hr i h
theorem bJ {t:TypeId}{g o:Nat}{cs:List Value}{T:TypeId}{fz:Nat × Nat}{v:Value}[ht:OneT P t](h:aZ W L (k v))(i:Imp W L [pt g (.cells cs.toArray T fz)]:=by exact .pick (by repeat constructor) .nil)(hc:Nth cs o v:=by repeat constructor):aZ W L (opN P (aI t (.pointer (some ⟨g,o,none⟩))) Kp k):=am (bC hc) i h
theorem ew {t:TypeId}{g o:Nat}{cs:List Value}{T:TypeId}{fz:Nat × Nat}{v:Value}[ht:OneT P t](h:aZ W L (k v))(i:Imp W L [pt g (.cells cs.toArray T fz)]:=by exact .pick (by repeat constructor) .nil)(hc:Nth cs o v:=by repeat constructor):aZ W L (stS P (aI t (.pointer (some ⟨g,o,none⟩))) k):=aT (bC hc) i h
theorem lG {t:TypeId}{n g:Nat}{cs:Array Value}{T:TypeId}{fz:Nat × Nat}[ht:AggT P t n](h:aZ W L (k (.agg cs)))(i:Imp W L [pt g (.cells cs T fz)]:=by exact .pick (by repeat constructor) .nil)(hn:cs.size=n:=by rfl):aZ W L (opN P (aI t (.pointer (some ⟨g,0,none⟩))) Kp k):=am (cg hn) i h
theorem eE {t:TypeId}{g o:Nat}{cs cs':List Value}{T:TypeId}{v:Value}[ht:OneT P t][hv:OC v](h:aZ W (pt g (.cells cs'.toArray T (0,0))::L') (k undef))(p:Pick L (pt g (.cells cs.toArray T (0,0))) L':=by repeat constructor)(ho:Put cs o v cs':=by repeat constructor):aZ W L (opN P (aJ t (.pointer (some ⟨g,o,none⟩)) v) Kp k):=eR p ho h
theorem fO {t T:TypeId}{n g:Nat}{cs vs:Array Value}[ht:AggT P t n](h:aZ W (pt g (.cells vs T (0,0))::L') (k undef))(p:Pick L (pt g (.cells cs T (0,0))) L':=by repeat constructor)(hn:cs.size=n:=by rfl)(hv:vs.size=n:=by rfl)(h1:∀u∈vs.toList,u.oneCell'=true:=by first|(simp[Value.oneCell'];done)|(intro u hu;simp at hu;rcases hu with rfl|rfl <;> rfl)|(intro u hu;simp at hu;rcases hu with rfl|rfl|rfl <;> rfl)):aZ W L (opN P (aJ t (.pointer (some ⟨g,0,none⟩)) (.agg vs)) Kp k):=bS p hn hv h1 h
theorem fP {vs:List Value}{i:Nat}{v:Value}(h:aZ W L (k v))(hc:Nth vs i v:=by repeat constructor):aZ W L (opN P (l7 (.tuple vs.toArray) i) Kp k):=am (bM hc) .nil h
theorem Tl {vs:List Value}{i:Nat}{v:Value}(h:aZ W L (k v))(hc:Nth vs i v:=by repeat constructor):aZ W L (stS P (l7 (.tuple vs.toArray) i) k):=aT (bM hc) .nil h
theorem bG {t:TypeId}{a b:Int}(h:aZ W L (k (.int .i64 (a+b))))(h1: -9223372036854775808<=a+b:=by omega)(h2:a+b<=9223372036854775807:=by omega):aZ W L (opN P (aY .add t (.int .i64 a) (.int .i64 b)) Kp k):=am (bU h1 h2) .nil h
theorem dX {t:TypeId}{a b:Int}(h:aZ W L (k (.int .i64 (a-b))))(h1: -9223372036854775808<=a-b:=by omega)(h2:a-b<=9223372036854775807:=by omega):aZ W L (opN P (aY .sub t (.int .i64 a) (.int .i64 b)) Kp k):=am (dv h1 h2) .nil h
theorem c_ {α:Type}{f:FuncId}{args:List Value}{A:List HP}{r:α->Value}{B G:α->List HP}(hf:Cn P f args W A r B)(h:∀x,aZ W (G x) (k (r x)))(p:Picks L A F:=by repeat(first|exact Picks.nil|(apply Picks.cons;(focus repeat constructor))))(e:∀x,B x++F=G x:=by intro _;first|(simp only[ca_,na_,-eq_self];exact rfl)|exact rfl):aZ W L (opN P (bN (fn f) args) Kp k):=aB hf p fun x=>e x▸h x
theorem cf {A:List HP}(h:aZ W L S)(i:Imp W L A:=by repeat(first|exact .refl|exact .nil|(apply Imp.pick;(focus ((repeat constructor);done)))|refine .drop ?_)):aZ W L (fun w=>sat W A w/\S w):=bZ i h
theorem bq {α:Type}{φ:α->Prop}{M:α->List HP}(x:α)(i:Imp W L (M x))(hv:φ x:=by first|exact rfl|trivial):aZ W L (fun w'=>∃x,φ x/\sat W (M x) w'):=fun w hw=>⟨x,hv,i.sat hw⟩
end Sl
namespace Sg
open Go Sh Sl
abbrev E:=List (Nat × Value)
def Rw (b:Bool)(v:Value)(f:E->Value)(r:E):Value:=match b with
 |true=>v
 |false=>f r
theorem Nm {v:Value}{f:E->Value}{r:E}:Rw true v f r=v:=rfl
theorem Nn {v:Value}{f:E->Value}{r:E}:Rw false v f r=f r:=rfl
def lk (t:Nat):E->Value
 |[]=>undef
 |(i,v)::r=>match t==i with
  |true=>v
  |false=>lk t r
theorem Rx {t i:Nat}{v:Value}{r:E}:lk t ((i,v)::r)=Rw (t==i) v (lk t) r:=rfl
def vq (e:E):Operand->Value
 | .tmp t=>lk t e
 | .const v=>v
 | .global g=> .pointer (some ⟨g,0,none⟩)
 | .func f=>fn f
theorem Ry {e:E}{t:Nat}:vq e (.tmp t)=lk t e:=rfl
def vo (e:E):Option Operand->Option Value
 |none=>none
 |some x=>some (vq e x)
def vl (e:E):List Operand->List Value
 |[]=>[]
 |x::r=>vq e x::vl e r
def vp (e:E):List (Nat × Operand)->List (Nat × Value)
 |[]=>[]
 |(i,x)::r=>(i,vq e x)::vp e r
def bi (ts:Array TypeId)(t:TypeId)(a:List Value):Builtin->Sem Next
 | .append=>iS ts t a
 | .len=>ii ts t a
 | .cap=>wb ts t a
 | .copy=>CT ts t a
 | .delete=>Rs ts t a
 | .min=>JN ts t a
 | .max=>JO ts t a
 | .clear=>JP ts t a
 |_=>pure .skip
def cl (e:E)(t:TypeId)(a:List Operand)(ts:Array TypeId):Callee->Sem Next
 | .value f=>bN (vq e f) (vl e a)
 | .invoke r n=>Rt (vq e r) n (vl e a)
 | .builtin b=>bi ts t (vl e a) b
def bn (e:E)(t:TypeId)(x y:Operand):BinOp->Sem Next
 | .eql=>kj .eql t x y (vq e x) (vq e y)
 | .neq=>kj .neq t x y (vq e x) (vq e y)
 |b=>aY b t (vq e x) (vq e y)
def og (e:E)(t:TypeId):Op->Sem Next
 | .pick a b c=>iV (vq e a) (vq e b) (vq e c)
 | .alloc u=>ck u
 | .box u x=>j7 u (vq e x)
 | .build u ps=>aM u (vp e ps.toList)
 | .buildSlice u n ps=>cm u n (vp e ps.toList)
 | .load u x=>aI u (vq e x)
 | .store u x y=>aJ u (vq e x) (vq e y)
 | .nilCheck x=>j8 (vq e x)
 | .binOp b u x y _=>bn e u x y b
 | .unOp b _ x=>Bu b (vq e x)
 | .convert u s x=>fR u s (vq e x)
 | .slice u x l h m=>ly u (vq e x) (vo e l) (vo e h) (vo e m)
 | .fieldAddr u x i=>jf u (vq e x) i
 | .field u x i=>Rr u (vq e x) i
 | .indexAddr u x i=>iR u (vq e x) (vq e i)
 | .index u x i=>nQ u (vq e x) (vq e i)
 | .lookup u x i ok=>o7 u (vq e x) (vq e i) ok
 | .mapUpdate u m k x=>iW u (vq e m) (vq e k) (vq e x)
 | .insert u m k x=>iW u (vq e m) (vq e k) (vq e x)
 | .mapEntry u m k=>jB u (vq e m) (vq e k)
 | .entryStore u m s x=>qs u (vq e m) (vq e s) (vq e x)
 | .range u x=>JL u (vq e x)
 | .next x s=>Nk (vq e x) s t
 | .entry x=>JM (vq e x)
 | .typeAssert x u a ok=>Nl (vq e x) u a ok
 | .extract x i=>l7 (vq e x) i
 | .makeInterface u x=>yt u (vq e x)
 | .makeFunc f a b=>ur f (vl e a.toList) (vl e b.toList)
 | .makeMap u r=>qt u (vo e r)
 | .makeSlice u l c=>o8 u (vq e l) (vq e c)
 | .sliceToArrayPointer u x=>CS u (vq e x)
 | .panic x=>qv (vq e x)
 | .call c=>cl e t c.args.toList c.argTypes c.callee
 |_=>pure .skip

inductive RO where
 |mv (x:Operand)
 |op (t:TypeId) (o:Op)
abbrev Gd:=Option (Nat × Bool)
inductive DO where
 |nil
 |a (d:Option Nat) (g:Gd) (o:RO) (r:DO)
 |b (d:Option Nat) (g:Gd) (o:RO) (l:List Nat) (r:DO)
 |s (d:Option Nat) (g:Gd) (o:RO) (r:DO)
 |c (k:Nat) (d:Option Nat) (g:Gd) (o:RO) (r:DO)
 |alt (x y:DO)
inductive D where
 |skip
 |reg (l:List (Option Nat × Gd × RO))
 |drw (t:DO)
 |seq (x y:D)
 |cut (l:List Nat) (x y:D)
 |cond (c:Operand) (x y:D)
 |blk (x:D)
 |bcut (l:List Nat) (x:D)
 |loop (l:List Nat) (x:D)
 |ex (n:Nat)
 |ret
 |bad
def ro (t:TypeId):Op->RO
 | .move x=> .mv x
 | .assign x=> .mv x
 |o=> .op t o
def Rz:List Oper->Nat->Nat
 |[],_=>0
 |o::_,0=>match o.dst with
  |some t=>t
  |none=>0
 |_::r,j+1=>Rz r j
def gd (all:List Oper):Option (Nat × Bool)->Gd
 |none=>none
 |some (j,w)=>some (Rz all j,w)
def RA (all:List Oper):List Oper->List (Option Nat × Gd × RO)
 |[]=>[]
 |o::r=>(o.dst,gd all o.guard,ro o.type o.op)::RA all r
def RB:List Oper->Nat->Option Oper
 |[],_=>none
 |o::_,0=>some o
 |_::r,n+1=>RB r n
def lo {α:Type}(k:Nat):List (Nat × α)->Option α
 |[]=>none
 |(i,x)::r=>match Nat.beq i k with
  |true=>some x
  |false=>lo k r
def IJ (all:List Oper)(os:List (Nat × List Nat)):DT->DO
 | .nil=> .nil
 | .op k md t=>match RB all k with
  |none=> .nil
  |some o=>match Nat.beq md 3 with
   |true=> .c k o.dst (gd all o.guard) (ro o.type o.op) (IJ all os t)
   |false=>match Nat.beq md 0 with
    |false=> .s o.dst (gd all o.guard) (ro o.type o.op) (IJ all os t)
    |true=>match lo k os with
     |none=> .a o.dst (gd all o.guard) (ro o.type o.op) (IJ all os t)
     |some l=> .b o.dst (gd all o.guard) (ro o.type o.op) l (IJ all os t)
 | .alt a b=> .alt (IJ all os a) (IJ all os b)
def fo (a b:Nat):Nat:=match Nat.beq a 1000000 with
 |true=>b
 |false=>a
def fi:Code->Nat
 | .region id _ _=>id
 | .seq a b=>fo (fi a) (fi b)
 | .cond _ a b=>fo (fi a) (fi b)
 | .block _ b=>fi b
 | .loop b=>fi b
 | .scope b=>fi b
 |_=>1000000
def pl:Code->Bool
 | .region .. =>true
 | .skip=>true
 | .label _=>true
 |_=>false
def ct (an:Ann)(x y:Code):Option (List Nat):=match pl x with
 |true=>lo (fi y) an.rcuts
 |false=>lo (fi y) an.cuts
def ix (i:Nat):List Nat->Nat
 |[]=>0
 |a0::r=>match Nat.beq i a0 with
  |true=>0
  |false=>match r with
   |[]=>0
   |a1::r=>match Nat.beq i a1 with
    |true=>1
    |false=>match r with
     |[]=>0
     |a2::r=>match Nat.beq i a2 with
      |true=>2
      |false=>match r with
       |[]=>0
       |a3::_=>match Nat.beq i a3 with
        |true=>3
        |false=>4
def ls {α:Type}:Option (List α)->List α
 |none=>[]
 |some l=>l
def dc (an:Ann)(os:List (Nat × List (Nat × List Nat))):List Nat->Code->D
 |_,.skip=> .skip
 |_,.region i ops d=>match d with
  |false=> .reg (RA ops.toList ops.toList)
  |true=>match lo i an.drs with
   |none=> .bad
   |some t=> .drw (IJ ops.toList (ls (lo i os)) t)
 |bl,.seq x y=>match ct an x y with
  |none=> .seq (dc an os bl x) (dc an os bl y)
  |some l=> .cut l (dc an os bl x) (dc an os bl y)
 |bl,.cond c x y=> .cond c (dc an os bl x) (dc an os bl y)
 |bl,.block i b=>match lo i an.blks with
  |none=> .blk (dc an os (i::bl) b)
  |some l=> .bcut l (dc an os (i::bl) b)
 |bl,.loop b=>match lo (fi b) an.loops with
  |none=> .bad
  |some l=> .loop l (dc an os bl b)
 |bl,.exit i=> .ex (ix i bl)
 |_,.ret=> .ret
 |_,.label _=> .skip
 |bl,.scope b=>dc an os bl b
 |_,_=> .bad

section
variable (Kp:PK)
def C9 (e:E):RO->(Value->WP)->WP
 | .mv x=>fun k=>k (vq e x)
 | .op t o=>opN p_ (og e t o) Kp
def No (e:E):RO->(Value->WP)->WP
 | .mv x=>fun k=>k (vq e x)
 | .op t o=>stS p_ (og e t o)
def Qa (e:E):RO->(WP->Value->WP)->WP
 | .mv _=>fun _ _=>False
 | .op t o=>stD p_ (og e t o)
def has (k:Nat):List Nat->Bool
 |[]=>false
 |i::r=>match i==k with
  |true=>true
  |false=>has k r
def ob (l:List Nat):List (Nat × WP)->WP->WP
 |[],S=>S
 |(k,D)::r,S=>match has k l with
  |true=>fun w=>D w/\ob l r S w
  |false=>ob l r S
def pp (d:Option Nat)(v:Value)(e:E):E:=match d with
 |none=>e
 |some t=>(t,v)::e
def gk (g:Gd)(e:E)(body:(Value->WP)->WP)(k:Value->WP):WP:=match g with
 |none=>body k
 |some (t,w)=>gdK (lk t e) w body k
def Np (g:Gd)(e:E)(body:(WP->Value->WP)->WP)(k:WP->Value->WP):WP:=match g with
 |none=>body k
 |some (t,w)=>gdD (lk t e) w body k
def pW (K:E->WP):List (Option Nat × Gd × RO)->E->WP
 |[],e=>K e
 |(d,g,o)::r,e=>gk g e (C9 Kp e o) fun v=>pW K r (pp d v e)
def dw (K:E->WP):DO->List (Nat × WP)->E->WP
 | .nil,_,e=>K e
 | .a d g o r,q,e=>gk g e (C9 Kp e o) fun v=>dw K r q (pp d v e)
 | .b d g o l r,q,e=>gk g e (C9 Kp e o) fun v=>ob l q (dw K r q (pp d v e))
 | .s d g o r,q,e=>gk g e (No e o) fun v=>dw K r q (pp d v e)
 | .c k d g o r,q,e=>Np g e (Qa e o) fun D v=>dw K r ((k,D)::q) (pp d v e)
 | .alt x y,q,e=>yi (dw K x q e) (dw K y q e)
def S0 (l:List Nat)(B:(E->WP)->WP)(R:E->WP)(e:E):WP:=match l with
 |[]=>yu (fun J=>B fun _=>J) fun _=>R e
 |[a]=>uu (fun J=>B fun e'=>J (lk a e')) fun _ x=>R ((a,x)::e)
 |[a,b]=>sG (fun J=>B fun e'=>J (lk a e') (lk b e')) fun _ x y=>R ((a,x)::(b,y)::e)
 |[a,b,c]=>JQ (fun J=>B fun e'=>J (lk a e') (lk b e') (lk c e')) fun _ x y z=>R ((a,x)::(b,y)::(c,z)::e)
 |[a,b,c,d]=>JR (fun J=>B fun e'=>J (lk a e') (lk b e') (lk c e') (lk d e')) fun _ x y z u=>R ((a,x)::(b,y)::(c,z)::(d,u)::e)
 |_=>fun _=>False
def Tm (l:List Nat)(B:(E->WP)->E->WP)(e:E):WP:=match l with
 |[]=>zH (fun I m _=>B (fun _=>zI I m) e)
 |[a]=>o9 (fun I m _ x=>B (fun e'=>iD I m (lk a e')) ((a,x)::e)) (lk a e)
 |[a,b]=>th (fun I m _ x y=>B (fun e'=>qw I m (lk a e') (lk b e')) ((a,x)::(b,y)::e)) (lk a e) (lk b e)
 |[a,b,c]=>CU (fun I m _ x y z=>B (fun e'=>zJ I m (lk a e') (lk b e') (lk c e')) ((a,x)::(b,y)::(c,z)::e)) (lk a e) (lk b e) (lk c e)
 |[a,b,c,d]=>IE (fun I m _ x y z u=>B (fun e'=>IG I m (lk a e') (lk b e') (lk c e') (lk d e')) ((a,x)::(b,y)::(c,z)::(d,u)::e)) (lk a e) (lk b e) (lk c e) (lk d e)
 |_=>fun _=>False
def kx:Nat->List (E->WP)->E->WP
 |_,[],_=>fun _=>False
 |0,x::_,e=>x e
 |n+1,_::r,e=>kx n r e
def cw:D->(E->WP)->List (E->WP)->(E->WP)->E->WP
 | .skip,k,_,_,e=>k e
 | .reg l,k,_,_,e=>pW Kp k l e
 | .drw t,k,_,_,e=>oW (dw Kp k t [] e)
 | .seq x y,k,X,R,e=>cw x (cw y k X R) X R e
 | .cut l x y,k,X,R,e=>S0 l (fun J=>cw x J X R e) (cw y k X R) e
 | .cond c x y,k,X,R,e=>condS (vq e c) (cw x k X R e) (cw y k X R e)
 | .blk x,k,X,R,e=>cw x k (k::X) R e
 | .bcut l x,k,X,R,e=>S0 l (fun J=>cw x J (J::X) R e) k e
 | .loop l x,_,X,R,e=>Tm l (fun J e'=>cw x J X R e') e
 | .ex n,_,X,_,e=>kx n X e
 | .ret,_,_,R,e=>R e
 | .bad,_,_,_,_=>fun _=>False
end
section
variable {Kp:PK} {K k:E->WP} {X:List (E->WP)} {R:E->WP} {e:E} {d:Nat} {g:Gd} {o:RO} {r:List (Option Nat × Gd × RO)} {q:List (Nat × WP)} {t:DO} {l:List Nat} {x y:D} {a b a2 a3 a4:Nat} {w:Bool}
theorem Nq {v:Operand}:C9 Kp e (.mv v)=fun k=>k (vq e v):=rfl
theorem Nr {t:TypeId}{o:Op}:C9 Kp e (.op t o)=opN p_ (og e t o) Kp:=rfl
theorem Ns {v:Operand}:No e (.mv v)=fun k=>k (vq e v):=rfl
theorem Nt {t:TypeId}{o:Op}:No e (.op t o)=stS p_ (og e t o):=rfl
theorem Nu {t:TypeId}{o:Op}:Qa e (.op t o)=stD p_ (og e t o):=rfl
theorem RC {B:(Value->WP)->WP}{k:Value->WP}:gk none e B k=B k:=rfl
theorem RD {B:(Value->WP)->WP}{k:Value->WP}:gk (some (a,w)) e B k=gdK (lk a e) w B k:=rfl
theorem Nv {B:(WP->Value->WP)->WP}{k:WP->Value->WP}:Np none e B k=B k:=rfl
theorem Nw {B:(WP->Value->WP)->WP}{k:WP->Value->WP}:Np (some (a,w)) e B k=gdD (lk a e) w B k:=rfl
theorem RE:pW Kp K [] e=K e:=rfl
theorem RF:pW Kp K ((none,g,o)::r) e=gk g e (C9 Kp e o) fun _=>pW Kp K r e:=rfl
theorem RG:pW Kp K ((some d,g,o)::r) e=gk g e (C9 Kp e o) fun v=>pW Kp K r ((d,v)::e):=rfl
theorem RH:dw Kp K .nil q e=K e:=rfl
theorem Nx:dw Kp K (.a none g o t) q e=gk g e (C9 Kp e o) fun _=>dw Kp K t q e:=rfl
theorem Ny:dw Kp K (.a (some d) g o t) q e=gk g e (C9 Kp e o) fun v=>dw Kp K t q ((d,v)::e):=rfl
theorem Nz:dw Kp K (.b none g o l t) q e=gk g e (C9 Kp e o) fun _=>ob l q (dw Kp K t q e):=rfl
theorem NB:dw Kp K (.b (some d) g o l t) q e=gk g e (C9 Kp e o) fun v=>ob l q (dw Kp K t q ((d,v)::e)):=rfl
theorem NC:dw Kp K (.s none g o t) q e=gk g e (No e o) fun _=>dw Kp K t q e:=rfl
theorem ND:dw Kp K (.s (some d) g o t) q e=gk g e (No e o) fun v=>dw Kp K t q ((d,v)::e):=rfl
theorem NE:dw Kp K (.c a none g o t) q e=Np g e (Qa e o) fun D _=>dw Kp K t ((a,D)::q) e:=rfl
theorem NF:dw Kp K (.c a (some d) g o t) q e=Np g e (Qa e o) fun D v=>dw Kp K t ((a,D)::q) ((d,v)::e):=rfl
theorem JV {t u:DO}:dw Kp K (.alt t u) q e=yi (dw Kp K t q e) (dw Kp K u q e):=rfl
theorem RI {S:WP}:ob l [] S=S:=rfl
theorem RJ {S:WP}{D:WP}:ob l ((a,D)::q) S=(match has a l with
  |true=>fun w=>D w/\ob l q S w
  |false=>ob l q S):=rfl
theorem Gw:cw Kp .skip k X R e=k e:=rfl
theorem JW:cw Kp (.reg r) k X R e=pW Kp k r e:=rfl
theorem JX:cw Kp (.drw t) k X R e=oW (dw Kp k t [] e):=rfl
theorem JY:cw Kp (.seq x y) k X R e=cw Kp x (cw Kp y k X R) X R e:=rfl
theorem NG:cw Kp (.cut [] x y) k X R e=yu (fun J=>cw Kp x (fun _=>J) X R e) fun _=>cw Kp y k X R e:=rfl
theorem NH:cw Kp (.cut [a] x y) k X R e=uu (fun J=>cw Kp x (fun e'=>J (lk a e')) X R e) fun _ u=>cw Kp y k X R ((a,u)::e):=rfl
theorem NJ:cw Kp (.cut [a,a2] x y) k X R e=sG (fun J=>cw Kp x (fun e'=>J (lk a e') (lk a2 e')) X R e) fun _ u u2=>cw Kp y k X R ((a,u)::(a2,u2)::e):=rfl
theorem NK:cw Kp (.cut [a,a2,a3] x y) k X R e=JQ (fun J=>cw Kp x (fun e'=>J (lk a e') (lk a2 e') (lk a3 e')) X R e) fun _ u u2 u3=>cw Kp y k X R ((a,u)::(a2,u2)::(a3,u3)::e):=rfl
theorem NL:cw Kp (.cut [a,a2,a3,a4] x y) k X R e=JR (fun J=>cw Kp x (fun e'=>J (lk a e') (lk a2 e') (lk a3 e') (lk a4 e')) X R e) fun _ u u2 u3 u4=>cw Kp y k X R ((a,u)::(a2,u2)::(a3,u3)::(a4,u4)::e):=rfl
theorem NM:cw Kp (.bcut [] x) k X R e=yu (fun J=>cw Kp x (fun _=>J) ((fun _=>J)::X) R e) fun _=>k e:=rfl
theorem NN:cw Kp (.bcut [a] x) k X R e=uu (fun J=>cw Kp x (fun e'=>J (lk a e')) ((fun e'=>J (lk a e'))::X) R e) fun _ u=>k ((a,u)::e):=rfl
theorem NO:cw Kp (.bcut [a,a2] x) k X R e=sG (fun J=>cw Kp x (fun e'=>J (lk a e') (lk a2 e')) ((fun e'=>J (lk a e') (lk a2 e'))::X) R e) fun _ u u2=>k ((a,u)::(a2,u2)::e):=rfl
theorem NP:cw Kp (.bcut [a,a2,a3] x) k X R e=JQ (fun J=>cw Kp x (fun e'=>J (lk a e') (lk a2 e') (lk a3 e')) ((fun e'=>J (lk a e') (lk a2 e') (lk a3 e'))::X) R e) fun _ u u2 u3=>k ((a,u)::(a2,u2)::(a3,u3)::e):=rfl
theorem NQ:cw Kp (.bcut [a,a2,a3,a4] x) k X R e=JR (fun J=>cw Kp x (fun e'=>J (lk a e') (lk a2 e') (lk a3 e') (lk a4 e')) ((fun e'=>J (lk a e') (lk a2 e') (lk a3 e') (lk a4 e'))::X) R e) fun _ u u2 u3 u4=>k ((a,u)::(a2,u2)::(a3,u3)::(a4,u4)::e):=rfl
theorem Gy {c:Operand}:cw Kp (.cond c x y) k X R e=condS (vq e c) (cw Kp x k X R e) (cw Kp y k X R e):=rfl
theorem JZ:cw Kp (.blk x) k X R e=cw Kp x k (k::X) R e:=rfl
theorem NR:cw Kp (.loop [] x) k X R e=zH (fun I m _=>cw Kp x (fun _=>zI I m) X R e):=rfl
theorem NS:cw Kp (.loop [a] x) k X R e=o9 (fun I m _ u=>cw Kp x (fun e'=>iD I m (lk a e')) X R ((a,u)::e)) (lk a e):=rfl
theorem NT:cw Kp (.loop [a,a2] x) k X R e=th (fun I m _ u u2=>cw Kp x (fun e'=>qw I m (lk a e') (lk a2 e')) X R ((a,u)::(a2,u2)::e)) (lk a e) (lk a2 e):=rfl
theorem NU:cw Kp (.loop [a,a2,a3] x) k X R e=CU (fun I m _ u u2 u3=>cw Kp x (fun e'=>zJ I m (lk a e') (lk a2 e') (lk a3 e')) X R ((a,u)::(a2,u2)::(a3,u3)::e)) (lk a e) (lk a2 e) (lk a3 e):=rfl
theorem NV:cw Kp (.loop [a,a2,a3,a4] x) k X R e=IE (fun I m _ u u2 u3 u4=>cw Kp x (fun e'=>IG I m (lk a e') (lk a2 e') (lk a3 e') (lk a4 e')) X R ((a,u)::(a2,u2)::(a3,u3)::(a4,u4)::e)) (lk a e) (lk a2 e) (lk a3 e) (lk a4 e):=rfl
theorem J0:cw Kp .ret k X R e=R e:=rfl
theorem NW {k0:E->WP}:cw Kp (.ex 0) k (k0::X) R e=k0 e:=rfl
theorem NX {k0 k1:E->WP}:cw Kp (.ex 1) k (k0::k1::X) R e=k1 e:=rfl
theorem NY {k0 k1 k2:E->WP}:cw Kp (.ex 2) k (k0::k1::k2::X) R e=k2 e:=rfl
theorem NZ {k0 k1 k2 k3:E->WP}:cw Kp (.ex 3) k (k0::k1::k2::k3::X) R e=k3 e:=rfl
theorem N0 {k0 k1 k2 k3 k4:E->WP}:cw Kp (.ex 4) k (k0::k1::k2::k3::k4::X) R e=k4 e:=rfl
end
def tp:List Value->Value
 |[]=> .tuple #[]
 |[v]=>v
 |[a,b]=> .tuple #[a,b]
 |[a,b,c]=> .tuple #[a,b,c]
 |l=> .tuple l.toArray
def rt (e:E)(K:Value->WP):List ResultVar->List Value->WP
 |[],acc=>K (tp acc)
 | .tmp t::r,acc=>rt e K r (acc++[lk t e])
 | .cell a t::r,acc=>stS p_ (dG t (lk a e)) fun v=>rt e K r (acc++[v])
theorem RK {e:E}{K:Value->WP}{acc:List Value}:rt e K [] acc=K (tp acc):=rfl
theorem RL {e:E}{K:Value->WP}{acc:List Value}{t:Nat}{r:List ResultVar}:rt e K (.tmp t::r) acc=rt e K r (acc++[lk t e]):=rfl
theorem RM {e:E}{K:Value->WP}{acc:List Value}{a t:Nat}{r:List ResultVar}:rt e K (.cell a t::r) acc=stS p_ (dG t (lk a e)) fun v=>rt e K r (acc++[v]):=rfl
def en:List Value->E
 |[]=>[]
 |[v0]=>[(0,v0)]
 |[v0,v1]=>[(0,v0),(1,v1)]
 |[v0,v1,v2]=>[(0,v0),(1,v1),(2,v2)]
 |[v0,v1,v2,v3]=>[(0,v0),(1,v1),(2,v2),(3,v3)]
 |[v0,v1,v2,v3,v4]=>[(0,v0),(1,v1),(2,v2),(3,v3),(4,v4)]
 |[v0,v1,v2,v3,v4,v5]=>[(0,v0),(1,v1),(2,v2),(3,v3),(4,v4),(5,v5)]
 |[v0,v1,v2,v3,v4,v5,v6]=>[(0,v0),(1,v1),(2,v2),(3,v3),(4,v4),(5,v5),(6,v6)]
 |[v0,v1,v2,v3,v4,v5,v6,v7]=>[(0,v0),(1,v1),(2,v2),(3,v3),(4,v4),(5,v5),(6,v6),(7,v7)]
 |[v0,v1,v2,v3,v4,v5,v6,v7,v8]=>[(0,v0),(1,v1),(2,v2),(3,v3),(4,v4),(5,v5),(6,v6),(7,v7),(8,v8)]
 |_=>[]
theorem N4:p_.follows .mixedOrders=true:=by kernel_rfl
theorem g_ {f:FuncId} {fn:Func} {args:List Value} (hc:∀(a:Array Value) (w:World),(callFunc f a).run p_ w= .ok (.enter f a) w) (hf:p_.funcs[f]? =some fn) (an:Ann:={}) (os:List (Nat × List (Nat × List Nat)):=[]) {c:Code} {rs:List ResultVar} {d:D} {b:PK->(Value->WP)->WP} (_:fn.body=some c:=by exact rfl) (_:fn.results=rs.toArray:=by exact rfl)
 (_:dc an os [] c=d:=by dsimp only[Sg.dc,Sg.ct,Sg.pl,Sg.fi,Sg.fo,Sg.lo,Sg.ls,Sg.ix,Sg.RA,Sg.gd,Sg.Rz,Sg.ro,Sg.RB,Sg.IJ,Sh.DT.ofL] <;> exact rfl)
 (_:∀Kp K,cw Kp d (fun e=>rt e K rs []) [] (fun e=>rt e K rs []) (en args)=b Kp K:=by intro Kp K;dsimp only[Nat.reduceBEq,Sg.Nm,Sg.Nn,Sg.has,↓Sg.Rx,↓Sg.Ry,↓Sg.Nq,↓Sg.Nr,↓Sg.Ns,↓Sg.Nt,↓Sg.Nu,↓Sg.RC,↓Sg.RD,↓Sg.Nv,↓Sg.Nw,↓Sg.RE,↓Sg.RF,↓Sg.RG,↓Sg.RH,↓Sg.Nx,↓Sg.Ny,↓Sg.Nz,↓Sg.NB,↓Sg.NC,↓Sg.ND,↓Sg.NE,↓Sg.NF,↓Sg.JV,↓Sg.RI,↓Sg.RJ,↓Sg.Gw,↓Sg.JW,↓Sg.JX,↓Sg.JY,↓Sg.NG,↓Sg.NH,↓Sg.NJ,↓Sg.NK,↓Sg.NL,↓Sg.NM,↓Sg.NN,↓Sg.NO,↓Sg.NP,↓Sg.NQ,↓Sg.Gy,↓Sg.JZ,↓Sg.NR,↓Sg.NS,↓Sg.NT,↓Sg.NU,↓Sg.NV,↓Sg.J0,↓Sg.NW,↓Sg.NX,↓Sg.NY,↓Sg.NZ,↓Sg.N0,↓Sg.RK,↓Sg.RL,↓Sg.RM,Sg.og,Sg.bn,Sg.cl,Sg.bi,Sg.vq,Sg.vo,Sg.vl,Sg.vp,Sg.tp,Sg.en,List.nil_append,List.cons_append] <;> exact rfl)
 (he:∀Kp K,CP p_ an fn args Kp K=b Kp K:=by intro _ _;kernel_rfl):Shp p_ f args b:=SZ N4 hc hf he
end Sg
namespace Sl
open Go Go.RowKit Sh
variable {P:Program} {W:World} {L L':List HP} {Kp:PK} {k:Value->WP}
theorem wj {t:TypeId}{a b:List UInt8}(h:a.length+b.length<=9223372036854775807):bg P W [] (aY .add t (bm a) (bm b)) (bm (a++b)):=fun w _=>by
 have hm:¬(((a.length+b.length:Nat):Int) > IntKind.i64.max):=by
  have:IntKind.i64.max=9223372036854775807:=by decide
  rw[this];omega
 have e:(⟨a.toArray⟩:ByteArray)++⟨b.toArray⟩=⟨(a++b).toArray⟩:=by
  apply ByteArray.ext
  simp
 simp[aY,sv,eqGuard,bm,binOp_string_add,Op.stringOp,e,ByteArray.size]
 omega
theorem nX {q:IntKind}{w:World}{i:Int}{y:Nat}{c:BoundsCode}(h:Nat)(hi:i=(h:Int))(hy:h<=y):(Instr.sliceBound (.int q i) y c).run P w= .ok h w:=by
 subst hi
 simp[Instr.sliceBound,asIntOf,hy]
theorem C_ {l:List UInt8}{h:Nat}(hh:h<=l.length):(⟨l.toArray⟩:ByteArray).extract 0 h=⟨(l.take h).toArray⟩:=by
 apply ByteArray.ext
 rw[ByteArray.data_extract]
 simp
theorem Da {l:List UInt8}{h:Nat}:(⟨l.toArray⟩:ByteArray).extract h l.length=⟨(l.drop h).toArray⟩:=by
 apply ByteArray.ext
 rw[ByteArray.data_extract]
 simp
 exact List.take_of_length_le (by rw[List.length_drop];omega)
theorem qC {t:TypeId}{l:List UInt8}{q:IntKind}{i:Int}(h:Nat)[ht:StrT P t](hi:i=(h:Int))(hh:h<=l.length):bg P W [] (ly t (bm l) none (some (.int q i)) none) (bm (l.take h)):=fun w _=>by
 have e:(⟨l.toArray⟩:ByteArray).size=l.length:=rfl
 simp[ly,Instr.sliceAt,Instr.slice,Instr.sliceBounds,run_underlying ht.ut,bm,e,nX h hi hh,C_ hh]
theorem qE {t:TypeId}{l:List UInt8}{q:IntKind}{i:Int}(h:Nat)[ht:StrT P t](hi:i=(h:Int))(hh:h<=l.length):bg P W [] (ly t (bm l) (some (.int q i)) none none) (bm (l.drop h)):=fun w _=>by
 have e:(⟨l.toArray⟩:ByteArray).size=l.length:=rfl
 simp[ly,Instr.sliceAt,Instr.slice,Instr.sliceBounds,run_underlying ht.ut,bm,e,nX h hi hh,Da]
theorem h_ {t:TypeId}{l:List UInt8}{q:IntKind}{i:Int}(j:Nat)[ht:StrT P t](hi:i=(j:Int))(hh:j<l.length):bg P W [] (nQ t (bm l) (.int q i)) (B l[j]):=fun w _=>by
 subst hi
 have h2:j<(⟨l.toArray⟩:ByteArray).size:=hh
 have e:(⟨l.toArray⟩:ByteArray)[j]=l[j]:=by simp[ByteArray.getElem_eq_getElem_data]
 have:=run_index_string (P:=P) w t ⟨l.toArray⟩ q (j:Int) ht.ut
 rw[dif_pos ⟨by omega,by simpa using h2⟩]at this
 simp[nQ,bm,this,B]
 exact congrArg (fun c:UInt8=>(c.toNat:Int)) e
theorem lH {t e:TypeId}{n:Nat}{cs:Array Value}{v:Value}{q:IntKind}{i:Int}(j:Nat)[ht:ArrT P t n e 1][ho:OneT P e](hi:i=(j:Int))(hj:j<n)(hv:cs[j]? =some v):bg P W [] (nQ t (.agg cs) (.int q i)) v:=fun w _=>by
 subst hi
 simp[nQ,Instr.index,asIntOf,ht.ut,ht.size,hj,part,ho.agg,hv]
theorem Db {g : Nat} {e : TypeId} {fz : Nat × Nat} {cs rest : List Value} : RdB W (pt g (.cells (cs ++ rest).toArray e fz)) (some ⟨g, 0, none⟩) cs.length cs :=
 ⟨rfl, fun _ => ⟨g, 0, rfl, fun w L hw j v hv => by
  rw [Nat.zero_add, hw.cell]
  have hj : j < cs.length := by
   rcases Nat.lt_or_ge j cs.length with c | c
   ·exact c
   ·rw [List.getElem?_eq_none c] at hv; cases hv
  simpa [List.getElem?_append_left hj] using hv⟩⟩
end Sl
end Go.Proofs.YtndojgomlkpeaaaGreatDoor
