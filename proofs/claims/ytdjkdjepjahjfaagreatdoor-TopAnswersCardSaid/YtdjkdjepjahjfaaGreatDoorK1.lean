/- A shape for walks: what the model's run of a function's code asks, written as nested continuations over plain values, and that it suffices. No program in sight; no conditions. (21 texts made one; each says below what it is.) -/
import Derived.OrdersIn
import Derived.TacticsIn
import Derived.Below
import Derived.Scope
import Derived.Tactics
import Derived.Recover
import Derived.RangeFuncRecord
import Derived.Deep.AppendSrc
import Derived.Laws.AppendOwn
import Derived.IntWalk
import Derived.Laws.Pointers
import Derived.Laws.Cover3
import Derived.Laws.BytesString
import Derived.Laws.Strings
import Derived.ProofKit
import Derived.OpenShut
import Derived.JoinedCond
import Derived.Test.YtdjkdjepjahjfaaGreatDoorChecked
import Derived.KernelRfl
set_option linter.unusedVariables false
set_option linter.unusedSimpArgs false
set_option linter.unusedSectionVars false
set_option maxRecDepth 9999
theorem Go.Proofs.YtdjkdjepjahjfaaGreatDoor.ca_ {α : Type _} {a : α} {l m : List α} : (a :: l) ++ m = a :: (l ++ m) := rfl
theorem Go.Proofs.YtdjkdjepjahjfaaGreatDoor.na_ {α : Type _} {l : List α} : [] ++ l = l := rfl
noncomputable abbrev Go.Proofs.YtdjkdjepjahjfaaGreatDoor.p_ : Go.Program := Go.Proofs.Tryz.prog
theorem Go.Proofs.YtdjkdjepjahjfaaGreatDoor.dF_ {p : Prop} [Decidable p] (h : ¬ p) : decide p = false := decide_eq_false h
theorem Go.Proofs.YtdjkdjepjahjfaaGreatDoor.dT_ {p : Prop} [Decidable p] (h : p) : decide p = true := decide_eq_true h
namespace Go.Proofs.YtdjkdjepjahjfaaGreatDoor.Sh
abbrev cG:=Nat->Value
abbrev WP:=World->Prop
def ev (n:Nat)(e:cG):Operand->Value
 | .tmp t=>match Nat.blt t n with
  |true=>e t
  |false=>undef
 | .const v=>v
 | .global g=> .pointer (some ⟨g,0,none⟩)
 | .func f=> .func (.func f) #[] #[]
def Dp (e:cG)(d:Nat)(v:Value):cG:=fun i=>match Nat.beq i d with
 |true=>v
 |false=>e i
def ez (e:cG)(d:Option Tmp)(v:Value):cG:=
 match d with
 |some d=>Dp e d v
 |none=>e
structure opN (P:Program)(s:Sem Next)(Kp:List PanicEntry->WP)(k:Value->WP)(w:World):Prop where
 out:match s.run P w with
 | .ok (.value v) w'=>k v w'
 | .ok .skip w'=>k undef w'
 | .ok (.enter f args) w'=>Calls P f args w' fun
   | .returned v,w''=>k v w''
   | .panicked ch,w''=>Kp ch w''
   | .outgrown,_=>False
 | .ok (.round l f tmps assign body) w'=>RoundIn Fence.wide 0 P l f tmps assign body w' fun
   | .returned v,w''=>k v w''
   | .panicked ch,w''=>Kp ch w''
   | .outgrown,_=>False
 | .halt (.panic v) w'=>Kp [{v,recovered:=false}] w'
 |_=>False
structure stS (P:Program)(s:Sem Next)(k:Value->WP)(w:World):Prop where
 out:∃v,s.run P w= .ok (.value v) w/\k v w
structure stD (P:Program)(s:Sem Next)(k:WP->Value->WP)(w:World):Prop where
 out:∃(D:WP) (v:Value),D w/\(∀w',D w'->s.run P w'= .ok (.value v) w')/\k D v w
def ye (n:Nat)(ops:Array Oper)(e:cG)(j:Nat):Value:=
 match(ops[j]?).bind (·.dst)with
 |some t=>ev n e (.tmp t)
 |none=>undef
def QZ (v:Value)(want:Bool)(A B:WP)(w:World):Prop:=
 match v with
 | .bool b=>if b=want then A w else B w
 |_=>B w
structure gdK (v:Value)(want:Bool)(body:(Value->WP)->WP)(k:Value->WP)(w:World):Prop where
 out:QZ v want (body k) (k undef) w
structure gdD (v:Value)(want:Bool)(body:(WP->Value->WP)->WP)(k:WP->Value->WP)(w:World):Prop where
 out:QZ v want (body k) (k (fun _=>True) undef) w
def Dq (n:Nat)(ops:Array Oper)(e:cG)(o:Oper)(body:(Value->WP)->WP)(k:Value->WP):WP:=
 match o.guard with
 |none=>body k
 |some (j,want)=>gdK (ye n ops e j) want body k
def G9 (n:Nat)(ops:Array Oper)(e:cG)(o:Oper)(body:(WP->Value->WP)->WP)(k:WP->Value->WP):WP:=
 match o.guard with
 |none=>body k
 |some (j,want)=>gdD (ye n ops e j) want body k
structure condS (v:Value)(A B:WP)(w:World):Prop where
 out:match v with
 | .bool true=>A w
 | .bool false=>B w
 |_=>False
def oN (n:Nat)(e:cG)(o:Oper):Sem Next:=
 match o.op with
 | .build t ps=>do pure (.value (<- Instr.build t (ps.toList.map fun p=>(p.1,ev n e p.2)).toArray))
 | .buildSlice t len ps=>do pure (.value (<- Instr.buildSlice t len (ps.toList.map fun p=>(p.1,ev n e p.2)).toArray))
 | .makeFunc f a b=>do pure (.value (<- Instr.makeFunc f (a.toList.map (ev n e)).toArray (b.toList.map (ev n e)).toArray))
 | .call c=>match c.callee with
  | .value f=>do
   let d <- Deferred.ofValue (ev n e f) (c.args.toList.map (ev n e)).toArray
   invoke d.target d.args
  | .builtin .append=>do pure (.value (<- Builtin.append_ c.argTypes o.type (c.args.toList.map (ev n e)).toArray))
  | .builtin .len=>do pure (.value (<- Builtin.len_ c.argTypes o.type (c.args.toList.map (ev n e)).toArray))
  | .builtin .cap=>do pure (.value (<- Builtin.cap_ c.argTypes o.type (c.args.toList.map (ev n e)).toArray))
  | .builtin .copy=>do pure (.value (<- Builtin.copy_ c.argTypes o.type (c.args.toList.map (ev n e)).toArray))
  | .builtin .delete=>do pure (.value (<- Builtin.delete_ c.argTypes o.type (c.args.toList.map (ev n e)).toArray))
  | .builtin .min=>do pure (.value (<- Builtin.min_ c.argTypes o.type (c.args.toList.map (ev n e)).toArray))
  | .builtin .max=>do pure (.value (<- Builtin.max_ c.argTypes o.type (c.args.toList.map (ev n e)).toArray))
  | .builtin .clear=>do pure (.value (<- Builtin.clear_ c.argTypes o.type (c.args.toList.map (ev n e)).toArray))
  | .invoke r nm=>invoke (.fn (.method nm) #[]) (#[ev n e r]++(c.args.toList.map (ev n e)).toArray)
  |_=>execOp (ev n e) o
 |_=>execOp (ev n e) o
def s7 (P:Program)(n:Nat)(e:cG)(o:Oper)(Kp:List PanicEntry->WP)(k:Value->WP):WP:=
 match o.op with
 | .move x=>k (ev n e x)
 | .assign x=>k (ev n e x)
 |_=>opN P (oN n e o) Kp k
def s8 (P:Program)(n:Nat)(e:cG)(o:Oper)(k:Value->WP):WP:=
 match o.op with
 | .move x=>k (ev n e x)
 | .assign x=>k (ev n e x)
 |_=>stS P (oN n e o) k
def lD (P:Program)(n:Nat)(ops:Array Oper)(Kp:List PanicEntry->WP)(K:cG->WP):List Oper->cG->WP
 |[],e=>K e
 |o::rest,e=>Dq n ops e o (s7 P n e o Kp) fun v=>lD P n ops Kp K rest (ez e o.dst v)
def iA (ops:Array Oper):Nat->Nat->Nat->Bool
 |0,_,_=>false
 |n+1,k,i=>match ops[k]? with
  |some o=>o.after.toList.any fun e=>Region.binds .any e&&(e.on==i||iA ops n e.on i)
  |none=>false
def S0:List (Nat × WP)->WP->WP
 |[],S=>S
 |(_,D)::r,S=>fun w=>D w/\S0 r S w
inductive DT where
 |nil
 |op (k md:Nat) (t:DT)
 |alt (a b:DT)
def DT.ofL:List (Nat × Nat)->DT
 |[]=> .nil
 |(k,md)::r=> .op k md (DT.ofL r)
def DT.len:DT->Nat
 | .nil=>0
 | .op _ _ t=>t.len+1
 | .alt a _=>a.len
def DT.heads:DT->List Nat
 | .nil=>[]
 | .op k _ _=>[k]
 | .alt a b=>a.heads++b.heads
def DT.acts:DT->List Nat
 | .nil=>[]
 | .op k md t=>match md with
  |0=>k::t.acts
  |_=>t.acts
 | .alt a b=>a.acts++b.acts
def zH (A B:WP):WP:=fun w=>A w/\B w
def f_ (P:Program)(n:Nat)(ops:Array Oper)(Kp:List PanicEntry->WP)(K:cG->WP):DT->List (Nat × WP)->cG->WP
 | .nil,_,e=>K e
 | .op k md r,pend,e=>match ops[k]? with
  |none=>fun _=>False
  |some o=>match md with
   |0=>Dq n ops e o (s7 P n e o Kp) fun v=>S0 (pend.filter fun p=>!iA ops ops.size k p.1) (f_ P n ops Kp K r pend (ez e o.dst v))
   |1=>Dq n ops e o (s8 P n e o) fun v=>f_ P n ops Kp K r pend (ez e o.dst v)
   |2=>match o.op with
    | .move x=>Dq n ops e o (fun c=>c (ev n e x)) fun v=>f_ P n ops Kp K r pend (ez e o.dst v)
    | .assign x=>Dq n ops e o (fun c=>c (ev n e x)) fun v=>f_ P n ops Kp K r pend (ez e o.dst v)
    |_=>fun _=>False
   |_=>G9 n ops e o (stD P (oN n e o)) fun D v=>f_ P n ops Kp K r ((k,D)::pend) (ez e o.dst v)
 | .alt a b,pend,e=>zH (f_ P n ops Kp K a pend e) (f_ P n ops Kp K b pend e)
def jG (ops : Array Oper) : Bool → DT → Array Bool → Bool
  | fl, .nil, E => !fl && (Region.ready .any ops E).isEmpty
  | fl, .op k md r, E =>
    (match md with
     | 0 => match fl with
       | true => (Region.ready .any ops E).contains k
       | false => Region.ready .any ops E == [k]
     | _ => !fl && ((Region.ready .any ops E).contains k && Region.free .any ops E k && (md != 1 || r.acts.all fun p => iA ops ops.size p k))) && jG ops false r (E.setIfInBounds k true)
  | fl, .alt a b, E => (fl || (Region.ready .any ops E).all fun j => (a.heads ++ b.heads).contains j) && (a.len == b.len && (jG ops true a E && jG ops true b E))
def u9 (ops:Array Oper)(r:DT):Bool:=Region.noSelect ops&&r.len==ops.size&&jG ops false r (Array.replicate ops.size false)
def n5 (S:WP)(w:World):Prop:=S {w with drawn:=w.drawn+1}
@[reducible] def VF:Nat->Type->Type
 |0,α=>α
 |n+1,α=>Value->VF n α
def iB {α:Type}:(n:Nat)->VF n α->List Value->α
 |0,f,_=>f
 |n+1,f,vs=>iB n (f (vs.headD undef)) vs.tail
def s9:Nat->(List Value->Prop)->Prop
 |0,f=>f []
 |n+1,f=>∀v,s9 n fun l=>f (v::l)
def fD:cG->List Nat->List Value->cG
 |e,[],_=>e
 |e,i::is,vs=>fD (Dp e i (vs.headD undef)) is vs.tail
def upd (e:cG)(dead:List Nat)(ds:List Value)(live:List Nat)(vs:List Value):cG:=fD (fD e dead ds) live vs
def iC (e:cG)(l:List Nat):List Value:=l.map e
def Dr (n:Nat)(body:VF n WP->WP)(rest:List Value->List Value->WP)(w:World):Prop:=
 ∃J:VF n WP,(∀ds,s9 n fun vs=>∀w',iB n J vs w'->rest ds vs w')/\body J w
def FJ (n:Nat)(body:(Nat->VF n WP)->Nat->List Value->List Value->WP)(vs0:List Value)(w:World):Prop:=
 ∃I:Nat->VF n WP,(∃m,iB n (I m) vs0 w)/\∀m ds,s9 n fun vs=>∀w',iB n (I m) vs w'->body I m ds vs w'
def FK (n:Nat)(I:Nat->VF n WP)(m:Nat)(vs:List Value)(w:World):Prop:=∃m',m'<m/\iB n (I m') vs w
structure Ann where
 cuts:List (Nat × List Nat):=[]
 blks:List (Nat × List Nat):=[]
 loops:List (Nat × List Nat):=[]
 drs:List (Nat × DT):=[]
 rcuts:List (Nat × List Nat):=[]
def mw {α:Type}(k:Nat):List (Nat × α)->Option α
 |[]=>none
 |(i,x)::r=>if i=k then some x else mw k r
def dO:Code->Nat
 | .region id _ _=>id
 | .seq a b=>let n:=dO a;if n=1000000 then dO b else n
 | .cond _ a b=>let n:=dO a;if n=1000000 then dO b else n
 | .block _ b=>dO b
 | .loop b=>dO b
 | .scope b=>dO b
 |_=>1000000
def wr:Code->List Nat
 | .region _ ops _=>ops.toList.filterMap (·.dst)
 | .seq a b=>wr a++wr b
 | .cond _ a b=>wr a++wr b
 | .block _ b=>wr b
 | .loop b=>wr b
 | .scope b=>wr b
 |_=>[]
def zI (o:Oper):Bool:=match o.op with
 | .defer _=>true
 |_=>false
def gM:Code->Bool
 | .region _ ops _=>ops.toList.all fun o=>!zI o
 | .seq a b=>gM a&&gM b
 | .cond _ a b=>gM a&&gM b
 | .block _ b=>gM b
 | .loop b=>gM b
 | .scope _=>false
 |_=>true
def rH:Code->Bool
 | .region .. | .skip| .label _=>true
 |_=>false
def fE (c:Code)(live:List Nat):List Nat:=(wr c).filter fun i=>!live.contains i
abbrev KT:=Exit->cG->WP
def nK (K:KT)(k:cG->WP):KT
 | .normal,e=>k e
 | .exit id,e=>K (.exit id) e
 | .goto l,e=>K (.goto l) e
 | .ret,e=>K .ret e
 | .panic c,e=>K (.panic c) e
 | .outgrown,e=>K .outgrown e
def yf (K:KT)(id:Nat)(k:cG->WP):KT
 | .normal,e=>k e
 | .exit id',e=>if id'=id then k e else K (.exit id') e
 | .goto l,e=>K (.goto l) e
 | .ret,e=>K .ret e
 | .panic c,e=>K (.panic c) e
 | .outgrown,e=>K .outgrown e
def G_ (K:KT):KT
 | .goto _,_=>fun _=>False
 | .normal,e=>K .normal e
 | .exit id,e=>K (.exit id) e
 | .ret,e=>K .ret e
 | .panic c,e=>K (.panic c) e
 | .outgrown,e=>K .outgrown e
def iz (P:Program)(n:Nat)(an:Ann)(Kp:List PanicEntry->WP):Code->KT->cG->WP
 | .skip,K,e=>K .normal e
 | .region id ops draw,K,e=>match draw with
  |false=>lD P n ops Kp (K .normal) ops.toList e
  |true=>match mw id an.drs with
   |some r=>match u9 ops r with
    |true=>n5 (f_ P n ops Kp (K .normal) r [] e)
    |false=>fun _=>False
   |none=>fun _=>False
 | .seq x y,K,e=>match(match rH x with|true=>mw (dO y) an.rcuts|false=>mw (dO y) an.cuts)with
  |none=>iz P n an Kp x (nK K (iz P n an Kp y K)) e
  |some live=>Dr live.length (fun J=>iz P n an Kp x (nK K fun e'=>iB live.length J (iC e' live)) e) fun ds vs=>iz P n an Kp y K (upd e (fE x live) ds live vs)
 | .cond c x y,K,e=>condS (ev n e c) (iz P n an Kp x K e) (iz P n an Kp y K e)
 | .block id b,K,e=>match mw id an.blks with
  |none=>iz P n an Kp b (yf K id (K .normal)) e
  |some live=>Dr live.length (fun J=>iz P n an Kp b (yf K id fun e'=>iB live.length J (iC e' live)) e) fun ds vs=>K .normal (upd e (fE b live) ds live vs)
 | .loop b,K,e=>match mw (dO b) an.loops with
  |none=>fun _=>False
  |some live=>FJ live.length (fun I m ds vs=>iz P n an Kp b (nK K fun e'=>FK live.length I m (iC e' live)) (upd e (fE b live) ds live vs)) (iC e live)
 | .exit id,K,e=>K (.exit id) e
 | .ret,K,e=>K .ret e
 | .label _,K,e=>K .normal e
 | .scope b,K,e=>iz P n an Kp b (G_ K) e
 |_,_,_=>fun _=>False
end Go.Proofs.YtdjkdjepjahjfaaGreatDoor.Sh
namespace Go.Proofs.YtdjkdjepjahjfaaGreatDoor.Sh
open Go
variable {P:Program} {n:Nat} {D:List Deferred} {Kp:List PanicEntry->WP} {R:Option Nat}

def FW (R:Option Nat):Fence:={Fence.wide with round:=R}
theorem u_ {m:Nat}{f:FuncId}{args:Array Value}{w:World}{Q:Ending->World->Prop}(h:Calls P f args w Q):CallsIn (FW R) m P f args w Q:=
 ⟨trivial,fun cs _=>let ⟨e,w',fr,r,s,x⟩:=h cs;⟨e,w',fr,r,comesIn_wide.2 s,x⟩⟩
theorem vb {m:Nat}{l:Nat}{f:FuncId}{tmps:Array Value}{assign body:Code}{w:World}{Q:Ending->World->Prop}(h:RoundIn Fence.wide 0 P l f tmps assign body w Q):RoundIn (FW R) m P l f tmps assign body w Q:=
 ⟨trivial,fun c cs _=>h.2 c cs (room_wide _)⟩
def C_ (R:Option Nat)(o:Oper):Prop:=R=none\/∀c,o.op≠ .defer c
theorem mx {o:Oper}(h:C_ R o)(ρ:Operand->Value):o.semAt R ρ=execOp ρ o:=by
 rcases h with rfl|h
 ·rfl
 ·exact Oper.semAt_eq _ _ _ h
theorem Ha {o:Oper}(h:zI o=false):C_ R o:= .inr fun c hc=>by simp[zI,hc]at h
theorem ww {id:Nat}{ops:Array Oper}{b:Bool}(h:R=none\/gM (.region id ops b)=true):∀o∈ops.toList,C_ R o:=fun o ho=>by
 rcases h with h|h
 ·exact .inl h
 ·refine Ha ?_
  have:=List.all_eq_true.1 h o ho
  simpa using this

structure Rep (n:Nat)(D:List Deferred)(e:cG)(a:Act):Prop where
 defers:a.defers=D
 size:a.tmps.size=n
 at_:∀i,i<n->a.tmps[i]? =some (e i)
theorem Rep.getD {n:Nat}{D:List Deferred}{e:cG}{a:Act}(h:Rep n D e a)(t:Nat):a.tmps.getD t undef=ev n e (.tmp t):=by
 rw[Array.getD_eq_getD_getElem?]
 by_cases hl:t<n
 ·have hb:Nat.blt t n=true:=by simpa using hl
  simp only[ev,hb,h.at_ t hl,Option.getD_some]
 ·have hb:Nat.blt t n=false:=by
   cases h:Nat.blt t n with
   |false=>rfl
   |true=>exact absurd (by simpa using h) hl
  simp only[ev,hb]
  rw[Array.getElem?_eq_none (by rw[h.size];omega)];rfl
theorem Rep.eval {n:Nat}{D:List Deferred}{e:cG}{a:Act}(h:Rep n D e a):a.eval=ev n e:=by
 funext x
 cases x with
 |tmp t=>exact h.getD t
 |_=>rfl
theorem n6 (e:cG)(d:Nat)(v:Value)(i:Nat):Dp e d v i=if i=d then v else e i:=by
 unfold Dp
 cases h:Nat.beq i d with
 |true=>rw[if_pos (Nat.eq_of_beq_eq_true h)]
 |false=>rw[if_neg (Nat.ne_of_beq_eq_false h)]
theorem Rep.put {n:Nat}{D:List Deferred}{e:cG}{a:Act}(h:Rep n D e a)(d:Option Tmp)(v:Value):Rep n D (ez e d v) (a.put d v):=by
 cases d with
 |none=>exact h
 |some d=>
  refine⟨h.defers,by simp[Act.put,h.size],fun i hi=>?_⟩
  simp only[Act.put,ez,n6,Array.getElem?_setIfInBounds]
  by_cases hid:d=i
  ·subst hid;simp[h.size,hi]
  ·rw[if_neg hid,if_neg (fun c=>hid c.symm)];exact h.at_ i hi
structure Agree (M:List Nat)(e e':cG):Prop where
 same:∀i,i∉M->e' i=e i
theorem Agree.refl (M:List Nat)(e:cG):Agree M e e:=⟨fun _ _=>rfl⟩
theorem Agree.trans {M M' N:List Nat}{e e' e'':cG}(h:Agree M e e')(h':Agree M' e' e'')(s:∀i∈M,i∈N)(s':∀i∈M',i∈N):Agree N e e'':=
 ⟨fun i hi=>(h'.same i (fun m=>hi (s' i m))).trans (h.same i (fun m=>hi (s i m)))⟩
theorem Agree.mono {M N:List Nat}{e e':cG}(h:Agree M e e')(s:∀i∈M,i∈N):Agree N e e':=⟨fun i hi=>h.same i fun m=>hi (s i m)⟩
theorem Agree.set (e:cG)(d:Option Tmp)(v:Value)(M:List Nat)(hd:∀t,d=some t->t∈M):Agree M e (ez e d v):=by
 cases d with
 |none=>exact .refl _ _
 |some t=>
  refine⟨fun i hi=>?_⟩
  simp only[ez,n6]
  rw[if_neg]
  rintro rfl
  exact hi (hd _ rfl)

structure PanAt (n:Nat)(D:List Deferred)(M:List Nat)(e:cG)(a:Act):Prop where
 defers:a.defers=D
 size:a.tmps.size=n
 at_:∀i,i<n->i∉M->a.tmps[i]? =some (e i)
theorem Rep.pan {M:List Nat}{e e':cG}{a:Act}(h:Rep n D e' a)(ha:Agree M e e'):PanAt n D M e a:=⟨h.defers,h.size,fun i hi hm=>by rw[h.at_ i hi,ha.same i hm]⟩
theorem PanAt.grow {M N:List Nat}{e e₁:cG}{a:Act}(h:PanAt n D M e₁ a)(ha:Agree N e e₁)(hs:∀i∈M,i∈N):PanAt n D N e a:=⟨h.defers,h.size,fun i hi hm=>by rw[h.at_ i hi (fun c=>hm (hs i c)),ha.same i hm]⟩
theorem PanAt.unput {M:List Nat}{e:cG}{a:Act}{d:Option Tmp}{v:Value}(h:PanAt n D M e (a.put d v))(hd:∀t,d=some t->t∈M):PanAt n D M e a:=by
 cases d with
 |none=>exact h
 |some d=>
  refine⟨h.defers,by simpa [Act.put]using h.size,fun i hi hm=>?_⟩
  have:=h.at_ i hi hm
  have hne:d≠i:=fun c=>hm (c▸hd d rfl)
  simpa [Act.put,Array.getElem?_setIfInBounds_ne hne]using this
def uV (n:Nat)(D:List Deferred)(Kp:List PanicEntry->WP)(K:KT)(M:List Nat)(e:cG):Exit->Act->World->Prop
 | .panic ch,a,w=>PanAt n D M e a/\Kp ch w
 | .normal,a,w=>∃e',Rep n D e' a/\Agree M e e'/\K .normal e' w
 | .exit id,a,w=>∃e',Rep n D e' a/\Agree M e e'/\K (.exit id) e' w
 | .ret,a,w=>∃e',Rep n D e' a/\Agree M e e'/\K .ret e' w
 | .goto l,a,w=>∃e',Rep n D e' a/\Agree M e e'/\K (.goto l) e' w
 | .outgrown,_,_=>False
theorem lm {α β:Type}(f:α->β)(a:Array α):(List.map f a.toList).toArray=a.map f:=by rw[<- Array.toList_map]
theorem oO (e:cG)(o:Oper):oN n e o=execOp (ev n e) o:=by
 unfold oN
 split
 ·rename_i h;simp only[execOp,h,lm]
 ·rename_i h;simp only[execOp,h,lm]
 ·rename_i h;simp only[execOp,h,lm]
 ·rename_i c h
  split
  ·rename_i hc;simp only[execOp,h,resolve,hc,lm]
  all_goals first
   |rfl
   |(rename_i hc;simp only[execOp,h,resolve,hc,lm,pure_bind,invoke,builtin])
 ·rfl
theorem zJ {s:Sem Next} {k:Value->WP} {w:World} {o:Oper} {e:cG} {a:Act} {next:Act->World->Prop} {Q:Exit->Act->World->Prop} (hr:Rep n D e a)
  (ho:execOp (ev n e) o=s) (hd:C_ R o) (h:opN P s Kp k w) (hn:∀v w' a',k v w'->Rep n D (ez e o.dst v) a'->next a' w')
  (hp:∀ch w',Kp ch w'->Q (.panic ch) a w'):o.wpIn (FW R) 0 P a w next Q:=by
 refine⟨fun _ _=>trivial,?_⟩
 rw[show(FW R).round=R from rfl,mx hd,hr.eval,ho]
 replace h:=h.out
 generalize s.run P w=r at h
 cases r with
 |ok n w'=>
  cases n <;> simp only at h <;> simp only[Oper.uponIn]
  case value v=>exact hn _ _ _ h (hr.put _ _)
  case skip=>exact hn _ _ _ h (hr.put _ _)
  case enter f args=>
   refine⟨fun c=>by simp[FW,Fence.wide]at c,u_ (Calls.mono h fun en w'' he=>?_)⟩
   cases en with
   |returned v=>exact hn _ _ _ he (hr.put _ _)
   |panicked ch=>exact hp _ _ he
   |outgrown=>exact he.elim
  case round l f tmps assign body=>
   refine⟨fun c=>by simp[FW,Fence.wide]at c,vb (RoundIn.mono h fun en w'' he=>?_)⟩
   cases en with
   |returned v=>exact hn _ _ _ he (hr.put _ _)
   |panicked ch=>exact hp _ _ he
   |outgrown=>exact he.elim
 |halt x w'=>
  cases x <;> simp only at h <;> simp only[Oper.uponIn]
  case panic v=>exact hp _ _ h
theorem rI {k:Value->WP}{w:World}{o:Oper}{e:cG}(h:s7 P n e o Kp k w):opN P (execOp (ev n e) o) Kp k w:=by
 rw[<- oO]
 unfold s7 at h
 cases hop:o.op <;> rw[hop]at h <;> first
  |exact h
  |exact⟨by simp only[oN,execOp,hop];exact h⟩
theorem kT {k:Value->WP} {w:World} {o:Oper} {e:cG} {a:Act} {next:Act->World->Prop} {Q:Exit->Act->World->Prop} (hr:Rep n D e a)
  (hd:C_ R o) (h:s7 P n e o Kp k w) (hn:∀v w' a',k v w'->Rep n D (ez e o.dst v) a'->next a' w')
  (hp:∀ch w',Kp ch w'->Q (.panic ch) a w'):o.wpIn (FW R) 0 P a w next Q:=zJ hr rfl hd (rI h) hn hp
theorem iZ {k:Value->WP}{w:World}{o:Oper}{e:cG}(h:s8 P n e o k w):stS P (execOp (ev n e) o) k w:=by
 rw[<- oO]
 unfold s8 at h
 cases hop:o.op <;> rw[hop]at h <;> first
  |exact h
  |exact⟨⟨_,by simp only[oN,execOp,hop];rfl,h⟩⟩
theorem jI {o:Oper}{y:Nat->Option Bool}(h:o.guard=none):Region.wanted o y=true:=by simp[Region.wanted,h]
theorem rJ (ops:Array Oper){e:cG}{a:Act}(hr:Rep n D e a)(j:Nat)(want:Bool):(yielded ops a.tmps j==some want)=true↔ye n ops e j= .bool want:=by
 unfold yielded ye
 cases h:(ops[j]?).bind (·.dst)with
 |none=>simp[undef]
 |some t=>
  simp only[Option.bind_some]
  have hg:=hr.getD t
  rw[Array.getD_eq_getD_getElem?]at hg
  rw[<- hg]
  cases a.tmps[t]? with
  |none=>simp[undef]
  |some v=>cases v <;> simp
theorem qA {ops:Array Oper}{e:cG}{a:Act}(hr:Rep n D e a){o:Oper}{j:Nat}{want:Bool}{A B:WP}{w:World}(hg:o.guard=some (j,want))(h:QZ (ye n ops e j) want A B w):
  (Region.wanted o (yielded ops a.tmps)=true/\A w)\/(Region.wanted o (yielded ops a.tmps)=false/\B w):=by
 have hy:=rJ ops hr j want
 simp only[Region.wanted,hg]
 unfold QZ at h
 by_cases hv:ye n ops e j= .bool want
 ·rw[hv]at h
  simp only[if_true]at h
  exact .inl ⟨hy.2 hv,h⟩
 ·refine .inr ⟨by simpa using fun c=>hv (hy.1 (by simpa using c)),?_⟩
  split at h
  ·rename_i b hb
   rw[if_neg (fun c=>hv (by rw[hb,c]))]at h
   exact h
  ·exact h
theorem gG {ops:Array Oper}{e:cG}{a:Act}(hr:Rep n D e a){o:Oper}{body:(Value->WP)->WP}{k:Value->WP}{w:World}(h:Dq n ops e o body k w):
  (Region.wanted o (yielded ops a.tmps)=true/\body k w)\/(Region.wanted o (yielded ops a.tmps)=false/\k undef w):=by
 unfold Dq at h
 cases hg:o.guard with
 |none=>rw[hg]at h;exact .inl ⟨jI hg,h⟩
 |some g=>obtain⟨j,want⟩:=g;rw[hg]at h;exact qA hr hg h.out
theorem vd {ops:Array Oper}{e:cG}{a:Act}(hr:Rep n D e a){o:Oper}{body:(WP->Value->WP)->WP}{k:WP->Value->WP}{w:World}(h:G9 n ops e o body k w):
  (Region.wanted o (yielded ops a.tmps)=true/\body k w)\/(Region.wanted o (yielded ops a.tmps)=false/\k (fun _=>True) undef w):=by
 unfold G9 at h
 cases hg:o.guard with
 |none=>rw[hg]at h;exact .inl ⟨jI hg,h⟩
 |some g=>obtain⟨j,want⟩:=g;rw[hg]at h;exact qA hr hg h.out
theorem ns {ops:Array Oper} {K:cG->WP} {Q:Exit->Act->World->Prop} (M:List Nat) (e₀:cG)
  (hn:∀e a w,Rep n D e a->Agree M e₀ e->K e w->Q .normal a w) (hp:∀ch e a w,Rep n D e a->Agree M e₀ e->Kp ch w->Q (.panic ch) a w):
  ∀(l:List Oper) (e:cG) (a:Act) (w:World),(∀o∈l,C_ R o)->(∀o∈l,∀t,o.dst=some t->t∈M)->Rep n D e a->Agree M e₀ e->lD P n ops Kp K l e w->wpListIn (FW R) 0 P ops Q l a w
 |[],e,a,w,_,_,hr,ha,h=>hn e a w hr ha h
 |o::l,e,a,w,hD,hM,hr,ha,h=>by
  unfold lD at h
  unfold wpListIn
  have hd:∀t,o.dst=some t->t∈M:=hM o (by simp)
  have next:∀v w' a',lD P n ops Kp K l (ez e o.dst v) w'->Rep n D (ez e o.dst v) a'->wpListIn (FW R) 0 P ops Q l a' w':=fun v w' a' hv hr'=>
   ns M e₀ hn hp l _ a' w' (fun x hx=>hD x (by simp[hx])) (fun x hx=>hM x (by simp[hx])) hr' (ha.trans (.set e o.dst v M hd) (fun _ h=>h) (fun _ h=>h)) hv
  rcases gG hr h with ⟨hw,h⟩|⟨hw,h⟩
  ·rw[if_pos hw]
   exact kT hr (hD o (by simp)) h next (fun ch w'=>hp ch e _ w' hr ha)
  ·rw[if_neg (by simp[hw])]
   exact⟨fun _ _=>trivial,next _ _ _ h (hr.put _ _)⟩

theorem my (f:Nat->Value)(is:List Nat):∀(e:cG) (i:Nat),fD e is (is.map f) i=if i∈is then f i else e i:=by
 induction is with
 |nil=>intro e i;simp[fD]
 |cons j is ih=>
  intro e i
  simp only[fD,List.map_cons,List.headD_cons,List.tail_cons,ih,List.mem_cons,n6]
  by_cases h1:i∈is
  ·rw[if_pos h1,if_pos (.inr h1)]
  ·rw[if_neg h1]
   by_cases hji:i=j
   ·rw[if_pos hji,if_pos (.inl hji),hji]
   ·rw[if_neg hji,if_neg]
    rintro(h|h)
    ·exact hji h
    ·exact h1 h
theorem eZ {M dead live:List Nat}{e e':cG}(h:Agree M e e')(hM:∀i∈M,i∈live\/i∈dead):upd e dead (iC e' dead) live (iC e' live)=e':=by
 funext i
 unfold upd iC
 rw[my,my]
 by_cases h1:i∈live
 ·rw[if_pos h1]
 ·rw[if_neg h1]
  by_cases h2:i∈dead
  ·rw[if_pos h2]
  ·rw[if_neg h2]
   exact(h.same i (fun m=>(hM i m).elim h1 h2)).symm
theorem ve {c:Code}{live:List Nat}{i:Nat}:i∈fE c live↔i∈wr c/\i∉live:=by
 simp[fE]
theorem gN {f:List Value->Prop}(e:cG):∀(live:List Nat),s9 live.length f->f (iC e live)
 |[],h=>h
 |i::l,h=>by
  have:=gN (f:=fun vs=>f (e i::vs)) e l (h _)
  exact this

theorem jl {c:Code} {Q:Exit->Act->World->Prop} {a:Act} {w:World} (I:Nat->Act->World->Prop) (h₀:∃m,I m a w)
  (round:∀m a w,I m a w->c.wpIn (FW R) 0 P (Exit.then (fun a' w'=>∃m',m'<m/\I m' a' w') Q) a w):(Code.loop c).wpIn (FW R) 0 P Q a w:=by
 have least:∀(a:Act) (w:World),(∃m,I m a w)->∃m,I m a w/\∀m',I m' a w->m<=m':=by
  intro a w ⟨m,hm⟩
  induction m using Nat.strongRecOn with
  |_ m ih=>
   by_cases h:∃m',m'<m/\I m' a w
   ·obtain⟨m',hlt,hm'⟩:=h;exact ih m' hlt hm'
   ·refine⟨m,hm,fun m' hm'=>?_⟩
    rcases Nat.lt_or_ge m' m with hlt|hge
    ·exact absurd ⟨m',hlt,hm'⟩ h
    ·exact hge
 let μ:Act->World->Nat:=fun a w=>open Classical in if h:∃m,I m a w then Classical.choose (least a w h)else 0
 have hμ:∀a w,(∃m,I m a w)->I (μ a w) a w/\∀m',I m' a w->μ a w<=m':=by
  intro a w h
  have e:μ a w=Classical.choose (least a w h):=dif_pos h
  rw[e]
  exact Classical.choose_spec (least a w h)
 refine wpIn_loop (fun a w=>∃m,I m a w) μ h₀ fun a w h=>?_
 refine wpIn_mono (round _ a w (hμ a w h).1) fun ex a' w' hq=>?_
 cases ex with
 |normal=>
  obtain⟨m',hlt,hm'⟩:=hq
  exact⟨⟨m',hm'⟩,Nat.lt_of_le_of_lt ((hμ a' w' ⟨m',hm'⟩).2 m' hm') hlt⟩
 |_=>exact hq
end Go.Proofs.YtdjkdjepjahjfaaGreatDoor.Sh
namespace Go.Proofs.YtdjkdjepjahjfaaGreatDoor.Sh
open Go
variable {P:Program} {n:Nat} {R:Option Nat} {D:List Deferred} {Kp:List PanicEntry->WP} {ops:Array Oper} {Q:Exit->Act->World->Prop}
def kU (ops:Array Oper)(E:Array Bool):Prop:=
 ∀x o,ops[x]? =some o->E.getD x false=true->∀e∈o.after,Region.binds .any e=true->E.getD e.on false=true
theorem qB {n k i:Nat}(h:iA ops (n+1) k i=true):
  ∃o,ops[k]? =some o/\∃e∈o.after,Region.binds .any e=true/\(e.on=i\/iA ops n e.on i=true):=by
 unfold iA at h
 cases ho:ops[k]? with
 |none=>rw[ho]at h;cases h
 |some o=>
  rw[ho]at h
  obtain⟨e,he,hb⟩:=List.any_eq_true.1 h
  simp only[Bool.and_eq_true,Bool.or_eq_true,beq_iff_eq]at hb
  exact⟨o,rfl,e,by simpa using he,hb.1,hb.2⟩
theorem nt {E:Array Bool}(hc:kU ops E):∀n k i,E.getD k false=true->iA ops n k i=true->E.getD i false=true
 |0,_,_,_,h=>by simp[iA]at h
 |n+1,k,i,hk,h=>by
  obtain⟨o,ho,e,he,hb,h⟩:=qB h
  have hE:=hc k o ho hk e he hb
  rcases h with h|h
  ·rw[<- h];exact hE
  ·exact nt hc n e.on i hE h
theorem wx {E:Array Bool}{i:Nat}(h:E.getD i true=false):E.getD i false=false:=by
 rcases Nat.lt_or_ge i E.size with h'|h'
 ·simp[h']at h ⊢;exact h
 ·simp[Array.getElem?_eq_none h']at h
theorem yg {E:Array Bool}(hc:kU ops E){n i j:Nat}(hj:j∈Region.ready .any ops E)(hi:E.getD i true=false):iA ops n j i=false:=by
 cases n with
 |zero=>rfl
 |succ n=>
  cases h:iA ops (n+1) j i with
  |false=>rfl
  |true=>
   obtain⟨o,ho,e,he,hb,h⟩:=qB h
   obtain⟨_,o',ho',hall⟩:=mem_ready.1 hj
   obtain rfl:o=o':=Option.some.inj (ho.symm.trans ho')
   have hE:=hall e he hb
   have hf:=wx hi
   rcases h with h|h
   ·rw[h,hf]at hE;cases hE
   ·rw[nt hc n _ _ hE h]at hf;cases hf
theorem kU.set {E:Array Bool}(hc:kU ops E){j:Nat}(hj:j∈Region.ready .any ops E):kU ops (E.setIfInBounds j true):=by
 intro x o ho hx e he hb
 obtain⟨_,o',ho',hall⟩:=mem_ready.1 hj
 by_cases hxj:j=x
 ·subst hxj
  obtain rfl:o=o':=Option.some.inj (ho.symm.trans ho')
  exact getD_set_true (hall e he hb)
 ·rw[getD_set_ne false hxj]at hx
  exact getD_set_true (hc x o ho hx e he hb)
def nL (R:Option Nat)(P:Program)(ops:Array Oper)(Q:Exit->Act->World->Prop)(pend:List (Nat × WP)):Nat->Array Bool->Act->World->Prop
 |0,E,a,w=>Region.ready .any ops E=[]/\Q .normal a w
 |f+1,E,a,w=>(Region.ready .any ops E=[]->Q .normal a w)/\∀j∈Region.ready .any ops E,
   wpOpIn (FW R) 0 P ops Q j (fun a' w'=>(w'=w\/∀p∈pend,iA ops ops.size j p.1=false->p.2 w')/\nL R P ops Q pend f (E.setIfInBounds j true) a' w') a w
theorem s_ (pend:List (Nat × WP)):∀(f:Nat) (E:Array Bool) (a:Act) (w:World),nL R P ops Q pend f E a w->wpAnyIn (FW R) 0 P .any ops Q f E a w
 |0,_,_,_,h=>h
 |f+1,_,_,_,h=>⟨h.1,fun j hj=>wpOpIn_mono (fun _ _ k=>s_ pend f _ _ _ k.2) (h.2 j hj)⟩
theorem mz {p:Nat × WP}{pend:List (Nat × WP)}:∀(f:Nat) (E:Array Bool) (a:Act) (w:World),nL R P ops Q (p::pend) f E a w->nL R P ops Q pend f E a w
 |0,_,_,_,h=>h
 |f+1,_,_,_,h=>⟨h.1,fun j hj=>wpOpIn_mono (fun _ _ k=>⟨k.1.imp id fun c q hq=>c q (by simp[hq]),mz f _ _ _ k.2⟩) (h.2 j hj)⟩
def YD (P:Program)(ops:Array Oper)(C:WP)(o:Oper)(v:Value)(a:Act):Prop:=
 (Region.wanted o (yielded ops a.tmps)=true/\∀w,C w->(execOp a.eval o).run P w= .ok (.value v) w)\/(Region.wanted o (yielded ops a.tmps)=false/\v=undef)
theorem YD.same {C:WP} {o:Oper} {v:Value} {a a':Act} (h:YD P ops C o v a) (he:execOp a'.eval o=execOp a.eval o)
  (hw:Region.wanted o (yielded ops a'.tmps)=Region.wanted o (yielded ops a.tmps)):YD P ops C o v a':=by
 unfold YD at *;rw[he,hw];exact h
theorem YD.op {C:WP}{i:Nat}{o:Oper}{v:Value}{a:Act}{w:World}(hi:ops[i]? =some o)(hd:C_ R o)(h:YD P ops C o v a)(hw:C w){K:Act->World->Prop}(hk:K (a.put o.dst v) w):wpOpIn (FW R) 0 P ops Q i K a w:=by
 unfold wpOpIn
 simp only[hi]
 rcases h with ⟨h1,h2⟩|⟨h1,rfl⟩
 ·rw[if_pos h1];refine⟨fun _ _=>trivial,?_⟩;rw[show(FW R).round=R from rfl,mx hd,h2 w hw];exact hk
 ·rw[if_neg (by simp[h1])];exact⟨fun _ _=>trivial,hk⟩
theorem MN {C:WP} {j:Nat} {oi oj:Oper} {v:Value} (hj:ops[j]? =some oj) (hd:C_ R oj) (hap:oi.apart ops oj=true)
  (hsi:∀cs b,oi.op≠ .select cs b) (hsj:∀cs b,oj.op≠ .select cs b) (hQ:∀c a w,Q (.panic c) (a.put oi.dst v) w->Q (.panic c) a w)
  {K:Act->World->Prop} {a:Act} {w:World} (hy:YD P ops C oi v a) (h:wpOpIn (FW R) 0 P ops Q j K (a.put oi.dst v) w):
  wpOpIn (FW R) 0 P ops Q j (fun a' w'=>YD P ops C oi v a'/\K (a'.put oi.dst v) w') a w:=by
 obtain⟨h1,h2,h3⟩:=Oper.apart_spec hap
 have keep:∀(a:Act),YD P ops C oi v a->∀u,YD P ops C oi v (a.put oj.dst u):=fun a hy u=>
  hy.same (execOp_put oi hsi a oj.dst u h3) (wanted_put oi a oj.dst u h3)
 unfold wpOpIn at *
 simp only[hj]at *
 rw[wanted_put oj a oi.dst v h1]at h
 by_cases hw:Region.wanted oj (yielded ops a.tmps)=true
 ·rw[if_pos hw]at h ⊢
  refine⟨fun _ _=>trivial,?_⟩
  have h:=h.2
  rw[show(FW R).round=R from rfl,mx hd]at h ⊢
  rw[execOp_put oj hsj a oi.dst v h1]at h
  cases hr:(execOp a.eval oj).run P w with
  |ok n w'=>
   rw[hr]at h
   cases n <;> simp only[Oper.uponIn]at h ⊢
   case value u=>exact⟨keep a hy u,by rw[<- Act.put_comm a v u h2];exact h⟩
   case skip=>exact⟨keep a hy _,by rw[<- Act.put_comm a v undef h2];exact h⟩
   case defer d=>
    refine⟨keep {a with defers:=d::a.defers} (hy.same rfl rfl) _,?_⟩
    rw[<- Act.put_comm _ v undef h2,<- Act.put_defers]
    exact h
   case enter f args=>
    refine⟨h.1,CallsIn.mono h.2 fun e w'' he=>?_⟩
    cases e with
    |returned u=>exact⟨keep a hy u,by rw[<- Act.put_comm a v u h2];exact he⟩
    |panicked c=>exact hQ _ _ _ he
    |outgrown=>exact he
   case row row args=>exact⟨h.1,RowsIn.mono h.2 fun u w'' he=>⟨keep a hy u,by rw[<- Act.put_comm a v u h2];exact he⟩⟩
   case round l f tmps assign body=>
    refine⟨h.1,RoundIn.mono h.2 fun e w'' he=>?_⟩
    cases e with
    |returned u=>exact⟨keep a hy u,by rw[<- Act.put_comm a v u h2];exact he⟩
    |panicked c=>exact hQ _ _ _ he
    |outgrown=>exact he
  |halt x w'=>
   rw[hr]at h
   cases x <;> simp only[Oper.uponIn]at h ⊢
   case panic u=>exact hQ _ _ _ h
 ·rw[if_neg hw]at h ⊢
  exact⟨fun _ _=>trivial,keep a hy _,by rw[<- Act.put_comm a v undef h2];exact h.2⟩
theorem kl {C:WP} {i:Nat} {oi:Oper} {v:Value} {pend:List (Nat × WP)} (hD:∀(j:Nat) o,ops[j]? =some o->C_ R o) (hi:ops[i]? =some oi) (hsel:∀(j:Nat) (o:Oper) cs b,ops[j]? =some o->o.op≠ .select cs b)
  (hQ:∀c a w,Q (.panic c) (a.put oi.dst v) w->Q (.panic c) a w):
  ∀(f:Nat) (E:Array Bool) (a:Act) (w:World),kU ops E->
   (∀j oj,ops[j]? =some oj->j≠i->E.getD j true=false->(∀e∈oj.after,Region.binds .any e=true->e.on≠i)->oi.apart ops oj=true)->
   i∈Region.ready .any ops E->YD P ops C oi v a->C w->
   nL R P ops Q ((i,C)::pend) f (E.setIfInBounds i true) (a.put oi.dst v) w->nL R P ops Q pend (f+1) E a w:=by
 intro f
 induction f with
 |zero=>
  intro E a w hc _ hr hy hw H
  refine⟨fun h=>(by rw[h]at hr;cases hr),fun j hj=>?_⟩
  by_cases hji:j=i
  ·subst hji;exact hy.op hi (hD _ _ hi) hw ⟨.inl rfl,mz 0 _ _ _ H⟩
  ·have:=ready_mono hj hji
   rw[H.1]at this
   cases this
 |succ f ih=>
  intro E a w hc hfree hr hy hw H
  refine⟨fun h=>(by rw[h]at hr;cases hr),fun j hj=>?_⟩
  by_cases hji:j=i
  ·subst hji;exact hy.op hi (hD _ _ hi) hw ⟨.inl rfl,mz _ _ _ _ H⟩
  ·have h1:=H.2 j (ready_mono hj hji)
   have hiun:=(mem_ready.1 hr).1
   have hdep:iA ops ops.size j i=false:=yg hc hj hiun
   obtain⟨hjun,oj,hoj,hall⟩:=mem_ready.1 hj
   have hnot:∀e∈oj.after,Region.binds .any e=true->e.on≠i:=fun e he hb heq=>by
    have h1:=hall e he hb
    rw[heq,wx hiun]at h1
    cases h1
   have h2:=MN hoj (hD _ _ hoj) (hfree j oj hoj hji hjun hnot) (fun cs b=>hsel i oi cs b hi) (fun cs b=>hsel j oj cs b hoj) hQ hy h1
   have hfree':∀k ok,ops[k]? =some ok->k≠i->(E.setIfInBounds j true).getD k true=false->
     (∀e∈ok.after,Region.binds .any e=true->e.on≠i)->oi.apart ops ok=true:=fun k ok hk hki hun hno=>by
    refine hfree k ok hk hki ?_ hno
    by_cases hjk:j=k
    ·subst hjk;exact hjun
    ·rw[getD_set_ne true hjk]at hun;exact hun
   refine wpOpIn_mono (fun a' w' ⟨hy',hk,h3⟩=>⟨hk.imp id fun c p hp=>c p (by simp[hp]),?_⟩) h2
   refine ih (E.setIfInBounds j true) a' w' (hc.set hj) hfree' (ready_mono hr (Ne.symm hji)) hy' ?_ ?_
   ·rcases hk with rfl|hk
    ·exact hw
    ·exact hk (i,C) (by simp) hdep
   ·rw[Array.setIfInBounds_comm _ _ hji];exact h3
theorem lE {S : WP} {w : World} : ∀ {l : List (Nat × WP)}, S0 l S w -> (∀ p ∈ l, p.2 w) /\ S w
 | [], h => ⟨by simp, h⟩
 | (n, C) :: r, h => ⟨by
   intro p hp
   rcases List.mem_cons.1 hp with rfl | hp
   ·exact h.1
   ·exact (lE h.2).1 p hp, (lE h.2).2⟩
theorem wy {ops:Array Oper}:∀(t:DT) (E:Array Bool),jG ops true t E=true->1<=t.len
 | .nil,E,h=>by simp[jG]at h
 | .op k md t,E,h=>by simp[DT.len]
 | .alt a b,E,h=>by
  simp only[jG,Bool.true_or,Bool.true_and,Bool.and_eq_true]at h
  exact wy a E h.2.1
theorem qC {ops:Array Oper}:∀(t:DT) (E:Array Bool),jG ops true t E=true->∃j,j∈Region.ready .any ops E
 | .nil,E,h=>by simp[jG]at h
 | .op k md t,E,h=>by
  match md,h with
  |0,h=>
   simp only[jG,Bool.and_eq_true,List.contains_eq_mem,decide_eq_true_eq]at h
   exact⟨k,h.1⟩
  |md+1,h=>simp[jG]at h
 | .alt a b,E,h=>by
  simp only[jG,Bool.true_or,Bool.true_and,Bool.and_eq_true]at h
  exact qC a E h.2.1
theorem dq {K:cG->WP} (M:List Nat) (e₀:cG) (hD:∀(j:Nat) o,ops[j]? =some o->C_ R o) (hM:∀(j:Nat) o t,ops[j]? =some o->o.dst=some t->t∈M) (hsel:Region.noSelect ops=true)
  (hn:∀e a w,Rep n D e a->Agree M e₀ e->K e w->Q .normal a w) (hp:∀ch e a w,Rep n D e a->Agree M e₀ e->Kp ch w->Q (.panic ch) a w)
  (hQ:∀c (a:Act) d v w,(∀t,d=some t->t∈M)->Q (.panic c) (a.put d v) w->Q (.panic c) a w):
  ∀(r:DT) (E:Array Bool) (pend pend':List (Nat × WP)) (e:cG) (a:Act) (w:World),Rep n D e a->kU ops E->Agree M e₀ e->
   (∀p∈pend',p∈pend\/(∀w,p.2 w)\/∀q∈r.acts,iA ops ops.size q p.1=true)->
   f_ P n ops Kp K r pend e w->
   (jG ops false r E=true->nL R P ops Q pend' r.len E a w)/\
   (jG ops true r E=true->∀j∈r.heads,wpOpIn (FW R) 0 P ops Q j (fun a' w'=>(w'=w\/∀p∈pend',iA ops ops.size j p.1=false->p.2 w')/\nL R P ops Q pend' (r.len-1) (E.setIfInBounds j true) a' w') a w)
 | .nil,E,pend,pend',e,a,w,hr',hc,ha,hpd,h=>⟨fun hok=>⟨by simpa [jG]using hok,hn e a w hr' ha h⟩,fun hok=>by simp[jG]at hok⟩
 | .alt a1 b1,E,pend,pend',e,a,w,hr',hc,ha,hpd,h=>by
  simp only[f_]at h
  have ih1:=dq M e₀ hD hM hsel hn hp hQ a1 E pend pend' e a w hr' hc ha (fun p hp=>(hpd p hp).imp id (Or.imp id fun h q hq=>h q (by simp[DT.acts,hq]))) h.1
  have ih2:=dq M e₀ hD hM hsel hn hp hQ b1 E pend pend' e a w hr' hc ha (fun p hp=>(hpd p hp).imp id (Or.imp id fun h q hq=>h q (by simp[DT.acts,hq]))) h.2
  have both:(a1.len==b1.len&&(jG ops true a1 E&&jG ops true b1 E))=true->∀j∈a1.heads++b1.heads,wpOpIn (FW R) 0 P ops Q j (fun a' w'=>(w'=w\/∀p∈pend',iA ops ops.size j p.1=false->p.2 w')/\nL R P ops Q pend' (a1.len-1) (E.setIfInBounds j true) a' w') a w:=by
   intro hok j hj
   simp only[Bool.and_eq_true,beq_iff_eq]at hok
   rcases List.mem_append.1 hj with hj|hj
   ·exact ih1.2 hok.2.1 j hj
   ·rw[hok.1];exact ih2.2 hok.2.2 j hj
  refine⟨fun hok=>?_,fun hok=>?_⟩
  ·simp only[jG,Bool.false_or,Bool.and_eq_true,List.all_eq_true,List.contains_eq_mem,decide_eq_true_eq]at hok
   obtain⟨h1,h2⟩:=hok
   have h2':(a1.len==b1.len&&(jG ops true a1 E&&jG ops true b1 E))=true:=by simp only[Bool.and_eq_true];exact h2
   have hl:=wy a1 E h2.2.1
   obtain⟨j0,hj0⟩:=qC a1 E h2.2.1
   show nL R P ops Q pend' a1.len E a w
   obtain⟨m,hm⟩:∃m,a1.len=m+1:=⟨a1.len-1,by omega⟩
   rw[hm]
   refine⟨fun h0=>(by rw[h0]at hj0;cases hj0),fun j hj=>?_⟩
   have:=both h2' j (h1 j hj)
   rw[hm,Nat.add_sub_cancel]at this
   exact this
  ·simp only[jG,Bool.true_or,Bool.true_and]at hok
   exact both hok
 | .op k md r,E,pend,pend',e,a,w,hr',hc,ha,hpd,h=>by
  simp only[f_]at h
  cases ho:ops[k]? with
  |none=>rw[ho]at h;exact h.elim
  |some o=>
   rw[ho]at h
   simp only at h
   have step:∀v,Agree M e₀ (ez e o.dst v):=fun v=>ha.trans (.set e o.dst v M (hM k o · ho)) (fun _ h=>h) (fun _ h=>h)
   match md,h,hpd with
   |0,h,hpd=>
    have hpd':∀p∈pend',p∈pend\/(∀w,p.2 w)\/∀q∈r.acts,iA ops ops.size q p.1=true:=fun p hp=>(hpd p hp).imp id (Or.imp id fun h q hq=>h q (by simp[DT.acts,hq]))
    have main:k∈Region.ready .any ops E->jG ops false r (E.setIfInBounds k true)=true->wpOpIn (FW R) 0 P ops Q k (fun a' w'=>(w'=w\/∀p∈pend',iA ops ops.size k p.1=false->p.2 w')/\nL R P ops Q pend' r.len (E.setIfInBounds k true) a' w') a w:=by
     intro hk hok2
     unfold wpOpIn
     simp only[ho]
     rcases gG hr' h with ⟨hw,h⟩|⟨hw,h⟩
     ·rw[if_pos hw]
      refine kT hr' (hD _ _ ho) h (fun v w' a' hv hra=>?_) (fun ch w' hch=>hp ch e _ w' hr' ha hch)
      obtain⟨h1,h2⟩:=lE hv
      refine⟨.inr fun p hp hd=>?_,(dq M e₀ hD hM hsel hn hp hQ r _ pend pend' _ a' w' hra (hc.set hk) (step v) hpd' h2).1 hok2⟩
      rcases hpd p hp with h|h|h
      ·exact h1 p (by simp[h,hd])
      ·exact h w'
      ·rw[h k (by simp[DT.acts])]at hd;cases hd
     ·rw[if_neg (by simp[hw])]
      exact⟨fun _ _=>trivial,.inl trivial,(dq M e₀ hD hM hsel hn hp hQ r _ pend pend' _ _ w (hr'.put _ _) (hc.set hk) (step undef) hpd' (lE h).2).1 hok2⟩
    refine⟨fun hok=>?_,fun hok=>?_⟩
    ·simp only[jG,Bool.and_eq_true]at hok
     have hr:Region.ready .any ops E=[k]:=by simpa using hok.1
     have hk:k∈Region.ready .any ops E:=by rw[hr];simp
     refine⟨fun h0=>(by rw[hr]at h0;cases h0),fun j hj=>?_⟩
     rw[hr,List.mem_singleton]at hj
     subst hj
     exact main hk hok.2
    ·simp only[jG,Bool.and_eq_true,List.contains_eq_mem,decide_eq_true_eq]at hok
     intro j hj
     simp only[DT.heads,List.mem_singleton]at hj
     subst hj
     exact main hok.1 hok.2
   |1,h,hpd=>
    have hpd':∀p∈pend',p∈pend\/(∀w,p.2 w)\/∀q∈r.acts,iA ops ops.size q p.1=true:=hpd
    refine⟨fun hok=>?_,fun hok=>by simp[jG]at hok⟩
    simp only[jG,Bool.and_eq_true,List.contains_eq_mem,decide_eq_true_eq,bne_self_eq_false,Bool.false_or,List.all_eq_true,Bool.not_false,Bool.true_and]at hok
    obtain⟨⟨⟨hk,hf⟩,dep⟩,hok2⟩:=hok
    rcases gG hr' h with ⟨hw,h⟩|⟨hw,h⟩
    ·obtain⟨v,hv,h⟩:=(iZ h).out
     refine kl (hD:=hD) (C:=fun w'=>w'=w) (v:=v) ho (Region.noSelect_spec hsel) (fun c a w=>hQ c a _ _ w (fun t ht=>hM k o t ho ht)) r.len E _ w hc (Region.free_spec ho hf) hk (.inl ⟨hw,by rintro w' rfl;rw[hr'.eval];exact hv⟩) rfl ?_
     refine(dq M e₀ hD hM hsel hn hp hQ r _ pend _ _ _ w (hr'.put _ _) (hc.set hk) (step v) (fun p hp=>?_) h).1 hok2
     rcases List.mem_cons.1 hp with rfl|hp
     ·exact .inr (.inr dep)
     ·exact hpd' p hp
    ·refine kl (hD:=hD) (C:=fun w'=>w'=w) (v:=undef) ho (Region.noSelect_spec hsel) (fun c a w=>hQ c a _ _ w (fun t ht=>hM k o t ho ht)) r.len E _ w hc (Region.free_spec ho hf) hk (.inr ⟨hw,rfl⟩) rfl ?_
     refine(dq M e₀ hD hM hsel hn hp hQ r _ pend _ _ _ w (hr'.put _ _) (hc.set hk) (step undef) (fun p hp=>?_) h).1 hok2
     rcases List.mem_cons.1 hp with rfl|hp
     ·exact .inr (.inr dep)
     ·exact hpd' p hp
   |2,h,hpd=>
    have hpd':∀p∈pend',p∈pend\/(∀w,p.2 w)\/∀q∈r.acts,iA ops ops.size q p.1=true:=hpd
    refine⟨fun hok=>?_,fun hok=>by simp[jG]at hok⟩
    simp only[jG,Bool.and_eq_true,List.contains_eq_mem,decide_eq_true_eq,Bool.not_false,Bool.true_and]at hok
    obtain⟨⟨⟨hk,hf⟩,_⟩,hok2⟩:=hok
    have mv:∀x,(∀w',(execOp (ev n e) o).run P w'= .ok (.value (ev n e x)) w')->Dq n ops e o (fun c=>c (ev n e x)) (fun v=>f_ P n ops Kp K r pend (ez e o.dst v)) w->nL R P ops Q pend' (r.len+1) E a w:=by
     intro x hx h
     rcases gG hr' h with ⟨hw,h⟩|⟨hw,h⟩
     ·refine kl (hD:=hD) (C:=fun _=>True) (v:=ev n e x) ho (Region.noSelect_spec hsel) (fun c a w=>hQ c a _ _ w (fun t ht=>hM k o t ho ht)) r.len E _ w hc (Region.free_spec ho hf) hk (.inl ⟨hw,fun w' _=>by rw[hr'.eval];exact hx w'⟩) trivial ?_
      refine(dq M e₀ hD hM hsel hn hp hQ r _ pend _ _ _ w (hr'.put _ _) (hc.set hk) (step _) (fun p hp=>?_) h).1 hok2
      rcases List.mem_cons.1 hp with rfl|hp
      ·exact .inr (.inl fun _=>trivial)
      ·exact hpd' p hp
     ·refine kl (hD:=hD) (C:=fun _=>True) (v:=undef) ho (Region.noSelect_spec hsel) (fun c a w=>hQ c a _ _ w (fun t ht=>hM k o t ho ht)) r.len E _ w hc (Region.free_spec ho hf) hk (.inr ⟨hw,rfl⟩) trivial ?_
      refine(dq M e₀ hD hM hsel hn hp hQ r _ pend _ _ _ w (hr'.put _ _) (hc.set hk) (step undef) (fun p hp=>?_) h).1 hok2
      rcases List.mem_cons.1 hp with rfl|hp
      ·exact .inr (.inl fun _=>trivial)
      ·exact hpd' p hp
    cases hop:o.op <;> rw[hop]at h <;> first
     |exact h.elim
     |exact mv _ (fun w'=>by unfold execOp;simp only[hop];rfl) h
   |md+3,h,hpd=>
    have hpd':∀p∈pend',p∈pend\/(∀w,p.2 w)\/∀q∈r.acts,iA ops ops.size q p.1=true:=hpd
    refine⟨fun hok=>?_,fun hok=>by simp[jG]at hok⟩
    simp only[jG,Bool.and_eq_true,List.contains_eq_mem,decide_eq_true_eq,Bool.not_false,Bool.true_and]at hok
    obtain⟨⟨⟨hk,hf⟩,_⟩,hok2⟩:=hok
    rcases vd hr' h with ⟨hw,⟨C,v,hC,hv,h⟩⟩|⟨hw,h⟩
    ·refine kl (hD:=hD) (C:=C) (v:=v) ho (Region.noSelect_spec hsel) (fun c a w=>hQ c a _ _ w (fun t ht=>hM k o t ho ht)) r.len E _ w hc (Region.free_spec ho hf) hk (.inl ⟨hw,fun w' hw'=>by rw[hr'.eval,<- oO];exact hv w' hw'⟩) hC ?_
     refine(dq M e₀ hD hM hsel hn hp hQ r _ _ _ _ _ w (hr'.put _ _) (hc.set hk) (step v) (fun p hp=>?_) h).1 hok2
     rcases List.mem_cons.1 hp with rfl|hp
     ·exact .inl (by simp)
     ·exact(hpd' p hp).imp (fun h=>by simp[h]) id
    ·refine kl (hD:=hD) (C:=fun _=>True) (v:=undef) ho (Region.noSelect_spec hsel) (fun c a w=>hQ c a _ _ w (fun t ht=>hM k o t ho ht)) r.len E _ w hc (Region.free_spec ho hf) hk (.inr ⟨hw,rfl⟩) trivial ?_
     refine(dq M e₀ hD hM hsel hn hp hQ r _ _ _ _ _ w (hr'.put _ _) (hc.set hk) (step undef) (fun p hp=>?_) h).1 hok2
     rcases List.mem_cons.1 hp with rfl|hp
     ·exact .inl (by simp)
     ·exact(hpd' p hp).imp (fun h=>by simp[h]) id
end Go.Proofs.YtdjkdjepjahjfaaGreatDoor.Sh
namespace Go.Proofs.YtdjkdjepjahjfaaGreatDoor.Sh
open Go
variable {P:Program} {n:Nat} {R:Option Nat} {D:List Deferred} {Kp:List PanicEntry->WP}
theorem uV.grow {K:KT}{M N:List Nat}{e e₁:cG}{ex:Exit}{a:Act}{w:World}(ha:Agree N e e₁)(hs:∀i∈M,i∈N)(h:uV n D Kp K M e₁ ex a w):uV n D Kp K N e ex a w:=by
 cases ex with
 |panic ch=>exact⟨h.1.grow ha hs,h.2⟩
 |outgrown=>exact h
 |_=>obtain⟨e',h1,h2,h3⟩:=h;exact⟨e',h1,ha.trans h2 (fun _ h=>h) hs,h3⟩
theorem uV.mono {K:KT}{M N:List Nat}{e:cG}{ex:Exit}{a:Act}{w:World}(hs:∀i∈M,i∈N)(h:uV n D Kp K M e ex a w):uV n D Kp K N e ex a w:=h.grow (.refl _ _) hs
theorem iD {c:Code}{live:List Nat}:∀i∈wr c,i∈live\/i∈fE c live:=fun i hi=>by
 by_cases h:i∈live
 ·exact .inl h
 ·exact .inr (ve.2 ⟨hi,h⟩)
theorem rK {m:Nat}{body:VF m WP->WP}{rest:List Value->List Value->WP}{w:World}(h:Dr m body rest w):
  ∃J:VF m WP,(∀(e':cG) (live dead:List Nat),live.length=m->∀w',iB m J (iC e' live) w'->rest (iC e' dead) (iC e' live) w')/\body J w:=by
 obtain⟨J,h1,h2⟩:=h
 exact⟨J,fun e' live dead hl w' hv=>by subst hl;exact gN e' live (h1 (iC e' dead)) w' hv,h2⟩
theorem gH (hm:P.follows .mixedOrders=true)(an:Ann):∀(c:Code),(R=none\/gM c=true)->∀(K:KT) (e:cG) (a:Act) (w:World),Rep n D e a->iz P n an Kp c K e w->c.wpIn (FW R) 0 P (uV n D Kp K (wr c) e) a w:=by
 intro c
 induction c with
 |skip=>exact fun _ K e a w hr h=>wpIn_skip ⟨e,hr,.refl _ _,h⟩
 |region id ops draw=>
  intro hnd K e a w hr h
  cases draw with
  |false=>
   refine wpIn_region_list (ns (n:=n) (wr (.region id ops false)) e (fun e' a' w' hr' ha hk=>⟨e',hr',ha,hk⟩) (fun ch e' a' w' hr' ha hk=>⟨hr'.pan ha,hk⟩) _ e a w (ww hnd) (fun o ho t ht=>?_) hr (.refl _ _) h)
   exact List.mem_filterMap.2 ⟨o,ho,ht⟩
  |true=>
   simp only[iz]at h
   cases hl:mw id an.drs with
   |none=>rw[hl]at h;exact h.elim
   |some r=>
    rw[hl]at h
    simp only at h
    cases hok:u9 ops r with
    |false=>rw[hok]at h;exact h.elim
    |true=>
     rw[hok]at h
     simp only[u9,Bool.and_eq_true,beq_iff_eq]at hok
     have hany:=dq (n:=n) (Q:=uV n D Kp K (wr (.region id ops true)) e) (wr (.region id ops true)) e (R:=R) (fun j o ho=>ww hnd o (by have:=Array.mem_of_getElem? ho;simpa using this)) (fun j o t ho ht=>List.mem_filterMap.2 ⟨o,by have:=Array.mem_of_getElem? ho;simpa using this,ht⟩) hok.1.1 (fun e' a' w' hr' ha hk=>⟨e',hr',ha,hk⟩) (fun ch e' a w' hr' ha hk=>⟨hr'.pan ha,hk⟩) (fun c a d v w' hd hq=>⟨hq.1.unput hd,hq.2⟩) r (Array.replicate ops.size false) [] [] e a _ hr (fun x o ho hx=>(by rcases Nat.lt_or_ge x ops.size with h'|h' <;> simp[h']at hx)) (.refl _ _) (by simp) h
     have hany:=hany.1 hok.2
     rw[hok.1.2]at hany
     exact wpIn_region_any hm (s_ [] _ _ _ _ hany)
 |seq x y ihx ihy=>
  intro hnd K e a w hr h
  have hx0:R=none\/gM x=true:=hnd.imp id fun h=>by simp only[gM,Bool.and_eq_true]at h;exact h.1
  have hy0:R=none\/gM y=true:=hnd.imp id fun h=>by simp only[gM,Bool.and_eq_true]at h;exact h.2
  have fin:∀(K':KT) (k:cG->WP),K'=nK K k->(∀e' w',Agree (wr x) e e'->k e' w'->iz P n an Kp y K e' w')->iz P n an Kp x K' e w->(Code.seq x y).wpIn (FW R) 0 P (uV n D Kp K (wr (.seq x y)) e) a w:=by
   rintro K' k rfl hk hx
   refine wpIn_seq (wpIn_mono (ihx hx0 _ e a w hr hx) fun ex a' w' hq=>?_)
   cases ex with
   |normal=>
    obtain⟨e',hr',ha,hq⟩:=hq
    exact wpIn_mono (ihy hy0 K e' a' w' hr' (hk e' w' ha hq)) fun ex a w'' hq=>hq.grow (ha.mono fun i hi=>by simp[wr,hi]) (fun i hi=>by simp[wr,hi])
   |panic ch=>exact⟨hq.1.grow (.refl _ _) (fun i hi=>by simp[wr,hi]),hq.2⟩
   |outgrown=>exact hq
   |_=>obtain⟨e',h1,h2,h3⟩:=hq;exact⟨e',h1,h2.mono fun i hi=>by simp[wr,hi],h3⟩
  simp only[iz]at h
  split at h
  ·exact fin _ _ rfl (fun e' w' _ hk=>hk) h
  ·rename_i live _
   obtain⟨J,h1,h2⟩:=rK h
   refine fin _ _ rfl (fun e' w' ha hk=>?_) h2
   have:=h1 e' live (fE x live) rfl w' hk
   rwa [eZ ha iD]at this
 |cond c x y ihx ihy=>
  intro hnd K e a w hr h
  have hx0:R=none\/gM x=true:=hnd.imp id fun h=>by simp only[gM,Bool.and_eq_true]at h;exact h.1
  have hy0:R=none\/gM y=true:=hnd.imp id fun h=>by simp only[gM,Bool.and_eq_true]at h;exact h.2
  replace h:=condS.out h
  split at h
  ·rename_i hv
   exact wpIn_cond_true (by rw[hr.eval];exact hv) (wpIn_mono (ihx hx0 K e a w hr h) fun ex a w' hq=>hq.mono fun i hi=>by simp[wr,hi])
  ·rename_i hv
   exact wpIn_cond_false (by rw[hr.eval];exact hv) (wpIn_mono (ihy hy0 K e a w hr h) fun ex a w' hq=>hq.mono fun i hi=>by simp[wr,hi])
  ·exact h.elim
 |block id b ih=>
  intro hnd K e a w hr h
  have fin:∀(k:cG->WP),(∀e' w',Agree (wr b) e e'->k e' w'->K .normal e' w')->iz P n an Kp b (yf K id k) e w->(Code.block id b).wpIn (FW R) 0 P (uV n D Kp K (wr (.block id b)) e) a w:=by
   intro k hk hb
   refine wpIn_block (wpIn_mono (ih hnd _ e a w hr hb) fun ex a w' hq=>?_)
   cases ex with
   |normal=>obtain⟨e',h1,h2,h3⟩:=hq;exact⟨e',h1,h2,hk e' w' h2 h3⟩
   |exit id'=>
    obtain⟨e',h1,h2,h3⟩:=hq
    simp only[Exit.inBlock]
    simp only[yf]at h3
    by_cases hid:id'=id
    ·rw[if_pos hid]at h3 ⊢;exact⟨e',h1,h2,hk e' w' h2 h3⟩
    ·rw[if_neg hid]at h3 ⊢;exact⟨e',h1,h2,h3⟩
   |panic ch=>exact hq
   |outgrown=>exact hq
   |_=>obtain⟨e',h1,h2,h3⟩:=hq;exact⟨e',h1,h2,h3⟩
  simp only[iz]at h
  cases hl:mw id an.blks with
  |none=>rw[hl]at h;exact fin _ (fun e' w' _ hk=>hk) h
  |some live=>
   rw[hl]at h
   obtain⟨J,h1,h2⟩:=rK h
   refine fin _ (fun e' w' ha hk=>?_) h2
   have:=h1 e' live (fE b live) rfl w' hk
   rwa [eZ ha iD]at this
 |loop b ih=>
  intro hnd K e a w hr h
  simp only[iz]at h
  cases hl:mw (dO b) an.loops with
  |none=>rw[hl]at h;exact h.elim
  |some live=>
   rw[hl]at h
   obtain⟨I,h0,h1⟩:=h
   refine jl (fun m a w=>∃e',Rep n D e' a/\Agree (wr b) e e'/\iB live.length (I m) (iC e' live) w) ?_ ?_
   ·obtain⟨m,hm⟩:=h0;exact⟨m,e,hr,.refl _ _,hm⟩
   ·rintro m a' w' ⟨e',hr',ha,hv⟩
    have hb:=gN e' live (h1 m (iC e' (fE b live))) w' hv
    simp only at hb
    rw[eZ ha iD]at hb
    refine wpIn_mono (ih hnd _ e' a' w' hr' hb) fun ex a w'' hq=>?_
    cases ex with
    |normal=>
     obtain⟨e3,hr3,h2,m',hlt,h3⟩:=hq
     exact⟨m',hlt,e3,hr3,ha.trans h2 (fun _ h=>h) (fun _ h=>h),h3⟩
    |panic ch=>exact⟨hq.1.grow ha (fun _ h=>h),hq.2⟩
    |outgrown=>exact hq
    |_=>obtain⟨e3,h1,h2,h3⟩:=hq;exact⟨e3,h1,ha.trans h2 (fun _ h=>h) (fun _ h=>h),h3⟩
 |rangeFunc=>exact fun _ K e a w hr h=>h.elim
 |exit id=>exact fun _ K e a w hr h=>wpIn_exit ⟨e,hr,.refl _ _,h⟩
 |scope b ih=>
  intro hnd K e a w hr h
  obtain rfl:R=none:=hnd.resolve_right (by simp[gM])
  refine wpIn_wide.2 (wp_scope_straight ((wpIn_wide (n:=0)).1 (wpIn_mono (ih (.inl rfl) _ e a w hr h) fun ex a w' hq=>?_)))
  cases ex with
  |goto l=>obtain⟨e',h1,h2,h3⟩:=hq;exact h3
  |_=>exact hq
 |label l=>exact fun _ K e a w hr h=>wpIn_label ⟨e,hr,.refl _ _,h⟩
 |goto l=>exact fun _ K e a w hr h=>h.elim
 |ret=>exact fun _ K e a w hr h=>wpIn_ret ⟨e,hr,.refl _ _,h⟩
 |refuse s=>exact fun _ K e a w hr h=>h.elim
theorem fF (hm:P.follows .mixedOrders=true)(an:Ann)(c:Code)(K:KT)(e:cG)(a:Act)(w:World)(hr:Rep n D e a)(h:iz P n an Kp c K e w):c.wp P (uV n D Kp K (wr c) e) a w:=
 wpIn_wide.1 (gH (R:=none) hm an c (.inl rfl) K e a w hr h)

def Ds:List Value->Value
 |[v]=>v
 |vs=> .tuple vs.toArray
def fG (P:Program)(n:Nat):List ResultVar->cG->List Value->(Value->WP)->WP
 |[],_,acc,K=>K (Ds acc)
 | .tmp t::r,e,acc,K=>fG P n r e (acc++[ev n e (.tmp t)]) K
 | .cell a t::r,e,acc,K=>stS P (do pure (.value (<- do loadVar t (<- asAddr (ev n e (.tmp a)))))) fun v=>fG P n r e (acc++[v]) K
def kV (n:Nat)(e:cG):ResultVar->Sem Value
 | .tmp t=>pure (ev n e (.tmp t))
 | .cell a t=>do loadVar t (<- asAddr (ev n e (.tmp a)))
theorem kW {e:cG}{K:Value->WP}{w:World}:∀(rs:List ResultVar) (acc:List Value),fG P n rs e acc K w->
  ∃vs,(rs.mapM (kV n e)).run P w= .ok vs w/\K (Ds (acc++vs)) w
 |[],acc,h=>⟨[],rfl,by simpa [fG]using h⟩
 | .tmp t::r,acc,h=>by
  obtain⟨vs,h1,h2⟩:=kW r _ h
  exact⟨ev n e (.tmp t)::vs,by simp[List.mapM_cons,kV,h1],by simpa using h2⟩
 | .cell a t::r,acc,h=>by
  obtain⟨v,hv,h⟩:=h.out
  obtain⟨vs,h1,h2⟩:=kW r _ h
  refine⟨v::vs,?_,by simpa using h2⟩
  have hr:(kV n e (.cell a t)).run P w= .ok v w:=by
   simp only[Sem.run_bind]at hv
   simp only[kV,Sem.run_bind]
   generalize (asAddr (ev n e (.tmp a))).run P w=r1 at hv
   cases r1 with
   |ok x w1=>
    simp only[Result.andThen_ok]at hv ⊢
    generalize (loadVar t x).run P w1=r2 at hv
    cases r2 with
    |ok y w2=>simp at hv ⊢;exact hv
    |halt y w2=>simp at hv
   |halt x w1=>simp at hv
  simp[List.mapM_cons,hr,h1]
theorem cP {fn:Func}{e:cG}{a:Act}(hr:Rep n D e a){K:Value->WP}{w:World}(h:fG P n fn.results.toList e [] K w):∃v,(results fn a.tmps).run P w= .ok v w/\K v w:=by
 obtain⟨vs,h1,h2⟩:=kW _ _ h
 refine⟨Ds vs,?_,by simpa using h2⟩
 have hf:(fun(x:ResultVar)=>(match x with
   | .tmp t=>pure (a.tmps.getD t undef)
   | .cell c t=>do loadVar t (<- asAddr (a.tmps.getD c undef)):Sem Value))=kV n e:=by
  funext x;cases x <;> simp only[kV,hr.getD]
 have hs:results fn a.tmps=(do
   let vs <- fn.results.mapM (kV n e)
   pure (if h:vs.size=1 then vs[0]else .tuple vs)):=by
  unfold results;rw[<- hf];rfl
 rw[hs,Array.mapM_eq_mapM_toList]
 simp only[Sem.run_bind,Sem.run_map,h1,Result.andThen_ok,Sem.run_pure]
 congr 1
 match vs with
 |[]=>rfl
 |[v]=>rfl
 |v::u::r=>simp[Ds]
def td (P:Program)(n:Nat)(rs:List ResultVar)(K:Value->WP):KT
 | .normal,e=>fG P n rs e [] K
 | .ret,e=>fG P n rs e [] K
 |_,_=>fun _=>False
def mA:List Value->cG
 |[],_=>undef
 |v::_,0=>v
 |_::vs,i+1=>mA vs i
def zK (P:Program)(an:Ann)(fn:Func)(args:List Value)(Kp:List PanicEntry->WP)(K:Value->WP):WP:=
 match fn.body with
 |some c=>iz P (args.length+(fn.ntmps-args.length)) an Kp c (td P (args.length+(fn.ntmps-args.length)) fn.results.toList K) (mA args)
 |none=>fun _=>False
theorem km:∀(l:List Value) (i:Nat),mA l i=l.getD i undef
 |[],_=>rfl
 |v::vs,0=>rfl
 |v::vs,i+1=>by simp only[mA,km vs i,List.getD_cons_succ]
theorem rL (hm:P.follows .mixedOrders=true){f:FuncId}{fn:Func}(hf:P.funcs[f]? =some fn){an:Ann}{args:List Value}{K:Value->WP}{w:World}(h:zK P an fn args Kp K w):
  Calls P f args.toArray w fun
   | .returned v,w'=>K v w'
   | .panicked ch,w'=>Kp ch w'
   | .outgrown,_=>False:=by
 unfold zK at h
 cases hb:fn.body with
 |none=>rw[hb]at h;exact h.elim
 |some c=>
  rw[hb]at h
  refine calls_of_wp hf hb ?_
  have hr:Rep (args.length+(fn.ntmps-args.length)) [] (mA args) {tmps:=args.toArray++Array.replicate (fn.ntmps-args.toArray.size) undef,defers:=[]}:=by
   refine⟨rfl,by simp,fun i hi=>?_⟩
   rw[km,List.getD_eq_getElem?_getD,Array.getElem?_append]
   by_cases hl:i<args.length
   ·simp[hl]
   ·rw[if_neg (by simpa using hl),Array.getElem?_eq_getElem (by simp;omega)]
    simp only[List.getElem?_eq_none (Nat.le_of_not_lt hl),Array.getElem_replicate,Option.getD_none]
  refine wp_mono (fF (D:=[]) hm an c _ _ _ w hr h) fun ex a w' hq=>?_
  cases ex with
  |normal=>
   obtain⟨e',hr',_,hk⟩:=hq
   obtain⟨v,h1,h2⟩:=cP hr' hk
   exact⟨hr'.defers,v,h1,h2⟩
  |ret=>
   obtain⟨e',hr',_,hk⟩:=hq
   obtain⟨v,h1,h2⟩:=cP hr' hk
   exact⟨hr'.defers,v,h1,h2⟩
  |panic ch=>exact⟨hq.1.defers,hq.2⟩
  |exit id=>obtain⟨_,_,_,hk⟩:=hq;exact hk.elim
  |goto l=>obtain⟨_,_,_,hk⟩:=hq;exact hk.elim
  |outgrown=>exact hq.elim
end Go.Proofs.YtdjkdjepjahjfaaGreatDoor.Sh
namespace Go.Proofs.YtdjkdjepjahjfaaGreatDoor.Sh
open Go
variable {P:Program} {n:Nat} {Kp:List PanicEntry->WP}
def Hb (Kret:WP)(Kp:List PanicEntry->WP):FrameMode->WP
 | .returning=>Kret
 | .panicking ch=>Kp ch
 | .run=>fun _=>False
structure dfS (P:Program)(d:Deferred)(u:FrameMode)(Kret:WP)(Kp:List PanicEntry->WP)(w:World):Prop where
 out:u≠ .run/\∃fv cap f args,d.target= .fn fv cap/\(invoke d.target d.args).run P w= .ok (.enter f args) w/\CallsD P f args u w fun
    | .returned _,u',w'=>Hb Kret Kp (settle u') w'
    | .panicked chain,u',w'=>Hb Kret Kp (raised u' chain) w'
    | .outgrown,_,_=>False
structure opDf (f:Value)(args:List Value)(k:Deferred->WP)(w:World):Prop where
 out:∃fn first cap,f= .func fn first cap/\k {target:= .fn fn cap,args:=first++args.toArray} w
def gI (P:Program)(d:Deferred)(Kret:WP)(Kp:List PanicEntry->WP):List PanicEntry->WP:=fun ch=>dfS P d (.panicking ch) Kret Kp
def n7:Code->Option (List Oper × Oper × Operand × Array Operand × Array Oper)
 | .region _ ops false=>match ops.toList.reverse with
  |o::pre=>match o.op,o.guard with
   | .defer c,none=>match c.callee with
    | .value f=>some (pre.reverse,o,f,c.args,ops)
    |_=>none
   |_,_=>none
  |[]=>none
 |_=>none
def Dt (P:Program)(n:Nat)(an:Ann)(Kp:List PanicEntry->WP)(K0:KT)(k1:Deferred->Code->cG->WP):Code->cG->WP
 | .seq x y,e=>match n7 x with
  |some (pre,o,f,args,ops)=>lD P n ops Kp (fun e'=>opDf (ev n e' f) (args.toList.map (ev n e')) fun d=>k1 d y (ez e' o.dst undef)) pre e
  |none=>iz P n an Kp x (nK K0 (Dt P n an Kp K0 k1 y)) e
 |c,e=>iz P n an Kp c K0 e
def eG (rs:List ResultVar):List Nat:=rs.map fun
 | .tmp t=>t
 | .cell a _=>a
def FL (P:Program)(n:Nat)(rs:List ResultVar)(d:Deferred)(Kp:List PanicEntry->WP)(K:Value->WP):KT
 | .normal,e=>dfS P d .returning (fG P n rs e [] K) Kp
 | .ret,e=>dfS P d .returning (fG P n rs e [] K) Kp
 |_,_=>fun _=>False
def MO (P:Program)(n:Nat)(an:Ann)(rs:List ResultVar)(Kp:List PanicEntry->WP)(K:Value->WP)(d:Deferred)(y:Code)(e:cG):WP:=
 match(eG rs).all fun i=>!(wr y).contains i with
 |true=>iz P n an (fun ch=>dfS P d (.panicking ch) (fG P n rs e [] K) Kp) y (FL P n rs d Kp K) e
 |false=>iz P n an (fun ch w=>s9 ((eG rs).filter fun i=>(wr y).contains i).length fun vs=>dfS P d (.panicking ch) (fG P n rs (fD e ((eG rs).filter fun i=>(wr y).contains i) vs) [] K) Kp w) y (FL P n rs d Kp K) e
def wz (P:Program)(an:Ann)(fn:Func)(args:List Value)(Kp:List PanicEntry->WP)(K:Value->WP):WP:=
 match fn.body with
 |some c=>Dt P (args.length+(fn.ntmps-args.length)) an Kp (td P (args.length+(fn.ntmps-args.length)) fn.results.toList K) (MO P (args.length+(fn.ntmps-args.length)) an fn.results.toList Kp K) c (mA args)
 |none=>fun _=>False
theorem i4 {K:Value->WP}{e e':cG}:∀(rs:List ResultVar) (acc:List Value),(∀i∈eG rs,ev n e (.tmp i)=ev n e' (.tmp i))->fG P n rs e acc K=fG P n rs e' acc K
 |[],acc,_=>rfl
 | .tmp t::r,acc,h=>by
  have h0:=h t (by simp[eG])
  simp only[fG,h0]
  exact i4 r _ fun i hi=>h i (by simp[eG]at hi ⊢;exact .inr hi)
 | .cell a t::r,acc,h=>by
  have h0:=h a (by simp[eG])
  simp only[fG,h0]
  congr 1
  funext v
  exact i4 r _ fun i hi=>h i (by simp[eG]at hi ⊢;exact .inr hi)
theorem kn {fn:Func} {tmps:Array Value} {R:Ending->World->Prop} {d:Deferred} {u:FrameMode} {Kret:WP} {w:World}
  (hk:∀w,Kret w->∃v,(results fn tmps).run P w= .ok v w/\R (.returned v) w) (hp:∀ch w,Kp ch w->R (.panicked ch) w) (h:dfS P d u Kret Kp w):Leaves P fn tmps R [d] u w:=by
 obtain⟨h1,fv,cap,f,args,h2,h3,h4⟩:=h.out
 have lv:∀u w,Hb Kret Kp u w->Leaves P fn tmps R [] u w:=fun u w h=>by
  cases u with
  |run=>exact h.elim
  |returning=>exact hk w h
  |panicking ch=>exact hp ch w h
 refine⟨h1,fv,cap,f,args,h2,h3,h4.mono fun e u' w' he=>?_⟩
 cases e with
 |returned v=>exact lv _ _ he
 |panicked ch=>exact lv _ _ he
 |outgrown=>exact he.elim
theorem lF {D:List Deferred} {ops:Array Oper} {Q:Exit->Act->World->Prop} {o:Oper} {f:Operand} {c:Call} {k:Deferred->cG->WP} (hop:o.op= .defer c) (hc:c.callee= .value f) (hg:o.guard=none) (M:List Nat) (e₀:cG)
  (hn:∀d e a w,Rep n (d::D) (ez e o.dst undef) a->Agree M e₀ e->k d (ez e o.dst undef) w->Q .normal a w) (hp:∀ch e a w,Rep n D e a->Agree M e₀ e->Kp ch w->Q (.panic ch) a w):
  ∀(l:List Oper) (e:cG) (a:Act) (w:World),(∀o∈l,∀t,o.dst=some t->t∈M)->Rep n D e a->Agree M e₀ e->lD P n ops Kp (fun e'=>opDf (ev n e' f) (c.args.toList.map (ev n e')) fun d=>k d (ez e' o.dst undef)) l e w->wpListIn (FW none) 0 P ops Q (l++[o]) a w
 |[],e,a,w,_,hr,ha,h=>by
  have h:opDf (ev n e f) (c.args.toList.map (ev n e)) (fun d=>k d (ez e o.dst undef)) w:=h
  obtain⟨fnn,first,cap,hf,hk⟩:=h.out
  rw[List.nil_append]
  unfold wpListIn
  rw[if_pos (by simp[Region.wanted,hg])]
  refine⟨fun _ _=>trivial,?_⟩
  rw[show(FW none).round=none from rfl,Oper.semAt_none]
  have hx:(execOp a.eval o).run P w= .ok (.defer {target:= .fn fnn cap,args:=first++(c.args.toList.map (ev n e)).toArray}) w:=by
   rw[hr.eval]
   simp only[execOp,hop,resolve,hc,hf,Deferred.ofValue,Sem.run_bind,Sem.run_pure,Result.andThen_ok,lm]
  rw[hx]
  simp only[Oper.uponIn]
  unfold wpListIn
  refine hn _ e _ w ?_ ha hk
  have hr2:Rep n ({target:= .fn fnn cap,args:=first++(c.args.toList.map (ev n e)).toArray}::D) e {a with defers:={target:= .fn fnn cap,args:=first++(c.args.toList.map (ev n e)).toArray}::a.defers}:=⟨by rw[hr.defers],hr.size,hr.at_⟩
  exact hr2.put _ _
 |o'::l,e,a,w,hM,hr,ha,h=>by
  unfold lD at h
  rw[List.cons_append]
  unfold wpListIn
  have hd:∀t,o'.dst=some t->t∈M:=hM o' (by simp)
  have next:∀v w' a',lD P n ops Kp (fun e'=>opDf (ev n e' f) (c.args.toList.map (ev n e')) fun d=>k d (ez e' o.dst undef)) l (ez e o'.dst v) w'->Rep n D (ez e o'.dst v) a'->wpListIn (FW none) 0 P ops Q (l++[o]) a' w':=fun v w' a' hv hr'=>
   lF hop hc hg M e₀ hn hp l _ a' w' (fun x hx=>hM x (by simp[hx])) hr' (ha.trans (.set e o'.dst v M hd) (fun _ h=>h) (fun _ h=>h)) hv
  rcases gG hr h with ⟨hw,h⟩|⟨hw,h⟩
  ·rw[if_pos hw]
   exact kT hr (.inl rfl) h next (fun ch w'=>hp ch e _ w' hr ha)
  ·rw[if_neg (by simp[hw])]
   exact⟨fun _ _=>trivial,next _ _ _ h (hr.put _ _)⟩
theorem rM {x:Code}{pre:List Oper}{o:Oper}{f:Operand}{args:Array Operand}{ops:Array Oper}(h:n7 x=some (pre,o,f,args,ops)):
  ∃id c,x= .region id ops false/\o.op= .defer c/\c.callee= .value f/\c.args=args/\o.guard=none/\ops.toList=pre++[o]:=by
 unfold n7 at h
 split at h
 ·rename_i id ops'
  split at h
  ·rename_i o' pre' hrev
   split at h
   ·rename_i c hop hg
    split at h
    ·rename_i f' hc
     simp only[Option.some.injEq,Prod.mk.injEq]at h
     obtain⟨rfl,rfl,rfl,rfl,rfl⟩:=h
     refine⟨id,c,rfl,hop,hc,rfl,hg,?_⟩
     have:=congrArg List.reverse hrev
     rw[List.reverse_reverse,List.reverse_cons]at this
     exact this
    ·cases h
   ·cases h
  ·cases h
 ·cases h
theorem vg (hm:P.follows .mixedOrders=true)(an:Ann){fn:Func}{K:Value->WP}{R:Ending->World->Prop}(hK:∀v w,K v w->R (.returned v) w)(hKp:∀ch w,Kp ch w->R (.panicked ch) w):
  ∀(c:Code) (e:cG) (a:Act) (w:World),Rep n [] e a->Dt P n an Kp (td P n fn.results.toList K) (MO P n an fn.results.toList Kp K) c e w->c.wp P (bodyPostD P fn R) a w:=by
 have post0:∀ {M:List Nat} {e:cG} {ex:Exit} {a:Act} {w:World},uV n [] Kp (td P n fn.results.toList K) M e ex a w->bodyPostD P fn R ex a w:=by
  intro M e ex a w hq
  cases ex with
  |normal=>
   obtain⟨e',hr',_,hk⟩:=hq
   obtain⟨v,h1,h2⟩:=cP hr' hk
   show Leaves P fn a.tmps R a.defers .returning w
   rw[hr'.defers]
   exact⟨v,h1,hK v w h2⟩
  |ret=>
   obtain⟨e',hr',_,hk⟩:=hq
   obtain⟨v,h1,h2⟩:=cP hr' hk
   show Leaves P fn a.tmps R a.defers .returning w
   rw[hr'.defers]
   exact⟨v,h1,hK v w h2⟩
  |panic ch=>
   show Leaves P fn a.tmps R a.defers (.panicking ch) w
   rw[hq.1.defers]
   exact hKp ch w hq.2
  |exit id=>obtain⟨_,_,_,hk⟩:=hq;exact hk.elim
  |goto l=>obtain⟨_,_,_,hk⟩:=hq;exact hk.elim
  |outgrown=>exact hq.elim
 have plain:∀(c:Code) (e:cG) (a:Act) (w:World),Rep n [] e a->iz P n an Kp c (td P n fn.results.toList K) e w->c.wp P (bodyPostD P fn R) a w:=fun c e a w hr h=>
  wp_mono (fF hm an c _ e a w hr h) fun ex a w hq=>post0 hq
 intro c
 induction c with
 |seq x y _ ihy=>
  intro e a w hr h
  simp only[Dt]at h
  cases hd:n7 x with
  |none=>
   rw[hd]at h
   refine wp_seq (wp_mono (fF hm an x _ e a w hr h) fun ex a' w' hq=>?_)
   cases ex with
   |normal=>
    obtain⟨e',hr',_,hk⟩:=hq
    exact ihy e' a' w' hr' hk
   |panic ch=>exact post0 (M:=wr x) (e:=e) (ex:= .panic ch) (show uV n [] Kp (td P n fn.results.toList K) (wr x) e (.panic ch) a' w' from hq)
   |outgrown=>exact hq.elim
   |ret=>exact post0 (M:=wr x) (e:=e) (ex:= .ret) hq
   |exit id=>obtain⟨_,_,_,hk⟩:=hq;exact hk.elim
   |goto l=>obtain⟨_,_,_,hk⟩:=hq;exact hk.elim
  |some q=>
   obtain⟨pre,o,f,args,ops⟩:=q
   rw[hd]at h
   obtain⟨id,c,rfl,hop,hc,rfl,hg,hops⟩:=rM hd
   simp only at h
   refine wp_seq ((wpIn_wide (n:=0)).1 (wpIn_region_list ?_))
   rw[hops]
   refine lF (n:=n) (D:=[]) (Kp:=Kp) (Q:=Exit.then (Code.wp P y (bodyPostD P fn R)) (bodyPostD P fn R)) hop hc hg (k:=fun d e'=>MO P n an fn.results.toList Kp K d y e') (wr (.region id ops false)) e (fun d e1 a1 w1 hr1 _ hk=>?_) (fun ch e1 a1 w1 hr1 ha hk=>post0 (M:=wr (.region id ops false)) (e:=e) (ex:= .panic ch) ⟨hr1.pan ha,hk⟩) pre e a w (fun o' ho' t ht=>?_) hr (.refl _ _) h
   ·show y.wp P (bodyPostD P fn R) a1 w1
    have hk:MO P n an fn.results.toList Kp K d y (ez e1 o.dst undef) w1:=hk
    unfold MO at hk
    cases hall:(eG fn.results.toList).all (fun i=>!(wr y).contains i)with
    |true=>
     rw[hall]at hk
     refine wp_mono (fF hm an y _ _ a1 w1 hr1 hk) fun ex a' w' hq=>?_
     have ret1:∀e',Rep n [d] e' a'->∀w,fG P n fn.results.toList e' [] K w->∃v,(results fn a'.tmps).run P w= .ok v w/\R (.returned v) w:=fun e' hr' w hk=>by
      obtain⟨v,h1,h2⟩:=cP hr' hk
      exact⟨v,h1,hK v w h2⟩
     cases ex with
     |normal=>
      obtain⟨e',hr',_,hk⟩:=hq
      show Leaves P fn a'.tmps R a'.defers .returning w'
      rw[hr'.defers]
      exact kn (ret1 e' hr') hKp hk
     |ret=>
      obtain⟨e',hr',_,hk⟩:=hq
      show Leaves P fn a'.tmps R a'.defers .returning w'
      rw[hr'.defers]
      exact kn (ret1 e' hr') hKp hk
     |panic ch=>
      obtain⟨hpan,hk⟩:=hq
      show Leaves P fn a'.tmps R a'.defers (.panicking ch) w'
      rw[hpan.defers]
      refine kn (fun w hw=>?_) hKp hk
      have hr':Rep n [d] (fun i=>a'.tmps.getD i undef) a':=⟨hpan.defers,hpan.size,fun i hi=>by
       rw[Array.getD_eq_getD_getElem?,Array.getElem?_eq_getElem (by rw[hpan.size];exact hi)];rfl⟩
      refine ret1 _ hr' w ?_
      rw[<- i4 fn.results.toList [] (e:=ez _ o.dst undef) (fun i hi=>?_)]
      ·exact hw
      ·have hni:i∉wr y:=by
        have:=List.all_eq_true.1 hall i hi
        simpa using this
       by_cases hlt:i<n
       ·have h1:=hpan.at_ i hlt hni
        have hb:Nat.blt i n=true:=by simpa using hlt
        simp only[ev,hb]
        rw[Array.getD_eq_getD_getElem?,h1];rfl
       ·have hb:Nat.blt i n=false:=by
         cases hx:Nat.blt i n with
         |false=>rfl
         |true=>exact absurd (by simpa using hx) hlt
        simp only[ev,hb]
     |exit id=>obtain⟨_,_,_,hk⟩:=hq;exact hk.elim
     |goto l=>obtain⟨_,_,_,hk⟩:=hq;exact hk.elim
     |outgrown=>exact hq.elim
    |false=>
     rw[hall]at hk
     refine wp_mono (fF hm an y _ _ a1 w1 hr1 hk) fun ex a' w' hq=>?_
     have ret1:∀e',Rep n [d] e' a'->∀w,fG P n fn.results.toList e' [] K w->∃v,(results fn a'.tmps).run P w= .ok v w/\R (.returned v) w:=fun e' hr' w hk=>by
      obtain⟨v,h1,h2⟩:=cP hr' hk
      exact⟨v,h1,hK v w h2⟩
     cases ex with
     |normal=>
      obtain⟨e',hr',_,hk⟩:=hq
      show Leaves P fn a'.tmps R a'.defers .returning w'
      rw[hr'.defers]
      exact kn (ret1 e' hr') hKp hk
     |ret=>
      obtain⟨e',hr',_,hk⟩:=hq
      show Leaves P fn a'.tmps R a'.defers .returning w'
      rw[hr'.defers]
      exact kn (ret1 e' hr') hKp hk
     |panic ch=>
      obtain⟨hpan,hk⟩:=hq
      show Leaves P fn a'.tmps R a'.defers (.panicking ch) w'
      rw[hpan.defers]
      have hr':Rep n [d] (fun i=>a'.tmps.getD i undef) a':=⟨hpan.defers,hpan.size,fun i hi=>by
       rw[Array.getD_eq_getD_getElem?,Array.getElem?_eq_getElem (by rw[hpan.size];exact hi)];rfl⟩
      have hk:=gN (fun i=>a'.tmps.getD i undef) ((eG fn.results.toList).filter fun i=>(wr y).contains i) hk
      refine kn (fun w hw=>?_) hKp hk
      refine ret1 _ hr' w ?_
      rw[<- i4 fn.results.toList [] (e:=fD _ _ _) (fun i hi=>?_)]
      ·exact hw
      ·by_cases hlt:i<n
       ·have hb:Nat.blt i n=true:=by simpa using hlt
        simp only[ev,hb,iC]
        rw[my]
        split
        ·rfl
        ·rename_i hni
         have hni:i∉wr y:=fun c=>hni (List.mem_filter.2 ⟨hi,by simpa using c⟩)
         have h1:=hpan.at_ i hlt hni
         rw[Array.getD_eq_getD_getElem?,h1];rfl
       ·have hb:Nat.blt i n=false:=by
         cases hx:Nat.blt i n with
         |false=>rfl
         |true=>exact absurd (by simpa using hx) hlt
        simp only[ev,hb]
     |exit id=>obtain⟨_,_,_,hk⟩:=hq;exact hk.elim
     |goto l=>obtain⟨_,_,_,hk⟩:=hq;exact hk.elim
     |outgrown=>exact hq.elim
   ·refine List.mem_filterMap.2 ⟨o',?_,ht⟩
    rw[hops];exact List.mem_append_left _ ho'
 |skip=>exact fun e a w hr h=>plain _ e a w hr h
 |region id ops draw=>exact fun e a w hr h=>plain _ e a w hr h
 |cond c x y _ _=>exact fun e a w hr h=>plain _ e a w hr h
 |block id b _=>exact fun e a w hr h=>plain _ e a w hr h
 |loop b _=>exact fun e a w hr h=>plain _ e a w hr h
 |rangeFunc=>exact fun e a w hr h=>plain _ e a w hr h
 |exit id=>exact fun e a w hr h=>plain _ e a w hr h
 |scope b _=>exact fun e a w hr h=>plain _ e a w hr h
 |label l=>exact fun e a w hr h=>plain _ e a w hr h
 |goto l=>exact fun e a w hr h=>plain _ e a w hr h
 |ret=>exact fun e a w hr h=>plain _ e a w hr h
 |refuse s=>exact fun e a w hr h=>plain _ e a w hr h
theorem qf (hm:P.follows .mixedOrders=true){f:FuncId}{fn:Func}(hf:P.funcs[f]? =some fn){an:Ann}{args:List Value}{K:Value->WP}{w:World}(h:wz P an fn args Kp K w):
  Calls P f args.toArray w fun
   | .returned v,w'=>K v w'
   | .panicked ch,w'=>Kp ch w'
   | .outgrown,_=>False:=by
 unfold wz at h
 cases hb:fn.body with
 |none=>rw[hb]at h;exact h.elim
 |some c=>
  rw[hb]at h
  refine calls_of_wp_defers hf hb ?_
  have hr:Rep (args.length+(fn.ntmps-args.length)) [] (mA args) {tmps:=args.toArray++Array.replicate (fn.ntmps-args.toArray.size) undef,defers:=[]}:=by
   refine⟨rfl,by simp,fun i hi=>?_⟩
   rw[km,List.getD_eq_getElem?_getD,Array.getElem?_append]
   by_cases hl:i<args.length
   ·simp[hl]
   ·rw[if_neg (by simpa using hl),Array.getElem?_eq_getElem (by simp;omega)]
    simp only[List.getElem?_eq_none (Nat.le_of_not_lt hl),Array.getElem_replicate,Option.getD_none]
  exact vg hm an (fun v w h=>h) (fun ch w h=>h) c _ _ w hr h
end Go.Proofs.YtdjkdjepjahjfaaGreatDoor.Sh
namespace Go.Proofs.YtdjkdjepjahjfaaGreatDoor.Sh
open Go
variable {P:Program} {n:Nat} {Kp:List PanicEntry->WP}
def dZ:FrameMode->Value × FrameMode
 | .panicking ({v,recovered:=false,goexit:=false}::older)=>(v,.panicking ({v,recovered:=true}::older))
 |m=>(.nilIface,m)
theorem qg {c₀:Frame}{cs:List Frame}{u:FrameMode}(hu:c₀.mode=u):
  recoverD (c₀::cs)=some ((dZ u).1,{c₀ with mode:=(dZ u).2}::cs)\/(recoverD (c₀::cs)=none/\dZ u=(.nilIface,u)):=by
 unfold recoverD dZ
 subst hu
 simp only
 split <;> simp_all
def lG (b:Option Code):Option (List Oper × Oper × Array Oper × Code):=
 match b with
 |some (.seq (.region _ ops false) y)=>match ops.toList with
  |o::rest=>match o.op,o.guard with
   | .call c,none=>match c.callee with
    | .builtin .recover=>some (rest,o,ops,y)
    |_=>none
   |_,_=>none
  |[]=>none
 |_=>none
theorem qh {b:Option Code}{rest:List Oper}{o:Oper}{ops:Array Oper}{y:Code}(h:lG b=some (rest,o,ops,y)):
  ∃id c,b=some (.seq (.region id ops false) y)/\ops.toList=o::rest/\o.op= .call c/\o.guard=none/\c.callee= .builtin .recover:=by
 unfold lG at h
 split at h
 ·rename_i id ops' y'
  split at h
  ·rename_i o' rest' hops
   split at h
   ·rename_i c hop hg
    split at h
    ·rename_i hc
     simp only[Option.some.injEq,Prod.mk.injEq]at h
     obtain⟨rfl,rfl,rfl,rfl⟩:=h
     exact⟨id,c,rfl,hops,hop,hg,hc⟩
    ·cases h
   ·cases h
  ·cases h
 ·cases h
def oP (P:Program)(n:Nat)(ops:Array Oper)(K:cG->WP):List Oper->cG->WP
 |[],e=>K e
 |o::rest,e=>Dq n ops e o (s8 P n e o) fun v=>oP P n ops K rest (ez e o.dst v)
def yh (P:Program)(an:Ann)(fn:Func)(args:List Value)(rv:Value)(Kp:List PanicEntry->WP)(K:Value->WP):WP:=
 match lG fn.body with
 |some (rest,o,ops,y)=>oP P (args.length+(fn.ntmps-args.length)) ops (iz P (args.length+(fn.ntmps-args.length)) an Kp y (td P (args.length+(fn.ntmps-args.length)) fn.results.toList K)) rest (ez (mA args) o.dst rv)
 |none=>fun _=>False
theorem lH {ops:Array Oper} {K:cG->WP} {cs:List Frame} {Q:Exit->Act->List Frame->World->Prop}
  (hn:∀e a w,Rep n [] e a->K e w->Q .normal a cs w):
  ∀(l:List Nat) (L:List Oper) (e:cG) (a:Act) (w:World),l.map (fun i=>ops[i]?)=L.map some->Rep n [] e a->oP P n ops K L e w->wpOpsS P ops Q l a cs w
 |[],[],e,a,w,_,hr,h=>hn e a w hr h
 |[],o::L,e,a,w,hl,hr,h=>by simp at hl
 |i::l,[],e,a,w,hl,hr,h=>by simp at hl
 |i::l,o::L,e,a,w,hl,hr,h=>by
  simp only[List.map_cons,List.cons.injEq]at hl
  obtain⟨hi,hl⟩:=hl
  unfold oP at h
  unfold wpOpsS
  rw[hi]
  simp only
  have next:∀v w' a',oP P n ops K L (ez e o.dst v) w'->Rep n [] (ez e o.dst v) a'->wpOpsS P ops Q l a' cs w':=fun v w' a' hv hr'=>lH hn l L _ a' w' hl hr' hv
  rcases gG hr h with ⟨hw,h⟩|⟨hw,h⟩
  ·rw[if_pos hw]
   obtain⟨v,hv,hk⟩:=(iZ h).out
   rw[hr.eval,hv]
   exact next _ _ _ hk (hr.put _ _)
  ·rw[if_neg (by simp[hw])]
   exact next _ _ _ h (hr.put _ _)
theorem e5 (hm:P.follows .mixedOrders=true){f:FuncId}{fn:Func}(hf:P.funcs[f]? =some fn){an:Ann}{args:List Value}{K:Value->WP}{w:World}{u:FrameMode}(h:yh P an fn args (dZ u).1 Kp K w):
  CallsD P f args.toArray u w fun
   | .returned v,u',w'=>u'=(dZ u).2/\K v w'
   | .panicked ch,u',w'=>u'=(dZ u).2/\Kp ch w'
   | .outgrown,_,_=>False:=by
 unfold yh at h
 cases hs:lG fn.body with
 |none=>rw[hs]at h;exact h.elim
 |some q=>
     obtain⟨rest,o,ops,y⟩:=q
     rw[hs]at h
     obtain⟨id,c,hb,hops,hop,hg,hc⟩:=qh hs
     simp only at h
     refine callsD_of_wpS hf hb fun c₀ cs hu=>?_
     have hr:Rep (args.length+(fn.ntmps-args.length)) [] (mA args) {tmps:=args.toArray++Array.replicate (fn.ntmps-args.toArray.size) undef,defers:=[]}:=by
      refine⟨rfl,by simp,fun i hi=>?_⟩
      rw[km,List.getD_eq_getElem?_getD,Array.getElem?_append]
      by_cases hl:i<args.length
      ·simp[hl]
      ·rw[if_neg (by simpa using hl),Array.getElem?_eq_getElem (by simp;omega)]
       simp only[List.getElem?_eq_none (Nat.le_of_not_lt hl),Array.getElem_replicate,Option.getD_none]
     generalize hA:({tmps:=args.toArray++Array.replicate (fn.ntmps-args.toArray.size) undef,defers:=[]}:Act)=A at hr
     refine wpS_seq (wpS_region ?_)
     have hsz:ops.size=rest.length+1:=by rw[<- Array.length_toList,hops];rfl
     rw[hsz,List.range_succ_eq_map]
     have h0:ops[0]? =some o:=by rw[<- Array.getElem?_toList,hops];rfl
     have tailm:(List.map Nat.succ (List.range rest.length)).map (fun i=>ops[i]?)=rest.map some:=by
      rw[List.map_map]
      apply List.ext_getElem?
      intro j
      rw[List.getElem?_map,List.getElem?_map]
      by_cases hj:j<rest.length
      ·rw[List.getElem?_range hj,List.getElem?_eq_getElem hj]
       simp only[Option.map_some,Function.comp_apply]
       rw[<- Array.getElem?_toList,hops,List.getElem?_cons_succ,List.getElem?_eq_getElem hj]
      ·rw[List.getElem?_eq_none (by simpa using hj),List.getElem?_eq_none (by omega)];rfl
     have go:∀(u':FrameMode),u'=(dZ u).2->∀(cs':List Frame),cs'={c₀ with mode:=u'}::cs->wpOpsS P ops (Exit.thenS (y.wpS P (bodyPostS P fn c₀ cs fun
       | .returned v,u',w'=>u'=(dZ u).2/\K v w'
       | .panicked ch,u',w'=>u'=(dZ u).2/\Kp ch w'
       | .outgrown,_,_=>False)) (bodyPostS P fn c₀ cs fun
       | .returned v,u',w'=>u'=(dZ u).2/\K v w'
       | .panicked ch,u',w'=>u'=(dZ u).2/\Kp ch w'
       | .outgrown,_,_=>False)) (List.map Nat.succ (List.range rest.length)) (A.put o.dst (dZ u).1) cs' w:=by
      rintro u' rfl cs' rfl
      refine lH (n:=args.length+(fn.ntmps-args.length)) (fun e a w hr hk=>?_) _ rest _ _ w tailm (hr.put o.dst (dZ u).1) h
      ·refine wpS_of_wp (wp_mono (fF (D:=[]) hm an y _ e a w hr hk) fun ex a' w' hq=>?_)
       cases ex with
       |normal=>
        obtain⟨e',hr',_,hk⟩:=hq
        obtain⟨v,h1,h2⟩:=cP hr' hk
        exact⟨hr'.defers,_,rfl,v,h1,rfl,h2⟩
       |ret=>
        obtain⟨e',hr',_,hk⟩:=hq
        obtain⟨v,h1,h2⟩:=cP hr' hk
        exact⟨hr'.defers,_,rfl,v,h1,rfl,h2⟩
       |panic ch=>exact⟨hq.1.defers,_,rfl,rfl,hq.2⟩
       |exit id=>obtain⟨_,_,_,hk⟩:=hq;exact hk.elim
       |goto l=>obtain⟨_,_,_,hk⟩:=hq;exact hk.elim
       |outgrown=>exact hq.elim
     unfold wpOpsS
     rw[h0]
     simp only
     rw[if_pos (by simp[Region.wanted,hg])]
     have hx:(execOp A.eval o).run P w= .ok .recover w:=by
      simp[execOp,hop,resolve,hc,invoke,builtin]
     rw[hx]
     simp only
     rcases qg (cs:=cs) hu with hrec|⟨hrec,hrv⟩
     ·rw[hrec]
      exact go _ rfl _ rfl
     ·rw[hrec]
      have e1:(dZ u).1= .nilIface:=by rw[hrv]
      have e2:(dZ u).2=u:=by rw[hrv]
      have:=go _ rfl (c₀::cs) (by rw[e2,<- hu])
      rw[e1]at this
      exact this
end Go.Proofs.YtdjkdjepjahjfaaGreatDoor.Sh
namespace Go.Proofs.YtdjkdjepjahjfaaGreatDoor.Sh
open Go
variable {P:Program} {n:Nat} {Kp:List PanicEntry->WP}
structure tkS (d:Nat)(S:WP)(w:World):Prop where
 out:w.heap[d]? =some (.deferred (some []))/\S (w.putObj d (.deferred none))
def e6:List Nat->WP->WP
 |[],S=>S
 |d::ds,S=>tkS d (e6 ds S)
def i5 (ds:List Nat)(Kp:List PanicEntry->WP):List PanicEntry->WP:=fun ch=>e6 ds (Kp ch)
def th (P:Program)(n:Nat)(rs:List ResultVar)(ds:List Nat)(K:Value->WP):KT
 | .normal,e=>e6 ds (fG P n rs e [] K)
 | .ret,e=>e6 ds (fG P n rs e [] K)
 |_,_=>fun _=>False
def zM (P:Program)(l:Nat)(vs:List Value)(w:World)(R:Ending->World->Prop):Prop:=
 ∃fn tmps assign body,(Instr.yield l vs.toArray).run P w= .ok (.round l fn tmps assign body) w/\RoundIn Fence.wide 0 P l fn tmps assign body w R
abbrev Q0:=LoopState->Option Code->Loop
def zN (l:Nat)(rec:Q0)(S:WP)(w:World):Prop:=w.heap[l]? =some (.loop (rec .ready none))/\S (w.putObj l (.loop (rec .busy none)))
def Du (l:Nat)(rec:Q0)(jump:Option Code)(S:WP)(w:World):Prop:=w.heap[l]? =some (.loop (rec .busy none))/\S (w.putObj l (.loop (rec (if jump.isNone then .ready else .done) jump)))
def Dv {α:Type}:(n:Nat)->(List Value->α)->VF n α
 |0,f=>f []
 |n+1,f=>fun v=>Dv n fun l=>f (v::l)
theorem qD {α:Type}:∀(n:Nat) (f:List Value->α) (vs:List Value),vs.length=n->iB n (Dv n f) vs=f vs
 |0,f,[],_=>rfl
 |n+1,f,v::vs,h=>by
  simp only[iB,Dv,List.headD_cons,List.tail_cons]
  exact qD n (fun l=>f (v::l)) vs (by simpa using h)
structure rfS (P:Program)(fv:Value)(np:Nat)(rnd:VF np ((WP->WP)->WP->WP->WP))(Kn Kj:Nat->WP)(Kp:Nat->List PanicEntry->WP)(w:World):Prop where
 out:∃f cap,fv= .func (.func f) #[] cap/\(∀(a:Array Value) (w:World),(callFunc f a).run P w= .ok (.enter f a) w)/\
  ∀rec:Q0,(∀(vs:List Value) (w':World) (R:Ending->World->Prop),vs.length=np->w'.heap[w.heap.size+1]? =some (.loop (rec .ready none))->
    iB np rnd vs (zN (w.heap.size+1) rec) (Du (w.heap.size+1) rec none (R (.returned (.bool true)))) (Du (w.heap.size+1) rec (some .ret) (R (.returned (.bool false)))) w'->zM P (w.heap.size+1) vs w' R)->
   Calls P f (#[.func (.yield (w.heap.size+1)) #[] #[]]++cap) ((w.alloc (.deferred (some []))).alloc (.loop (rec .ready none))) fun
    | .returned _,w₃=>(w₃.heap[w.heap.size+1]? =some (.loop (rec .ready none))/\Kn w.heap.size (w₃.putObj (w.heap.size+1) (.loop (rec .exhausted none))))\/
      (w₃.heap[w.heap.size+1]? =some (.loop (rec .done (some .ret)))/\Kj w.heap.size (w₃.putObj (w.heap.size+1) (.loop (rec .exhausted (some .ret)))))
    | .panicked ch,w₃=>Kp w.heap.size ch w₃
    | .outgrown,_=>False
def MP (B:WP->WP)(k:cG->WP):KT
 | .normal,e=>B (k e)
 |_,_=>fun _=>False
def MQ (N J:WP):KT
 | .normal,_=>N
 | .ret,_=>J
 |_,_=>fun _=>False
def cN:List PanicEntry->WP:=fun _ _=>False
def vh (P:Program)(n:Nat)(an:Ann)(ps:List Nat)(asg body:Code)(e:cG):VF ps.length ((WP->WP)->WP->WP->WP):=
 Dv ps.length fun vs B N J=>iz P n an cN asg (MP B (iz P n an cN body (MQ N J))) (fD e ps vs)
def nv:Code->Bool
 | .rangeFunc .. =>true
 | .seq a b=>nv a||nv b
 | .block _ b=>match b with
  | .rangeFunc .. =>true
  |_=>false
 |_=>false
def Q1 (P:Program)(n:Nat)(an:Ann)(rs:List ResultVar)(Kp:List PanicEntry->WP)(K:Value->WP)(g:Operand)(ps:Array Tmp)(asg body:Code)(k:List Nat->cG->WP)(ds:List Nat)(e:cG):WP:=
 match gM asg&&gM body with
 |true=>rfS P (ev n e g) ps.toList.length (vh P n an ps.toList asg body e) (fun d=>k (d::ds) e) (fun d=>e6 (d::ds) (fG P n rs e [] K)) (fun d ch=>e6 (d::ds) (Kp ch))
 |false=>fun _=>False
def yi (P:Program)(n:Nat)(an:Ann)(rs:List ResultVar)(Kp:List PanicEntry->WP)(K:Value->WP):Code->(List Nat->cG->WP)->List Nat->cG->WP
 | .seq x y,k,ds,e=>match nv x||nv y with
  |true=>(match(match nv x||rH x with|true=>none|false=>mw (dO y) an.cuts)with
   |none=>yi P n an rs Kp K x (fun ds e=>yi P n an rs Kp K y k ds e) ds e
   |some live=>Dr live.length (fun J=>iz P n an (i5 ds Kp) x (nK (th P n rs ds K) fun e'=>iB live.length J (iC e' live)) e) fun dd vs=>yi P n an rs Kp K y k ds (upd e (fE x live) dd live vs))
  |false=>iz P n an (i5 ds Kp) (.seq x y) (nK (th P n rs ds K) (k ds)) e
 | .block id b,k,ds,e=>match b with
  | .rangeFunc g ps asg body=>Q1 P n an rs Kp K g ps asg body k ds e
  |b=>iz P n an (i5 ds Kp) (.block id b) (nK (th P n rs ds K) (k ds)) e
 | .rangeFunc g ps asg body,k,ds,e=>Q1 P n an rs Kp K g ps asg body k ds e
 |c,k,ds,e=>iz P n an (i5 ds Kp) c (nK (th P n rs ds K) (k ds)) e
def wA (P:Program)(an:Ann)(fn:Func)(args:List Value)(Kp:List PanicEntry->WP)(K:Value->WP):WP:=
 match fn.body with
 |some c=>yi P (args.length+(fn.ntmps-args.length)) an fn.results.toList Kp K c (fun ds e=>e6 ds (fG P (args.length+(fn.ntmps-args.length)) fn.results.toList e [] K)) [] (mA args)
 |none=>fun _=>False
def eR (ds:List Nat):List Deferred:=ds.map fun d=>{target:= .collected d,args:=#[]}
theorem rN {fn:Func}{tmps:Array Value}{R:Ending->World->Prop}{S:WP}{u:FrameMode}(hu:u≠ .run)(hS:∀w,S w->LeavesIn Fence.wide 0 P fn tmps R [] u w):
  ∀(ds:List Nat) (w:World),e6 ds S w->LeavesInM Fence.wide 0 P fn tmps R (eR ds) u w
 |[],w,h=>hS w h
 |d::ds,w,h=>⟨hu,.inl ⟨d,_,rfl,run_takeDeferred h.out.1,rN hu hS ds _ h.out.2⟩⟩
theorem qE {e:cG}:∀(ps:List Nat) (vs:List Value) (e:cG) (t:Array Value),ps.length=vs.length->t.size=n->(∀i,i<n->t[i]? =some (e i))->
  Rep n [] (fD e ps vs) {tmps:=(ps.zip vs).foldl (fun t (x:Nat × Value)=>t.setIfInBounds x.1 x.2) t,defers:=[]}
 |[],[],e,t,_,h1,h2=>⟨rfl,h1,h2⟩
 |p::ps,v::vs,e,t,h,h1,h2=>by
  simp only[List.zip_cons_cons,List.foldl_cons,fD,List.headD_cons,List.tail_cons]
  refine qE (e:=e) ps vs _ _ (by simpa using h) (by simpa using h1) fun i hi=>?_
  rw[Array.getElem?_setIfInBounds,n6]
  by_cases hp:p=i
  ·subst hp
   rw[if_pos rfl,if_pos (by omega),if_pos rfl]
  ·rw[if_neg hp,if_neg (fun c=>hp c.symm)];exact h2 i hi
theorem ti (hm:P.follows .mixedOrders=true) (an:Ann) {rs:List ResultVar} {K:Value->WP} (g:Operand) (ps:Array Tmp) (asg body:Code) (ds:List Nat) (e:cG) (a:Act) (w:World) (Kn:Nat->WP) (Q:Exit->Act->World->Prop) (hr:Rep n (eR ds) e a) (hnd:(gM asg&&gM body)=true)
  (hn:∀d a' w',Rep n (eR (d::ds)) e a'->Kn d w'->Q .normal a' w') (hj:∀d a' w',Rep n (eR (d::ds)) e a'->e6 (d::ds) (fG P n rs e [] K) w'->Q .ret a' w')
  (hp:∀d ch a' w',Rep n (eR (d::ds)) e a'->e6 (d::ds) (Kp ch) w'->Q (.panic ch) a' w')
  (h:rfS P (ev n e g) ps.toList.length (vh P n an ps.toList asg body e) Kn (fun d=>e6 (d::ds) (fG P n rs e [] K)) (fun d ch=>e6 (d::ds) (Kp ch)) w):
  (Code.rangeFunc g ps asg body).wpIn Fence.wide 0 P Q a w:=by
 simp only[Bool.and_eq_true]at hnd
 obtain⟨f,cap,hfv,hent,h⟩:=h.out
 refine wpIn_rangeFunc fun fnid _=>?_
 obtain⟨rec,hrec⟩:∃rec:Q0,rec=fun st pe=>{state:=st,pending:=pe,fn:=fnid,tmps:=a.tmps,params:=ps,assign:=asg,body,defers:=w.heap.size}:=⟨_,rfl⟩
 have hg:a.eval g= .func (.func f) #[] cap:=by rw[hr.eval];exact hfv
 have hr2:∀d,Rep n (eR (d::ds)) e {a with defers:=[{target:= .collected d,args:=#[]}]++a.defers}:=fun d=>⟨by show [({target:= .collected d,args:=#[]}:Deferred)]++a.defers=_;rw[hr.defers];rfl,hr.size,hr.at_⟩
 refine⟨w.heap.size+1,[{target:= .collected w.heap.size,args:=#[]}],(w.alloc (.deferred (some []))).alloc (.loop (rec .ready none)),{target:= .fn (.func f) cap,args:=#[.func (.yield (w.heap.size+1)) #[] #[]]},(w.alloc (.deferred (some []))).alloc (.loop (rec .ready none)),f,
  #[.func (.yield (w.heap.size+1)) #[] #[]]++cap,(w.alloc (.deferred (some []))).alloc (.loop (rec .ready none)),?_,?_,fun _ _=>trivial,?_,fun c=>by simp[Fence.wide]at c,?_⟩
 ·rw[hrec];exact run_enterLoop_outer _ _ _ _ _
 ·simp only[resolve,hg]
  simp[go_sem]
 ·simp[invoke,go_sem,hent]
 ·refine callsIn_wide.2 ((h rec ?_).mono ?_)
  ·intro vs w' R' hvs hl hrnd
   have hy:=run_yield (P:=P) (args:=vs.toArray) hl (by rw[hrec];simpa using hvs)
   rw[hrec]at hy
   refine⟨_,_,_,_,hy,roundIn_of_wpIn trivial ?_⟩
   have hrnd:iz P n an cN asg (MP (zN (w.heap.size+1) rec) (iz P n an cN body (MQ (Du (w.heap.size+1) rec none (R' (.returned (.bool true)))) (Du (w.heap.size+1) rec (some .ret) (R' (.returned (.bool false))))))) (fD e ps.toList vs) w':=by
    unfold vh at hrnd
    rwa [qD _ _ _ hvs]at hrnd
   have hr3:Rep n [] (fD e ps.toList vs) {tmps:=(ps.zip vs.toArray).foldl (fun(t:Array Value) (x:Nat × Value)=>t.setIfInBounds x.1 x.2) a.tmps,defers:=[]}:=by
    have:=qE (n:=n) (e:=e) ps.toList vs e a.tmps hvs.symm hr.size hr.at_
    rw[<- Array.foldl_toList]
    simpa using this
   refine wpIn_mono (gH (R:=some (w.heap.size+1)) (D:=[]) hm an asg (.inr hnd.1) _ _ _ w' hr3 hrnd) fun ex a1 w1 hq=>?_
   cases ex with
   |normal=>
    obtain⟨e1,hr1,_,hb1,hb2⟩:=hq
    refine⟨_,by have:=run_beginRound (P:=P) hb1 (by rw[hrec]);rw[hrec]at this;exact this,?_⟩
    rw[hrec]at hb2
    refine wpIn_mono (gH (R:=some (w.heap.size+1)) (D:=[]) hm an body (.inr hnd.2) _ _ _ _ hr1 hb2) fun ex a2 w2 hq=>?_
    cases ex with
    |normal=>
     obtain⟨e2,hr2,_,hc1,hc2⟩:=hq
     exact⟨_,_,run_endRound (P:=P) none hc1,hc2⟩
    |ret=>
     obtain⟨e2,hr2,_,hc1,hc2⟩:=hq
     exact⟨_,_,run_endRound (P:=P) (some .ret) hc1,hc2⟩
    |exit id=>obtain⟨_,_,_,hk⟩:=hq;exact hk.elim
    |goto l=>obtain⟨_,_,_,hk⟩:=hq;exact hk.elim
    |panic ch=>exact hq.2.elim
    |outgrown=>exact hq.elim
   |exit id=>obtain⟨_,_,_,hk⟩:=hq;exact hk.elim
   |ret=>obtain⟨_,_,_,hk⟩:=hq;exact hk.elim
   |goto l=>obtain⟨_,_,_,hk⟩:=hq;exact hk.elim
   |panic ch=>exact hq.2.elim
   |outgrown=>exact hq.elim
  ·intro en w3 he
   cases en with
   |returned v=>
    rcases he with ⟨h1,h2⟩|⟨h1,h2⟩
    ·exact⟨none,_,by have:=run_endLoop (P:=P) h1 (by rw[hrec];simp);rw[hrec]at this;exact this,hn _ _ _ (hr2 _) (by rw[hrec]at h2;exact h2)⟩
    ·exact⟨some .ret,_,by have:=run_endLoop (P:=P) h1 (by rw[hrec];simp);rw[hrec]at this;exact this,wpIn_ret (hj _ _ _ (hr2 _) (by rw[hrec]at h2;exact h2))⟩
   |panicked ch=>exact hp _ _ _ _ (hr2 _) he
   |outgrown=>exact he.elim
theorem vi (hm:P.follows .mixedOrders=true)(an:Ann){rs:List ResultVar}{K:Value->WP}:
  ∀(c:Code) (k:List Nat->cG->WP) (Q:Exit->Act->World->Prop) (ds:List Nat) (e:cG) (a:Act) (w:World),
   (∀ds e a w,Rep n (eR ds) e a->k ds e w->Q .normal a w)->(∀ds e a w,Rep n (eR ds) e a->e6 ds (fG P n rs e [] K) w->Q .ret a w)->(∀ds ch a w,a.defers=eR ds->e6 ds (Kp ch) w->Q (.panic ch) a w)->
   Rep n (eR ds) e a->yi P n an rs Kp K c k ds e w->c.wpIn Fence.wide 0 P Q a w:=by
 have eQ:∀(c:Code) (k:List Nat->cG->WP) (Q:Exit->Act->World->Prop) (ds:List Nat) (e:cG) (a:Act) (w:World),
   (∀ds e a w,Rep n (eR ds) e a->k ds e w->Q .normal a w)->(∀ds e a w,Rep n (eR ds) e a->e6 ds (fG P n rs e [] K) w->Q .ret a w)->(∀ds ch a w,a.defers=eR ds->e6 ds (Kp ch) w->Q (.panic ch) a w)->
   Rep n (eR ds) e a->iz P n an (i5 ds Kp) c (nK (th P n rs ds K) (k ds)) e w->c.wpIn Fence.wide 0 P Q a w:=by
  intro c k Q ds e a w hN hR hP hr h
  refine wpIn_mono (gH (R:=none) hm an c (.inl rfl) _ e a w hr h) fun ex a w hq=>?_
  cases ex with
  |normal=>obtain⟨e',hr',_,hk⟩:=hq;exact hN _ _ _ _ hr' hk
  |ret=>obtain⟨e',hr',_,hk⟩:=hq;exact hR _ _ _ _ hr' hk
  |panic ch=>exact hP _ _ _ _ hq.1.defers hq.2
  |exit id=>obtain⟨_,_,_,hk⟩:=hq;exact hk.elim
  |goto l=>obtain⟨_,_,_,hk⟩:=hq;exact hk.elim
  |outgrown=>exact hq.elim
 have range:∀(g:Operand) (ps:Array Tmp) (asg body:Code) (k:List Nat->cG->WP) (Q:Exit->Act->World->Prop) (ds:List Nat) (e:cG) (a:Act) (w:World),
   (∀ds e a w,Rep n (eR ds) e a->k ds e w->Q .normal a w)->(∀ds e a w,Rep n (eR ds) e a->e6 ds (fG P n rs e [] K) w->Q .ret a w)->(∀ds ch a w,a.defers=eR ds->e6 ds (Kp ch) w->Q (.panic ch) a w)->
   Rep n (eR ds) e a->Q1 P n an rs Kp K g ps asg body k ds e w->(Code.rangeFunc g ps asg body).wpIn Fence.wide 0 P Q a w:=by
  intro g ps asg body k Q ds e a w hN hR hP hr h
  unfold Q1 at h
  cases hnd:(gM asg&&gM body)with
  |false=>rw[hnd]at h;exact h.elim
  |true=>
   rw[hnd]at h
   exact ti hm an g ps asg body ds e a w _ Q hr hnd (fun d a' w' hr' hk=>hN _ _ _ _ hr' hk) (fun d a' w' hr' hk=>hR _ _ _ _ hr' hk) (fun d ch a' w' hr' hk=>hP _ _ _ _ hr'.defers hk) h
 intro c
 induction c with
 |seq x y ihx ihy=>
  intro k Q ds e a w hN hR hP hr h
  simp only[yi]at h
  cases hrf:(nv x||nv y)with
  |false=>rw[hrf]at h;exact eQ _ k Q ds e a w hN hR hP hr h
  |true=>
   rw[hrf]at h
   simp only at h
   generalize hlk:(match(nv x||rH x)with|true=>none|false=>mw (dO y) an.cuts:Option (List Nat))=lk at h
   cases lk with
   |none=>
    refine wpIn_seq (ihx _ _ ds e a w (fun ds e a w hr hk=>?_) (fun ds e a w hr hk=>hR _ _ _ _ hr hk) (fun ds ch a w hd hk=>hP _ _ _ _ hd hk) hr h)
    exact ihy k Q ds e a w hN hR hP hr hk
   |some live=>
    obtain⟨J,h1,h2⟩:=rK h
    refine wpIn_seq (wpIn_mono (gH (R:=none) hm an x (.inl rfl) _ e a w hr h2) fun ex a' w' hq=>?_)
    cases ex with
    |normal=>
     obtain⟨e',hr',ha,hk⟩:=hq
     have:=h1 e' live (fE x live) rfl w' hk
     rw[eZ ha iD]at this
     exact ihy k Q ds e' a' w' hN hR hP hr' this
    |ret=>obtain⟨e',hr',_,hk⟩:=hq;exact hR _ _ _ _ hr' hk
    |panic ch=>exact hP _ _ _ _ hq.1.defers hq.2
    |exit id=>obtain⟨_,_,_,hk⟩:=hq;exact hk.elim
    |goto l=>obtain⟨_,_,_,hk⟩:=hq;exact hk.elim
    |outgrown=>exact hq.elim
 |block id b ih=>
  intro k Q ds e a w hN hR hP hr h
  cases b with
  |rangeFunc g ps asg body=>
   exact wpIn_block (range g ps asg body k (Exit.inBlock id Q) ds e a w (fun ds e a w hr hk=>hN _ _ _ _ hr hk) (fun ds e a w hr hk=>hR _ _ _ _ hr hk) (fun ds ch a w hd hk=>hP _ _ _ _ hd hk) hr h)
  |skip=>exact eQ _ k Q ds e a w hN hR hP hr h
  |region id ops draw=>exact eQ _ k Q ds e a w hN hR hP hr h
  |seq x1 x2=>exact eQ _ k Q ds e a w hN hR hP hr h
  |cond c x1 x2=>exact eQ _ k Q ds e a w hN hR hP hr h
  |block id b=>exact eQ _ k Q ds e a w hN hR hP hr h
  |loop b=>exact eQ _ k Q ds e a w hN hR hP hr h
  |exit id=>exact eQ _ k Q ds e a w hN hR hP hr h
  |scope b=>exact eQ _ k Q ds e a w hN hR hP hr h
  |label l=>exact eQ _ k Q ds e a w hN hR hP hr h
  |goto l=>exact eQ _ k Q ds e a w hN hR hP hr h
  |ret=>exact eQ _ k Q ds e a w hN hR hP hr h
  |refuse s=>exact eQ _ k Q ds e a w hN hR hP hr h
 |rangeFunc g ps asg body=>exact fun k Q ds e a w hN hR hP hr h=>range g ps asg body k Q ds e a w hN hR hP hr h
 |skip=>exact fun k Q ds e a w hN hR hP hr h=>eQ _ k Q ds e a w hN hR hP hr h
 |region id ops draw=>exact fun k Q ds e a w hN hR hP hr h=>eQ _ k Q ds e a w hN hR hP hr h
 |cond c x y _ _=>exact fun k Q ds e a w hN hR hP hr h=>eQ _ k Q ds e a w hN hR hP hr h
 |loop b _=>exact fun k Q ds e a w hN hR hP hr h=>eQ _ k Q ds e a w hN hR hP hr h
 |exit id=>exact fun k Q ds e a w hN hR hP hr h=>eQ _ k Q ds e a w hN hR hP hr h
 |scope b _=>exact fun k Q ds e a w hN hR hP hr h=>eQ _ k Q ds e a w hN hR hP hr h
 |label l=>exact fun k Q ds e a w hN hR hP hr h=>eQ _ k Q ds e a w hN hR hP hr h
 |goto l=>exact fun k Q ds e a w hN hR hP hr h=>eQ _ k Q ds e a w hN hR hP hr h
 |ret=>exact fun k Q ds e a w hN hR hP hr h=>eQ _ k Q ds e a w hN hR hP hr h
 |refuse s=>exact fun k Q ds e a w hN hR hP hr h=>eQ _ k Q ds e a w hN hR hP hr h
theorem qi (hm:P.follows .mixedOrders=true){f:FuncId}{fn:Func}(hf:P.funcs[f]? =some fn){an:Ann}{args:List Value}{K:Value->WP}{w:World}(h:wA P an fn args Kp K w):
  Calls P f args.toArray w fun
   | .returned v,w'=>K v w'
   | .panicked ch,w'=>Kp ch w'
   | .outgrown,_=>False:=by
 unfold wA at h
 cases hb:fn.body with
 |none=>rw[hb]at h;exact h.elim
 |some c=>
  rw[hb]at h
  refine(callsIn_wide (n:=0)).1 (callsIn_of_wp_marks hf hb trivial ?_ rfl)
  have hr:Rep (args.length+(fn.ntmps-args.length)) (eR []) (mA args) {tmps:=args.toArray++Array.replicate (fn.ntmps-args.toArray.size) undef,defers:=[]}:=by
   refine⟨rfl,by simp,fun i hi=>?_⟩
   rw[km,List.getD_eq_getElem?_getD,Array.getElem?_append]
   by_cases hl:i<args.length
   ·simp[hl]
   ·rw[if_neg (by simpa using hl),Array.getElem?_eq_getElem (by simp;omega)]
    simp only[List.getElem?_eq_none (Nat.le_of_not_lt hl),Array.getElem_replicate,Option.getD_none]
  have ret0:∀(ds:List Nat) (e:cG) (a:Act) (w:World),Rep (args.length+(fn.ntmps-args.length)) (eR ds) e a->e6 ds (fG P (args.length+(fn.ntmps-args.length)) fn.results.toList e [] K) w->LeavesInM Fence.wide 0 P fn a.tmps (fun
   | .returned v,w'=>K v w'
   | .panicked ch,w'=>Kp ch w'
   | .outgrown,_=>False) a.defers .returning w:=by
   intro ds e a w hr h
   rw[hr.defers]
   refine rN (by simp) (fun w' hw'=>?_) ds w h
   obtain⟨v,h1,h2⟩:=cP hr hw'
   exact⟨v,h1,h2⟩
  refine vi hm an c _ _ [] _ _ w ret0 ret0 (fun ds ch a w hd h=>?_) hr h
  show LeavesInM Fence.wide 0 P fn a.tmps _ a.defers (.panicking ch) w
  rw[hd]
  exact rN (fn:=fn) (tmps:=a.tmps) (R:=fun
   | .returned v,w'=>K v w'
   | .panicked ch,w'=>Kp ch w'
   | .outgrown,_=>False) (u:= .panicking ch) (S:=Kp ch) (by simp) (fun w' hw'=>hw') ds w h
end Go.Proofs.YtdjkdjepjahjfaaGreatDoor.Sh
namespace Go.Proofs.YtdjkdjepjahjfaaGreatDoor.Sh
open Go
abbrev PK:=List PanicEntry->WP
def sv (s:Sem Value):Sem Next:=do pure (.value (<- s))
@[irreducible] def d_ (c a b:Value):Sem Next:=execOp (fun| .tmp 0=>c| .tmp 1=>a|_=>b) {dst:=none,op:= .pick (.tmp 0) (.tmp 1) (.tmp 2),type:=0,pos:= "",after:=#[],guard:=none}
@[irreducible] def cF (t:TypeId):Sem Next:=do pure (.value (<- Instr.alloc t true (.tuple #[])))
@[irreducible] def kX (t:TypeId)(v:Value):Sem Next:=do pure (.value (<- Instr.box t v))
@[irreducible] def aD (t:TypeId)(ps:List (Nat × Value)):Sem Next:=do pure (.value (<- Instr.build t ps.toArray))
@[irreducible] def co (t:TypeId)(n:Nat)(ps:List (Nat × Value)):Sem Next:=do pure (.value (<- Instr.buildSlice t n ps.toArray))
@[irreducible] def aG (t:TypeId)(x:Value):Sem Next:=do pure (.value (<- Instr.loadAt t x))
@[irreducible] def aM (t:TypeId)(x v:Value):Sem Next:=do Instr.storeAt t x v;pure .skip
@[irreducible] def cT (x:Value):Sem Next:=execOp (fun _=>x) {dst:=none,op:= .nilCheck (.tmp 0),type:=0,pos:= "",after:=#[],guard:=none}
@[irreducible] def a_ (op:BinOp)(t:TypeId)(x y:Value):Sem Next:=sv (do eqGuard op t (.tmp 0) (.tmp 0) x y;binOp op t x y)
@[irreducible] def dY (op:BinOp)(t:TypeId)(ox oy:Operand)(x y:Value):Sem Next:=sv (do eqGuard op t ox oy x y;binOp op t x y)
@[irreducible] def zu (op:UnOp)(x:Value):Sem Next:=do pure (.value (<- Op.unary op x))
@[irreducible] def ei (s t:TypeId)(x:Value):Sem Next:=do pure (.value (<- convert s t x))
@[irreducible] def n8 (t:TypeId)(x:Value)(l h m:Option Value):Sem Next:=do pure (.value (<- Instr.sliceAt t x l h m))
@[irreducible] def fI (t:TypeId)(x:Value)(f:Nat):Sem Next:=do pure (.value (<- Instr.fieldAt t x f))
@[irreducible] def S1 (t:TypeId)(x:Value)(f:Nat):Sem Next:=do pure (.value (<- Instr.field t x f))
@[irreducible] def kL (t:TypeId)(x i:Value):Sem Next:=do pure (.value (<- Instr.indexAt t x i))
@[irreducible] def mB (t:TypeId)(x i:Value):Sem Next:=do pure (.value (<- Instr.index t x i))
@[irreducible] def iE (t:TypeId)(x i:Value)(ok:Bool):Sem Next:=do pure (.value (<- Instr.lookup t x i ok))
@[irreducible] def gA (t:TypeId)(m k v:Value):Sem Next:=do Instr.mapUpdate t m k v;pure .skip
@[irreducible] def Dw (t:TypeId)(m k:Value):Sem Next:=do pure (.value (<- Instr.mapEntry t m k))
@[irreducible] def Hc (t:TypeId)(m s v:Value):Sem Next:=do Instr.entryStore t m s v;pure .skip
@[irreducible] def rO (t:TypeId)(x:Value):Sem Next:=do pure (.value (<- Instr.range t x))
@[irreducible] def oQ (it:Value)(str:Bool)(t:TypeId):Sem Next:=do pure (.value (<- Instr.next it str t))
@[irreducible] def He (it:Value):Sem Next:=do pure (.value (<- Instr.entry it))
@[irreducible] def zO (x:Value)(t a:TypeId)(ok:Bool):Sem Next:=do pure (.value (<- Instr.typeAssert x t a ok))
@[irreducible] def kY (x:Value)(i:Nat):Sem Next:=do pure (.value (<- Instr.extract x i))
@[irreducible] def nM (t:TypeId)(x:Value):Sem Next:=do pure (.value (<- Instr.makeInterface t x))
@[irreducible] def nN (f:Fn)(a b:List Value):Sem Next:=do pure (.value (<- Instr.makeFunc f a.toArray b.toArray))
@[irreducible] def oR (t:TypeId)(r:Option Value):Sem Next:=do pure (.value (<- Instr.makeMap t r))
@[irreducible] def wB (t:TypeId)(l c:Value):Sem Next:=do pure (.value (<- Instr.makeSlice t l c))
@[irreducible] def MR (t:TypeId)(x:Value):Sem Next:=do pure (.value (<- Instr.arrayAt t x))
@[irreducible] def oS (x:Value):Sem Next:=do pure (.value (<- Instr.panic x))
@[irreducible] def ju (ts:Array TypeId)(t:TypeId)(a:List Value):Sem Next:=do pure (.value (<- Builtin.append_ ts t a.toArray))
@[irreducible] def gB (ts:Array TypeId)(t:TypeId)(a:List Value):Sem Next:=do pure (.value (<- Builtin.len_ ts t a.toArray))
@[irreducible] def yj (ts:Array TypeId)(t:TypeId)(a:List Value):Sem Next:=do pure (.value (<- Builtin.cap_ ts t a.toArray))
@[irreducible] def zP (ts:Array TypeId)(t:TypeId)(a:List Value):Sem Next:=do pure (.value (<- Builtin.copy_ ts t a.toArray))
@[irreducible] def tj (ts:Array TypeId)(t:TypeId)(a:List Value):Sem Next:=do pure (.value (<- Builtin.delete_ ts t a.toArray))
@[irreducible] def Hf (ts:Array TypeId)(t:TypeId)(a:List Value):Sem Next:=do pure (.value (<- Builtin.min_ ts t a.toArray))
@[irreducible] def Hg (ts:Array TypeId)(t:TypeId)(a:List Value):Sem Next:=do pure (.value (<- Builtin.max_ ts t a.toArray))
@[irreducible] def rP (ts:Array TypeId)(t:TypeId)(a:List Value):Sem Next:=do pure (.value (<- Builtin.clear_ ts t a.toArray))
@[irreducible] def bG (f:Value)(a:List Value):Sem Next:=do
 let d <- Deferred.ofValue f a.toArray
 invoke d.target d.args
@[irreducible] def zQ (r:Value)(nm:String)(a:List Value):Sem Next:=invoke (.fn (.method nm) #[]) (#[r]++a.toArray)
def fn (f:FuncId):Value:= .func (.func f) #[] #[]
def after (Kp:PK)(K:Value->WP):Ending->World->Prop
 | .returned v,w=>K v w
 | .panicked ch,w=>Kp ch w
 | .outgrown,_=>False
theorem e7 {P:Program} {f:FuncId} {args:Array Value} {w:World} {Kp:PK} {K:Value->WP} (h:Calls P f args w fun
   | .returned v,w'=>K v w'
   | .panicked ch,w'=>Kp ch w'
   | .outgrown,_=>False):Calls P f args w (after Kp K):=h.mono fun e w' h=>by cases e <;> exact h
@[irreducible] def cZ (t:TypeId)(x:Value):Sem Next:=do pure (.value (<- do loadVar t (<- asAddr x)))
def vj (body:(WP)->WP)(rest:List Value->WP)(w:World):Prop:=
 ∃J:WP,(∀(ds:List Value) (w':World),J w'->rest ds w')/\body J w
def zR (body:(Nat->WP)->Nat->List Value->WP)(w:World):Prop:=
 ∃I:Nat->WP,(∃m,I m w)/\∀(m:Nat) (ds:List Value) (w':World),I m w'->body I m ds w'
def zS (I:Nat->WP)(m:Nat)(w:World):Prop:=∃m',m'<m/\I m' w
def rQ (body:(Value->WP)->WP)(rest:List Value->Value->WP)(w:World):Prop:=
 ∃J:Value->WP,(∀(ds:List Value) (x0:Value) (w':World),J x0 w'->rest ds x0 w')/\body J w
def qF (body:(Nat->Value->WP)->Nat->List Value->Value->WP)(x0:Value)(w:World):Prop:=
 ∃I:Nat->Value->WP,(∃m,I m x0 w)/\∀(m:Nat) (ds:List Value) (y0:Value) (w':World),I m y0 w'->body I m ds y0 w'
def lI (I:Nat->Value->WP)(m:Nat)(x0:Value)(w:World):Prop:=∃m',m'<m/\I m' x0 w
def oT (body:(Value->Value->WP)->WP)(rest:List Value->Value->Value->WP)(w:World):Prop:=
 ∃J:Value->Value->WP,(∀(ds:List Value) (x0 x1:Value) (w':World),J x0 x1 w'->rest ds x0 x1 w')/\body J w
def oU (body:(Nat->Value->Value->WP)->Nat->List Value->Value->Value->WP)(x0 x1:Value)(w:World):Prop:=
 ∃I:Nat->Value->Value->WP,(∃m,I m x0 x1 w)/\∀(m:Nat) (ds:List Value) (y0 y1:Value) (w':World),I m y0 y1 w'->body I m ds y0 y1 w'
def oV (I:Nat->Value->Value->WP)(m:Nat)(x0 x1:Value)(w:World):Prop:=∃m',m'<m/\I m' x0 x1 w
def zT (body:(Value->Value->Value->WP)->WP)(rest:List Value->Value->Value->Value->WP)(w:World):Prop:=
 ∃J:Value->Value->Value->WP,(∀(ds:List Value) (x0 x1 x2:Value) (w':World),J x0 x1 x2 w'->rest ds x0 x1 x2 w')/\body J w
def zU (body:(Nat->Value->Value->Value->WP)->Nat->List Value->Value->Value->Value->WP)(x0 x1 x2:Value)(w:World):Prop:=
 ∃I:Nat->Value->Value->Value->WP,(∃m,I m x0 x1 x2 w)/\∀(m:Nat) (ds:List Value) (y0 y1 y2:Value) (w':World),I m y0 y1 y2 w'->body I m ds y0 y1 y2 w'
def zV (I:Nat->Value->Value->Value->WP)(m:Nat)(x0 x1 x2:Value)(w:World):Prop:=∃m',m'<m/\I m' x0 x1 x2 w
def Hh (body:(Value->Value->Value->Value->WP)->WP)(rest:List Value->Value->Value->Value->Value->WP)(w:World):Prop:=
 ∃J:Value->Value->Value->Value->WP,(∀(ds:List Value) (x0 x1 x2 x3:Value) (w':World),J x0 x1 x2 x3 w'->rest ds x0 x1 x2 x3 w')/\body J w
def FN (body:(Nat->Value->Value->Value->Value->WP)->Nat->List Value->Value->Value->Value->Value->WP)(x0 x1 x2 x3:Value)(w:World):Prop:=
 ∃I:Nat->Value->Value->Value->Value->WP,(∃m,I m x0 x1 x2 x3 w)/\∀(m:Nat) (ds:List Value) (y0 y1 y2 y3:Value) (w':World),I m y0 y1 y2 y3 w'->body I m ds y0 y1 y2 y3 w'
def FO (I:Nat->Value->Value->Value->Value->WP)(m:Nat)(x0 x1 x2 x3:Value)(w:World):Prop:=∃m',m'<m/\I m' x0 x1 x2 x3 w
end Go.Proofs.YtdjkdjepjahjfaaGreatDoor.Sh
namespace Go.Proofs.YtdjkdjepjahjfaaGreatDoor.Sl
open Go Go.RowKit Sh
abbrev e8:=Nat->Option Obj
abbrev HP:=World->e8->Prop
def pt (g:Nat)(o:Obj):HP:=fun _ h=>h g=some o
def pu (φ:Prop):HP:=fun _ _=>φ
def ex {α:Type}(A:α->HP):HP:=fun W h=>∃x,A x W h
def fW (A B:HP):HP:=fun W h=>∃h1 h2:e8,A W h1/\B W h2/\(∀i,h1 i=none\/h2 i=none)/\(∀i o,h1 i=some o->h i=some o)/\(∀i o,h2 i=some o->h i=some o)
def all:List HP->HP
 |[]=>fun _ _=>True
 |A::l=>fW A (all l)
structure sat (W:World)(L:List HP)(w:World):Prop where
 base:Below W.heap.size W w
 heap:∃h:e8,all L W h/\∀i o,h i=some o->W.heap.size<=i/\w.heap[i]? =some o
theorem gJ {A B C:HP}{W:World}{h:e8}(H:fW A (fW B C) W h):fW B (fW A C) W h:=by
 obtain⟨h1,h2,ha,⟨h21,h22,hb,hc,d2,s21,s22⟩,d1,s1,s2⟩:=H
 refine⟨h21,fun i=>match h1 i with|some o=>some o|none=>h22 i,hb,⟨h1,h22,ha,hc,?_,?_,?_⟩,?_,?_,?_⟩
 ·intro i
  rcases d1 i with h|h
  ·exact .inl h
  ·right
   cases h':h22 i with
   |none=>rfl
   |some o=>rw[s22 i o h']at h;cases h
 ·intro i o hi;simp only[hi]
 ·intro i o hi
  have:h1 i=none:=by
   rcases d1 i with h|h
   ·exact h
   ·rw[s22 i o hi]at h;cases h
  simp only[this,hi]
 ·intro i
  cases h21i:h21 i with
  |none=>exact .inl rfl
  |some o=>
   right
   have h1i:h1 i=none:=by
    rcases d1 i with h|h
    ·exact h
    ·rw[s21 i o h21i]at h;cases h
   have h22i:h22 i=none:=by
    rcases d2 i with h|h
    ·rw[h21i]at h;cases h
    ·exact h
   simp only[h1i,h22i]
 ·intro i o hi;exact s2 i o (s21 i o hi)
 ·intro i o hi
  cases h1i:h1 i with
  |some o'=>simp only[h1i]at hi;rw[<- hi];exact s1 i o' h1i
  |none=>simp only[h1i]at hi;exact s2 i o (s22 i o hi)
theorem em {A B B':HP}{W:World}{h:e8}(f:∀h,B W h->B' W h)(H:fW A B W h):fW A B' W h:=by
 obtain⟨h1,h2,ha,hb,r⟩:=H
 exact⟨h1,h2,ha,f h2 hb,r⟩
inductive Pick:List HP->HP->List HP->Prop
 |here {A:HP} {l:List HP}:Pick (A::l) A l
 |there {A B:HP} {l l':List HP} (h:Pick l A l'):Pick (B::l) A (B::l')
theorem Pick.all {L L':List HP}{A:HP}(p:Pick L A L'):∀ {W:World} {h:e8},all L W h->all (A::L') W h:=by
 induction p with
 |here=>intro W h H;exact H
 |there p ih=>intro W h H;exact gJ (em (fun h=>ih) H)
theorem sat.map {W:World}{L M:List HP}{w:World}(f:∀h,all L W h->all M W h)(H:sat W L w):sat W M w:=
 ⟨H.base,let ⟨h,a,b⟩:=H.heap;⟨h,f h a,b⟩⟩
theorem sat.pick {W:World}{L L':List HP}{A:HP}{w:World}(p:Pick L A L')(H:sat W L w):sat W (A::L') w:=H.map fun _=>p.all
theorem oW {A:HP}{l:List HP}{W:World}{h:e8}(H:all (A::l) W h):∃h',all l W h'/\∀i o,h' i=some o->h i=some o:=by
 obtain⟨h1,h2,_,hb,_,_,s2⟩:=H
 exact⟨h2,hb,s2⟩
theorem sat.drop {W:World}{L:List HP}{A:HP}{w:World}(H:sat W (A::L) w):sat W L w:=by
 obtain⟨h,a,b⟩:=H.heap
 obtain⟨h',a',s⟩:=oW a
 exact⟨H.base,h',a',fun i o hi=>b i o (s i o hi)⟩
inductive Imp (W:World):List HP->List HP->Prop
 |refl {F:List HP}:Imp W F F
 |nil {F:List HP}:Imp W F []
 |drop {A:HP} {L M:List HP} (h:Imp W L M):Imp W (A::L) M
 |pick {A:HP} {L L' M:List HP} (p:Pick L A L') (h:Imp W L' M):Imp W L (A::M)
 |ex {α:Type} {A:α->HP} {L M:List HP} (x:α) (h:Imp W L (A x::M)):Imp W L (ex A::M)
 |pu {φ:Prop} {L M:List HP} (hp:φ) (h:Imp W L M):Imp W L (pu φ::M)
 |all {L N M:List HP} (h:Imp W L (N++M)):Imp W L (Sl.all N::M)
 |conv {A B:HP} {L M:List HP} (e:∀h,B W h->A W h) (h:Imp W L (B::M)):Imp W L (A::M)
 |convL {A B:HP} {L L' M:List HP} (p:Pick L A L') (e:∀h,A W h->B W h) (h:Imp W (B::L') M):Imp W L M
theorem wC {φ:Prop}{B:HP}{W:World}{h:e8}(hp:φ)(H:B W h):fW (pu φ) B W h:=
 ⟨fun _=>none,h,hp,H,fun _=> .inl rfl,fun _ _ c=>(by cases c),fun _ _ c=>c⟩
theorem Dx {α:Type}{A:α->HP}{B:HP}{W:World}{h:e8}(x:α)(H:fW (A x) B W h):fW (ex A) B W h:=by
 obtain⟨h1,h2,ha,r⟩:=H
 exact⟨h1,h2,⟨x,ha⟩,r⟩
theorem tn {A B C:HP}{W:World}{h:e8}(H:fW A (fW B C) W h):fW (fW A B) C W h:=by
 obtain⟨h1,h2,ha,⟨h21,h22,hb,hc,d2,s21,s22⟩,d1,s1,s2⟩:=gJ H
 -- h1: B, h21: A, h22: C
 refine⟨fun i=>match h1 i with|some o=>some o|none=>h21 i,h22,⟨h21,h1,hb,ha,?_,?_,?_⟩,hc,?_,?_,?_⟩
 ·intro i
  rcases d1 i with h|h
  ·exact .inr h
  ·left
   cases h':h21 i with
   |none=>rfl
   |some o=>rw[s21 i o h']at h;cases h
 ·intro i o hi
  have:h1 i=none:=by
   rcases d1 i with h|h
   ·exact h
   ·rw[s21 i o hi]at h;cases h
  simp only[this,hi]
 ·intro i o hi;simp only[hi]
 ·intro i
  cases h22i:h22 i with
  |none=>exact .inr rfl
  |some o=>
   left
   have h1i:h1 i=none:=by
    rcases d1 i with h|h
    ·exact h
    ·rw[s22 i o h22i]at h;cases h
   have h21i:h21 i=none:=by
    rcases d2 i with h|h
    ·exact h
    ·rw[h22i]at h;cases h
   simp only[h1i,h21i]
 ·intro i o hi
  cases h1i:h1 i with
  |some o'=>simp only[h1i]at hi;rw[<- hi];exact s1 i o' h1i
  |none=>simp only[h1i]at hi;exact s2 i o (s21 i o hi)
 ·intro i o hi;exact s2 i o (s22 i o hi)
theorem all_append {N M:List HP}{W:World}:∀ {h:e8},all (N++M) W h->fW (all N) (all M) W h:=by
 induction N with
 |nil=>intro h H;exact⟨fun _=>none,h,trivial,H,fun _=> .inl rfl,fun _ _ c=>(by cases c),fun _ _ c=>c⟩
 |cons A N ih=>intro h H;exact tn (em (fun h=>ih) H)
theorem bZ {N M:List HP}{W:World}:∀ {h:e8},fW (all N) (all M) W h->all (N++M) W h:=by
 induction N with
 |nil=>
  intro h H
  -- the left part is nothing: grow the right one
  obtain⟨h1,h2,_,hb,_,_,s2⟩:=H
  revert hb s2
  induction M generalizing h h2 with
  |nil=>intro _ _;trivial
  |cons B M ih=>
   intro hb s2
   obtain⟨k1,k2,b1,b2,d,t1,t2⟩:=hb
   exact⟨k1,k2,b1,b2,d,fun i o c=>s2 i o (t1 i o c),fun i o c=>s2 i o (t2 i o c)⟩
 |cons A N ih=>
  intro h H
  have e:fW A (fW (all N) (all M)) W h:=by
   obtain⟨h1,h2,⟨k1,k2,ha,hn,dk,t1,t2⟩,hm,d,s1,s2⟩:=H
   refine⟨k1,fun i=>match k2 i with|some o=>some o|none=>h2 i,ha,⟨k2,h2,hn,hm,?_,?_,?_⟩,?_,?_,?_⟩
   ·intro i
    rcases d i with c|c
    ·left
     cases c':k2 i with
     |none=>rfl
     |some o=>rw[t2 i o c']at c;cases c
    ·exact .inr c
   ·intro i o c;simp only[c]
   ·intro i o c
    have:k2 i=none:=by
     rcases d i with c'|c'
     ·cases c'':k2 i with
      |none=>rfl
      |some o=>rw[t2 i o c'']at c';cases c'
     ·rw[c]at c';cases c'
    simp only[this,c]
   ·intro i
    cases c:k1 i with
    |none=>exact .inl rfl
    |some o=>
     right
     have c2:k2 i=none:=by
      rcases dk i with c'|c'
      ·rw[c]at c';cases c'
      ·exact c'
     have c3:h2 i=none:=by
      rcases d i with c'|c'
      ·rw[t1 i o c]at c';cases c'
      ·exact c'
     simp only[c2,c3]
   ·intro i o c;exact s1 i o (t1 i o c)
   ·intro i o c
    cases c2:k2 i with
    |some o'=>simp only[c2]at c;rw[<- c];exact s1 i o' (t2 i o' c2)
    |none=>simp only[c2]at c;exact s2 i o c
  exact em (fun h=>ih) e
theorem zW:∀ {L:List HP} {W:World} {h h':e8},all L W h->(∀i o,h i=some o->h' i=some o)->all L W h'
 |[],_,_,_,_,_=>trivial
 |_::_,_,_,_,⟨h1,h2,ha,hb,d,s1,s2⟩,s=>⟨h1,h2,ha,hb,d,fun i o c=>s i o (s1 i o c),fun i o c=>s i o (s2 i o c)⟩
theorem Imp.all' {W:World}{L M:List HP}(H:Imp W L M):∀h,Sl.all L W h->Sl.all M W h:=by
 induction H with
 |refl=>exact fun _ h=>h
 |nil=>exact fun _ _=>trivial
 |drop _ ih=>
  intro h H
  obtain⟨h',a,s⟩:=oW H
  exact zW (ih h' a) s
 |pick p _ ih=>exact fun h H=>em ih (p.all H)
 |ex x _ ih=>exact fun h H=>Dx x (ih h H)
 |pu hp _ ih=>exact fun h H=>wC hp (ih h H)
 |all _ ih=>exact fun h H=>all_append (ih h H)
 |conv e _ ih=>exact fun h H=>(by obtain⟨h1,h2,ha,r⟩:=ih h H;exact⟨h1,h2,e h1 ha,r⟩)
 |convL p e _ ih=>exact fun h H=>ih h (by obtain⟨h1,h2,ha,r⟩:=p.all H;exact⟨h1,h2,e h1 ha,r⟩)
theorem Imp.sat {W:World}{L M:List HP}(H:Imp W L M){w:World}(h:Sl.sat W L w):Sl.sat W M w:=h.map H.all'

theorem sat.start (W:World):sat W [] W:=⟨Below.refl _ _,fun _=>none,trivial,fun _ _ c=>by cases c⟩
theorem sat.keep {W:World}{L:List HP}{w w':World}(H:sat W L w)(hb:Below w.heap.size w w'):sat W L w':=by
 obtain⟨h,a,b⟩:=H.heap
 refine⟨H.base.trans (hb.mono H.base.size),h,a,fun i o hi=>?_⟩
 obtain⟨b1,b2⟩:=b i o hi
 have hlt:i<w.heap.size:=by
  rcases Nat.lt_or_ge i w.heap.size with c|c
  ·exact c
  ·rw[Array.getElem?_eq_none c]at b2;cases b2
 exact⟨b1,(hb.block i hlt).trans b2⟩
theorem sat.drew {W:World}{L:List HP}{w:World}(H:sat W L w):sat W L w.drew:=H.keep (Below.refl _ _).drew
theorem sat.pt_ {W:World}{L:List HP}{w:World}{g:Nat}{o:Obj}(H:sat W (pt g o::L) w):w.heap[g]? =some o/\W.heap.size<=g:=by
 obtain⟨h,⟨h1,h2,ha,_,_,s1,_⟩,b⟩:=H.heap
 have:=b g o (s1 g o ha)
 exact⟨this.2,this.1⟩
theorem sat.fst {W:World}{L:List HP}{A:HP}{w:World}(H:sat W (A::L) w):∃h,A W h/\∀i o,h i=some o->W.heap.size<=i/\w.heap[i]? =some o:=by
 obtain⟨h,⟨h1,h2,ha,_,_,s1,_⟩,b⟩:=H.heap
 exact⟨h1,ha,fun i o c=>b i o (s1 i o c)⟩
theorem sat.change {W:World} {L:List HP} {A:HP} {w w':World} (H:sat W (A::L) w) (hos:w'.os=w.os) (htape:w'.tape=w.tape) (hout:w'.output=w.output) (hsz:w.heap.size<=w'.heap.size)
  {B:HP} (hB:∀h,A W h->(∀i o,h i=some o->W.heap.size<=i/\w.heap[i]? =some o)->∃h':e8,B W h'/\(∀i o,h' i=some o->W.heap.size<=i/\w'.heap[i]? =some o)/\(∀i,h' i≠none->h i≠none\/w.heap.size<=i)/\
   (∀i,i<w.heap.size->h i=none->w'.heap[i]? =w.heap[i]?)/\(∀i,h i≠none->W.heap.size<=i)):sat W (B::L) w':=by
 obtain⟨h,⟨h1,h2,ha,hl,d,s1,s2⟩,b⟩:=H.heap
 obtain⟨h',hb,b',n',k',q'⟩:=hB h1 ha (fun i o c=>b i o (s1 i o c))
 have lt2:∀i o,h2 i=some o->i<w.heap.size:=fun i o c=>by
  rcases Nat.lt_or_ge i w.heap.size with e|e
  ·exact e
  ·have:=(b i o (s2 i o c)).2;rw[Array.getElem?_eq_none e]at this;cases this
 have dj:∀i,h' i=none\/h2 i=none:=fun i=>by
  cases c:h2 i with
  |none=>exact .inr rfl
  |some o=>
   left
   cases c':h' i with
   |none=>rfl
   |some o'=>
    rcases n' i (by rw[c'];simp)with e|e
    ·rcases d i with e'|e'
     ·exact absurd e' e
     ·rw[c]at e';cases e'
    ·exact absurd (lt2 i o c) (by omega)
 refine⟨H.base.trans ⟨hos,htape,hout,hsz,fun k hk=>?_⟩,fun i=>match h' i with|some o=>some o|none=>h2 i,⟨h',h2,hb,hl,dj,?_,?_⟩,?_⟩
 ·refine k' k (Nat.lt_of_lt_of_le hk H.base.size) ?_
  cases c:h1 k with
  |none=>rfl
  |some o=>exact absurd (q' k (by rw[c];simp)) (by omega)
 ·intro i o c;simp only[c]
 ·intro i o c
  have:h' i=none:=by
   rcases dj i with e|e
   ·exact e
   ·rw[c]at e;cases e
  simp only[this,c]
 ·intro i o c
  cases c1:h' i with
  |some o'=>simp only[c1]at c;rw[<- c];exact b' i o' c1
  |none=>
   simp only[c1]at c
   obtain⟨e1,e2⟩:=b i o (s2 i o c)
   refine⟨e1,?_⟩
   rw[k' i (lt2 i o c) ?_]
   ·exact e2
   ·rcases d i with e|e
    ·exact e
    ·rw[c]at e;cases e
theorem sat.alloc {W:World}{L:List HP}{w:World}(H:sat W L w)(o:Obj):sat W (pt w.heap.size o::L) (w.alloc o):=by
 have H':sat W (pu True::L) w:=H.map fun _=>wC trivial
 refine H'.change (w':=w.alloc o) rfl rfl rfl (by simp) fun h _ hh=>⟨fun i=>if i=w.heap.size then some o else none,by simp[pt],fun i o' c=>?_,fun i c=>?_,fun i hi _=>Below.heap_alloc w o i hi,fun i c=>?_⟩
 ·by_cases e:i=w.heap.size
  ·subst e;simp at c;subst c;exact⟨H.base.size,Array.getElem?_push_size⟩
  ·simp[e]at c
 ·by_cases e:i=w.heap.size
  ·exact .inr (by omega)
  ·simp[e]at c
 ·cases e:h i with
  |none=>exact absurd e c
  |some o'=>exact(hh i o' e).1
theorem sat.turn {W : World} {L : List HP} {w w' : World} {g : Nat} {o o' : Obj} (H : sat W (pt g o :: L) w) (hos : w'.os = w.os) (htape : w'.tape = w.tape) (hout : w'.output = w.output)
  (hsz : w'.heap.size = w.heap.size) (hg : w'.heap[g]? = some o') (hr : ∀ i, i ≠ g → w'.heap[i]? = w.heap[i]?) : sat W (pt g o' :: L) w' := by
 have hge := H.pt_.2
 obtain ⟨h, ⟨h1, h2, ha, hl, d, s1, s2⟩, b⟩ := H.heap
 have H1 : sat W ((fun (_ : World) (k : e8) => k g = some o ∧ ∀ i, i ≠ g → k i = none) :: L) w :=
  ⟨H.base, h, ⟨fun i => if i = g then some o else none, h2, ⟨by simp, fun i hi => by simp [hi]⟩, hl, fun i => (by
   by_cases e : i = g
   ·subst e
    right
    rcases d i with c | c
    ·have : h1 i = some o := ha
     rw [this] at c; cases c
    ·exact c
   ·exact .inl (by simp [e])), fun i o'' c => (by
   by_cases e : i = g
   ·subst e; simp at c; subst c; exact s1 i o ha
   ·simp [e] at c), s2⟩, b⟩
 refine H1.change hos htape hout (by omega) fun h hh hb => ⟨fun i => if i = g then some o' else none, by simp [pt], fun i o'' c => ?_, fun i c => ?_, fun i _ c => ?_, fun i c => ?_⟩
 ·by_cases e : i = g
  ·subst e; simp at c; subst c; exact ⟨hge, hg⟩
  ·simp [e] at c
 ·by_cases e : i = g
  ·subst e; left; rw [hh.1]; simp
  ·simp [e] at c
 ·refine hr i ?_
  rintro rfl
  rw [hh.1] at c; cases c
 ·by_cases e : i = g
  ·subst e; exact hge
  ·exact absurd (hh.2 i e) c
theorem sat.setCell {W:World}{L:List HP}{w:World}{g o:Nat}{cs:Array Value}{T:TypeId}{fz:Nat × Nat}(H:sat W (pt g (.cells cs T fz)::L) w)(v:Value):
  sat W (pt g (.cells (cs.setIfInBounds o v) T fz)::L) (w.setCell ⟨g,o,none⟩ v):=by
 have hg:=H.pt_.1
 refine H.turn rfl rfl rfl (by simp) ?_ ?_
 ·simp[World.setCell,Array.getElem?_modify,hg]
 ·intro i hi
  exact Below.heap_setCell w ⟨g,o,none⟩ v i hi
theorem sat.cell {W:World}{L:List HP}{w:World}{g o:Nat}{cs:Array Value}{T:TypeId}{fz:Nat × Nat}(H:sat W (pt g (.cells cs T fz)::L) w):w.cell? ⟨g,o,none⟩=cs[o]? :=by
 simp[World.cell?,H.pt_.1]
theorem sat.free {W:World}{L:List HP}{w:World}{g o:Nat}{cs:Array Value}{T:TypeId}(H:sat W (pt g (.cells cs T (0,0))::L) w):w.frozen? ⟨g,o,none⟩=false:=by
 simp[World.frozen?,H.pt_.1]

def aJ (W:World)(L:List HP)(S:WP):Prop:=∀w,sat W L w->S w
variable {P:Program} {W:World} {L L' L'':List HP} {Kp:PK} {k:Value->WP} {S:WP}
theorem bf {M:List HP}(i:Imp W L M)(h:aJ W M S):aJ W L S:=fun w hw=>h w (i.sat hw)
theorem zX {A:HP}(p:Pick L A L')(h:aJ W (A::L') S):aJ W L S:=fun w hw=>h w (hw.pick p)
theorem aT {φ:Prop}(p:Pick L (pu φ) L')(h:φ->aJ W L' S):aJ W L S:=fun w hw=>by
 have hw':=hw.pick p
 obtain⟨_,⟨_,_,hp,_⟩,_⟩:=hw'.heap
 exact h hp w hw'.drop
theorem a8 {α:Type}{A:α->HP}(p:Pick L (ex A) L')(h:∀x,aJ W (A x::L') S):aJ W L S:=fun w hw=>by
 have hw':=hw.pick p
 obtain⟨f,⟨h1,h2,⟨x,ha⟩,r⟩,b⟩:=hw'.heap
 exact h x w ⟨hw'.base,f,⟨h1,h2,ha,r⟩,b⟩
theorem aB {M:List HP}(p:Pick L (all M) L')(h:aJ W (M++L') S):aJ W L S:=fun w hw=>h w (sat.map (L:=Sl.all M::L') (fun _ H=>bZ H) (hw.pick p))
theorem mC {A B:HP}(p:Pick L A L')(e:∀h,A W h->B W h)(h:aJ W (B::L') S):aJ W L S:=fun w hw=>h w (sat.map (L:=A::L') (fun _ ⟨h1,h2,ha,r⟩=>⟨h1,h2,e h1 ha,r⟩) (hw.pick p))
theorem aW (h:aJ W L S):aJ W L (n5 S):=fun w hw=>h _ (show sat W L w.drew from hw.drew)
theorem nw {A:List HP}(i:Imp W L A)(h:aJ W L S):aJ W L (fun w=>sat W A w/\S w):=fun w hw=>⟨i.sat hw,h w hw⟩
theorem eA (h:aJ W L S):aJ W L (fun w=>True/\S w):=fun w hw=>⟨trivial,h w hw⟩
def aQ (P:Program)(W:World)(A:List HP)(s:Sem Next)(v:Value):Prop:=∀w,sat W A w->s.run P w= .ok (.value v) w
theorem aE {A:List HP}{s:Sem Next}{v:Value}(hr:aQ P W A s v)(i:Imp W L A)(h:aJ W L (k v)):aJ W L (opN P s Kp k):=fun w hw=>
 ⟨by rw[hr w (i.sat hw)];exact h w hw⟩
theorem be {A:List HP}{s:Sem Next}{v:Value}(hr:aQ P W A s v)(i:Imp W L A)(h:aJ W L (k v)):aJ W L (stS P s k):=fun w hw=>⟨v,hr w (i.sat hw),h w hw⟩
theorem aq {A:List HP}{s:Sem Next}{v:Value}{kd:WP->Value->WP}(hr:aQ P W A s v)(i:Imp W L A)(h:aJ W L (kd (sat W A) v)):aJ W L (stD P s kd):=fun w hw=>
 ⟨sat W A,v,i.sat hw,fun w' hw'=>hr w' hw',h w hw⟩
theorem ai {A B:WP}(h:aJ W L A):aJ W L (condS (.bool true) A B):=fun w hw=>⟨h w hw⟩
theorem af {A B:WP}(h:aJ W L B):aJ W L (condS (.bool false) A B):=fun w hw=>⟨h w hw⟩
theorem ab {b:Bool}{body:(Value->WP)->WP}(h:aJ W L (body k)):aJ W L (gdK (.bool b) b body k):=fun w hw=>⟨by show(if b=b then body k w else k undef w);rw[if_pos rfl];exact h w hw⟩
theorem aC {body:(Value->WP)->WP}(h:aJ W L (k undef)):aJ W L (gdK (.bool true) false body k):=fun w hw=>⟨h w hw⟩
theorem aj {body:(Value->WP)->WP}(h:aJ W L (k undef)):aJ W L (gdK (.bool false) true body k):=fun w hw=>⟨h w hw⟩
theorem bT {want:Bool}{body:(Value->WP)->WP}(h:aJ W L (k undef)):aJ W L (gdK undef want body k):=fun w hw=>⟨h w hw⟩
theorem db {b:Bool}{kd:WP->Value->WP}{body:(WP->Value->WP)->WP}(h:aJ W L (body kd)):aJ W L (gdD (.bool b) b body kd):=fun w hw=>⟨by show(if b=b then body kd w else kd (fun _=>True) undef w);rw[if_pos rfl];exact h w hw⟩
theorem dI {kd:WP->Value->WP}{body:(WP->Value->WP)->WP}(h:aJ W L (kd (fun _=>True) undef)):aJ W L (gdD (.bool false) true body kd):=fun w hw=>⟨h w hw⟩

structure Cn {α:Type}(P:Program)(f:FuncId)(args:List Value)(W:World)(A:List HP)(r:α->Value)(B:α->List HP):Prop where
 call:∀(a:Array Value) (w:World),(callFunc f a).run P w= .ok (.enter f a) w
 run:∀(F:List HP) (w:World),sat W (A++F) w->Calls P f args.toArray w (fun e w'=>∃x,e= .returned (r x)/\sat W (B x++F) w')
def wD:PK:=fun _ _=>False
theorem Cn.of {α : Type} {f : FuncId} {args : List Value} {A : List HP} {r : α → Value} {B : α → List HP} {shape : PK → (Value → WP) → WP}
  (hc : ∀ (a : Array Value) (w : World), (callFunc f a).run P w = .ok (.enter f a) w)
  (hs : ∀ {Kp : PK} {K : Value → WP} {w : World}, shape Kp K w → Calls P f args.toArray w (after Kp K))
  (h : ∀ F, aJ W (A ++ F) (shape wD fun v w' => ∃ x, v = r x ∧ sat W (B x ++ F) w')) : Cn P f args W A r B :=
 ⟨hc, fun F w hw => (hs (h F w hw)).mono fun e w' he => by
  cases e with
  | returned v => obtain ⟨x, rfl, h2⟩ := he; exact ⟨x, rfl, h2⟩
  | panicked ch => exact he.elim
  | outgrown => exact he.elim⟩
theorem qG {f:FuncId}{args:List Value}(hc:∀(a:Array Value) (w:World),(callFunc f a).run P w= .ok (.enter f a) w)(w:World):
  (bG (fn f) args).run P w= .ok (.enter f args.toArray) w:=by
 unfold bG fn Deferred.ofValue
 simp[invoke,hc]
inductive Picks:List HP->List HP->List HP->Prop
 |nil {L:List HP}:Picks L [] L
 |cons {L L' F A:List HP} {a:HP} (p:Pick L a L') (h:Picks L' A F):Picks L (a::A) F
theorem Picks.sat {A F:List HP}(p:Picks L A F){w:World}(h:Sl.sat W L w):Sl.sat W (A++F) w:=by
 have:∀h,Sl.all L W h->Sl.all (A++F) W h:=by
  clear h w
  induction p with
  |nil=>exact fun _ h=>h
  |cons p _ ih=>exact fun h H=>em ih (p.all H)
 exact h.map this
theorem ah {α:Type} {f:FuncId} {args:List Value} {A F:List HP} {r:α->Value} {B:α->List HP} (hf:Cn P f args W A r B) (p:Picks L A F)
  (h:∀x,aJ W (B x++F) (k (r x))):aJ W L (opN P (bG (fn f) args) Kp k):=fun w hw=>by
 refine⟨?_⟩
 rw[qG hf.call]
 refine(hf.run F w (p.sat hw)).mono fun e w' ⟨x,he,hs⟩=>?_
 subst he
 exact h x w' hs
theorem bK {α:Type}{r:α->Value}{M:α->List HP}{v:Value}(x:α)(hv:v=r x)(i:Imp W L (M x)):aJ W L (fun w'=>∃x,v=r x/\sat W (M x) w'):=fun w hw=>⟨x,hv,i.sat hw⟩
theorem ip {α:Type}{M:α->List HP}(x:α)(i:Imp W L (M x)):aJ W L (fun w'=>∃x:α,True/\sat W (M x) w'):=fun w hw=>⟨x,trivial,i.sat hw⟩

theorem lJ {body:(Nat->WP)->Nat->List Value->WP}(J:Nat->List HP)(m:Nat)(i:Imp W L (J m))(h:∀m ds,aJ W (J m) (body (fun m w=>sat W (J m) w) m ds)):aJ W L (zR body):=fun w hw=>
 ⟨fun m w=>sat W (J m) w,⟨m,i.sat hw⟩,fun m ds w' hw'=>h m ds w' hw'⟩
theorem aY {body:(Nat->Value->WP)->Nat->List Value->Value->WP}{a:Value}(J:Nat->Value->List HP)(m:Nat)(i:Imp W L (J m a))(h:∀m ds x,aJ W (J m x) (body (fun m x w=>sat W (J m x) w) m ds x)):aJ W L (qF body a):=fun w hw=>
 ⟨fun m x w=>sat W (J m x) w,⟨m,i.sat hw⟩,fun m ds x w' hw'=>h m ds x w' hw'⟩
theorem cp {body:(Nat->Value->Value->WP)->Nat->List Value->Value->Value->WP}{a b:Value}(J:Nat->Value->Value->List HP)(m:Nat)(i:Imp W L (J m a b))(h:∀m ds x y,aJ W (J m x y) (body (fun m x y w=>sat W (J m x y) w) m ds x y)):aJ W L (oU body a b):=fun w hw=>
 ⟨fun m x y w=>sat W (J m x y) w,⟨m,i.sat hw⟩,fun m ds x y w' hw'=>h m ds x y w' hw'⟩
theorem gC {body:(Nat->Value->Value->Value->WP)->Nat->List Value->Value->Value->Value->WP}{a b c:Value}(J:Nat->Value->Value->Value->List HP)(m:Nat)(i:Imp W L (J m a b c))(h:∀m ds x y z,aJ W (J m x y z) (body (fun m x y z w=>sat W (J m x y z) w) m ds x y z)):aJ W L (zU body a b c):=fun w hw=>
 ⟨fun m x y z w=>sat W (J m x y z) w,⟨m,i.sat hw⟩,fun m ds x y z w' hw'=>h m ds x y z w' hw'⟩
theorem n9 {J:Nat->List HP}{m:Nat}(m':Nat)(hm:m'<m)(i:Imp W L (J m')):aJ W L (zS (fun m w=>sat W (J m) w) m):=fun w hw=>⟨m',hm,i.sat hw⟩
theorem aZ {J:Nat->Value->List HP}{m:Nat}{a:Value}(m':Nat)(hm:m'<m)(i:Imp W L (J m' a)):aJ W L (lI (fun m x w=>sat W (J m x) w) m a):=fun w hw=>⟨m',hm,i.sat hw⟩
theorem bI {J:Nat->Value->Value->List HP}{m:Nat}{a b:Value}(m':Nat)(hm:m'<m)(i:Imp W L (J m' a b)):aJ W L (oV (fun m x y w=>sat W (J m x y) w) m a b):=fun w hw=>⟨m',hm,i.sat hw⟩
theorem cC {J:Nat->Value->Value->Value->List HP}{m:Nat}{a b c:Value}(m':Nat)(hm:m'<m)(i:Imp W L (J m' a b c)):aJ W L (zV (fun m x y z w=>sat W (J m x y z) w) m a b c):=fun w hw=>⟨m',hm,i.sat hw⟩
theorem rR {body:WP->WP}{rest:List Value->WP}(J:List HP)(hr:∀ds,aJ W J (rest ds))(hb:aJ W L (body fun w=>sat W J w)):aJ W L (vj body rest):=fun w hw=>⟨fun w=>sat W J w,fun ds w' hw'=>hr ds w' hw',hb w hw⟩
theorem dK {body:(Value->WP)->WP}{rest:List Value->Value->WP}(J:Value->List HP)(hr:∀ds x,aJ W (J x) (rest ds x))(hb:aJ W L (body fun x w=>sat W (J x) w)):aJ W L (rQ body rest):=fun w hw=>⟨fun x w=>sat W (J x) w,fun ds x w' hw'=>hr ds x w' hw',hb w hw⟩
theorem fJ {body:(Value->Value->WP)->WP}{rest:List Value->Value->Value->WP}(J:Value->Value->List HP)(hr:∀ds x y,aJ W (J x y) (rest ds x y))(hb:aJ W L (body fun x y w=>sat W (J x y) w)):aJ W L (oT body rest):=fun w hw=>⟨fun x y w=>sat W (J x y) w,fun ds x y w' hw'=>hr ds x y w' hw',hb w hw⟩
theorem dP {body:WP->WP}{rest:List Value->WP}(hb:aJ W L (body fun w=>∀ds,rest ds w)):aJ W L (vj body rest):=fun w hw=>⟨fun w=>∀ds,rest ds w,fun ds w' hw'=>hw' ds,hb w hw⟩
theorem fS {body:(Value->WP)->WP}{rest:List Value->Value->WP}(hb:aJ W L (body fun x w=>∀ds,rest ds x w)):aJ W L (rQ body rest):=fun w hw=>⟨fun x w=>∀ds,rest ds x w,fun ds x w' hw'=>hw' ds,hb w hw⟩
theorem n_ {body:(Value->Value->WP)->WP}{rest:List Value->Value->Value->WP}(hb:aJ W L (body fun x y w=>∀ds,rest ds x y w)):aJ W L (oT body rest):=fun w hw=>⟨fun x y w=>∀ds,rest ds x y w,fun ds x y w' hw'=>hw' ds,hb w hw⟩
theorem i6 {R:List Value->WP}(h:∀ds,aJ W L (R ds)):aJ W L (fun w=>∀ds,R ds w):=fun w hw ds=>h ds w hw
theorem aN {M:List HP}(i:Imp W L M):aJ W L (fun w=>sat W M w):=fun w hw=>i.sat hw
end Go.Proofs.YtdjkdjepjahjfaaGreatDoor.Sl
namespace Go.Proofs.YtdjkdjepjahjfaaGreatDoor.Sl
open Go Go.RowKit Sh
variable {P:Program} {W:World} {L L' L'':List HP} {Kp:PK} {k:Value->WP}

theorem Kb {n:Int}(h1: -9223372036854775808<=n)(h2:n<=9223372036854775807):IntKind.i64.wrap n=n:=IntWalk.i64_in n ⟨h1,h2⟩
theorem g9 {t:TypeId}{a b:Int}(h1: -9223372036854775808<=a+b)(h2:a+b<=9223372036854775807):aQ P W [] (a_ .add t (.int .i64 a) (.int .i64 b)) (.int .i64 (a+b)):=fun w _=>by
 simp[a_,sv,eqGuard,binOp,Op.intArith,Kb h1 h2]
theorem hO {t:TypeId}{a b:Int}(h1: -9223372036854775808<=a-b)(h2:a-b<=9223372036854775807):aQ P W [] (a_ .sub t (.int .i64 a) (.int .i64 b)) (.int .i64 (a-b)):=fun w _=>by
 simp[a_,sv,eqGuard,binOp,Op.intArith,Kb h1 h2]
theorem tq {t:TypeId}{a b:Int}(h1: -9223372036854775808<=a * b)(h2:a * b<=9223372036854775807):aQ P W [] (a_ .mul t (.int .i64 a) (.int .i64 b)) (.int .i64 (a * b)):=fun w _=>by
 simp[a_,sv,eqGuard,binOp,Op.intArith,Kb h1 h2]
theorem vk {t:TypeId}{q:IntKind}{a b:Int}:aQ P W [] (a_ .add t (.int q a) (.int q b)) (.int q (q.wrap (a+b))):=fun w _=>by
 simp[a_,sv,eqGuard,binOp,Op.intArith]
theorem vm {t:TypeId}{q:IntKind}{a b:Int}:aQ P W [] (a_ .sub t (.int q a) (.int q b)) (.int q (q.wrap (a-b))):=fun w _=>by
 simp[a_,sv,eqGuard,binOp,Op.intArith]
theorem zY {t:TypeId}{q:IntKind}{a b:Int}:aQ P W [] (a_ .mul t (.int q a) (.int q b)) (.int q (q.wrap (a * b))):=fun w _=>by
 simp[a_,sv,eqGuard,binOp,Op.intArith]
theorem MS {t:TypeId}{a b:Int}(ha:0<=a)(hb:0<b)(h2:a<=9223372036854775807):aQ P W [] (a_ .quo t (.int .i64 a) (.int .i64 b)) (.int .i64 (a / b)):=fun w _=>by
 have h0:¬b=0:=by omega
 have e:a.tdiv b=a / b:=Int.tdiv_eq_ediv_of_nonneg ha
 have l1:0<=a / b:=Int.ediv_nonneg ha (by omega)
 have l2:a / b<=a:=Int.ediv_le_self b ha
 simp[a_,sv,eqGuard,binOp,Op.intDiv,h0,e,Kb (n:=a / b) (by omega) (by omega)]
theorem tu {t:TypeId}{q:IntKind}{a b:Int}(ha:0<=a)(hb:0<b):aQ P W [] (a_ .rem t (.int q a) (.int q b)) (.int q (a%b)):=fun w _=>by
 have h0:¬b=0:=by omega
 have e:a.tmod b=a%b:=Int.tmod_eq_emod_of_nonneg ha
 simp[a_,sv,eqGuard,binOp,Op.intDiv,h0,e]
theorem kZ {t:TypeId}{q:IntKind}{a b:Int}(hb:b≠0):aQ P W [] (a_ .rem t (.int q a) (.int q b)) (.int q (a.tmod b)):=fun w _=>by
 simp[a_,sv,eqGuard,binOp,Op.intDiv,hb]
theorem MT {t:TypeId}{q r:IntKind}{a b:Int}(hb:0<=b):aQ P W [] (a_ .shl t (.int q a) (.int r b)) (.int q (q.wrap (a * 2^(min b.toNat q.bits)))):=fun w _=>by
 have h0:¬b<0:=by omega
 simp[a_,sv,eqGuard,binOp,Op.shift,h0]
theorem FP {t:TypeId}{q r:IntKind}{a b:Int}(hb:0<=b):aQ P W [] (a_ .shr t (.int q a) (.int r b)) (.int q (a.fdiv (2^(min b.toNat q.bits)))):=fun w _=>by
 have h0:¬b<0:=by omega
 simp[a_,sv,eqGuard,binOp,Op.shift,h0]
def h_ (o:BinOp)(q:IntKind)(a b:Int):Int:=
 let x:=BitVec.ofInt q.bits a
 let y:=BitVec.ofInt q.bits b
 q.wrap (match o with| .and=>x &&& y| .or=>x ||| y| .xor=>x ^^^ y|_=>x &&& ~~~y:BitVec q.bits).toNat
theorem FQ {t:TypeId}{q:IntKind}{a b:Int}:aQ P W [] (a_ .and t (.int q a) (.int q b)) (.int q (h_ .and q a b)):=fun w _=>by
 simp[a_,sv,eqGuard,binOp,Op.intBits,h_]
theorem Hi {t:TypeId}{q:IntKind}{a b:Int}:aQ P W [] (a_ .or t (.int q a) (.int q b)) (.int q (h_ .or q a b)):=fun w _=>by
 simp[a_,sv,eqGuard,binOp,Op.intBits,h_]
theorem bD {t:TypeId}{q:IntKind}{a b:Int}:aQ P W [] (a_ .lss t (.int q a) (.int q b)) (.bool (decide (a<b))):=fun w _=>by
 simp[a_,sv,eqGuard,binOp,Op.intCmp]
theorem iF {t:TypeId}{q:IntKind}{a b:Int}:aQ P W [] (a_ .leq t (.int q a) (.int q b)) (.bool (decide (a<=b))):=fun w _=>by
 simp[a_,sv,eqGuard,binOp,Op.intCmp]
theorem eu {t:TypeId}{q:IntKind}{a b:Int}:aQ P W [] (a_ .gtr t (.int q a) (.int q b)) (.bool (decide (b<a))):=fun w _=>by
 simp[a_,sv,eqGuard,binOp,Op.intCmp]
theorem dt {t:TypeId}{q:IntKind}{a b:Int}:aQ P W [] (a_ .geq t (.int q a) (.int q b)) (.bool (decide (b<=a))):=fun w _=>by
 simp[a_,sv,eqGuard,binOp,Op.intCmp]
theorem cH {t:TypeId}{ox oy:Operand}{q:IntKind}{a b:Int}:aQ P W [] (dY .eql t ox oy (.int q a) (.int q b)) (.bool (decide (a=b))):=fun w _=>by
 simp[dY,sv,eqGuard,binOp,Op.intCmp]
 by_cases h:a=b <;> simp[h]
theorem oX {t:TypeId}{ox oy:Operand}{q:IntKind}{a b:Int}:aQ P W [] (dY .neq t ox oy (.int q a) (.int q b)) (.bool (decide (a≠b))):=fun w _=>by
 simp[dY,sv,eqGuard,binOp,Op.intCmp]
 by_cases h:a=b <;> simp[h]
theorem fx {b:Bool}:aQ P W [] (zu .not (.bool b)) (.bool (!b)):=fun w _=>by simp[zu,Op.unary]
theorem bB:aQ P W [] (zu .not (.bool true)) (.bool false):=fx
theorem cL:aQ P W [] (zu .not (.bool false)) (.bool true):=fx
theorem qH {ts:Array TypeId}{t:TypeId}{q r:IntKind}{a b:Int}:aQ P W [] (Hf ts t [.int q a,.int r b]) (.int q (if b<a then b else a)):=fun w _=>by
 simp[Hf,Builtin.min_,Builtin.min2]
theorem tw {ts:Array TypeId}{t:TypeId}{q r:IntKind}{a b:Int}:aQ P W [] (Hg ts t [.int q a,.int r b]) (.int q (if a<b then b else a)):=fun w _=>by
 simp[Hg,Builtin.max_,Builtin.max2]
theorem av {a b:Value}:aQ P W [] (d_ (.bool true) a b) a:=fun w _=>by simp[d_,execOp,asBool]
theorem ak {a b:Value}:aQ P W [] (d_ (.bool false) a b) b:=fun w _=>by simp[d_,execOp,asBool]
theorem MU {vs:Array Value}{i:Nat}{v:Value}(h:vs[i]? =some v):aQ P W [] (kY (.tuple vs) i) v:=fun w _=>by
 simp[kY,Instr.extract,h]
class IntT (P:Program)(t:TypeId)(q:outParam IntKind):Prop where
 run:∀w,(underlying t).run P w= .ok (.int q) w
theorem eN {s t:TypeId}{p q r:IntKind}{n:Int}[hs:IntT P s p][ht:IntT P t q]:aQ P W [] (ei s t (.int r n)) (.int q (q.wrap n)):=fun w _=>by
 simp[ei,convert,hs.run,ht.run,Conv.intToInt]
theorem bz {A:List HP}{s:Sem Next}{φ:Prop}[Decidable φ](hr:aQ P W A s (.bool (decide φ)))(i:Imp W L A)(ht:φ->aJ W L (k (.bool true)))(hf:¬φ->aJ W L (k (.bool false))):aJ W L (opN P s Kp k):=by
 refine aE hr i ?_
 by_cases h:φ
 ·rw[dT_ h];exact ht h
 ·rw[dF_ h];exact hf h
theorem zZ {A:List HP}{s:Sem Next}{φ:Prop}[Decidable φ](hr:aQ P W A s (.bool (decide φ)))(i:Imp W L A)(ht:φ->aJ W L (k (.bool true)))(hf:¬φ->aJ W L (k (.bool false))):aJ W L (stS P s k):=by
 refine be hr i ?_
 by_cases h:φ
 ·rw[dT_ h];exact ht h
 ·rw[dF_ h];exact hf h
class OC (a:Value):Prop where
 one:a.oneCell'=true
instance {q:IntKind}{n:Int}:OC (.int q n):=⟨rfl⟩
instance {b:Bool}:OC (.bool b):=⟨rfl⟩
instance {s:ByteArray}:OC (.string s):=⟨rfl⟩
instance {a:Option Addr}:OC (.pointer a):=⟨rfl⟩
instance {a:Option Addr}{n c:Nat}:OC (.slice a n c):=⟨rfl⟩
instance {m:Option Nat}:OC (.map m):=⟨rfl⟩
instance {f:Fn}{a b:Array Value}:OC (.func f a b):=⟨rfl⟩
instance {t:TypeId}{v:Value}:OC (.iface t v):=⟨rfl⟩
class RV (P:Program)(s:Sem Next)(v:outParam Value):Prop where
 run:∀W,aQ P W [] s v
theorem bO {s:Sem Next}{v:Value}[h:RV P s v]:aQ P W [] s v:=h.run W
theorem aL {cs:Array Value}:(Value.agg cs).cells=cs:=rfl
theorem ao {a:Value}(h:a.oneCell'=true):a.cells= #[a]:=by cases a <;> first|rfl|cases h

theorem ag {a:Addr}:aQ P W [] (cT (.pointer (some a))) (.pointer (some a)):=fun w _=>by simp[cT,execOp]
class PtrT (P:Program)(t:TypeId):Prop where
 ex:P.underlying t=some (.pointer (P.pointee t))
theorem rS {t:TypeId}{ox oy:Operand}{p:Option Addr}[ht:PtrT P t]:aQ P W [] (dY .eql t ox oy (.pointer p) (.pointer none)) (.bool p.isNone):=fun w _=>by
 simp[dY,sv,eqGuard,run_eql_pointer_nil w t p ht.ex]
theorem wE {t:TypeId}{ox oy:Operand}{p:Option Addr}[ht:PtrT P t]:aQ P W [] (dY .neq t ox oy (.pointer p) (.pointer none)) (.bool (!p.isNone)):=fun w _=>by
 simp[dY,sv,eqGuard,run_neq_pointer_nil w t p ht.ex]
theorem iG {t:TypeId}{ox oy:Operand}[ht:PtrT P t]:aQ P W [] (dY .eql t ox oy (.pointer none) (.pointer none)) (.bool true):=rS
theorem bM {t:TypeId}{ox oy:Operand}{a:Addr}[ht:PtrT P t]:aQ P W [] (dY .eql t ox oy (.pointer (some a)) (.pointer none)) (.bool false):=rS
theorem iH {t:TypeId}{ox oy:Operand}[ht:PtrT P t]:aQ P W [] (dY .neq t ox oy (.pointer none) (.pointer none)) (.bool false):=wE
theorem oY {t:TypeId}{ox oy:Operand}{a:Addr}[ht:PtrT P t]:aQ P W [] (dY .neq t ox oy (.pointer (some a)) (.pointer none)) (.bool true):=wE
class FldT (P:Program)(t:TypeId)(f:Nat)(o:outParam Nat):Prop where
 run:∀(g b:Nat) (w:World),(Instr.fieldAt t (.pointer (some ⟨g,b,none⟩)) f).run P w= .ok (.pointer (some ⟨g,b+o,none⟩)) w
theorem dm {t:TypeId}{f o g b:Nat}[h:FldT P t f o]:aQ P W [] (fI t (.pointer (some ⟨g,b,none⟩)) f) (.pointer (some ⟨g,b+o,none⟩)):=fun w _=>by
 simp[fI,h.run]
theorem ae {t:TypeId}{f o g:Nat}[h:FldT P t f o]:aQ P W [] (fI t (.pointer (some ⟨g,0,none⟩)) f) (.pointer (some ⟨g,o,none⟩)):=fun w _=>by
 simp[fI,h.run]
inductive Nth:List Value->Nat->Value->Prop
 |here {v:Value} {l:List Value}:Nth (v::l) 0 v
 |there {u v:Value} {l:List Value} {n:Nat} (h:Nth l n v):Nth (u::l) (n+1) v
theorem Nth.get {l:List Value}{n:Nat}{v:Value}(h:Nth l n v):l.toArray[n]? =some v:=by
 induction h with
 |here=>simp
 |there _ ih=>simpa using ih
inductive Put:List Value->Nat->Value->List Value->Prop
 |here {u v:Value} {l:List Value}:Put (u::l) 0 v (v::l)
 |there {u v:Value} {l l':List Value} {n:Nat} (h:Put l n v l'):Put (u::l) (n+1) v (u::l')
theorem Put.set {l l':List Value}{n:Nat}{v:Value}(h:Put l n v l'):l.toArray.setIfInBounds n v=l'.toArray/\n<l.length:=by
 induction h with
 |here=>simp
 |there _ ih=>obtain⟨h1,h2⟩:=ih;simp at h1 ⊢;exact⟨h1,h2⟩
class OneT (P:Program)(t:TypeId):Prop where
 agg:∀w,(isAgg t).run P w= .ok false w
 size:∀w,(sizeOf t).run P w= .ok 1 w
theorem iI {t:TypeId}{g o:Nat}{cs:Array Value}{T:TypeId}{fz:Nat × Nat}{v:Value}[ht:OneT P t](hc:cs[o]? =some v):aQ P W [pt g (.cells cs T fz)] (aG t (.pointer (some ⟨g,o,none⟩))) v:=fun w hw=>by
 have h:w.cell? ⟨g,o,none⟩=some v:=by rw[hw.cell,hc]
 simp[aG,Instr.loadAt,Instr.sureAddr,loadVar,ht.agg,h]
theorem aS {t:TypeId}{g o:Nat}{cs:List Value}{T:TypeId}{fz:Nat × Nat}{v:Value}[ht:OneT P t](hc:Nth cs o v):aQ P W [pt g (.cells cs.toArray T fz)] (aG t (.pointer (some ⟨g,o,none⟩))) v:=iI hc.get
theorem qj {t:TypeId} {g o:Nat} {cs:Array Value} {T:TypeId} {v:Value} [ht:OneT P t] [hv:OC v] (p:Pick L (pt g (.cells cs T (0,0))) L') (ho:o<cs.size)
  (h:aJ W (pt g (.cells (cs.setIfInBounds o v) T (0,0))::L') (k undef)):aJ W L (opN P (aM t (.pointer (some ⟨g,o,none⟩)) v) Kp k):=fun w hw=>by
 have hw':=hw.pick p
 have hc:w.cell? ⟨g,o,none⟩=some cs[o]:=by rw[hw'.cell,Array.getElem?_eq_getElem ho]
 have hf:=hw'.free (o:=o)
 have hcells:v.cells= #[v]:=by exact ao hv.one
 refine⟨?_⟩
 have hr:(aM t (.pointer (some ⟨g,o,none⟩)) v).run P w= .ok .skip (w.setCell ⟨g,o,none⟩ v):=by
  simp[aM,Instr.storeAt,Instr.sureAddr,storeVar,ht.size,hcells,storeCells,Addr.add,run_store,hv.one,hc,hf]
 rw[hr]
 exact h _ (hw'.setCell v)
theorem iJ {t:TypeId} {g o:Nat} {cs cs':List Value} {T:TypeId} {v:Value} [ht:OneT P t] (p:Pick L (pt g (.cells cs.toArray T (0,0))) L') (ho:Put cs o v cs') [hv:OC v]
  (h:aJ W (pt g (.cells cs'.toArray T (0,0))::L') (k undef)):aJ W L (opN P (aM t (.pointer (some ⟨g,o,none⟩)) v) Kp k):=by
 refine qj p (by simpa using ho.set.2) ?_
 rw[ho.set.1];exact h
theorem bU {vs:List Value}{i:Nat}{v:Value}(h:Nth vs i v):aQ P W [] (kY (.tuple vs.toArray) i) v:=MU h.get
end Go.Proofs.YtdjkdjepjahjfaaGreatDoor.Sl
namespace Go.Proofs.YtdjkdjepjahjfaaGreatDoor.Sl
open Go Go.RowKit Sh
variable {P:Program} {W:World} {L L':List HP} {Kp:PK} {k:Value->WP}
structure CnP {α β:Type}(P:Program)(f:FuncId)(args:List Value)(W:World)(A:List HP)(r:α->Value)(B:α->List HP)(pc:β->List PanicEntry)(Bp:β->List HP):Prop where
 call:∀(a:Array Value) (w:World),(callFunc f a).run P w= .ok (.enter f a) w
 run:∀(F:List HP) (w:World),sat W (A++F) w->Calls P f args.toArray w (fun e w'=>(∃x,e= .returned (r x)/\sat W (B x++F) w')\/∃y,e= .panicked (pc y)/\sat W (Bp y++F) w')
theorem CnP.of {α β : Type} {f : FuncId} {args : List Value} {A : List HP} {r : α → Value} {B : α → List HP} {pc : β → List PanicEntry} {Bp : β → List HP} {shape : PK → (Value → WP) → WP}
  (hc : ∀ (a : Array Value) (w : World), (callFunc f a).run P w = .ok (.enter f a) w)
  (hs : ∀ {Kp : PK} {K : Value → WP} {w : World}, shape Kp K w → Calls P f args.toArray w (after Kp K))
  (h : ∀ F, aJ W (A ++ F) (shape (fun ch w' => ∃ y, ch = pc y ∧ sat W (Bp y ++ F) w') fun v w' => ∃ x, v = r x ∧ sat W (B x ++ F) w')) : CnP P f args W A r B pc Bp :=
 ⟨hc, fun F w hw => (hs (h F w hw)).mono fun e w' he => by
  cases e with
  | returned v => obtain ⟨x, rfl, h2⟩ := he; exact .inl ⟨x, rfl, h2⟩
  | panicked ch => obtain ⟨y, rfl, h2⟩ := he; exact .inr ⟨y, rfl, h2⟩
  | outgrown => exact he.elim⟩
theorem wF {α β:Type} {f:FuncId} {args:List Value} {A F:List HP} {r:α->Value} {B:α->List HP} {pc:β->List PanicEntry} {Bp:β->List HP} (hf:CnP P f args W A r B pc Bp) (p:Picks L A F)
  (h:∀x,aJ W (B x++F) (k (r x))) (hp:∀y,aJ W (Bp y++F) (Kp (pc y))):aJ W L (opN P (bG (fn f) args) Kp k):=fun w hw=>by
 refine⟨?_⟩
 rw[qG hf.call]
 refine(hf.run F w (p.sat hw)).mono fun e w' he=>?_
 rcases he with ⟨x,he,hs⟩|⟨y,he,hs⟩
 ·subst he;exact h x w' hs
 ·subst he;exact hp y w' hs
def pe (v:Value):List PanicEntry:=[{v,recovered:=false}]
theorem Dy {t:TypeId}{x:Value}(h:aJ W L (Kp (pe (.iface t x)))):aJ W L (opN P (oS (.iface t x)) Kp k):=fun w hw=>by
 refine⟨?_⟩
 have:(oS (.iface t x)).run P w= .halt (.panic (.iface t x)) w:=by simp[oS,Instr.panic,goPanic]
 rw[this]
 exact h w hw
theorem wG {t:TypeId}{v:Value}{q:IntKind}[ht:IntT P t q]:aQ P W [] (nM t v) (.iface t v):=fun w _=>by
 simp[nM,Instr.makeInterface,ht.run]
theorem z8 {β:Type}{pc:β->List PanicEntry}{M:β->List HP}{ch:List PanicEntry}(y:β)(hv:ch=pc y)(i:Imp W L (M y)):aJ W L (fun w'=>∃y,ch=pc y/\sat W (M y) w'):=fun w hw=>⟨y,hv,i.sat hw⟩
theorem bC {f:FuncId}{bs cs:List Value}:aQ P W [] (nN (.func f) bs cs) (.func (.func f) bs.toArray cs.toArray):=fun w _=>by
 simp[nN,Instr.makeFunc]
theorem k7 {fn:Fn}{a b:Array Value}{args:List Value}{kd:Deferred->WP}(h:aJ W L (kd {target:= .fn fn b,args:=a++args.toArray})):aJ W L (opDf (.func fn a b) args kd):=fun w hw=>⟨fn,a,b,rfl,h w hw⟩
theorem tz {f : FuncId} {A : List Value} {d : Deferred} {u : FrameMode} {Kret : WP} {Kq : PK} {shape : Value → PK → (Value → WP) → WP} (hu : u ≠ .run) (ht : ∃ fv cap, d.target = .fn fv cap)
  (hinv : ∀ w, (invoke d.target d.args).run P w = .ok (.enter f A.toArray) w)
  (hs : ∀ {Kp' : PK} {K : Value → WP} {w : World}, shape (dZ u).1 Kp' K w → CallsD P f A.toArray u w fun
   | .returned v, u', w' => u' = (dZ u).2 ∧ K v w'
   | .panicked ch, u', w' => u' = (dZ u).2 ∧ Kp' ch w'
   | .outgrown, _, _ => False)
  (h : aJ W L (shape (dZ u).1 (fun ch => Hb Kret Kq (raised (dZ u).2 ch)) fun _ => Hb Kret Kq (settle (dZ u).2))) : aJ W L (dfS P d u Kret Kq) := fun w hw => by
 obtain ⟨fv, cap, ht⟩ := ht
 refine ⟨hu, fv, cap, f, A.toArray, ht, hinv w, (hs (h w hw)).mono fun e u' w' he => ?_⟩
 cases e with
 | returned v => obtain ⟨rfl, h2⟩ := he; exact h2
 | panicked ch => obtain ⟨rfl, h2⟩ := he; exact h2
 | outgrown => exact he.elim
theorem rT {Kret:WP}{Kq:PK}:Hb Kret Kq (settle (dZ .returning).2)=Kret:=rfl
theorem Hj {Kret:WP}{Kq:PK}{v:Value}:Hb Kret Kq (settle (dZ (.panicking (pe v))).2)=Kret:=rfl
theorem oe:(dZ .returning).1= .nilIface:=rfl
theorem Dz {v:Value}:(dZ (.panicking (pe v))).1=v:=rfl
theorem fX {f:FuncId}{cs bs:List Value}(hc:∀(a:Array Value) (w:World),(callFunc f a).run P w= .ok (.enter f a) w)(w:World):(invoke (.fn (.func f) cs.toArray) bs.toArray).run P w= .ok (.enter f (bs++cs).toArray) w:=by
 simp[invoke,hc]
end Go.Proofs.YtdjkdjepjahjfaaGreatDoor.Sl
namespace Go.Proofs.YtdjkdjepjahjfaaGreatDoor.Sl
open Go Go.RowKit Sh
variable {P:Program} {W:World} {L L':List HP} {Kp:PK} {k:Value->WP}
theorem vn {f:FuncId}{cap:Array Value}{args:List Value}(hc:∀(a:Array Value) (w:World),(callFunc f a).run P w= .ok (.enter f a) w)(w:World):
  (bG (.func (.func f) #[] cap) args).run P w= .ok (.enter f (args.toArray++cap)) w:=by
 unfold bG Deferred.ofValue
 simp[invoke,hc]
theorem bt {α:Type} {f:FuncId} {args cap:List Value} {A F:List HP} {r:α->Value} {B:α->List HP} (hf:Cn P f (args++cap) W A r B) (p:Picks L A F)
  (h:∀x,aJ W (B x++F) (k (r x))):aJ W L (opN P (bG (.func (.func f) #[] cap.toArray) args) Kp k):=fun w hw=>by
 refine⟨?_⟩
 rw[vn hf.call,show args.toArray++cap.toArray=(args++cap).toArray by simp]
 refine(hf.run F w (p.sat hw)).mono fun e w' ⟨x,he,hs⟩=>?_
 subst he
 exact h x w' hs
def jJ (P:Program)(l:Nat)(xs:List (List Value))(I:Nat->HP)(Ix:HP)(W:World):Prop:=
 ∀i (hi:i<xs.length) (F:List HP) (w:World),sat W (I i::F) w->zM P l xs[i] w fun e w'=>
  (e= .returned (.bool true)/\sat W (I (i+1)::F) w')\/(e= .returned (.bool false)/\sat W (Ix::F) w')
def yv (l:Nat):Value:= .func (.yield l) #[] #[]
theorem ia {l:Nat} {xs:List (List Value)} {I:Nat->HP} {Ix:HP} {args:List Value} (hy:jJ P l xs I Ix W) (i:Nat) (hi:xs[i]? =some args) (p:Pick L (I i) L')
  (ht:aJ W (I (i+1)::L') (k (.bool true))) (hf:aJ W (Ix::L') (k (.bool false))):aJ W L (opN P (bG (yv l) args) Kp k):=fun w hw=>by
 have hlt:i<xs.length:=by
  rcases Nat.lt_or_ge i xs.length with c|c
  ·exact c
  ·rw[List.getElem?_eq_none c]at hi;cases hi
 have he:xs[i]=args:=by rw[List.getElem?_eq_getElem hlt]at hi;exact Option.some.inj hi
 obtain⟨fn,tmps,assign,body,hr,hR⟩:=hy i hlt L' w (hw.pick p)
 rw[he]at hr
 refine⟨?_⟩
 have:(bG (yv l) args).run P w= .ok (.round l fn tmps assign body) w:=by
  unfold bG yv Deferred.ofValue
  simp[invoke,hr]
 rw[this]
 refine hR.mono fun e w' he=>?_
 rcases he with ⟨rfl,hs⟩|⟨rfl,hs⟩
 ·exact ht w' hs
 ·exact hf w' hs
theorem sat.putO {w:World}{g:Nat}{o o':Obj}(H:sat W (pt g o::L) w):sat W (pt g o'::L) (w.putObj g o'):=by
 have hg:=H.pt_.1
 have hlt:g<w.heap.size:=(Array.getElem?_eq_some_iff.1 hg).1
 exact H.turn rfl rfl rfl (by simp) (World.putObj_heap_same hlt) (fun i hi=>World.putObj_heap_other hi)
theorem rU {d:Nat}{S:WP}(p:Pick L (pt d (.deferred (some []))) L')(h:aJ W L' S):aJ W L (tkS d S):=fun w hw=>by
 have hw':=hw.pick p
 exact⟨hw'.pt_.1,h _ (hw'.putO (o':= .deferred none)).drop⟩
theorem z_ {fv : Value} {f : FuncId} {cap : List Value} {np : Nat} {rnd : VF np ((WP → WP) → WP → WP → WP)} {Kn Kj : Nat → WP} {Kq : Nat → PK} (xs : List (List Value)) (I : Nat → HP) (Ix : HP) (hf : fv = .func (.func f) #[] cap.toArray)
  (hxs : ∀ x ∈ xs, x.length = np) (hi : Imp W L [I 0])
  (hit : ∀ (l : Nat) (T T' : HP), jJ P l xs (fun i => all [T, I i]) (all [T', Ix]) W → Cn P f (yv l :: cap) W [all [T, I 0]] (fun _ : Bool => .tuple #[]) (fun b => [if b then all [T, I xs.length] else all [T', Ix]]))
  (hbody : ∀ i (hi : i < xs.length) (F : List HP) (T0 T1 : HP) (B : WP → WP) (N J : WP), (∀ L L' S, Pick L T0 L' → aJ W (T1 :: L') S → aJ W L (B S)) → (∀ L, Imp W L (T1 :: I (i + 1) :: F) → aJ W L N) → (∀ L, Imp W L (T1 :: Ix :: F) → aJ W L J) →
   aJ W (T0 :: I i :: F) (iB np rnd xs[i] B N J))
  (hn : ∀ d, aJ W [pt d (.deferred (some [])), I xs.length] (Kn d)) (hj : ∀ d, aJ W [pt d (.deferred (some [])), Ix] (Kj d)) : aJ W L (rfS P fv np rnd Kn Kj Kq) := fun w hw => by
 have hcall := (hit 0 (pu False) (pu False) (fun i hi F w hs => (by obtain ⟨h, ⟨h1, h2, ⟨h3, h4, hp, _⟩, _⟩, _⟩ := hs.heap; exact hp.elim))).call
 refine ⟨f, cap.toArray, hf, hcall, fun rec hrec => ?_⟩
 obtain ⟨l, hl⟩ : ∃ l, l = w.heap.size + 1 := ⟨_, rfl⟩
 have h0 : sat W [all [all [pt l (.loop (rec .ready none)), pt w.heap.size (.deferred (some []))], I 0]] ((w.alloc (.deferred (some []))).alloc (.loop (rec .ready none))) := by
  have := ((hi.sat hw).alloc (.deferred (some []))).alloc (.loop (rec .ready none))
  rw [World.size_alloc, ← hl] at this
  exact (Imp.all (N := [_, _]) (Imp.all (N := [_, _]) .refl)).sat this
 rw [← hl] at hrec ⊢
 have hy : jJ P l xs (fun i => all [all [pt l (.loop (rec .ready none)), pt w.heap.size (.deferred (some []))], I i]) (all [all [pt l (.loop (rec .done (some .ret))), pt w.heap.size (.deferred (some []))], Ix]) W := by
  intro i hi F w' hs
  have hs1 : sat W (pt l (.loop (rec .ready none)) :: pt w.heap.size (.deferred (some [])) :: I i :: F) w' :=
   hs.map fun h H => bZ (N := [_, _]) (M := I i :: F) (by
    have := bZ (N := [_, _]) (M := F) H
    exact this)
  refine hrec xs[i] w' _ (hxs _ (List.getElem_mem hi)) hs1.pt_.1 ?_
  refine hbody i hi F (all [pt l (.loop (rec .ready none)), pt w.heap.size (.deferred (some []))]) (all [pt l (.loop (rec .busy none)), pt w.heap.size (.deferred (some []))]) _ _ _ ?_ ?_ ?_ w' ?_
  ·intro L1 L2 S p hS w1 hw1
   have h1 : sat W (pt l (.loop (rec .ready none)) :: pt w.heap.size (.deferred (some [])) :: L2) w1 := sat.map (L := all [pt l (.loop (rec .ready none)), pt w.heap.size (.deferred (some []))] :: L2) (fun h H => bZ (N := [_, _]) H) (hw1.pick p)
   refine ⟨h1.pt_.1, hS _ ?_⟩
   exact (Imp.all (N := [_, _]) .refl).sat (h1.putO (o' := .loop (rec .busy none)))
  ·intro L1 i1 w1 hw1
   have h1 : sat W (pt l (.loop (rec .busy none)) :: pt w.heap.size (.deferred (some [])) :: I (i + 1) :: F) w1 := sat.map (L := all [pt l (.loop (rec .busy none)), pt w.heap.size (.deferred (some []))] :: I (i + 1) :: F) (fun h H => bZ (N := [_, _]) H) (i1.sat hw1)
   refine ⟨h1.pt_.1, .inl ⟨rfl, ?_⟩⟩
   exact (Imp.all (N := [_, _]) (Imp.all (N := [_, _]) .refl)).sat (h1.putO (o' := .loop (rec .ready none)))
  ·intro L1 i1 w1 hw1
   have h1 : sat W (pt l (.loop (rec .busy none)) :: pt w.heap.size (.deferred (some [])) :: Ix :: F) w1 := sat.map (L := all [pt l (.loop (rec .busy none)), pt w.heap.size (.deferred (some []))] :: Ix :: F) (fun h H => bZ (N := [_, _]) H) (i1.sat hw1)
   refine ⟨h1.pt_.1, .inr ⟨rfl, ?_⟩⟩
   exact (Imp.all (N := [_, _]) (Imp.all (N := [_, _]) .refl)).sat (h1.putO (o' := .loop (rec .done (some .ret))))
  ·exact (Imp.all (N := [_, _]) .refl).sat hs1
 have hc := (hit l _ _ hy).run [] _ (by simpa using h0)
 rw [show (yv l :: cap).toArray = #[.func (.yield l) #[] #[]] ++ cap.toArray by simp [yv]] at hc
 refine hc.mono fun e w' he => ?_
 obtain ⟨b, rfl, hs⟩ := he
 cases b with
 | true =>
  left
  have h1 : sat W (pt l (.loop (rec .ready none)) :: [pt w.heap.size (.deferred (some [])), I xs.length]) w' :=
   hs.map fun h H => bZ (N := [_, _]) (M := [I xs.length]) (by
    have := bZ (N := [_, _]) (M := []) H
    exact this)
  exact ⟨h1.pt_.1, hn _ _ (h1.putO (o' := .loop (rec .exhausted none))).drop⟩
 | false =>
  right
  have h1 : sat W (pt l (.loop (rec .done (some .ret))) :: [pt w.heap.size (.deferred (some [])), Ix]) w' :=
   hs.map fun h H => bZ (N := [_, _]) (M := [Ix]) (by
    have := bZ (N := [_, _]) (M := []) H
    exact this)
  exact ⟨h1.pt_.1, hj _ _ (h1.putO (o' := .loop (rec .exhausted (some .ret)))).drop⟩
theorem Aa {M:List HP}{S:WP}(h:aJ W (M++L) S):aJ W (L++M) S:=fun w hw=>by
 refine h w (hw.map fun f H=>bZ ?_)
 obtain⟨h1,h2,ha,hb,d,s1,s2⟩:=all_append H
 exact⟨h2,h1,hb,ha,fun i=>(d i).symm,s2,s1⟩
theorem i7 {M F:List HP}{S:WP}(i:Imp W L (M++[all F]))(h:aJ W (M++F) S):aJ W L S:=by
 refine bf i (Aa (L:=M) (M:=[all F]) ?_)
 refine aB (M:=F) (L':=M) .here (Aa h)
end Go.Proofs.YtdjkdjepjahjfaaGreatDoor.Sl
namespace Go.Proofs.YtdjkdjepjahjfaaGreatDoor.Sl
open Go Go.RowKit Sh
variable {P:Program} {W:World} {L L' L'':List HP} {Kp:PK} {k:Value->WP}
class SlT (P:Program)(t:TypeId)(e:outParam TypeId)(s bytes:outParam Nat):Prop where
 ut:P.underlying t=some (.slice e)
 info:∃i z,P.info? e=some i/\i.zero=some z/\i.size=s/\i.bytes=bytes/\z.cells.size=s
def Sl (s:Nat)(e:TypeId)(a:Option Addr)(cap n:Nat)(cs:List Value):HP:=fun _ h=>
 cs.length=n * s/\n<=cap/\cap<=maxLen/\((a=none/\cap=0)\/∃g rest,a=some ⟨g,0,none⟩/\rest.length=(cap-n) * s/\h g=some (.cells (cs++rest).toArray e (0,0)))
theorem Sl.nil (s:Nat)(e:TypeId)(W:World)(h:e8):Sl s e none 0 0 [] W h:=⟨by simp,Nat.le_refl _,by unfold maxLen;omega,.inl ⟨rfl,rfl⟩⟩
theorem bJ {s:Nat}{e:TypeId}{M:List HP}(h:Imp W L M):Imp W L (Sl s e none 0 0 []::M):= .conv (B:=pu True) (fun h _=>Sl.nil s e W h) (.pu trivial h)
theorem wH {s:Nat}{e:TypeId}{g n:Nat}{cs:List Value}{M:List HP}(p:Pick L (pt g (.cells cs.toArray e (0,0))) L')(hn:cs.length=n * s)(hm:n<=maxLen)(h:Imp W L' M):Imp W L (Sl s e (some ⟨g,0,none⟩) n n cs::M):=
 .conv (B:=pt g (.cells cs.toArray e (0,0))) (fun h hh=>⟨hn,Nat.le_refl _,hm,.inr ⟨g,[],rfl,by simp,by rw[List.append_nil];exact hh⟩⟩) (.pick p h)
theorem MV {s:Nat}{e:TypeId}{g n:Nat}{cs:List Value}{S:WP}(p:Pick L (pt g (.cells cs.toArray e (0,0))) L')(hn:cs.length=n * s)(hm:n<=maxLen)(h:aJ W (Sl s e (some ⟨g,0,none⟩) n n cs::L') S):aJ W L S:=
 mC p (fun h hh=>⟨hn,Nat.le_refl _,hm,.inr ⟨g,[],rfl,by simp,by rw[List.append_nil];exact hh⟩⟩) h
theorem aP {s:Nat} {e:TypeId} {a:Option Addr} {cap n:Nat} {cs:List Value} {S:WP} (p:Pick L (Sl s e a cap n cs) L')
  (h:cs.length=n * s->n<=cap->cap<=maxLen->(0<n->∃g,a=some ⟨g,0,none⟩)->aJ W L S):aJ W L S:=fun w hw=>by
 obtain⟨f,⟨h1,h2,h3,h4⟩,_⟩:=(hw.pick p).fst
 refine h h1 h2 h3 (fun hn=>?_) w hw
 rcases h4 with ⟨rfl,rfl⟩|⟨g,rest,rfl,_⟩
 ·omega
 ·exact⟨g,rfl⟩
theorem a9 {s:Nat} {e:TypeId} {a:Option Addr} {cap n:Nat} {cs:List Value} {S:WP} (p:Pick L (Sl s e a cap n cs) L') (hn:0<n)
  (h:∀g,a=some ⟨g,0,none⟩->aJ W L S):aJ W L S:=aP p fun _ _ _ h4=>by obtain⟨g,hg⟩:=h4 hn;exact h g hg
theorem i8 {s:Nat}{e:TypeId}{g cap n:Nat}{cs:List Value}{w:World}(H:sat W (Sl s e (some ⟨g,0,none⟩) cap n cs::L) w):
  ∃rest,rest.length=(cap-n) * s/\cs.length=n * s/\n<=cap/\cap<=maxLen/\sat W (pt g (.cells (cs++rest).toArray e (0,0))::L) w:=by
 obtain⟨f,⟨h1,h2,⟨l1,l2,l3,hd⟩,r⟩,b⟩:=H.heap
 rcases hd with ⟨c,_⟩|⟨g',rest,c,e1,e2⟩
 ·cases c
 ·injection c with c;injection c with c;subst c
  exact⟨rest,e1,l1,l2,l3,H.base,f,⟨h1,h2,e2,r⟩,b⟩
theorem oh {s:Nat} {e:TypeId} {g cap n:Nat} {cs rest:List Value} {w:World} (hr:rest.length=(cap-n) * s) (hc:cs.length=n * s) (hn:n<=cap) (hm:cap<=maxLen)
  (H:sat W (pt g (.cells (cs++rest).toArray e (0,0))::L) w):sat W (Sl s e (some ⟨g,0,none⟩) cap n cs::L) w:=by
 obtain⟨f,⟨h1,h2,ha,r⟩,b⟩:=H.heap
 exact⟨H.base,f,⟨h1,h2,⟨hc,hn,hm,.inr ⟨g,rest,rfl,hr,ha⟩⟩,r⟩,b⟩
theorem aI {t e ty:TypeId}{s b:Nat}{a:Option Addr}{n cap:Nat}[ht:SlT P t e s b]:aQ P W [] (gB #[t] ty [.slice a n cap]) (.int .i64 (n:Int)):=fun w _=>by
 simp[gB,Builtin.len_,run_underlying ht.ut,goInt]
theorem Hk {t ty:TypeId}{s:ByteArray}(ht:P.underlying t=some .string):aQ P W [] (gB #[t] ty [.string s]) (.int .i64 (s.size:Int)):=fun w _=>by
 simp[gB,Builtin.len_,run_underlying ht,goInt]
theorem dQ {e:TypeId}{i:TypeInfo}(h:P.info? e=some i)(w:World):(sizeOf e).run P w= .ok i.size w:=by
 simp[sizeOf,typeInfo,h]
theorem dR {t e:TypeId}{s b:Nat}{g o n cap:Nat}{q:IntKind}{i:Int}(j:Nat)[ht:SlT P t e s b](hi:i=(j:Int))(hlt:j<n):aQ P W [] (kL t (.slice (some ⟨g,o,none⟩) n cap) (.int q i)) (.pointer (some ⟨g,o+j * s,none⟩)):=fun w _=>by
 obtain⟨inf,z,h1,_,h3,_⟩:=ht.info
 subst hi
 have hl:(j:Int)<(n:Int):=by omega
 have hn:¬((n:Int)<=1/\False):=by simp
 simp[kL,Instr.indexAt,asIntOf,run_underlying ht.ut,dQ h1,h3,hlt,Addr.add]
theorem bq {t e:TypeId}{b:Nat}{g o n cap:Nat}{q:IntKind}{i:Int}(j:Nat)[ht:SlT P t e 1 b](hi:i=(j:Int))(hlt:j<n):aQ P W [] (kL t (.slice (some ⟨g,o,none⟩) n cap) (.int q i)) (.pointer (some ⟨g,o+j,none⟩)):=by
 have:=dR (P:=P) (W:=W) (g:=g) (o:=o) (cap:=cap) (q:=q) (t:=t) j hi hlt
 rwa [Nat.mul_one]at this
theorem bw {t e:TypeId}{s:Nat}{g j cap n:Nat}{cs:List Value}{v:Value}[ht:OneT P t](hc:cs[j]? =some v):aQ P W [Sl s e (some ⟨g,0,none⟩) cap n cs] (aG t (.pointer (some ⟨g,j,none⟩))) v:=fun w hw=>by
 obtain⟨rest,_,_,_,_,hw'⟩:=i8 hw
 refine iI (fz:=(0,0)) ?_ w hw'
 have hj:j<cs.length:=by
  rcases Nat.lt_or_ge j cs.length with h|h
  ·exact h
  ·rw[List.getElem?_eq_none h]at hc;cases hc
 simpa [List.getElem?_append_left hj]using hc
theorem d7 {t e:TypeId} {s:Nat} {g j cap n:Nat} {cs:List Value} {v:Value} [ht:OneT P t] [hv:OC v] (p:Pick L (Sl s e (some ⟨g,0,none⟩) cap n cs) L') (hj:j<cs.length)
  (h:aJ W (Sl s e (some ⟨g,0,none⟩) cap n (cs.set j v)::L') (k undef)):aJ W L (opN P (aM t (.pointer (some ⟨g,j,none⟩)) v) Kp k):=fun w hw=>by
 obtain⟨rest,r1,r2,r3,r4,hw'⟩:=i8 (hw.pick p)
 refine qj (L:=pt g (.cells (cs++rest).toArray e (0,0))::L') .here (by simp;omega) ?_ w hw'
 intro w'' hw''
 refine h w'' (oh r1 (by simpa using r2) r3 r4 ?_)
 have he:((cs++rest).toArray.setIfInBounds j v)=(cs.set j v++rest).toArray:=by
  simp[hj]
 rwa [he]at hw''

theorem e9 (g o:Nat):∀(vs:List Value) (w:World) (cs:Array Value) (T:TypeId),sat W (pt g (.cells cs T (0,0))::L) w->∃cs':Array Value,sat W (pt g (.cells cs' T (0,0))::L) (w.setCells g o vs)/\cs'.size=cs.size/\∀i,cs'[i]? =if o<=i/\i<o+vs.length/\i<cs.size then vs[i-o]? else cs[i]? :=by
 intro vs
 induction vs generalizing o with
 |nil=>intro w cs T H;exact⟨cs,H,rfl,fun i=>by rw[if_neg (by simp;omega)]⟩
 |cons v vs ih=>
  intro w cs T H
  obtain⟨cs',h1,h2,h3⟩:=ih (o+1) _ _ _ (H.setCell (o:=o) v)
  refine⟨cs',h1,by simpa using h2,fun i=>?_⟩
  rw[h3]
  simp only[Array.size_setIfInBounds,List.length_cons]
  by_cases hi:i=o
  ·subst hi
   rw[if_neg (by omega)]
   by_cases hs:i<cs.size
   ·rw[if_pos ⟨Nat.le_refl _,by omega,hs⟩];simp[hs]
   ·rw[if_neg (fun c=>hs c.2.2)];simp[hs]
  ·by_cases hc:o+1<=i/\i<o+1+vs.length/\i<cs.size
   ·rw[if_pos hc,if_pos ⟨by omega,by omega,hc.2.2⟩]
    rw[show i-o=(i-(o+1))+1 from by omega,List.getElem?_cons_succ]
   ·rw[if_neg hc,if_neg (fun c=>hc ⟨by omega,by omega,c.2.2⟩),Array.getElem?_setIfInBounds_ne (fun c=>hi c.symm)]
theorem bQ {t tx ty e:TypeId} {s bytes:Nat} {a:Option Addr} {cap n m:Nat} {cs news:List Value} {y:Value} [ht:SlT P t e s bytes] (p:Pick L (Sl s e a cap n cs) L')
  (hsrc:∀w,sat W L w->Src P s tx y m news w) (h1:(n+m) * bytes<=140737488355328) (h2:n+m<=4611686018427387904)
  (h:∀a' cap',aJ W (Sl s e a' cap' (n+m) (cs++news)::L') (k (.slice a' (n+m) cap'))):aJ W L (opN P (ju #[t,tx] ty [.slice a n cap,y]) Kp k):=fun w hw=>by
 obtain⟨i,z,hi,hz,hs,hb,hzs⟩:=ht.info
 subst hs;subst hb
 have S:=hsrc w hw
 have hw':=hw.pick p
 have hnl:=S.newsLen
 refine⟨?_⟩
 have hrun:∃a' cap' w',(Builtin.append_ #[t,tx] ty #[.slice a n cap,y]).run P w= .ok (.slice a' (n+m) cap') w'/\sat W (Sl i.size e a' cap' (n+m) (cs++news)::L') w':=by
  obtain⟨f,⟨l1,l2,l3,hd⟩,_⟩:=hw'.fst
  have grow:cap<n+m->(Builtin.firstCells i.size n (.slice a n cap)).run P w.drew= .ok cs.toArray w.drew->∃a' cap' w',(Builtin.append_ #[t,tx] ty #[.slice a n cap,y]).run P w= .ok (.slice a' (n+m) cap') w'/\sat W (Sl i.size e a' cap' (n+m) (cs++news)::L') w':=by
   intro hg hold
   have hr:=run_append_grow_src (P:=P) w t tx ty e i z ht.ut hi hz a n cap cs hold y m news S hg (by omega) (growslice_fits hg h1)
   refine⟨_,_,_,hr,?_⟩
   have hge:=grownCap_ge w (n+m) cap e
   have hle:=grownCap_le_maxLen w (n+m) cap e (by unfold maxLen;omega)
   have ha:=(hw'.drop.drew).alloc (.cells ((cs++news).toArray++Builtin.zeroCells z.cells (grownCap w (n+m) cap e-(n+m))) e)
   have he:(cs++news).toArray++Builtin.zeroCells z.cells (grownCap w (n+m) cap e-(n+m))=(cs++news++(Builtin.zeroCells z.cells (grownCap w (n+m) cap e-(n+m))).toList).toArray:=by
    apply Array.ext';simp
   rw[he]at ha ⊢
   refine oh (g:=w.heap.size) ?_ ?_ hge hle ha
   ·rw[Array.length_toList,size_zeroCells,hzs]
   ·rw[List.length_append,l1,hnl,Nat.add_mul]
  by_cases hfit:n+m<=cap
  ·rcases hd with ⟨rfl,hc0⟩|⟨g,rest,rfl,_,_⟩
   ·-- nothing is appended onto nothing
    have hn0:n=0:=by omega
    have hm0:m=0:=by omega
    subst hn0;subst hm0;subst hc0
    have hnews:news=[]:=List.eq_nil_of_length_eq_zero (by simpa using hnl)
    have hcs:cs=[]:=List.eq_nil_of_length_eq_zero (by simpa using l1)
    subst hnews;subst hcs
    refine⟨none,0,w,?_,hw'⟩
    rcases S.kind with ⟨e',hk⟩|hk <;> simp[Builtin.append_,run_underlying ht.ut,run_underlying hk,sizeOf,typeInfo,hi,S.len,S.cells]
   ·obtain⟨rest,r1,r2,r3,r4,hp⟩:=i8 hw'
    have hsz:(cs++rest).length=cap * i.size:=by rw[List.length_append,r1,r2,<- Nat.add_mul];congr 1;omega
    have hrl:rest.length+n * i.size=cap * i.size:=by rw[r1,<- Nat.add_mul];congr 1;omega
    have hbnd:(n+m) * i.size<=cap * i.size:=Nat.mul_le_mul_right _ hfit
    rw[Nat.add_mul]at hbnd
    have hr:=run_append_room_src (P:=P) w t tx ty e i ht.ut hi g 0 n cap y m news S hfit (fun j hj=>by
      rw[hp.cell,Array.getElem?_eq_getElem (by simp only[List.size_toArray,hsz];omega)];rfl) (fun j _=>hp.free)
    refine⟨_,_,_,hr,?_⟩
    obtain⟨cs',c1,c2,c3⟩:=e9 g (0+n * i.size) news w _ _ hp
    have he:cs'=(cs++news++rest.drop news.length).toArray:=by
     apply Array.ext_getElem?
     intro j
     rw[c3]
     simp only[List.size_toArray,hsz,List.getElem?_toArray,Nat.zero_add]
     by_cases hj:n * i.size<=j/\j<n * i.size+news.length/\j<cap * i.size
     ·rw[if_pos hj,List.getElem?_append_left (by simp;omega),List.getElem?_append_right (by omega),r2]
     ·rw[if_neg hj]
      by_cases hj1:j<n * i.size
      ·rw[List.getElem?_append_left (by omega),List.append_assoc,List.getElem?_append_left (by omega)]
      ·rw[List.getElem?_append_right (by omega),List.getElem?_append_right (by simp;omega),List.getElem?_drop]
       by_cases hj2:j<cap * i.size
       ·congr 1;simp;omega
       ·rw[List.getElem?_eq_none (by omega),List.getElem?_eq_none (by simp;omega)]
    rw[he]at c1
    refine oh ?_ ?_ hfit r4 c1
    ·rw[List.length_drop,r1,hnl,<- Nat.sub_mul];congr 1;omega
    ·rw[List.length_append,r2,hnl,Nat.add_mul]
  ·refine grow (by omega) ?_
   rcases hd with ⟨rfl,hc0⟩|⟨g,rest,rfl,_,_⟩
   ·have hcs:cs=[]:=List.eq_nil_of_length_eq_zero (by rw[l1,show n=0 by omega];simp)
    subst hcs
    simp[Builtin.firstCells]
   ·obtain⟨rest,r1,r2,r3,r4,hp⟩:=i8 hw'
    refine run_firstCells_some w.drew i.size n ⟨g,0,none⟩ n cap cs l1 fun j u hu=>?_
    have:(⟨g,0,none⟩:Addr).add j=⟨g,j,none⟩:=by unfold Addr.add;split <;> simp_all
    rw[this]
    show w.cell? ⟨g,j,none⟩=some u
    rw[hp.cell]
    have hj:j<cs.length:=by
     rcases Nat.lt_or_ge j cs.length with c|c
     ·exact c
     ·rw[List.getElem?_eq_none c]at hu;cases hu
    simpa [List.getElem?_append_left hj]using hu
 obtain⟨a',cap',w',hr,hs⟩:=hrun
 have:(ju #[t,tx] ty [.slice a n cap,y]).run P w= .ok (.value (.slice a' (n+m) cap')) w':=by simp[ju,hr]
 rw[this]
 exact h a' cap' w' hs

theorem bL {tx e' T:TypeId}{s g m c:Nat}{cs:Array Value}{fz:Nat × Nat}(hk:P.underlying tx=some (.slice e'))(p:Pick L (pt g (.cells cs T fz)) L')(hl:cs.size=m * s)(h1:∀u∈cs.toList,u.oneCell'=true):
  ∀w,sat W L w->Src P s tx (.slice (some ⟨g,0,none⟩) m c) m cs.toList w:=fun w hw=>
 Src.ofSlice w hk _ _ _ _ (by simpa using hl) (fun j u hu=>by
  have:(⟨g,0,none⟩:Addr).add j=⟨g,j,none⟩:=by unfold Addr.add;split <;> simp_all
  rw[this,(hw.pick p).cell];simpa using hu) h1
theorem oZ {tx e' e:TypeId}{s:Nat}{a:Option Addr}{cap m:Nat}{cs:List Value}(hk:P.underlying tx=some (.slice e'))(p:Pick L (Sl s e a cap m cs) L')(h1:∀u∈cs,u.oneCell'=true):
  ∀w,sat W L w->Src P s tx (.slice a m cap) m cs w:=fun w hw=>by
 have hw':=hw.pick p
 obtain⟨f,⟨l1,l2,l3,hd⟩,_⟩:=hw'.fst
 rcases hd with ⟨rfl,hc0⟩|⟨g,rest,rfl,_,_⟩
 ·have hm:m=0:=by omega
  subst hm
  have hcs:cs=[]:=List.eq_nil_of_length_eq_zero (by simpa using l1)
  subst hcs
  exact Src.ofNil w hk cap
 ·obtain⟨rest,r1,r2,r3,r4,hp⟩:=i8 hw'
  refine Src.ofSlice w hk _ _ _ _ l1 (fun j u hu=>?_) h1
  have:(⟨g,0,none⟩:Addr).add j=⟨g,j,none⟩:=by unfold Addr.add;split <;> simp_all
  rw[this,hp.cell]
  have hj:j<cs.length:=by
   rcases Nat.lt_or_ge j cs.length with c|c
   ·exact c
   ·rw[List.getElem?_eq_none c]at hu;cases hu
  simpa [List.getElem?_append_left hj]using hu

theorem FR {t:TypeId}{v:Value}(h:∀g,aJ W (pt g (.cells v.cells t)::L) (k (.pointer (some ⟨g,0,none⟩)))):aJ W L (opN P (kX t v) Kp k):=fun w hw=>by
 refine⟨?_⟩
 have:(kX t v).run P w= .ok (.value (.pointer (some ⟨w.heap.size,0,none⟩))) (w.alloc (.cells v.cells t)):=by
  simp[kX,Instr.box,newVar,newRow]
 rw[this]
 exact h _ _ (hw.alloc _)
theorem FT {t:TypeId}{z:Value}(hz:∀w,(zeroValue t).run P w= .ok z w)(h:∀g,aJ W (pt g (.cells z.cells t)::L) (k (.pointer (some ⟨g,0,none⟩)))):aJ W L (opN P (cF t) Kp k):=fun w hw=>by
 refine⟨?_⟩
 have:(cF t).run P w= .ok (.value (.pointer (some ⟨w.heap.size,0,none⟩))) (w.alloc (.cells z.cells t)):=by
  simp[cF,Instr.alloc,hz,newVar,newRow]
 rw[this]
 exact h _ _ (hw.alloc _)
theorem cI {t e:TypeId}{b:Nat}{v:Value}[ht:SlT P t e 1 b][hv:OC v](h:∀g,aJ W (pt g (.cells #[v] e)::L) (k (.slice (some ⟨g,0,none⟩) 1 1))):aJ W L (opN P (co t 1 [(0,v)]) Kp k):=fun w hw=>by
 refine⟨?_⟩
 obtain⟨i,z,hi,hz,hs,hb,hzs⟩:=ht.info
 have hc:v.cells= #[v]:=ao hv.one
 have hr:Array.range 1= #[0]:=rfl
 have:(co t 1 [(0,v)]).run P w= .ok (.value (.slice (some ⟨w.heap.size,0,none⟩) 1 1)) (w.alloc (.cells #[v] e)):=by
  simp[co,Instr.buildSlice,run_underlying ht.ut,dQ hi,hs,zeroValue,typeInfo,hi,hz,Instr.fill,hc,hr,newRow]
 rw[this]
 exact h _ _ (hw.alloc _)

class AggT (P:Program)(t:TypeId)(n:outParam Nat):Prop where
 agg:∀w,(isAgg t).run P w= .ok true w
 size:∀w,(sizeOf t).run P w= .ok n w
class ArrT (P:Program)(t:TypeId)(len:outParam Nat)(e:outParam TypeId)(s:outParam Nat):Prop where
 ut:∀w,(underlying t).run P w= .ok (.array len e) w
 size:∀w,(sizeOf e).run P w= .ok s w
theorem ib {t e:TypeId}{s len:Nat}{g o:Nat}{q:IntKind}{i:Int}(j:Nat)[ht:ArrT P t len e s](hi:i=(j:Int))(hlt:j<len):aQ P W [] (kL t (.pointer (some ⟨g,o,none⟩)) (.int q i)) (.pointer (some ⟨g,o+j * s,none⟩)):=fun w _=>by
 subst hi
 simp[kL,Instr.indexAt,asIntOf,ht.ut,ht.size,hlt,Addr.add,Instr.sureAddr]
theorem bN {t:TypeId}{n g:Nat}{cs:Array Value}{T:TypeId}{fz:Nat × Nat}[ht:AggT P t n](hn:cs.size=n):aQ P W [pt g (.cells cs T fz)] (aG t (.pointer (some ⟨g,0,none⟩))) (.agg cs):=fun w hw=>by
 have h:(loadCells ⟨g,0,none⟩ n).run P w= .ok cs w:=by
  subst hn
  have:=run_loadCells_list (P:=P) w ⟨g,0,none⟩ cs.toList (fun j v hv=>by
   have e:(⟨g,0,none⟩:Addr).add j=⟨g,j,none⟩:=by unfold Addr.add;split <;> simp_all
   rw[e,hw.cell];simpa using hv)
  simpa using this
 simp[aG,Instr.loadAt,Instr.sureAddr,loadVar,ht.agg,ht.size,h]
theorem rV {g:Nat}{T:TypeId}(vs:List Value)(w:World){cs:Array Value}(H:sat W (pt g (.cells cs T (0,0))::L) w)(hn:cs.size=vs.length)(h1:∀u∈vs,u.oneCell'=true):
  ∃w',(storeCells ⟨g,0,none⟩ vs).run P w= .ok () w'/\sat W (pt g (.cells vs.toArray T (0,0))::L) w':=by
 have hst:=run_storeCells_cells (P:=P) g 0 vs 0 w (fun j hj=>by rw[H.cell,Array.getElem?_eq_getElem (by omega)];rfl) (fun j _=>H.free) h1
 obtain⟨cs',c1,c2,c3⟩:=e9 g (0+0) vs w cs T H
 refine⟨_,hst,?_⟩
 have he:cs'=vs.toArray:=by
  apply Array.ext_getElem?
  intro j
  rw[c3]
  simp only[Nat.add_zero,Nat.zero_le,true_and,Nat.zero_add,Nat.sub_zero,List.getElem?_toArray]
  by_cases hj:j<vs.length/\j<cs.size
  ·rw[if_pos hj]
  ·rw[if_neg hj,Array.getElem?_eq_none (by omega),List.getElem?_eq_none (by omega)]
 rwa [he]at c1
theorem aK {t T:TypeId} {n g:Nat} {cs vs:Array Value} [ht:AggT P t n] (p:Pick L (pt g (.cells cs T (0,0))) L') (hn:cs.size=n) (hv:vs.size=n) (h1:∀u∈vs.toList,u.oneCell'=true)
  (h:aJ W (pt g (.cells vs T (0,0))::L') (k undef)):aJ W L (opN P (aM t (.pointer (some ⟨g,0,none⟩)) (.agg vs)) Kp k):=fun w hw=>by
 obtain⟨w',hr,hs⟩:=rV (P:=P) vs.toList w (hw.pick p) (by simp;omega) h1
 refine⟨?_⟩
 have:(aM t (.pointer (some ⟨g,0,none⟩)) (.agg vs)).run P w= .ok .skip w':=by
  simp[aM,Instr.storeAt,Instr.sureAddr,storeVar,ht.size,Value.cells,hv,hr]
 rw[this]
 exact h w' (by simpa using hs)
class ZeroT (P:Program)(t:TypeId)(z:outParam Value):Prop where
 run:∀w,(zeroValue t).run P w= .ok z w
theorem aU {t:TypeId}{cs:Array Value}[hz:ZeroT P t (.agg cs)](h:∀g,aJ W (pt g (.cells cs t (0,0))::L) (k (.pointer (some ⟨g,0,none⟩)))):aJ W L (opN P (cF t) Kp k):=FT hz.run h
theorem de {t:TypeId}{z:Value}[hz:ZeroT P t z][hc:OC z](h:∀g,aJ W (pt g (.cells #[z] t (0,0))::L) (k (.pointer (some ⟨g,0,none⟩)))):aJ W L (opN P (cF t) Kp k):=FT hz.run (by rw[ao hc.one];exact h)
theorem aX {t:TypeId}{cs:Array Value}(h:∀g,aJ W (pt g (.cells cs t (0,0))::L) (k (.pointer (some ⟨g,0,none⟩)))):aJ W L (opN P (kX t (.agg cs)) Kp k):=FR h
theorem b_ {t:TypeId}{v:Value}[hc:OC v](h:∀g,aJ W (pt g (.cells #[v] t (0,0))::L) (k (.pointer (some ⟨g,0,none⟩)))):aJ W L (opN P (kX t v) Kp k):=FR (by rw[ao hc.one];exact h)
theorem cQ {t:TypeId}{n g:Nat}{cs:Array Value}{T:TypeId}{fz:Nat × Nat}[ht:AggT P t n](hn:cs.size=n):aQ P W [pt g (.cells cs T fz)] (cZ t (.pointer (some ⟨g,0,none⟩))) (.agg cs):=fun w hw=>by
 have:=bN (P:=P) (t:=t) hn w hw
 simp[aG,Instr.loadAt,Instr.sureAddr]at this
 simp[cZ,asAddr,this]
theorem cX {t:TypeId}{g o:Nat}{cs:List Value}{T:TypeId}{fz:Nat × Nat}{v:Value}[ht:OneT P t](hc:Nth cs o v):aQ P W [pt g (.cells cs.toArray T fz)] (cZ t (.pointer (some ⟨g,o,none⟩))) v:=fun w hw=>by
 have:=aS (P:=P) (t:=t) hc w hw
 simp[aG,Instr.loadAt,Instr.sureAddr]at this
 simp[cZ,asAddr,this]
end Go.Proofs.YtdjkdjepjahjfaaGreatDoor.Sl
namespace Go.Proofs.YtdjkdjepjahjfaaGreatDoor.Sl
open Go Go.RowKit Sh
variable {P:Program} {W:World} {L L' L'':List HP} {Kp:PK} {k:Value->WP} {A:HP}
structure RdB (W:World)(A:HP)(a:Option Addr)(n:Nat)(cs:List Value):Prop where
 len:cs.length=n
 at_:0<n->∃g o,a=some ⟨g,o,none⟩/\∀w L,sat W (A::L) w->∀j v,cs[j]? =some v->w.cell? ⟨g,o+j,none⟩=some v
theorem sat.only {w:World}(h:sat W (A::L) w):sat W [A] w:=(Imp.pick (L':=L) .here .nil).sat h
theorem du (g o j:Nat):(⟨g,o,none⟩:Addr).add j=⟨g,o+j,none⟩:=by unfold Addr.add;split <;> simp_all
theorem gO {e:TypeId}{a:Option Addr}{cap n:Nat}{cs:List Value}(hl:cs.length=n)(ha:0<n->∃g,a=some ⟨g,0,none⟩):RdB W (Sl 1 e a cap n cs) a n cs:=⟨hl,fun hn=>by
 obtain⟨g,rfl⟩:=ha hn
 refine⟨g,0,rfl,fun w L hw j v hv=>?_⟩
 obtain⟨rest,r1,r2,r3,r4,hp⟩:=i8 hw
 rw[Nat.zero_add,hp.cell]
 have hj:j<cs.length:=by
  rcases Nat.lt_or_ge j cs.length with c|c
  ·exact c
  ·rw[List.getElem?_eq_none c]at hv;cases hv
 simpa [List.getElem?_append_left hj]using hv⟩
theorem gP {g n:Nat}{cs:List Value}{T:TypeId}{fz:Nat × Nat}(h:cs.length=n):RdB W (pt g (.cells cs.toArray T fz)) (some ⟨g,0,none⟩) n cs:=⟨h,fun _=>⟨g,0,rfl,fun w L hw j v hv=>by rw[Nat.zero_add,hw.cell];simpa using hv⟩⟩
theorem Hl {g o n:Nat}{cs:List Value}(hl:cs.length=n)(hg:g<W.heap.size)(hc:∀j v,cs[j]? =some v->W.cell? ⟨g,o+j,none⟩=some v):RdB W A (some ⟨g,o,none⟩) n cs:=
 ⟨hl,fun _=>⟨g,o,rfl,fun w L hw j v hv=>by rw[hw.base.cell (p:=⟨g,o+j,none⟩) hg];exact hc j v hv⟩⟩
theorem RdB.cut {a:Option Addr}{n cap l h:Nat}{cs:List Value}(H:RdB W A a n cs)(h1:l<=h)(h2:h<=n)(h3:n<=cap):RdB W A (if cap=l then a else a.map (·.add (l * 1))) (h-l) ((cs.drop l).take (h-l)):=by
 have hl:=H.len
 refine⟨by simp;omega,fun hn=>?_⟩
 obtain⟨g,o,rfl,hc⟩:=H.at_ (by omega)
 rw[if_neg (by omega)]
 refine⟨g,o+l,by simp[du],fun w L hw j v hv=>?_⟩
 rw[Nat.add_assoc]
 refine hc w L hw (l+j) v ?_
 rw[List.getElem?_take]at hv
 split at hv
 ·rwa [List.getElem?_drop]at hv
 ·cases hv
theorem k8 {tx e':TypeId}{a:Option Addr}{n cap:Nat}{cs:List Value}(hk:P.underlying tx=some (.slice e'))(p:Pick L A L')(H:RdB W A a n cs)(ha:a=none->n=0)(h1:∀u∈cs,u.oneCell'=true):
  ∀w,sat W L w->Src P 1 tx (.slice a n cap) n cs w:=fun w hw=>by
 have hl:=H.len
 rcases Nat.eq_zero_or_pos n with h0|hn
 ·subst h0
  have hcs:cs=[]:=List.eq_nil_of_length_eq_zero hl
  subst hcs
  cases a with
  |none=>exact Src.ofNil w hk cap
  |some ad=>exact Src.ofSlice w hk ad 0 cap [] (by simp) (fun j u hu=>by simp at hu) (by simp)
 ·obtain⟨g,o,rfl,hc⟩:=H.at_ hn
  exact Src.ofSlice w hk _ _ _ _ (by omega) (fun j u hu=>by rw[du];exact hc w L' (hw.pick p) j u hu) h1
theorem dv {t:TypeId}{g o n j:Nat}{cs:List Value}{v:Value}[ht:OneT P t](H:RdB W A (some ⟨g,o,none⟩) n cs)(hv:cs[j]? =some v):aQ P W [A] (aG t (.pointer (some ⟨g,o+j,none⟩))) v:=fun w hw=>by
 have hl:=H.len
 have hj:j<cs.length:=by
  rcases Nat.lt_or_ge j cs.length with c|c
  ·exact c
  ·rw[List.getElem?_eq_none c]at hv;cases hv
 obtain⟨g',o',e,hc⟩:=H.at_ (by omega)
 injection e with e;injection e with e1 e2;subst e1;subst e2
 have h:=hc w [] hw j v hv
 simp[aG,Instr.loadAt,Instr.sureAddr,loadVar,ht.agg,h]

theorem iK {q:IntKind}{i:Int}{y:Nat}{c:BoundsCode}(j:Nat)(hi:i=(j:Int))(h:j<=y)(w:World):(Instr.sliceBound (.int q i) y c).run P w= .ok j w:=by
 subst hi
 have:(0:Int)<=j/\(j:Int)<=y:=⟨by omega,by omega⟩
 simp[Instr.sliceBound,asIntOf,this]
theorem wI {t e:TypeId}{s b n cap:Nat}{a:Option Addr}{r:IntKind}{j:Int}(h:Nat)[ht:SlT P t e s b](hj:j=(h:Int))(h2:h<=cap):
  aQ P W [] (n8 t (.slice a n cap) none (some (.int r j)) none) (.slice (if cap=0 then a else a.map (·.add (0 * s))) h cap):=fun w _=>by
 obtain⟨inf,z,k1,_,k3,_⟩:=ht.info
 simp[n8,Instr.sliceAt,Instr.slice,Instr.sliceBounds,run_underlying ht.ut,iK h hj h2,dQ k1,k3]
theorem jK {t e:TypeId}{s b n cap:Nat}{a:Option Addr}{q:IntKind}{i:Int}(l:Nat)[ht:SlT P t e s b](hi:i=(l:Int))(h1:l<=n):
  aQ P W [] (n8 t (.slice a n cap) (some (.int q i)) none none) (.slice (if cap=l then a else a.map (·.add (l * s))) (n-l) (cap-l)):=fun w _=>by
 obtain⟨inf,z,k1,_,k3,_⟩:=ht.info
 simp[n8,Instr.sliceAt,Instr.slice,Instr.sliceBounds,run_underlying ht.ut,iK l hi h1,dQ k1,k3]

def B (c:UInt8):Value:= .int .u8 (c.toNat:Int)
instance {c:UInt8}:OC (B c):=⟨rfl⟩
theorem MW {l:List UInt8}:∀u∈l.map B,u.oneCell'=true:=by
 intro u hu;obtain⟨c,_,rfl⟩:=List.mem_map.1 hu;rfl
def ay (l:List UInt8):Value:= .string ⟨l.toArray⟩
instance {l:List UInt8}:OC (ay l):=⟨rfl⟩
class StrT (P:Program)(t:TypeId):Prop where
 ut:P.underlying t=some .string
class BytesT (P:Program)(t:TypeId):Prop where
 ut:∃e,P.underlying t=some (.slice e)/\P.underlying e=some (.int .u8)
theorem tA {s t:TypeId}{a:Option Addr}{n cap:Nat}{l:List UInt8}[hs:BytesT P s][ht:StrT P t](H:RdB W A a n (l.map B))(ha:a=none->n=0):aQ P W [A] (ei s t (.slice a n cap)) (ay l):=fun w hw=>by
 obtain⟨e,h1,h2⟩:=hs.ut
 have hl:l.length=n:=by simpa using H.len
 have key:(Conv.bytesToString (.slice a n cap)).run P w= .ok (ay l) w:=by
  rcases Nat.eq_zero_or_pos n with h0|hn
  ·subst h0
   have hl0:l=[]:=List.eq_nil_of_length_eq_zero hl
   subst hl0
   cases a with
   |none=>simp[Conv.bytesToString,ay];rfl
   |some ad=>
    rw[run_bytesToString w ad 0 cap [] (by simp[loadCells,loadCellsFrom])]
    rfl
  ·obtain⟨g,o,rfl,hc⟩:=H.at_ hn
   have hlc:=run_loadCells_list (P:=P) w ⟨g,o,none⟩ (l.map B) (fun j v hv=>by rw[du];exact hc w [] hw j v hv)
   rw[List.length_map,hl]at hlc
   have hm:l.map B=(l.map fun c=>(c.toNat:Int)).map (Value.int .u8):=by simp[B,Function.comp_def]
   rw[hm]at hlc
   rw[run_bytesToString w _ n cap _ hlc]
   have hf:∀(m:List UInt8) (s:ByteArray),(m.map fun c=>(c.toNat:Int)).foldl (fun r n=>r.push (UInt8.ofNat n.toNat)) s=⟨s.data++m.toArray⟩:=by
    intro m
    induction m with
    |nil=>intro s;simp
    |cons c m ih=>
     intro s
     simp only[List.map_cons,List.foldl_cons,ih]
     simp[ByteArray.push]
   rw[hf]
   simp[ay,ByteArray.empty,ByteArray.emptyWithCapacity]
   rfl
 have hcv:=run_convert_bytes_string (P:=P) w s t e a n cap h1 h2 ht.ut
 simp[ei,hcv,key]
theorem Ab {l m:List UInt8}:((⟨l.toArray⟩:ByteArray).toList==(⟨m.toArray⟩:ByteArray).toList)=decide (l=m):=by
 rw[ByteArray.toList_mk,ByteArray.toList_mk]
 by_cases h:l=m <;> simp[h]
theorem eo {t:TypeId}{ox oy:Operand}{l m:List UInt8}:aQ P W [] (dY .eql t ox oy (ay l) (ay m)) (.bool (decide (l=m))):=fun w _=>by
 simp[dY,sv,eqGuard,ay,binOp_string_eql]
 by_cases h:l=m <;> simp[h]
theorem ep {t:TypeId}{ox oy:Operand}{l m:List UInt8}:aQ P W [] (dY .neq t ox oy (ay l) (ay m)) (.bool (decide (l≠m))):=fun w _=>by
 simp[dY,sv,eqGuard,ay,binOp_string_neq]
 by_cases h:l=m <;> simp[h]
theorem bu {t ty:TypeId}{l:List UInt8}[ht:StrT P t]:aQ P W [] (gB #[t] ty [ay l]) (.int .i64 (l.length:Int)):=by
 have:=Hk (P:=P) (W:=W) (t:=t) (ty:=ty) (s:=⟨l.toArray⟩) ht.ut
 simpa [ay,ByteArray.size]using this
theorem e_ {s:Nat}{e:TypeId}{S:WP}(h:aJ W (Sl s e none 0 0 []::L) S):aJ W L S:=bf (bJ .refl) h
end Go.Proofs.YtdjkdjepjahjfaaGreatDoor.Sl
namespace Go.Proofs.YtdjkdjepjahjfaaGreatDoor.Sl
open Go Sh
structure Shp (P:Program)(f:FuncId)(args:List Value)(sh:PK->(Value->WP)->WP):Prop where
 call:∀(a:Array Value) (w:World),(callFunc f a).run P w= .ok (.enter f a) w
 run:∀ {Kp:PK} {K:Value->WP} {w:World},sh Kp K w->Calls P f args.toArray w (after Kp K)
theorem U8 {P:Program} {f:FuncId} {fn:Func} {an:Ann} {args:List Value} {sh:PK->(Value->WP)->WP} (hm:P.follows .mixedOrders=true) (hc:∀(a:Array Value) (w:World),(callFunc f a).run P w= .ok (.enter f a) w) (hf:P.funcs[f]? =some fn)
  (he:∀Kp K,zK P an fn args Kp K=sh Kp K):Shp P f args sh:=⟨hc,fun {Kp K w} h=>e7 (rL hm hf (an:=an) (args:=args) (cast (congrFun (he Kp K) w).symm h))⟩
theorem S2 {P:Program} {f:FuncId} {fn:Func} {an:Ann} {args:List Value} {sh:PK->(Value->WP)->WP} (hm:P.follows .mixedOrders=true) (hc:∀(a:Array Value) (w:World),(callFunc f a).run P w= .ok (.enter f a) w) (hf:P.funcs[f]? =some fn)
  (he:∀Kp K,wz P an fn args Kp K=sh Kp K):Shp P f args sh:=⟨hc,fun {Kp K w} h=>e7 (qf hm hf (an:=an) (args:=args) (cast (congrFun (he Kp K) w).symm h))⟩
theorem S3 {P:Program} {f:FuncId} {fn:Func} {an:Ann} {args:List Value} {sh:PK->(Value->WP)->WP} (hm:P.follows .mixedOrders=true) (hc:∀(a:Array Value) (w:World),(callFunc f a).run P w= .ok (.enter f a) w) (hf:P.funcs[f]? =some fn)
  (he:∀Kp K,wA P an fn args Kp K=sh Kp K):Shp P f args sh:=⟨hc,fun {Kp K w} h=>e7 (qi hm hf (an:=an) (args:=args) (cast (congrFun (he Kp K) w).symm h))⟩
theorem Shp.cn {P:Program}{W:World}{f:FuncId}{args:List Value}{sh:PK->(Value->WP)->WP}{α:Type}{A:List HP}{r:α->Value}{B:α->List HP}(H:Shp P f args sh)(h:∀F,aJ W (A++F) (sh wD fun v w=>∃x,v=r x/\sat W (B x++F) w)):Cn P f args W A r B:=
 Cn.of (shape:=sh) H.call H.run h
theorem Shp.cnP {P:Program}{W:World}{f:FuncId}{args:List Value}{sh:PK->(Value->WP)->WP}{α β:Type}{A:List HP}{r:α->Value}{B:α->List HP}{pc:β->List PanicEntry}{Bp:β->List HP}(H:Shp P f args sh)(h:∀F,aJ W (A++F) (sh (fun ch w=>∃y,ch=pc y/\sat W (Bp y++F) w) fun v w=>∃x,v=r x/\sat W (B x++F) w)):CnP P f args W A r B pc Bp:=
 CnP.of (shape:=sh) H.call H.run h
end Go.Proofs.YtdjkdjepjahjfaaGreatDoor.Sl
namespace Go.Proofs.YtdjkdjepjahjfaaGreatDoor.Cl
open Go Sl Go.RowKit Go.ChangeShapes Go.WideShapes
variable {H:Type} {enc:TypeId × Value->H} {P:Program}
def wJ (P:Program)(ts:List TypeId):Bool:=ts.all fun t=>P.readableRec t&&decide (t<P.types.size)
theorem kM (hl:laidOutB P=true){W W':World}(hb:Below W.heap.size W W'):∀ {ts:List TypeId} {vs:List Value} {ds:List (DataW H)} {ps:List MemPlace},wJ P ts=true->
  DataW.TrodAll enc P W 0 (fun _=>true) true ts vs ds ps->(∀x∈ps,x.block<W.heap.size)->DataW.TrodAll enc P W' 0 (fun b=>decide (b<W.heap.size)) true ts vs ds ps
 |[],vs,ds,ps,_,h,_=>by
  obtain⟨rfl,rfl,rfl⟩:=trodAll_nil h
  exact trodAll_mk0
 |t::ts,vs,ds,ps,hr,h,hlt=>by
  obtain⟨v,vs',d,ds',p,q,rfl,rfl,rfl,h1,h2⟩:=trodAll_cons h
  simp only[wJ,List.all_cons,Bool.and_eq_true,decide_eq_true_eq]at hr
  exact trodAll_cons_mk (Below.trod hl hr.1.1 hr.1.2 h1 hb fun x hx=>hlt x (by simp[hx])) (kM hl hb (by simpa [wJ]using hr.2) h2 fun x hx=>hlt x (by simp[hx]))
theorem vr {fn:Func} {s:ChangeSpec} {W W':World} {args:Array Value} {ds gs:List (DataW H)} {before:List MemPlace} {t:TypeId} {apart:Bool}
  (hl:laidOutB P=true) (hts:wJ P fn.params.toList=true) (hvs:s.vars=[]) (hrt:fn.resultTypes= #[t]) (ht:P.underlying t=some .bool)
  (hW:DataW.Whole enc P fn.params.toList s.vars apart W args.toList ds gs before) (h1:(s.fn H (ds++gs)).results=[.lit (.bool true)]) (h2:(s.fn H (ds++gs)).args=ds) (h3:(s.fn H (ds++gs)).vars=gs)
  (hb:Below W.heap.size W W'):s.post enc P fn apart true false false W args (.bool true) W':=by
 have hW':=hW
 obtain⟨p,q,hA,hV,rfl,hz,hn⟩:=hW'
 have hlt:=hW.lt
 refine⟨ds,gs,p++q,[],p,q,hW,?_,?_,?_,hb.frame _,fun c=>by cases c⟩
 ·rw[h1,hrt]
  exact trodAll_cons_mk (shut_bool ht _) trodAll_mk0
 ·rw[h2]
  exact kM hl hb hts hA fun x hx=>hlt x (by simp[hx])
 ·rw[h3]
  rw[hvs]at hV ⊢
  obtain⟨rfl,rfl⟩:=trodVars_none hV
  rfl
theorem Ac {f:FuncId}{args:List Value}{W:World}{α:Type}{B:α->List HP}(h:Cn P f args W [] (fun _:α=> .bool true) B):Calls P f args.toArray W fun e w'=>e= .returned (.bool true)/\Below W.heap.size W w':=
 (h.run [] W (sat.start W)).mono fun e w' ⟨x,he,hs⟩=>⟨he,hs.base⟩
end Go.Proofs.YtdjkdjepjahjfaaGreatDoor.Cl
namespace Go.Proofs.YtdjkdjepjahjfaaGreatDoor.Sl
open Go Go.RowKit Sh
variable {P:Program} {W:World} {L L':List HP} {Kp:PK} {k:Value->WP} {A:HP}
theorem Ad {t e ty:TypeId}{s b:Nat}{a:Option Addr}{n cap:Nat}[ht:SlT P t e s b]:aQ P W [] (yj #[t] ty [.slice a n cap]) (.int .i64 (cap:Int)):=fun w _=>by
 simp[yj,Builtin.cap_,run_underlying ht.ut,goInt]
theorem df {t:TypeId}{n m g o j:Nat}{cs vs:List Value}[ht:AggT P t n](H:RdB W A (some ⟨g,o,none⟩) m cs)(hn:vs.length=n)(hc:∀i,i<n->cs[j+i]? =vs[i]?):aQ P W [A] (aG t (.pointer (some ⟨g,o+j,none⟩))) (.agg vs.toArray):=fun w hw=>by
 have h:(loadCells ⟨g,o+j,none⟩ n).run P w= .ok vs.toArray w:=by
  subst hn
  refine run_loadCells_list (P:=P) w ⟨g,o+j,none⟩ vs (fun i v hv=>?_)
  have hi:i<vs.length:=by
   rcases Nat.lt_or_ge i vs.length with c|c
   ·exact c
   ·rw[List.getElem?_eq_none c]at hv;cases hv
  have hcv:=hc i hi
  rw[hv]at hcv
  have hl:=H.len
  have hlt:j+i<cs.length:=by
   rcases Nat.lt_or_ge (j+i) cs.length with c|c
   ·exact c
   ·rw[List.getElem?_eq_none c]at hcv;cases hcv
  obtain⟨g',o',e,hcell⟩:=H.at_ (by omega)
  injection e with e;injection e with e1 e2;subst e1;subst e2
  rw[du,Nat.add_assoc]
  exact hcell w [] hw (j+i) v hcv
 simp[aG,Instr.loadAt,Instr.sureAddr,loadVar,ht.agg,ht.size,h]
theorem tB {cs rest vs:List Value}{o n j:Nat}(hn:vs.length=n)(ho:o+n<=cs.length):(cs.take o++vs++cs.drop (o+n)++rest)[j]? =if o<=j/\j<o+n then vs[j-o]? else(cs++rest)[j]? :=by
 simp only[List.getElem?_append,List.length_append,List.length_take,List.length_drop,hn,Nat.min_eq_left (show o<=cs.length by omega),List.getElem?_take,List.getElem?_drop]
 repeat' split
 all_goals first|rfl|omega|(congr 1;omega)
theorem d8 {s:Nat}{e:TypeId}{a:Option Addr}{cap n:Nat}{cs:List Value}(hl:cs.length=n * s)(ha:0<n->∃g,a=some ⟨g,0,none⟩):RdB W (Sl s e a cap n cs) a (n * s) cs:=⟨hl,fun hn=>by
 obtain⟨g,rfl⟩:=ha (by
  rcases Nat.eq_zero_or_pos n with z|z
  ·subst z;simp at hn
  ·exact z)
 refine⟨g,0,rfl,fun w L hw j v hv=>?_⟩
 obtain⟨rest,r1,r2,r3,r4,hp⟩:=i8 hw
 rw[Nat.zero_add,hp.cell]
 have hj:j<cs.length:=by
  rcases Nat.lt_or_ge j cs.length with c|c
  ·exact c
  ·rw[List.getElem?_eq_none c]at hv;cases hv
 simpa [List.getElem?_append_left hj]using hv⟩
theorem rW {t e:TypeId}{s b:Nat}[ht:SlT P t e s b](h:∀g,aJ W (Sl s e (some ⟨g,0,none⟩) 0 0 []::L) (k (.slice (some ⟨g,0,none⟩) 0 0))):aJ W L (opN P (co t 0 []) Kp k):=fun w hw=>by
 refine⟨?_⟩
 obtain⟨i,z,hi,hz,hs,hb,hzs⟩:=ht.info
 have e0:(Array.range 0).map (fun _=>(default:Value))= #[]:=Array.eq_empty_of_size_eq_zero (by simp)
 have:(co t 0 []).run P w= .ok (.value (.slice (some ⟨w.heap.size,0,none⟩) 0 0)) (w.alloc (.cells #[] e)):=by
  simp[co,Instr.buildSlice,run_underlying ht.ut,dQ hi,newRow,Instr.fill]
  rw[e0]
 rw[this]
 exact h _ _ ((wH (cs:=[]) .here (by simp) (by unfold maxLen;omega) .refl).sat (hw.alloc (.cells #[] e)))
theorem wK {tx e':TypeId}{s:Nat}{a:Option Addr}{n cap:Nat}{cs:List Value}(hk:P.underlying tx=some (.slice e'))(hs:0<s)(p:Pick L A L')(H:RdB W A a (n * s) cs)(ha:a=none->n=0)(h1:∀u∈cs,u.oneCell'=true):
  ∀w,sat W L w->Src P s tx (.slice a n cap) n cs w:=fun w hw=>by
 have hl:=H.len
 rcases Nat.eq_zero_or_pos n with h0|hn
 ·subst h0
  have hcs:cs=[]:=List.eq_nil_of_length_eq_zero (by simpa using hl)
  subst hcs
  cases a with
  |none=>exact Src.ofNil w hk cap
  |some ad=>exact Src.ofSlice w hk ad 0 cap [] (by simp) (fun j u hu=>by simp at hu) (by simp)
 ·obtain⟨g,o,rfl,hc⟩:=H.at_ (Nat.mul_pos hn hs)
  exact Src.ofSlice w hk _ _ _ _ hl (fun j u hu=>by rw[du];exact hc w L' (hw.pick p) j u hu) h1
theorem wL {t:TypeId}{ox oy:Operand}{a b:Bool}(ht:P.underlying t=some .bool):aQ P W [] (dY .eql t ox oy (.bool a) (.bool b)) (.bool (decide (a=b))):=fun w _=>by
 have h:(Op.equal t (.bool a) (.bool b)).run P w= .ok (a==b) w:=by
  unfold Op.equal Op.maxDepth Op.equalIn
  simp only[Sem.run_bind,run_underlying ht,Result.andThen_ok]
  rfl
 simp[dY,sv,eqGuard,binOp,h,Result.andThen]
 cases a <;> cases b <;> rfl
end Go.Proofs.YtdjkdjepjahjfaaGreatDoor.Sl
namespace Go.Proofs.YtdjkdjepjahjfaaGreatDoor.Sl
open Go Go.RowKit Sh
variable {P:Program} {W:World} {L L' L'':List HP} {Kp:PK} {k:Value->WP}
theorem om {F:Nat->HP}{i:Nat}:∀(l:List Nat),i∈l->l.Nodup->∀ {h:e8},all (l.map F) W h->fW (F i) (all ((l.filter fun j=>decide (j≠i)).map F)) W h
 |[],hi,_,_,_=>by simp at hi
 |j::l,hi,hn,h,H=>by
  rw[List.nodup_cons]at hn
  by_cases c:j=i
  ·subst c
   have e:(List.filter (fun x=>decide (x≠j)) (j::l))=l:=by
    rw[List.filter_cons_of_neg (by simp)]
    exact List.filter_eq_self.2 fun x hx=>by
     simp only[ne_eq,decide_not,Bool.not_eq_eq_eq_not,Bool.not_true,decide_eq_false_iff_not]
     rintro rfl
     exact hn.1 hx
   rw[e]
   exact H
  ·have hi':i∈l:=by
    rcases List.mem_cons.1 hi with e|e
    ·exact absurd e.symm c
    ·exact e
   rw[List.filter_cons_of_pos (by simpa using c),List.map_cons]
   have:=em (fun h=>om (i:=i) l hi' hn.2 (h:=h)) H
   exact gJ this
theorem Ae {F:Nat->HP}{i:Nat}:∀(l:List Nat),i∈l->l.Nodup->∀ {h:e8},fW (F i) (all ((l.filter fun j=>decide (j≠i)).map F)) W h->all (l.map F) W h
 |[],hi,_,_,_=>by simp at hi
 |j::l,hi,hn,h,H=>by
  rw[List.nodup_cons]at hn
  by_cases c:j=i
  ·subst c
   have e:(List.filter (fun x=>decide (x≠j)) (j::l))=l:=by
    rw[List.filter_cons_of_neg (by simp)]
    exact List.filter_eq_self.2 fun x hx=>by
     simp only[ne_eq,decide_not,Bool.not_eq_eq_eq_not,Bool.not_true,decide_eq_false_iff_not]
     rintro rfl
     exact hn.1 hx
   rw[e]at H
   exact H
  ·have hi':i∈l:=by
    rcases List.mem_cons.1 hi with e|e
    ·exact absurd e.symm c
    ·exact e
   rw[List.filter_cons_of_pos (by simpa using c),List.map_cons]at H
   exact em (fun h=>Ae (i:=i) l hi' hn.2 (h:=h)) (gJ H)
def BS (n:Nat)(F:Nat->HP):HP:=all ((List.range n).map F)
def BH (n:Nat)(F:Nat->HP)(i:Nat):HP:=all (((List.range n).filter fun j=>decide (j≠i)).map F)
theorem BH.congr {n i:Nat}{F F':Nat->HP}(h:∀j,j<n->j≠i->F j=F' j):BH n F i=BH n F' i:=by
 unfold BH
 congr 1
 exact List.map_congr_left fun j hj=>by
  rw[List.mem_filter]at hj
  exact h j (List.mem_range.1 hj.1) (by simpa using hj.2)
theorem fY {n:Nat}{F:Nat->HP}{S:WP}(p:Pick L (BS n F) L')(i:Nat)(hi:i<n)(h:aJ W (F i::BH n F i::L') S):aJ W L S:=fun w hw=>by
 refine h w (sat.map (L:=BS n F::L') (fun f H=>?_) (hw.pick p))
 have H2:fW (all [F i,BH n F i]) (all L') W f:=by
  obtain⟨h1,h2,ha,r⟩:=H
  refine⟨h1,h2,?_,r⟩
  obtain⟨k1,k2,b1,b2,d,t1,t2⟩:=om (List.range n) (List.mem_range.2 hi) List.nodup_range ha
  exact⟨k1,k2,b1,⟨k2,fun _=>none,b2,trivial,fun _=> .inr rfl,fun _ _ c=>c,fun _ _ c=>by cases c⟩,d,t1,t2⟩
 exact bZ H2
theorem eb {n:Nat}{F F':Nat->HP}{M:List HP}(i:Nat)(hi:i<n)(hF:∀j,j<n->j≠i->F j=F' j)(h:Imp W L (F' i::BH n F i::M)):Imp W L (BS n F'::M):=by
 refine .conv (B:=all [F' i,BH n F i]) (fun f H=>?_) (.all h)
 refine Ae (List.range n) (List.mem_range.2 hi) List.nodup_range ?_
 have e:=BH.congr hF
 obtain⟨k1,k2,b1,⟨k3,k4,b2,_,_,t3,_⟩,d,t1,t2⟩:=H
 rw[e]at b2
 refine⟨k1,k3,b1,b2,fun j=>?_,t1,fun j o c=>t2 j o (t3 j o c)⟩
 rcases d j with c|c
 ·exact .inl c
 ·right
  cases c':k3 j with
  |none=>rfl
  |some o=>rw[t3 j o c']at c;cases c
theorem rX {F:Nat->HP}{M:List HP}(h:Imp W L M):Imp W L (BS 0 F::M):= .all (M:=M) (N:=[]) h
theorem lK {n:Nat}{F F':Nat->HP}{M:List HP}(hF:∀j,j<n->F j=F' j)(h:Imp W L (BS n F::F' n::M)):Imp W L (BS (n+1) F'::M):=by
 refine .conv (B:=all [BS n F,F' n]) (fun f H=>?_) (.all h)
 unfold BS
 rw[List.range_succ,List.map_append]
 refine bZ ?_
 obtain⟨k1,k2,b1,b2,d,t1,t2⟩:=H
 refine⟨k1,k2,?_,b2,d,t1,t2⟩
 have e:(List.range n).map F'=(List.range n).map F:=List.map_congr_left fun j hj=>(hF j (List.mem_range.1 hj)).symm
 rw[e];exact b1
theorem i9 {s:Nat}{e:TypeId}{a:Option Addr}{cap n m:Nat}{cs:List Value}{S:WP}(p:Pick L (Sl s e a cap n cs) L')(hm:m<=n)(h:aJ W (Sl s e a cap m (cs.take (m * s))::L') S):aJ W L S:=by
 refine mC p (fun f H=>?_) h
 obtain⟨h1,h2,h3,h4⟩:=H
 have hms:m * s<=n * s:=Nat.mul_le_mul_right _ hm
 refine⟨by rw[List.length_take];omega,by omega,h3,?_⟩
 rcases h4 with ⟨rfl,rfl⟩|⟨g,rest,rfl,hr,hg⟩
 ·exact .inl ⟨rfl,rfl⟩
 ·refine .inr ⟨g,cs.drop (m * s)++rest,rfl,?_,?_⟩
  ·rw[List.length_append,List.length_drop,hr,h1,<- Nat.sub_mul,<- Nat.add_mul];congr 1;omega
  ·rw[<- List.append_assoc,List.take_append_drop];exact hg
theorem mD {t e:TypeId}{s b n cap:Nat}{g:Nat}{r:IntKind}{j:Int}(h:Nat)[ht:SlT P t e s b](hj:j=(h:Int))(h2:h<=cap):
  aQ P W [] (n8 t (.slice (some ⟨g,0,none⟩) n cap) none (some (.int r j)) none) (.slice (some ⟨g,0,none⟩) h cap):=by
 have:=wI (P:=P) (W:=W) (t:=t) (n:=n) (a:=some ⟨g,0,none⟩) (r:=r) h hj h2
 have e:(if cap=0 then some (⟨g,0,none⟩:Addr)else(some (⟨g,0,none⟩:Addr)).map (·.add (0 * s)))=some ⟨g,0,none⟩:=by
  split
  ·rfl
  ·simp[du]
 rwa [e]at this
end Go.Proofs.YtdjkdjepjahjfaaGreatDoor.Sl
namespace Go.Proofs.YtdjkdjepjahjfaaGreatDoor.Sl
open Go Sh
variable {P:Program} {W:World} {L L' M F:List HP} {Kp:PK} {k:Value->WP} {S:WP}
theorem az (h:Imp W L M:=by repeat(first|exact .refl|exact .nil|(apply Imp.pick;(focus ((repeat constructor);done)))|refine .drop ?_)):Imp W L M:=h
theorem am {A B:Prop}(h:B)(e:A=B:=by first|(simp only[ca_,na_,-eq_self];exact rfl)|exact rfl):A:=e▸h
theorem o_ {s:Sem Next}{v:Value}(hr:aQ P W [] s v)(h:aJ W L (k v)):aJ W L (opN P s Kp k):=aE hr .nil h
theorem t_ {s:Sem Next}{v:Value}(hr:aQ P W [] s v)(h:aJ W L (k v)):aJ W L (stS P s k):=be hr .nil h
theorem cO {A:List HP}{s:Sem Next}{v:Value}(hr:aQ P W A s v)(h:aJ W L (k v))(i:Imp W L A:=by exact .pick (by repeat constructor) .nil):aJ W L (opN P s Kp k):=aE hr i h
theorem iq {A:List HP}{s:Sem Next}{v:Value}(hr:aQ P W A s v)(h:aJ W L (k v))(i:Imp W L A:=by exact .pick (by repeat constructor) .nil):aJ W L (stS P s k):=be hr i h
theorem aH {t:TypeId}{g o:Nat}{cs:List Value}{T:TypeId}{fz:Nat × Nat}{v:Value}[ht:OneT P t](h:aJ W L (k v))(i:Imp W L [pt g (.cells cs.toArray T fz)]:=by exact .pick (by repeat constructor) .nil)(hc:Nth cs o v:=by repeat constructor):aJ W L (opN P (aG t (.pointer (some ⟨g,o,none⟩))) Kp k):=aE (aS hc) i h
theorem cm {t:TypeId}{g o:Nat}{cs:List Value}{T:TypeId}{fz:Nat × Nat}{v:Value}[ht:OneT P t](h:aJ W L (k v))(i:Imp W L [pt g (.cells cs.toArray T fz)]:=by exact .pick (by repeat constructor) .nil)(hc:Nth cs o v:=by repeat constructor):aJ W L (stS P (aG t (.pointer (some ⟨g,o,none⟩))) k):=be (aS hc) i h
theorem jL {t:TypeId}{n g:Nat}{cs:Array Value}{T:TypeId}{fz:Nat × Nat}[ht:AggT P t n](h:aJ W L (k (.agg cs)))(i:Imp W L [pt g (.cells cs T fz)]:=by exact .pick (by repeat constructor) .nil)(hn:cs.size=n:=by rfl):aJ W L (opN P (aG t (.pointer (some ⟨g,0,none⟩))) Kp k):=aE (bN hn) i h
theorem bR {t:TypeId}{g o:Nat}{cs cs':List Value}{T:TypeId}{v:Value}[ht:OneT P t][hv:OC v](h:aJ W (pt g (.cells cs'.toArray T (0,0))::L') (k undef))(p:Pick L (pt g (.cells cs.toArray T (0,0))) L':=by repeat constructor)(ho:Put cs o v cs':=by repeat constructor):aJ W L (opN P (aM t (.pointer (some ⟨g,o,none⟩)) v) Kp k):=iJ p ho h
theorem VI {t T:TypeId}{n g:Nat}{cs vs:Array Value}[ht:AggT P t n](h:aJ W (pt g (.cells vs T (0,0))::L') (k undef))(p:Pick L (pt g (.cells cs T (0,0))) L':=by repeat constructor)(hn:cs.size=n:=by rfl)(hv:vs.size=n:=by rfl)(h1:∀u∈vs.toList,u.oneCell'=true:=by first|(simp[Value.oneCell'];done)|(intro u hu;simp at hu;rcases hu with rfl|rfl <;> rfl)|(intro u hu;simp at hu;rcases hu with rfl|rfl|rfl <;> rfl)):aJ W L (opN P (aM t (.pointer (some ⟨g,0,none⟩)) (.agg vs)) Kp k):=aK p hn hv h1 h
theorem bE {vs:List Value}{i:Nat}{v:Value}(h:aJ W L (k v))(hc:Nth vs i v:=by repeat constructor):aJ W L (opN P (kY (.tuple vs.toArray) i) Kp k):=aE (bU hc) .nil h
theorem rY {vs:List Value}{i:Nat}{v:Value}(h:aJ W L (k v))(hc:Nth vs i v:=by repeat constructor):aJ W L (stS P (kY (.tuple vs.toArray) i) k):=be (bU hc) .nil h
theorem bP {t:TypeId}{a b:Int}(h:aJ W L (k (.int .i64 (a+b))))(h1: -9223372036854775808<=a+b:=by omega)(h2:a+b<=9223372036854775807:=by omega):aJ W L (opN P (a_ .add t (.int .i64 a) (.int .i64 b)) Kp k):=aE (g9 h1 h2) .nil h
theorem rZ {t:TypeId}{a b:Int}(h:aJ W L (k (.int .i64 (a-b))))(h1: -9223372036854775808<=a-b:=by omega)(h2:a-b<=9223372036854775807:=by omega):aJ W L (opN P (a_ .sub t (.int .i64 a) (.int .i64 b)) Kp k):=aE (hO h1 h2) .nil h
theorem c_ {α:Type}{f:FuncId}{args:List Value}{A:List HP}{r:α->Value}{B G:α->List HP}(hf:Cn P f args W A r B)(h:∀x,aJ W (G x) (k (r x)))(p:Picks L A F:=by repeat(first|exact Picks.nil|(apply Picks.cons;(focus repeat constructor))))(e:∀x,B x++F=G x:=by intro _;first|(simp only[ca_,na_,-eq_self];exact rfl)|exact rfl):aJ W L (opN P (bG (fn f) args) Kp k):=ah hf p fun x=>e x▸h x
theorem bj {A:List HP}(h:aJ W L S)(i:Imp W L A:=by repeat(first|exact .refl|exact .nil|(apply Imp.pick;(focus ((repeat constructor);done)))|refine .drop ?_)):aJ W L (fun w=>sat W A w/\S w):=nw i h
theorem aR {α:Type}{φ:α->Prop}{M:α->List HP}(x:α)(i:Imp W L (M x))(hv:φ x:=by first|exact rfl|trivial):aJ W L (fun w'=>∃x,φ x/\sat W (M x) w'):=fun w hw=>⟨x,hv,i.sat hw⟩
end Go.Proofs.YtdjkdjepjahjfaaGreatDoor.Sl
namespace Go.Proofs.YtdjkdjepjahjfaaGreatDoor.Sg
open Go Sh Sl
abbrev E:=List (Nat × Value)
def S4 (b:Bool)(v:Value)(f:E->Value)(r:E):Value:=match b with
 |true=>v
 |false=>f r
theorem MX {v:Value}{f:E->Value}{r:E}:S4 true v f r=v:=rfl
theorem MY {v:Value}{f:E->Value}{r:E}:S4 false v f r=f r:=rfl
def lk (t:Nat):E->Value
 |[]=>undef
 |(i,v)::r=>match t==i with
  |true=>v
  |false=>lk t r
theorem S5 {t i:Nat}{v:Value}{r:E}:lk t ((i,v)::r)=S4 (t==i) v (lk t) r:=rfl
def vq (e:E):Operand->Value
 | .tmp t=>lk t e
 | .const v=>v
 | .global g=> .pointer (some ⟨g,0,none⟩)
 | .func f=>fn f
theorem S6 {e:E}{t:Nat}:vq e (.tmp t)=lk t e:=rfl
def vo (e:E):Option Operand->Option Value
 |none=>none
 |some x=>some (vq e x)
def vl (e:E):List Operand->List Value
 |[]=>[]
 |x::r=>vq e x::vl e r
def vp (e:E):List (Nat × Operand)->List (Nat × Value)
 |[]=>[]
 |(i,x)::r=>(i,vq e x)::vp e r
def bi (ts:Array TypeId)(t:TypeId)(a:List Value):Builtin->Sem Next
 | .append=>ju ts t a
 | .len=>gB ts t a
 | .cap=>yj ts t a
 | .copy=>zP ts t a
 | .delete=>tj ts t a
 | .min=>Hf ts t a
 | .max=>Hg ts t a
 | .clear=>rP ts t a
 |_=>pure .skip
def cl (e:E)(t:TypeId)(a:List Operand)(ts:Array TypeId):Callee->Sem Next
 | .value f=>bG (vq e f) (vl e a)
 | .invoke r n=>zQ (vq e r) n (vl e a)
 | .builtin b=>bi ts t (vl e a) b
def bn (e:E)(t:TypeId)(x y:Operand):BinOp->Sem Next
 | .eql=>dY .eql t x y (vq e x) (vq e y)
 | .neq=>dY .neq t x y (vq e x) (vq e y)
 |b=>a_ b t (vq e x) (vq e y)
def og (e:E)(t:TypeId):Op->Sem Next
 | .pick a b c=>d_ (vq e a) (vq e b) (vq e c)
 | .alloc u=>cF u
 | .box u x=>kX u (vq e x)
 | .build u ps=>aD u (vp e ps.toList)
 | .buildSlice u n ps=>co u n (vp e ps.toList)
 | .load u x=>aG u (vq e x)
 | .store u x y=>aM u (vq e x) (vq e y)
 | .nilCheck x=>cT (vq e x)
 | .binOp b u x y _=>bn e u x y b
 | .unOp b _ x=>zu b (vq e x)
 | .convert u s x=>ei u s (vq e x)
 | .slice u x l h m=>n8 u (vq e x) (vo e l) (vo e h) (vo e m)
 | .fieldAddr u x i=>fI u (vq e x) i
 | .field u x i=>S1 u (vq e x) i
 | .indexAddr u x i=>kL u (vq e x) (vq e i)
 | .index u x i=>mB u (vq e x) (vq e i)
 | .lookup u x i ok=>iE u (vq e x) (vq e i) ok
 | .mapUpdate u m k x=>gA u (vq e m) (vq e k) (vq e x)
 | .insert u m k x=>gA u (vq e m) (vq e k) (vq e x)
 | .mapEntry u m k=>Dw u (vq e m) (vq e k)
 | .entryStore u m s x=>Hc u (vq e m) (vq e s) (vq e x)
 | .range u x=>rO u (vq e x)
 | .next x s=>oQ (vq e x) s t
 | .entry x=>He (vq e x)
 | .typeAssert x u a ok=>zO (vq e x) u a ok
 | .extract x i=>kY (vq e x) i
 | .makeInterface u x=>nM u (vq e x)
 | .makeFunc f a b=>nN f (vl e a.toList) (vl e b.toList)
 | .makeMap u r=>oR u (vo e r)
 | .makeSlice u l c=>wB u (vq e l) (vq e c)
 | .sliceToArrayPointer u x=>MR u (vq e x)
 | .panic x=>oS (vq e x)
 | .call c=>cl e t c.args.toList c.argTypes c.callee
 |_=>pure .skip

inductive RO where
 |mv (x:Operand)
 |op (t:TypeId) (o:Op)
abbrev Gd:=Option (Nat × Bool)
inductive DO where
 |nil
 |a (d:Option Nat) (g:Gd) (o:RO) (r:DO)
 |b (d:Option Nat) (g:Gd) (o:RO) (l:List Nat) (r:DO)
 |s (d:Option Nat) (g:Gd) (o:RO) (r:DO)
 |c (k:Nat) (d:Option Nat) (g:Gd) (o:RO) (r:DO)
 |alt (x y:DO)
inductive D where
 |skip
 |reg (l:List (Option Nat × Gd × RO))
 |drw (t:DO)
 |seq (x y:D)
 |cut (l:List Nat) (x y:D)
 |cond (c:Operand) (x y:D)
 |blk (x:D)
 |bcut (l:List Nat) (x:D)
 |loop (l:List Nat) (x:D)
 |ex (n:Nat)
 |ret
 |bad
def ro (t:TypeId):Op->RO
 | .move x=> .mv x
 | .assign x=> .mv x
 |o=> .op t o
def S7:List Oper->Nat->Nat
 |[],_=>0
 |o::_,0=>match o.dst with
  |some t=>t
  |none=>0
 |_::r,j+1=>S7 r j
def gd (all:List Oper):Option (Nat × Bool)->Gd
 |none=>none
 |some (j,w)=>some (S7 all j,w)
def S8 (all:List Oper):List Oper->List (Option Nat × Gd × RO)
 |[]=>[]
 |o::r=>(o.dst,gd all o.guard,ro o.type o.op)::S8 all r
def S9:List Oper->Nat->Option Oper
 |[],_=>none
 |o::_,0=>some o
 |_::r,n+1=>S9 r n
def lo {α:Type}(k:Nat):List (Nat × α)->Option α
 |[]=>none
 |(i,x)::r=>match Nat.beq i k with
  |true=>some x
  |false=>lo k r
def FU (all:List Oper)(os:List (Nat × List Nat)):DT->DO
 | .nil=> .nil
 | .op k md t=>match S9 all k with
  |none=> .nil
  |some o=>match Nat.beq md 3 with
   |true=> .c k o.dst (gd all o.guard) (ro o.type o.op) (FU all os t)
   |false=>match Nat.beq md 0 with
    |false=> .s o.dst (gd all o.guard) (ro o.type o.op) (FU all os t)
    |true=>match lo k os with
     |none=> .a o.dst (gd all o.guard) (ro o.type o.op) (FU all os t)
     |some l=> .b o.dst (gd all o.guard) (ro o.type o.op) l (FU all os t)
 | .alt a b=> .alt (FU all os a) (FU all os b)
def fo (a b:Nat):Nat:=match Nat.beq a 1000000 with
 |true=>b
 |false=>a
def fi:Code->Nat
 | .region id _ _=>id
 | .seq a b=>fo (fi a) (fi b)
 | .cond _ a b=>fo (fi a) (fi b)
 | .block _ b=>fi b
 | .loop b=>fi b
 | .scope b=>fi b
 |_=>1000000
def pl:Code->Bool
 | .region .. =>true
 | .skip=>true
 | .label _=>true
 |_=>false
def ct (an:Ann)(x y:Code):Option (List Nat):=match pl x with
 |true=>lo (fi y) an.rcuts
 |false=>lo (fi y) an.cuts
def ix (i:Nat):List Nat->Nat
 |[]=>0
 |a0::r=>match Nat.beq i a0 with
  |true=>0
  |false=>match r with
   |[]=>0
   |a1::r=>match Nat.beq i a1 with
    |true=>1
    |false=>match r with
     |[]=>0
     |a2::r=>match Nat.beq i a2 with
      |true=>2
      |false=>match r with
       |[]=>0
       |a3::_=>match Nat.beq i a3 with
        |true=>3
        |false=>4
def ls {α:Type}:Option (List α)->List α
 |none=>[]
 |some l=>l
def dc (an:Ann)(os:List (Nat × List (Nat × List Nat))):List Nat->Code->D
 |_,.skip=> .skip
 |_,.region i ops d=>match d with
  |false=> .reg (S8 ops.toList ops.toList)
  |true=>match lo i an.drs with
   |none=> .bad
   |some t=> .drw (FU ops.toList (ls (lo i os)) t)
 |bl,.seq x y=>match ct an x y with
  |none=> .seq (dc an os bl x) (dc an os bl y)
  |some l=> .cut l (dc an os bl x) (dc an os bl y)
 |bl,.cond c x y=> .cond c (dc an os bl x) (dc an os bl y)
 |bl,.block i b=>match lo i an.blks with
  |none=> .blk (dc an os (i::bl) b)
  |some l=> .bcut l (dc an os (i::bl) b)
 |bl,.loop b=>match lo (fi b) an.loops with
  |none=> .bad
  |some l=> .loop l (dc an os bl b)
 |bl,.exit i=> .ex (ix i bl)
 |_,.ret=> .ret
 |_,.label _=> .skip
 |bl,.scope b=>dc an os bl b
 |_,_=> .bad

section
variable (Kp:PK)
def Af (e:E):RO->(Value->WP)->WP
 | .mv x=>fun k=>k (vq e x)
 | .op t o=>opN p_ (og e t o) Kp
def MZ (e:E):RO->(Value->WP)->WP
 | .mv x=>fun k=>k (vq e x)
 | .op t o=>stS p_ (og e t o)
def Q3 (e:E):RO->(WP->Value->WP)->WP
 | .mv _=>fun _ _=>False
 | .op t o=>stD p_ (og e t o)
def has (k:Nat):List Nat->Bool
 |[]=>false
 |i::r=>match i==k with
  |true=>true
  |false=>has k r
def ob (l:List Nat):List (Nat × WP)->WP->WP
 |[],S=>S
 |(k,D)::r,S=>match has k l with
  |true=>fun w=>D w/\ob l r S w
  |false=>ob l r S
def pp (d:Option Nat)(v:Value)(e:E):E:=match d with
 |none=>e
 |some t=>(t,v)::e
def gk (g:Gd)(e:E)(body:(Value->WP)->WP)(k:Value->WP):WP:=match g with
 |none=>body k
 |some (t,w)=>gdK (lk t e) w body k
def M0 (g:Gd)(e:E)(body:(WP->Value->WP)->WP)(k:WP->Value->WP):WP:=match g with
 |none=>body k
 |some (t,w)=>gdD (lk t e) w body k
def rw_ (K:E->WP):List (Option Nat × Gd × RO)->E->WP
 |[],e=>K e
 |(d,g,o)::r,e=>gk g e (Af Kp e o) fun v=>rw_ K r (pp d v e)
def dw (K:E->WP):DO->List (Nat × WP)->E->WP
 | .nil,_,e=>K e
 | .a d g o r,q,e=>gk g e (Af Kp e o) fun v=>dw K r q (pp d v e)
 | .b d g o l r,q,e=>gk g e (Af Kp e o) fun v=>ob l q (dw K r q (pp d v e))
 | .s d g o r,q,e=>gk g e (MZ e o) fun v=>dw K r q (pp d v e)
 | .c k d g o r,q,e=>M0 g e (Q3 e o) fun D v=>dw K r ((k,D)::q) (pp d v e)
 | .alt x y,q,e=>zH (dw K x q e) (dw K y q e)
def U9 (l:List Nat)(B:(E->WP)->WP)(R:E->WP)(e:E):WP:=match l with
 |[]=>vj (fun J=>B fun _=>J) fun _=>R e
 |[a]=>rQ (fun J=>B fun e'=>J (lk a e')) fun _ x=>R ((a,x)::e)
 |[a,b]=>oT (fun J=>B fun e'=>J (lk a e') (lk b e')) fun _ x y=>R ((a,x)::(b,y)::e)
 |[a,b,c]=>zT (fun J=>B fun e'=>J (lk a e') (lk b e') (lk c e')) fun _ x y z=>R ((a,x)::(b,y)::(c,z)::e)
 |[a,b,c,d]=>Hh (fun J=>B fun e'=>J (lk a e') (lk b e') (lk c e') (lk d e')) fun _ x y z u=>R ((a,x)::(b,y)::(c,z)::(d,u)::e)
 |_=>fun _=>False
def VJ (l:List Nat)(B:(E->WP)->E->WP)(e:E):WP:=match l with
 |[]=>zR (fun I m _=>B (fun _=>zS I m) e)
 |[a]=>qF (fun I m _ x=>B (fun e'=>lI I m (lk a e')) ((a,x)::e)) (lk a e)
 |[a,b]=>oU (fun I m _ x y=>B (fun e'=>oV I m (lk a e') (lk b e')) ((a,x)::(b,y)::e)) (lk a e) (lk b e)
 |[a,b,c]=>zU (fun I m _ x y z=>B (fun e'=>zV I m (lk a e') (lk b e') (lk c e')) ((a,x)::(b,y)::(c,z)::e)) (lk a e) (lk b e) (lk c e)
 |[a,b,c,d]=>FN (fun I m _ x y z u=>B (fun e'=>FO I m (lk a e') (lk b e') (lk c e') (lk d e')) ((a,x)::(b,y)::(c,z)::(d,u)::e)) (lk a e) (lk b e) (lk c e) (lk d e)
 |_=>fun _=>False
def kx:Nat->List (E->WP)->E->WP
 |_,[],_=>fun _=>False
 |0,x::_,e=>x e
 |n+1,_::r,e=>kx n r e
def cw:D->(E->WP)->List (E->WP)->(E->WP)->E->WP
 | .skip,k,_,_,e=>k e
 | .reg l,k,_,_,e=>rw_ Kp k l e
 | .drw t,k,_,_,e=>n5 (dw Kp k t [] e)
 | .seq x y,k,X,R,e=>cw x (cw y k X R) X R e
 | .cut l x y,k,X,R,e=>U9 l (fun J=>cw x J X R e) (cw y k X R) e
 | .cond c x y,k,X,R,e=>condS (vq e c) (cw x k X R e) (cw y k X R e)
 | .blk x,k,X,R,e=>cw x k (k::X) R e
 | .bcut l x,k,X,R,e=>U9 l (fun J=>cw x J (J::X) R e) k e
 | .loop l x,_,X,R,e=>VJ l (fun J e'=>cw x J X R e') e
 | .ex n,_,X,_,e=>kx n X e
 | .ret,_,_,R,e=>R e
 | .bad,_,_,_,_=>fun _=>False
end
section
variable {Kp:PK} {K k:E->WP} {X:List (E->WP)} {R:E->WP} {e:E} {d:Nat} {g:Gd} {o:RO} {r:List (Option Nat × Gd × RO)} {q:List (Nat × WP)} {t:DO} {l:List Nat} {x y:D} {a b a2 a3 a4:Nat} {w:Bool}
theorem M1 {v:Operand}:Af Kp e (.mv v)=fun k=>k (vq e v):=rfl
theorem M2 {t:TypeId}{o:Op}:Af Kp e (.op t o)=opN p_ (og e t o) Kp:=rfl
theorem M3 {v:Operand}:MZ e (.mv v)=fun k=>k (vq e v):=rfl
theorem M4 {t:TypeId}{o:Op}:MZ e (.op t o)=stS p_ (og e t o):=rfl
theorem M5 {t:TypeId}{o:Op}:Q3 e (.op t o)=stD p_ (og e t o):=rfl
theorem S_ {B:(Value->WP)->WP}{k:Value->WP}:gk none e B k=B k:=rfl
theorem Ta {B:(Value->WP)->WP}{k:Value->WP}:gk (some (a,w)) e B k=gdK (lk a e) w B k:=rfl
theorem M6 {B:(WP->Value->WP)->WP}{k:WP->Value->WP}:M0 none e B k=B k:=rfl
theorem M7 {B:(WP->Value->WP)->WP}{k:WP->Value->WP}:M0 (some (a,w)) e B k=gdD (lk a e) w B k:=rfl
theorem Tb:rw_ Kp K [] e=K e:=rfl
theorem Tc:rw_ Kp K ((none,g,o)::r) e=gk g e (Af Kp e o) fun _=>rw_ Kp K r e:=rfl
theorem Td:rw_ Kp K ((some d,g,o)::r) e=gk g e (Af Kp e o) fun v=>rw_ Kp K r ((d,v)::e):=rfl
theorem Te:dw Kp K .nil q e=K e:=rfl
theorem M8:dw Kp K (.a none g o t) q e=gk g e (Af Kp e o) fun _=>dw Kp K t q e:=rfl
theorem M9:dw Kp K (.a (some d) g o t) q e=gk g e (Af Kp e o) fun v=>dw Kp K t q ((d,v)::e):=rfl
theorem M_:dw Kp K (.b none g o l t) q e=gk g e (Af Kp e o) fun _=>ob l q (dw Kp K t q e):=rfl
theorem Na:dw Kp K (.b (some d) g o l t) q e=gk g e (Af Kp e o) fun v=>ob l q (dw Kp K t q ((d,v)::e)):=rfl
theorem Nb:dw Kp K (.s none g o t) q e=gk g e (MZ e o) fun _=>dw Kp K t q e:=rfl
theorem Nc:dw Kp K (.s (some d) g o t) q e=gk g e (MZ e o) fun v=>dw Kp K t q ((d,v)::e):=rfl
theorem Nd:dw Kp K (.c a none g o t) q e=M0 g e (Q3 e o) fun D _=>dw Kp K t ((a,D)::q) e:=rfl
theorem Nf:dw Kp K (.c a (some d) g o t) q e=M0 g e (Q3 e o) fun D v=>dw Kp K t ((a,D)::q) ((d,v)::e):=rfl
theorem Hm {t u:DO}:dw Kp K (.alt t u) q e=zH (dw Kp K t q e) (dw Kp K u q e):=rfl
theorem Tf {S:WP}:ob l [] S=S:=rfl
theorem Tg {S:WP}{D:WP}:ob l ((a,D)::q) S=(match has a l with
  |true=>fun w=>D w/\ob l q S w
  |false=>ob l q S):=rfl
theorem DA:cw Kp .skip k X R e=k e:=rfl
theorem Hn:cw Kp (.reg r) k X R e=rw_ Kp k r e:=rfl
theorem Ho:cw Kp (.drw t) k X R e=n5 (dw Kp k t [] e):=rfl
theorem Hp:cw Kp (.seq x y) k X R e=cw Kp x (cw Kp y k X R) X R e:=rfl
theorem Ng:cw Kp (.cut [] x y) k X R e=vj (fun J=>cw Kp x (fun _=>J) X R e) fun _=>cw Kp y k X R e:=rfl
theorem Nh:cw Kp (.cut [a] x y) k X R e=rQ (fun J=>cw Kp x (fun e'=>J (lk a e')) X R e) fun _ u=>cw Kp y k X R ((a,u)::e):=rfl
theorem Ni:cw Kp (.cut [a,a2] x y) k X R e=oT (fun J=>cw Kp x (fun e'=>J (lk a e') (lk a2 e')) X R e) fun _ u u2=>cw Kp y k X R ((a,u)::(a2,u2)::e):=rfl
theorem Nj:cw Kp (.cut [a,a2,a3] x y) k X R e=zT (fun J=>cw Kp x (fun e'=>J (lk a e') (lk a2 e') (lk a3 e')) X R e) fun _ u u2 u3=>cw Kp y k X R ((a,u)::(a2,u2)::(a3,u3)::e):=rfl
theorem Nk:cw Kp (.cut [a,a2,a3,a4] x y) k X R e=Hh (fun J=>cw Kp x (fun e'=>J (lk a e') (lk a2 e') (lk a3 e') (lk a4 e')) X R e) fun _ u u2 u3 u4=>cw Kp y k X R ((a,u)::(a2,u2)::(a3,u3)::(a4,u4)::e):=rfl
theorem Nl:cw Kp (.bcut [] x) k X R e=vj (fun J=>cw Kp x (fun _=>J) ((fun _=>J)::X) R e) fun _=>k e:=rfl
theorem Nm:cw Kp (.bcut [a] x) k X R e=rQ (fun J=>cw Kp x (fun e'=>J (lk a e')) ((fun e'=>J (lk a e'))::X) R e) fun _ u=>k ((a,u)::e):=rfl
theorem Nn:cw Kp (.bcut [a,a2] x) k X R e=oT (fun J=>cw Kp x (fun e'=>J (lk a e') (lk a2 e')) ((fun e'=>J (lk a e') (lk a2 e'))::X) R e) fun _ u u2=>k ((a,u)::(a2,u2)::e):=rfl
theorem No:cw Kp (.bcut [a,a2,a3] x) k X R e=zT (fun J=>cw Kp x (fun e'=>J (lk a e') (lk a2 e') (lk a3 e')) ((fun e'=>J (lk a e') (lk a2 e') (lk a3 e'))::X) R e) fun _ u u2 u3=>k ((a,u)::(a2,u2)::(a3,u3)::e):=rfl
theorem Np:cw Kp (.bcut [a,a2,a3,a4] x) k X R e=Hh (fun J=>cw Kp x (fun e'=>J (lk a e') (lk a2 e') (lk a3 e') (lk a4 e')) ((fun e'=>J (lk a e') (lk a2 e') (lk a3 e') (lk a4 e'))::X) R e) fun _ u u2 u3 u4=>k ((a,u)::(a2,u2)::(a3,u3)::(a4,u4)::e):=rfl
theorem DB {c:Operand}:cw Kp (.cond c x y) k X R e=condS (vq e c) (cw Kp x k X R e) (cw Kp y k X R e):=rfl
theorem Hq:cw Kp (.blk x) k X R e=cw Kp x k (k::X) R e:=rfl
theorem Nq:cw Kp (.loop [] x) k X R e=zR (fun I m _=>cw Kp x (fun _=>zS I m) X R e):=rfl
theorem Nr:cw Kp (.loop [a] x) k X R e=qF (fun I m _ u=>cw Kp x (fun e'=>lI I m (lk a e')) X R ((a,u)::e)) (lk a e):=rfl
theorem Ns:cw Kp (.loop [a,a2] x) k X R e=oU (fun I m _ u u2=>cw Kp x (fun e'=>oV I m (lk a e') (lk a2 e')) X R ((a,u)::(a2,u2)::e)) (lk a e) (lk a2 e):=rfl
theorem Nt:cw Kp (.loop [a,a2,a3] x) k X R e=zU (fun I m _ u u2 u3=>cw Kp x (fun e'=>zV I m (lk a e') (lk a2 e') (lk a3 e')) X R ((a,u)::(a2,u2)::(a3,u3)::e)) (lk a e) (lk a2 e) (lk a3 e):=rfl
theorem Nu:cw Kp (.loop [a,a2,a3,a4] x) k X R e=FN (fun I m _ u u2 u3 u4=>cw Kp x (fun e'=>FO I m (lk a e') (lk a2 e') (lk a3 e') (lk a4 e')) X R ((a,u)::(a2,u2)::(a3,u3)::(a4,u4)::e)) (lk a e) (lk a2 e) (lk a3 e) (lk a4 e):=rfl
theorem Hr:cw Kp .ret k X R e=R e:=rfl
theorem Nv {k0:E->WP}:cw Kp (.ex 0) k (k0::X) R e=k0 e:=rfl
theorem Nw {k0 k1:E->WP}:cw Kp (.ex 1) k (k0::k1::X) R e=k1 e:=rfl
theorem Ny {k0 k1 k2:E->WP}:cw Kp (.ex 2) k (k0::k1::k2::X) R e=k2 e:=rfl
theorem Nz {k0 k1 k2 k3:E->WP}:cw Kp (.ex 3) k (k0::k1::k2::k3::X) R e=k3 e:=rfl
theorem NB {k0 k1 k2 k3 k4:E->WP}:cw Kp (.ex 4) k (k0::k1::k2::k3::k4::X) R e=k4 e:=rfl
end
def tp:List Value->Value
 |[]=> .tuple #[]
 |[v]=>v
 |[a,b]=> .tuple #[a,b]
 |[a,b,c]=> .tuple #[a,b,c]
 |l=> .tuple l.toArray
def rt (e:E)(K:Value->WP):List ResultVar->List Value->WP
 |[],acc=>K (tp acc)
 | .tmp t::r,acc=>rt e K r (acc++[lk t e])
 | .cell a t::r,acc=>stS p_ (cZ t (lk a e)) fun v=>rt e K r (acc++[v])
theorem Th {e:E}{K:Value->WP}{acc:List Value}:rt e K [] acc=K (tp acc):=rfl
theorem Ti {e:E}{K:Value->WP}{acc:List Value}{t:Nat}{r:List ResultVar}:rt e K (.tmp t::r) acc=rt e K r (acc++[lk t e]):=rfl
theorem Tj {e:E}{K:Value->WP}{acc:List Value}{a t:Nat}{r:List ResultVar}:rt e K (.cell a t::r) acc=stS p_ (cZ t (lk a e)) fun v=>rt e K r (acc++[v]):=rfl
def en:List Value->E
 |[]=>[]
 |[v0]=>[(0,v0)]
 |[v0,v1]=>[(0,v0),(1,v1)]
 |[v0,v1,v2]=>[(0,v0),(1,v1),(2,v2)]
 |[v0,v1,v2,v3]=>[(0,v0),(1,v1),(2,v2),(3,v3)]
 |[v0,v1,v2,v3,v4]=>[(0,v0),(1,v1),(2,v2),(3,v3),(4,v4)]
 |[v0,v1,v2,v3,v4,v5]=>[(0,v0),(1,v1),(2,v2),(3,v3),(4,v4),(5,v5)]
 |[v0,v1,v2,v3,v4,v5,v6]=>[(0,v0),(1,v1),(2,v2),(3,v3),(4,v4),(5,v5),(6,v6)]
 |[v0,v1,v2,v3,v4,v5,v6,v7]=>[(0,v0),(1,v1),(2,v2),(3,v3),(4,v4),(5,v5),(6,v6),(7,v7)]
 |[v0,v1,v2,v3,v4,v5,v6,v7,v8]=>[(0,v0),(1,v1),(2,v2),(3,v3),(4,v4),(5,v5),(6,v6),(7,v7),(8,v8)]
 |_=>[]
theorem NC:p_.follows .mixedOrders=true:=by kernel_rfl
theorem g_ {f:FuncId} {fn:Func} {args:List Value} (hc:∀(a:Array Value) (w:World),(callFunc f a).run p_ w= .ok (.enter f a) w) (hf:p_.funcs[f]? =some fn) (an:Ann:={}) (os:List (Nat × List (Nat × List Nat)):=[]) {c:Code} {rs:List ResultVar} {d:D} {b:PK->(Value->WP)->WP} (_:fn.body=some c:=by exact rfl) (_:fn.results=rs.toArray:=by exact rfl)
 (_:dc an os [] c=d:=by dsimp only[Sg.dc,Sg.ct,Sg.pl,Sg.fi,Sg.fo,Sg.lo,Sg.ls,Sg.ix,Sg.S8,Sg.gd,Sg.S7,Sg.ro,Sg.S9,Sg.FU,Sh.DT.ofL] <;> exact rfl)
 (_:∀Kp K,cw Kp d (fun e=>rt e K rs []) [] (fun e=>rt e K rs []) (en args)=b Kp K:=by intro Kp K;dsimp only[Nat.reduceBEq,Sg.MX,Sg.MY,Sg.has,↓Sg.S5,↓Sg.S6,↓Sg.M1,↓Sg.M2,↓Sg.M3,↓Sg.M4,↓Sg.M5,↓Sg.S_,↓Sg.Ta,↓Sg.M6,↓Sg.M7,↓Sg.Tb,↓Sg.Tc,↓Sg.Td,↓Sg.Te,↓Sg.M8,↓Sg.M9,↓Sg.M_,↓Sg.Na,↓Sg.Nb,↓Sg.Nc,↓Sg.Nd,↓Sg.Nf,↓Sg.Hm,↓Sg.Tf,↓Sg.Tg,↓Sg.DA,↓Sg.Hn,↓Sg.Ho,↓Sg.Hp,↓Sg.Ng,↓Sg.Nh,↓Sg.Ni,↓Sg.Nj,↓Sg.Nk,↓Sg.Nl,↓Sg.Nm,↓Sg.Nn,↓Sg.No,↓Sg.Np,↓Sg.DB,↓Sg.Hq,↓Sg.Nq,↓Sg.Nr,↓Sg.Ns,↓Sg.Nt,↓Sg.Nu,↓Sg.Hr,↓Sg.Nv,↓Sg.Nw,↓Sg.Ny,↓Sg.Nz,↓Sg.NB,↓Sg.Th,↓Sg.Ti,↓Sg.Tj,Sg.og,Sg.bn,Sg.cl,Sg.bi,Sg.vq,Sg.vo,Sg.vl,Sg.vp,Sg.tp,Sg.en,List.nil_append,List.cons_append] <;> exact rfl)
 (he:∀Kp K,zK p_ an fn args Kp K=b Kp K:=by intro _ _;kernel_rfl):Shp p_ f args b:=U8 NC hc hf he
end Go.Proofs.YtdjkdjepjahjfaaGreatDoor.Sg
