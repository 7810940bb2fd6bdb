/- A shape for walks: what the model's run of a function's code asks, written as nested continuations over plain values, and that it suffices. No program in sight; no conditions. (22 texts made one; each says below what it is.) -/
import Derived.OrdersIn
import Derived.TacticsIn
import Derived.Below
import Derived.Scope
import Derived.Tactics
import Derived.Recover
import Derived.RangeFuncRecord
import Derived.Deep.AppendSrc
import Derived.Laws.AppendOwn
import Derived.IntWalk
import Derived.Laws.Pointers
import Derived.Laws.Cover3
import Derived.Laws.BytesString
import Derived.Laws.Strings
import Derived.ProofKit
import Derived.OpenShut
import Derived.JoinedCond
import Derived.Test.YtdjkdjepjahjfaaGreatDoorChecked
import Derived.KernelRfl
import Derived.Laws.IdiomStrings
set_option linter.unusedVariables false
set_option linter.unusedSimpArgs false
set_option linter.unusedSectionVars false
set_option maxRecDepth 9999
theorem Go.Proofs.YtdjkdjepjahjfaaGreatDoor.ca_ {α : Type _} {a : α} {l m : List α} : (a :: l) ++ m = a :: (l ++ m) := rfl
theorem Go.Proofs.YtdjkdjepjahjfaaGreatDoor.na_ {α : Type _} {l : List α} : [] ++ l = l := rfl
noncomputable abbrev Go.Proofs.YtdjkdjepjahjfaaGreatDoor.p_ : Go.Program := Go.Proofs.Tryz.prog
theorem Go.Proofs.YtdjkdjepjahjfaaGreatDoor.dF_ {p : Prop} [Decidable p] (h : ¬ p) : decide p = false := decide_eq_false h
theorem Go.Proofs.YtdjkdjepjahjfaaGreatDoor.dT_ {p : Prop} [Decidable p] (h : p) : decide p = true := decide_eq_true h
namespace Go.Proofs.YtdjkdjepjahjfaaGreatDoor.Sh
abbrev dq:=Nat->Value
abbrev WP:=World->Prop
def ev (n:Nat)(e:dq):Operand->Value
 | .tmp t=>match Nat.blt t n with
  |true=>e t
  |false=>undef
 | .const v=>v
 | .global g=> .pointer (some ⟨g,0,none⟩)
 | .func f=> .func (.func f) #[] #[]
def Dw (e:dq)(d:Nat)(v:Value):dq:=fun i=>match Nat.beq i d with
 |true=>v
 |false=>e i
def fj (e:dq)(d:Option Tmp)(v:Value):dq:=
 match d with
 |some d=>Dw e d v
 |none=>e
structure opN (P:Program)(s:Sem Next)(Kp:List PanicEntry->WP)(k:Value->WP)(w:World):Prop where
 out:match s.run P w with
 | .ok (.value v) w'=>k v w'
 | .ok .skip w'=>k undef w'
 | .ok (.enter f args) w'=>Calls P f args w' fun
   | .returned v,w''=>k v w''
   | .panicked ch,w''=>Kp ch w''
   | .outgrown,_=>False
 | .ok (.round l f tmps assign body) w'=>RoundIn Fence.wide 0 P l f tmps assign body w' fun
   | .returned v,w''=>k v w''
   | .panicked ch,w''=>Kp ch w''
   | .outgrown,_=>False
 | .halt (.panic v) w'=>Kp [{v,recovered:=false}] w'
 |_=>False
structure stS (P:Program)(s:Sem Next)(k:Value->WP)(w:World):Prop where
 out:∃v,s.run P w= .ok (.value v) w/\k v w
structure stD (P:Program)(s:Sem Next)(k:WP->Value->WP)(w:World):Prop where
 out:∃(D:WP) (v:Value),D w/\(∀w',D w'->s.run P w'= .ok (.value v) w')/\k D v w
def yt (n:Nat)(ops:Array Oper)(e:dq)(j:Nat):Value:=
 match(ops[j]?).bind (·.dst)with
 |some t=>ev n e (.tmp t)
 |none=>undef
def Q1 (v:Value)(want:Bool)(A B:WP)(w:World):Prop:=
 match v with
 | .bool b=>if b=want then A w else B w
 |_=>B w
structure gdK (v:Value)(want:Bool)(body:(Value->WP)->WP)(k:Value->WP)(w:World):Prop where
 out:Q1 v want (body k) (k undef) w
structure gdD (v:Value)(want:Bool)(body:(WP->Value->WP)->WP)(k:WP->Value->WP)(w:World):Prop where
 out:Q1 v want (body k) (k (fun _=>True) undef) w
def Dx (n:Nat)(ops:Array Oper)(e:dq)(o:Oper)(body:(Value->WP)->WP)(k:Value->WP):WP:=
 match o.guard with
 |none=>body k
 |some (j,want)=>gdK (yt n ops e j) want body k
def G5 (n:Nat)(ops:Array Oper)(e:dq)(o:Oper)(body:(WP->Value->WP)->WP)(k:WP->Value->WP):WP:=
 match o.guard with
 |none=>body k
 |some (j,want)=>gdD (yt n ops e j) want body k
structure condS (v:Value)(A B:WP)(w:World):Prop where
 out:match v with
 | .bool true=>A w
 | .bool false=>B w
 |_=>False
def pm (n:Nat)(e:dq)(o:Oper):Sem Next:=
 match o.op with
 | .build t ps=>do pure (.value (<- Instr.build t (ps.toList.map fun p=>(p.1,ev n e p.2)).toArray))
 | .buildSlice t len ps=>do pure (.value (<- Instr.buildSlice t len (ps.toList.map fun p=>(p.1,ev n e p.2)).toArray))
 | .makeFunc f a b=>do pure (.value (<- Instr.makeFunc f (a.toList.map (ev n e)).toArray (b.toList.map (ev n e)).toArray))
 | .call c=>match c.callee with
  | .value f=>do
   let d <- Deferred.ofValue (ev n e f) (c.args.toList.map (ev n e)).toArray
   invoke d.target d.args
  | .builtin .append=>do pure (.value (<- Builtin.append_ c.argTypes o.type (c.args.toList.map (ev n e)).toArray))
  | .builtin .len=>do pure (.value (<- Builtin.len_ c.argTypes o.type (c.args.toList.map (ev n e)).toArray))
  | .builtin .cap=>do pure (.value (<- Builtin.cap_ c.argTypes o.type (c.args.toList.map (ev n e)).toArray))
  | .builtin .copy=>do pure (.value (<- Builtin.copy_ c.argTypes o.type (c.args.toList.map (ev n e)).toArray))
  | .builtin .delete=>do pure (.value (<- Builtin.delete_ c.argTypes o.type (c.args.toList.map (ev n e)).toArray))
  | .builtin .min=>do pure (.value (<- Builtin.min_ c.argTypes o.type (c.args.toList.map (ev n e)).toArray))
  | .builtin .max=>do pure (.value (<- Builtin.max_ c.argTypes o.type (c.args.toList.map (ev n e)).toArray))
  | .builtin .clear=>do pure (.value (<- Builtin.clear_ c.argTypes o.type (c.args.toList.map (ev n e)).toArray))
  | .invoke r nm=>invoke (.fn (.method nm) #[]) (#[ev n e r]++(c.args.toList.map (ev n e)).toArray)
  |_=>execOp (ev n e) o
 |_=>execOp (ev n e) o
def tM (P:Program)(n:Nat)(e:dq)(o:Oper)(Kp:List PanicEntry->WP)(k:Value->WP):WP:=
 match o.op with
 | .move x=>k (ev n e x)
 | .assign x=>k (ev n e x)
 |_=>opN P (pm n e o) Kp k
def wR (P:Program)(n:Nat)(e:dq)(o:Oper)(k:Value->WP):WP:=
 match o.op with
 | .move x=>k (ev n e x)
 | .assign x=>k (ev n e x)
 |_=>stS P (pm n e o) k
def l_ (P:Program)(n:Nat)(ops:Array Oper)(Kp:List PanicEntry->WP)(K:dq->WP):List Oper->dq->WP
 |[],e=>K e
 |o::rest,e=>Dx n ops e o (tM P n e o Kp) fun v=>l_ P n ops Kp K rest (fj e o.dst v)
def iU (ops:Array Oper):Nat->Nat->Nat->Bool
 |0,_,_=>false
 |n+1,k,i=>match ops[k]? with
  |some o=>o.after.toList.any fun e=>Region.binds .any e&&(e.on==i||iU ops n e.on i)
  |none=>false
def Td:List (Nat × WP)->WP->WP
 |[],S=>S
 |(_,D)::r,S=>fun w=>D w/\Td r S w
inductive DT where
 |nil
 |op (k md:Nat) (t:DT)
 |alt (a b:DT)
def DT.ofL:List (Nat × Nat)->DT
 |[]=> .nil
 |(k,md)::r=> .op k md (DT.ofL r)
def DT.len:DT->Nat
 | .nil=>0
 | .op _ _ t=>t.len+1
 | .alt a _=>a.len
def DT.heads:DT->List Nat
 | .nil=>[]
 | .op k _ _=>[k]
 | .alt a b=>a.heads++b.heads
def DT.acts:DT->List Nat
 | .nil=>[]
 | .op k md t=>match md with
  |0=>k::t.acts
  |_=>t.acts
 | .alt a b=>a.acts++b.acts
def zZ (A B:WP):WP:=fun w=>A w/\B w
def gC (P:Program)(n:Nat)(ops:Array Oper)(Kp:List PanicEntry->WP)(K:dq->WP):DT->List (Nat × WP)->dq->WP
 | .nil,_,e=>K e
 | .op k md r,pend,e=>match ops[k]? with
  |none=>fun _=>False
  |some o=>match md with
   |0=>Dx n ops e o (tM P n e o Kp) fun v=>Td (pend.filter fun p=>!iU ops ops.size k p.1) (gC P n ops Kp K r pend (fj e o.dst v))
   |1=>Dx n ops e o (wR P n e o) fun v=>gC P n ops Kp K r pend (fj e o.dst v)
   |2=>match o.op with
    | .move x=>Dx n ops e o (fun c=>c (ev n e x)) fun v=>gC P n ops Kp K r pend (fj e o.dst v)
    | .assign x=>Dx n ops e o (fun c=>c (ev n e x)) fun v=>gC P n ops Kp K r pend (fj e o.dst v)
    |_=>fun _=>False
   |_=>G5 n ops e o (stD P (pm n e o)) fun D v=>gC P n ops Kp K r ((k,D)::pend) (fj e o.dst v)
 | .alt a b,pend,e=>zZ (gC P n ops Kp K a pend e) (gC P n ops Kp K b pend e)
def gA (ops : Array Oper) : Bool → DT → Array Bool → Bool
  | fl, .nil, E => !fl && (Region.ready .any ops E).isEmpty
  | fl, .op k md r, E =>
    (match md with
     | 0 => match fl with
       | true => (Region.ready .any ops E).contains k
       | false => Region.ready .any ops E == [k]
     | _ => !fl && ((Region.ready .any ops E).contains k && Region.free .any ops E k && (md != 1 || r.acts.all fun p => iU ops ops.size p k))) && gA ops false r (E.setIfInBounds k true)
  | fl, .alt a b, E => (fl || (Region.ready .any ops E).all fun j => (a.heads ++ b.heads).contains j) && (a.len == b.len && (gA ops true a E && gA ops true b E))
def vA (ops:Array Oper)(r:DT):Bool:=Region.noSelect ops&&r.len==ops.size&&gA ops false r (Array.replicate ops.size false)
def oO (S:WP)(w:World):Prop:=S {w with drawn:=w.drawn+1}
@[reducible] def VF:Nat->Type->Type
 |0,α=>α
 |n+1,α=>Value->VF n α
def ji {α:Type}:(n:Nat)->VF n α->List Value->α
 |0,f,_=>f
 |n+1,f,vs=>ji n (f (vs.headD undef)) vs.tail
def wS:Nat->(List Value->Prop)->Prop
 |0,f=>f []
 |n+1,f=>∀v,wS n fun l=>f (v::l)
def gZ:dq->List Nat->List Value->dq
 |e,[],_=>e
 |e,i::is,vs=>gZ (Dw e i (vs.headD undef)) is vs.tail
def upd (e:dq)(dead:List Nat)(ds:List Value)(live:List Nat)(vs:List Value):dq:=gZ (gZ e dead ds) live vs
def lA (e:dq)(l:List Nat):List Value:=l.map e
def Dy (n:Nat)(body:VF n WP->WP)(rest:List Value->List Value->WP)(w:World):Prop:=
 ∃J:VF n WP,(∀ds,wS n fun vs=>∀w',ji n J vs w'->rest ds vs w')/\body J w
def Mt (n:Nat)(body:(Nat->VF n WP)->Nat->List Value->List Value->WP)(vs0:List Value)(w:World):Prop:=
 ∃I:Nat->VF n WP,(∃m,ji n (I m) vs0 w)/\∀m ds,wS n fun vs=>∀w',ji n (I m) vs w'->body I m ds vs w'
def Mu (n:Nat)(I:Nat->VF n WP)(m:Nat)(vs:List Value)(w:World):Prop:=∃m',m'<m/\ji n (I m') vs w
structure Ann where
 cuts:List (Nat × List Nat):=[]
 blks:List (Nat × List Nat):=[]
 loops:List (Nat × List Nat):=[]
 drs:List (Nat × DT):=[]
 rcuts:List (Nat × List Nat):=[]
def m7 {α:Type}(k:Nat):List (Nat × α)->Option α
 |[]=>none
 |(i,x)::r=>if i=k then some x else m7 k r
def eJ:Code->Nat
 | .region id _ _=>id
 | .seq a b=>let n:=eJ a;if n=1000000 then eJ b else n
 | .cond _ a b=>let n:=eJ a;if n=1000000 then eJ b else n
 | .block _ b=>eJ b
 | .loop b=>eJ b
 | .scope b=>eJ b
 |_=>1000000
def wr:Code->List Nat
 | .region _ ops _=>ops.toList.filterMap (·.dst)
 | .seq a b=>wr a++wr b
 | .cond _ a b=>wr a++wr b
 | .block _ b=>wr b
 | .loop b=>wr b
 | .scope b=>wr b
 |_=>[]
def z8 (o:Oper):Bool:=match o.op with
 | .defer _=>true
 |_=>false
def h_:Code->Bool
 | .region _ ops _=>ops.toList.all fun o=>!z8 o
 | .seq a b=>h_ a&&h_ b
 | .cond _ a b=>h_ a&&h_ b
 | .block _ b=>h_ b
 | .loop b=>h_ b
 | .scope _=>false
 |_=>true
def sb:Code->Bool
 | .region .. | .skip| .label _=>true
 |_=>false
def ia (c:Code)(live:List Nat):List Nat:=(wr c).filter fun i=>!live.contains i
abbrev KT:=Exit->dq->WP
def qS (K:KT)(k:dq->WP):KT
 | .normal,e=>k e
 | .exit id,e=>K (.exit id) e
 | .goto l,e=>K (.goto l) e
 | .ret,e=>K .ret e
 | .panic c,e=>K (.panic c) e
 | .outgrown,e=>K .outgrown e
def Dz (K:KT)(id:Nat)(k:dq->WP):KT
 | .normal,e=>k e
 | .exit id',e=>if id'=id then k e else K (.exit id') e
 | .goto l,e=>K (.goto l) e
 | .ret,e=>K .ret e
 | .panic c,e=>K (.panic c) e
 | .outgrown,e=>K .outgrown e
def G6 (K:KT):KT
 | .goto _,_=>fun _=>False
 | .normal,e=>K .normal e
 | .exit id,e=>K (.exit id) e
 | .ret,e=>K .ret e
 | .panic c,e=>K (.panic c) e
 | .outgrown,e=>K .outgrown e
def jT (P:Program)(n:Nat)(an:Ann)(Kp:List PanicEntry->WP):Code->KT->dq->WP
 | .skip,K,e=>K .normal e
 | .region id ops draw,K,e=>match draw with
  |false=>l_ P n ops Kp (K .normal) ops.toList e
  |true=>match m7 id an.drs with
   |some r=>match vA ops r with
    |true=>oO (gC P n ops Kp (K .normal) r [] e)
    |false=>fun _=>False
   |none=>fun _=>False
 | .seq x y,K,e=>match(match sb x with|true=>m7 (eJ y) an.rcuts|false=>m7 (eJ y) an.cuts)with
  |none=>jT P n an Kp x (qS K (jT P n an Kp y K)) e
  |some live=>Dy live.length (fun J=>jT P n an Kp x (qS K fun e'=>ji live.length J (lA e' live)) e) fun ds vs=>jT P n an Kp y K (upd e (ia x live) ds live vs)
 | .cond c x y,K,e=>condS (ev n e c) (jT P n an Kp x K e) (jT P n an Kp y K e)
 | .block id b,K,e=>match m7 id an.blks with
  |none=>jT P n an Kp b (Dz K id (K .normal)) e
  |some live=>Dy live.length (fun J=>jT P n an Kp b (Dz K id fun e'=>ji live.length J (lA e' live)) e) fun ds vs=>K .normal (upd e (ia b live) ds live vs)
 | .loop b,K,e=>match m7 (eJ b) an.loops with
  |none=>fun _=>False
  |some live=>Mt live.length (fun I m ds vs=>jT P n an Kp b (qS K fun e'=>Mu live.length I m (lA e' live)) (upd e (ia b live) ds live vs)) (lA e live)
 | .exit id,K,e=>K (.exit id) e
 | .ret,K,e=>K .ret e
 | .label _,K,e=>K .normal e
 | .scope b,K,e=>jT P n an Kp b (G6 K) e
 |_,_,_=>fun _=>False
end Go.Proofs.YtdjkdjepjahjfaaGreatDoor.Sh
namespace Go.Proofs.YtdjkdjepjahjfaaGreatDoor.Sh
open Go
variable {P:Program} {n:Nat} {D:List Deferred} {Kp:List PanicEntry->WP} {R:Option Nat}

def FW (R:Option Nat):Fence:={Fence.wide with round:=R}
theorem vB {m:Nat}{f:FuncId}{args:Array Value}{w:World}{Q:Ending->World->Prop}(h:Calls P f args w Q):CallsIn (FW R) m P f args w Q:=
 ⟨trivial,fun cs _=>let ⟨e,w',fr,r,s,x⟩:=h cs;⟨e,w',fr,r,comesIn_wide.2 s,x⟩⟩
theorem vC {m:Nat}{l:Nat}{f:FuncId}{tmps:Array Value}{assign body:Code}{w:World}{Q:Ending->World->Prop}(h:RoundIn Fence.wide 0 P l f tmps assign body w Q):RoundIn (FW R) m P l f tmps assign body w Q:=
 ⟨trivial,fun c cs _=>h.2 c cs (room_wide _)⟩
def Df (R:Option Nat)(o:Oper):Prop:=R=none\/∀c,o.op≠ .defer c
theorem m8 {o:Oper}(h:Df R o)(ρ:Operand->Value):o.semAt R ρ=execOp ρ o:=by
 rcases h with rfl|h
 ·rfl
 ·exact Oper.semAt_eq _ _ _ h
theorem G7 {o:Oper}(h:z8 o=false):Df R o:= .inr fun c hc=>by simp[z8,hc]at h
theorem wT {id:Nat}{ops:Array Oper}{b:Bool}(h:R=none\/h_ (.region id ops b)=true):∀o∈ops.toList,Df R o:=fun o ho=>by
 rcases h with h|h
 ·exact .inl h
 ·refine G7 ?_
  have:=List.all_eq_true.1 h o ho
  simpa using this

structure Rep (n:Nat)(D:List Deferred)(e:dq)(a:Act):Prop where
 defers:a.defers=D
 size:a.tmps.size=n
 at_:∀i,i<n->a.tmps[i]? =some (e i)
theorem Rep.getD {n:Nat}{D:List Deferred}{e:dq}{a:Act}(h:Rep n D e a)(t:Nat):a.tmps.getD t undef=ev n e (.tmp t):=by
 rw[Array.getD_eq_getD_getElem?]
 by_cases hl:t<n
 ·have hb:Nat.blt t n=true:=by simpa using hl
  simp only[ev,hb,h.at_ t hl,Option.getD_some]
 ·have hb:Nat.blt t n=false:=by
   cases h:Nat.blt t n with
   |false=>rfl
   |true=>exact absurd (by simpa using h) hl
  simp only[ev,hb]
  rw[Array.getElem?_eq_none (by rw[h.size];omega)];rfl
theorem Rep.eval {n:Nat}{D:List Deferred}{e:dq}{a:Act}(h:Rep n D e a):a.eval=ev n e:=by
 funext x
 cases x with
 |tmp t=>exact h.getD t
 |_=>rfl
theorem oP (e:dq)(d:Nat)(v:Value)(i:Nat):Dw e d v i=if i=d then v else e i:=by
 unfold Dw
 cases h:Nat.beq i d with
 |true=>rw[if_pos (Nat.eq_of_beq_eq_true h)]
 |false=>rw[if_neg (Nat.ne_of_beq_eq_false h)]
theorem Rep.put {n:Nat}{D:List Deferred}{e:dq}{a:Act}(h:Rep n D e a)(d:Option Tmp)(v:Value):Rep n D (fj e d v) (a.put d v):=by
 cases d with
 |none=>exact h
 |some d=>
  refine⟨h.defers,by simp[Act.put,h.size],fun i hi=>?_⟩
  simp only[Act.put,fj,oP,Array.getElem?_setIfInBounds]
  by_cases hid:d=i
  ·subst hid;simp[h.size,hi]
  ·rw[if_neg hid,if_neg (fun c=>hid c.symm)];exact h.at_ i hi
structure Agree (M:List Nat)(e e':dq):Prop where
 same:∀i,i∉M->e' i=e i
theorem Agree.refl (M:List Nat)(e:dq):Agree M e e:=⟨fun _ _=>rfl⟩
theorem Agree.trans {M M' N:List Nat}{e e' e'':dq}(h:Agree M e e')(h':Agree M' e' e'')(s:∀i∈M,i∈N)(s':∀i∈M',i∈N):Agree N e e'':=
 ⟨fun i hi=>(h'.same i (fun m=>hi (s' i m))).trans (h.same i (fun m=>hi (s i m)))⟩
theorem Agree.mono {M N:List Nat}{e e':dq}(h:Agree M e e')(s:∀i∈M,i∈N):Agree N e e':=⟨fun i hi=>h.same i fun m=>hi (s i m)⟩
theorem Agree.set (e:dq)(d:Option Tmp)(v:Value)(M:List Nat)(hd:∀t,d=some t->t∈M):Agree M e (fj e d v):=by
 cases d with
 |none=>exact .refl _ _
 |some t=>
  refine⟨fun i hi=>?_⟩
  simp only[fj,oP]
  rw[if_neg]
  rintro rfl
  exact hi (hd _ rfl)

structure PanAt (n:Nat)(D:List Deferred)(M:List Nat)(e:dq)(a:Act):Prop where
 defers:a.defers=D
 size:a.tmps.size=n
 at_:∀i,i<n->i∉M->a.tmps[i]? =some (e i)
theorem Rep.pan {M:List Nat}{e e':dq}{a:Act}(h:Rep n D e' a)(ha:Agree M e e'):PanAt n D M e a:=⟨h.defers,h.size,fun i hi hm=>by rw[h.at_ i hi,ha.same i hm]⟩
theorem PanAt.grow {M N:List Nat}{e e₁:dq}{a:Act}(h:PanAt n D M e₁ a)(ha:Agree N e e₁)(hs:∀i∈M,i∈N):PanAt n D N e a:=⟨h.defers,h.size,fun i hi hm=>by rw[h.at_ i hi (fun c=>hm (hs i c)),ha.same i hm]⟩
theorem PanAt.unput {M:List Nat}{e:dq}{a:Act}{d:Option Tmp}{v:Value}(h:PanAt n D M e (a.put d v))(hd:∀t,d=some t->t∈M):PanAt n D M e a:=by
 cases d with
 |none=>exact h
 |some d=>
  refine⟨h.defers,by simpa [Act.put]using h.size,fun i hi hm=>?_⟩
  have:=h.at_ i hi hm
  have hne:d≠i:=fun c=>hm (c▸hd d rfl)
  simpa [Act.put,Array.getElem?_setIfInBounds_ne hne]using this
def yu (n:Nat)(D:List Deferred)(Kp:List PanicEntry->WP)(K:KT)(M:List Nat)(e:dq):Exit->Act->World->Prop
 | .panic ch,a,w=>PanAt n D M e a/\Kp ch w
 | .normal,a,w=>∃e',Rep n D e' a/\Agree M e e'/\K .normal e' w
 | .exit id,a,w=>∃e',Rep n D e' a/\Agree M e e'/\K (.exit id) e' w
 | .ret,a,w=>∃e',Rep n D e' a/\Agree M e e'/\K .ret e' w
 | .goto l,a,w=>∃e',Rep n D e' a/\Agree M e e'/\K (.goto l) e' w
 | .outgrown,_,_=>False
theorem lm {α β:Type}(f:α->β)(a:Array α):(List.map f a.toList).toArray=a.map f:=by rw[<- Array.toList_map]
theorem pn (e:dq)(o:Oper):pm n e o=execOp (ev n e) o:=by
 unfold pm
 split
 ·rename_i h;simp only[execOp,h,lm]
 ·rename_i h;simp only[execOp,h,lm]
 ·rename_i h;simp only[execOp,h,lm]
 ·rename_i c h
  split
  ·rename_i hc;simp only[execOp,h,resolve,hc,lm]
  all_goals first
   |rfl
   |(rename_i hc;simp only[execOp,h,resolve,hc,lm,pure_bind,invoke,builtin])
 ·rfl
theorem z_ {s:Sem Next} {k:Value->WP} {w:World} {o:Oper} {e:dq} {a:Act} {next:Act->World->Prop} {Q:Exit->Act->World->Prop} (hr:Rep n D e a)
  (ho:execOp (ev n e) o=s) (hd:Df R o) (h:opN P s Kp k w) (hn:∀v w' a',k v w'->Rep n D (fj e o.dst v) a'->next a' w')
  (hp:∀ch w',Kp ch w'->Q (.panic ch) a w'):o.wpIn (FW R) 0 P a w next Q:=by
 refine⟨fun _ _=>trivial,?_⟩
 rw[show(FW R).round=R from rfl,m8 hd,hr.eval,ho]
 replace h:=h.out
 generalize s.run P w=r at h
 cases r with
 |ok n w'=>
  cases n <;> simp only at h <;> simp only[Oper.uponIn]
  case value v=>exact hn _ _ _ h (hr.put _ _)
  case skip=>exact hn _ _ _ h (hr.put _ _)
  case enter f args=>
   refine⟨fun c=>by simp[FW,Fence.wide]at c,vB (Calls.mono h fun en w'' he=>?_)⟩
   cases en with
   |returned v=>exact hn _ _ _ he (hr.put _ _)
   |panicked ch=>exact hp _ _ he
   |outgrown=>exact he.elim
  case round l f tmps assign body=>
   refine⟨fun c=>by simp[FW,Fence.wide]at c,vC (RoundIn.mono h fun en w'' he=>?_)⟩
   cases en with
   |returned v=>exact hn _ _ _ he (hr.put _ _)
   |panicked ch=>exact hp _ _ he
   |outgrown=>exact he.elim
 |halt x w'=>
  cases x <;> simp only at h <;> simp only[Oper.uponIn]
  case panic v=>exact hp _ _ h
theorem sd {k:Value->WP}{w:World}{o:Oper}{e:dq}(h:tM P n e o Kp k w):opN P (execOp (ev n e) o) Kp k w:=by
 rw[<- pn]
 unfold tM at h
 cases hop:o.op <;> rw[hop]at h <;> first
  |exact h
  |exact⟨by simp only[pm,execOp,hop];exact h⟩
theorem lB {k:Value->WP} {w:World} {o:Oper} {e:dq} {a:Act} {next:Act->World->Prop} {Q:Exit->Act->World->Prop} (hr:Rep n D e a)
  (hd:Df R o) (h:tM P n e o Kp k w) (hn:∀v w' a',k v w'->Rep n D (fj e o.dst v) a'->next a' w')
  (hp:∀ch w',Kp ch w'->Q (.panic ch) a w'):o.wpIn (FW R) 0 P a w next Q:=z_ hr rfl hd (sd h) hn hp
theorem mf {k:Value->WP}{w:World}{o:Oper}{e:dq}(h:wR P n e o k w):stS P (execOp (ev n e) o) k w:=by
 rw[<- pn]
 unfold wR at h
 cases hop:o.op <;> rw[hop]at h <;> first
  |exact h
  |exact⟨⟨_,by simp only[pm,execOp,hop];rfl,h⟩⟩
theorem od {o:Oper}{y:Nat->Option Bool}(h:o.guard=none):Region.wanted o y=true:=by simp[Region.wanted,h]
theorem sf (ops:Array Oper){e:dq}{a:Act}(hr:Rep n D e a)(j:Nat)(want:Bool):(yielded ops a.tmps j==some want)=true↔yt n ops e j= .bool want:=by
 unfold yielded yt
 cases h:(ops[j]?).bind (·.dst)with
 |none=>simp[undef]
 |some t=>
  simp only[Option.bind_some]
  have hg:=hr.getD t
  rw[Array.getD_eq_getD_getElem?]at hg
  rw[<- hg]
  cases a.tmps[t]? with
  |none=>simp[undef]
  |some v=>cases v <;> simp
theorem rh {ops:Array Oper}{e:dq}{a:Act}(hr:Rep n D e a){o:Oper}{j:Nat}{want:Bool}{A B:WP}{w:World}(hg:o.guard=some (j,want))(h:Q1 (yt n ops e j) want A B w):
  (Region.wanted o (yielded ops a.tmps)=true/\A w)\/(Region.wanted o (yielded ops a.tmps)=false/\B w):=by
 have hy:=sf ops hr j want
 simp only[Region.wanted,hg]
 unfold Q1 at h
 by_cases hv:yt n ops e j= .bool want
 ·rw[hv]at h
  simp only[if_true]at h
  exact .inl ⟨hy.2 hv,h⟩
 ·refine .inr ⟨by simpa using fun c=>hv (hy.1 (by simpa using c)),?_⟩
  split at h
  ·rename_i b hb
   rw[if_neg (fun c=>hv (by rw[hb,c]))]at h
   exact h
  ·exact h
theorem gW {ops:Array Oper}{e:dq}{a:Act}(hr:Rep n D e a){o:Oper}{body:(Value->WP)->WP}{k:Value->WP}{w:World}(h:Dx n ops e o body k w):
  (Region.wanted o (yielded ops a.tmps)=true/\body k w)\/(Region.wanted o (yielded ops a.tmps)=false/\k undef w):=by
 unfold Dx at h
 cases hg:o.guard with
 |none=>rw[hg]at h;exact .inl ⟨od hg,h⟩
 |some g=>obtain⟨j,want⟩:=g;rw[hg]at h;exact rh hr hg h.out
theorem vD {ops:Array Oper}{e:dq}{a:Act}(hr:Rep n D e a){o:Oper}{body:(WP->Value->WP)->WP}{k:WP->Value->WP}{w:World}(h:G5 n ops e o body k w):
  (Region.wanted o (yielded ops a.tmps)=true/\body k w)\/(Region.wanted o (yielded ops a.tmps)=false/\k (fun _=>True) undef w):=by
 unfold G5 at h
 cases hg:o.guard with
 |none=>rw[hg]at h;exact .inl ⟨od hg,h⟩
 |some g=>obtain⟨j,want⟩:=g;rw[hg]at h;exact rh hr hg h.out
theorem oe {ops:Array Oper} {K:dq->WP} {Q:Exit->Act->World->Prop} (M:List Nat) (e₀:dq)
  (hn:∀e a w,Rep n D e a->Agree M e₀ e->K e w->Q .normal a w) (hp:∀ch e a w,Rep n D e a->Agree M e₀ e->Kp ch w->Q (.panic ch) a w):
  ∀(l:List Oper) (e:dq) (a:Act) (w:World),(∀o∈l,Df R o)->(∀o∈l,∀t,o.dst=some t->t∈M)->Rep n D e a->Agree M e₀ e->l_ P n ops Kp K l e w->wpListIn (FW R) 0 P ops Q l a w
 |[],e,a,w,_,_,hr,ha,h=>hn e a w hr ha h
 |o::l,e,a,w,hD,hM,hr,ha,h=>by
  unfold l_ at h
  unfold wpListIn
  have hd:∀t,o.dst=some t->t∈M:=hM o (by simp)
  have next:∀v w' a',l_ P n ops Kp K l (fj e o.dst v) w'->Rep n D (fj e o.dst v) a'->wpListIn (FW R) 0 P ops Q l a' w':=fun v w' a' hv hr'=>
   oe M e₀ hn hp l _ a' w' (fun x hx=>hD x (by simp[hx])) (fun x hx=>hM x (by simp[hx])) hr' (ha.trans (.set e o.dst v M hd) (fun _ h=>h) (fun _ h=>h)) hv
  rcases gW hr h with ⟨hw,h⟩|⟨hw,h⟩
  ·rw[if_pos hw]
   exact lB hr (hD o (by simp)) h next (fun ch w'=>hp ch e _ w' hr ha)
  ·rw[if_neg (by simp[hw])]
   exact⟨fun _ _=>trivial,next _ _ _ h (hr.put _ _)⟩

theorem ri (f:Nat->Value)(is:List Nat):∀(e:dq) (i:Nat),gZ e is (is.map f) i=if i∈is then f i else e i:=by
 induction is with
 |nil=>intro e i;simp[gZ]
 |cons j is ih=>
  intro e i
  simp only[gZ,List.map_cons,List.headD_cons,List.tail_cons,ih,List.mem_cons,oP]
  by_cases h1:i∈is
  ·rw[if_pos h1,if_pos (.inr h1)]
  ·rw[if_neg h1]
   by_cases hji:i=j
   ·rw[if_pos hji,if_pos (.inl hji),hji]
   ·rw[if_neg hji,if_neg]
    rintro(h|h)
    ·exact hji h
    ·exact h1 h
theorem gS {M dead live:List Nat}{e e':dq}(h:Agree M e e')(hM:∀i∈M,i∈live\/i∈dead):upd e dead (lA e' dead) live (lA e' live)=e':=by
 funext i
 unfold upd lA
 rw[ri,ri]
 by_cases h1:i∈live
 ·rw[if_pos h1]
 ·rw[if_neg h1]
  by_cases h2:i∈dead
  ·rw[if_pos h2]
  ·rw[if_neg h2]
   exact(h.same i (fun m=>(hM i m).elim h1 h2)).symm
theorem vE {c:Code}{live:List Nat}{i:Nat}:i∈ia c live↔i∈wr c/\i∉live:=by
 simp[ia]
theorem lC {f:List Value->Prop}(e:dq):∀(live:List Nat),wS live.length f->f (lA e live)
 |[],h=>h
 |i::l,h=>by
  have:=lC (f:=fun vs=>f (e i::vs)) e l (h _)
  exact this

theorem oD {c:Code} {Q:Exit->Act->World->Prop} {a:Act} {w:World} (I:Nat->Act->World->Prop) (h₀:∃m,I m a w)
  (round:∀m a w,I m a w->c.wpIn (FW R) 0 P (Exit.then (fun a' w'=>∃m',m'<m/\I m' a' w') Q) a w):(Code.loop c).wpIn (FW R) 0 P Q a w:=by
 have least:∀(a:Act) (w:World),(∃m,I m a w)->∃m,I m a w/\∀m',I m' a w->m<=m':=by
  intro a w ⟨m,hm⟩
  induction m using Nat.strongRecOn with
  |_ m ih=>
   by_cases h:∃m',m'<m/\I m' a w
   ·obtain⟨m',hlt,hm'⟩:=h;exact ih m' hlt hm'
   ·refine⟨m,hm,fun m' hm'=>?_⟩
    rcases Nat.lt_or_ge m' m with hlt|hge
    ·exact absurd ⟨m',hlt,hm'⟩ h
    ·exact hge
 let μ:Act->World->Nat:=fun a w=>open Classical in if h:∃m,I m a w then Classical.choose (least a w h)else 0
 have hμ:∀a w,(∃m,I m a w)->I (μ a w) a w/\∀m',I m' a w->μ a w<=m':=by
  intro a w h
  have e:μ a w=Classical.choose (least a w h):=dif_pos h
  rw[e]
  exact Classical.choose_spec (least a w h)
 refine wpIn_loop (fun a w=>∃m,I m a w) μ h₀ fun a w h=>?_
 refine wpIn_mono (round _ a w (hμ a w h).1) fun ex a' w' hq=>?_
 cases ex with
 |normal=>
  obtain⟨m',hlt,hm'⟩:=hq
  exact⟨⟨m',hm'⟩,Nat.lt_of_le_of_lt ((hμ a' w' ⟨m',hm'⟩).2 m' hm') hlt⟩
 |_=>exact hq
end Go.Proofs.YtdjkdjepjahjfaaGreatDoor.Sh
namespace Go.Proofs.YtdjkdjepjahjfaaGreatDoor.Sh
open Go
variable {P:Program} {n:Nat} {R:Option Nat} {D:List Deferred} {Kp:List PanicEntry->WP} {ops:Array Oper} {Q:Exit->Act->World->Prop}
def lD (ops:Array Oper)(E:Array Bool):Prop:=
 ∀x o,ops[x]? =some o->E.getD x false=true->∀e∈o.after,Region.binds .any e=true->E.getD e.on false=true
theorem rj {n k i:Nat}(h:iU ops (n+1) k i=true):
  ∃o,ops[k]? =some o/\∃e∈o.after,Region.binds .any e=true/\(e.on=i\/iU ops n e.on i=true):=by
 unfold iU at h
 cases ho:ops[k]? with
 |none=>rw[ho]at h;cases h
 |some o=>
  rw[ho]at h
  obtain⟨e,he,hb⟩:=List.any_eq_true.1 h
  simp only[Bool.and_eq_true,Bool.or_eq_true,beq_iff_eq]at hb
  exact⟨o,rfl,e,by simpa using he,hb.1,hb.2⟩
theorem oh {E:Array Bool}(hc:lD ops E):∀n k i,E.getD k false=true->iU ops n k i=true->E.getD i false=true
 |0,_,_,_,h=>by simp[iU]at h
 |n+1,k,i,hk,h=>by
  obtain⟨o,ho,e,he,hb,h⟩:=rj h
  have hE:=hc k o ho hk e he hb
  rcases h with h|h
  ·rw[<- h];exact hE
  ·exact oh hc n e.on i hE h
theorem wU {E:Array Bool}{i:Nat}(h:E.getD i true=false):E.getD i false=false:=by
 rcases Nat.lt_or_ge i E.size with h'|h'
 ·simp[h']at h ⊢;exact h
 ·simp[Array.getElem?_eq_none h']at h
theorem yw {E:Array Bool}(hc:lD ops E){n i j:Nat}(hj:j∈Region.ready .any ops E)(hi:E.getD i true=false):iU ops n j i=false:=by
 cases n with
 |zero=>rfl
 |succ n=>
  cases h:iU ops (n+1) j i with
  |false=>rfl
  |true=>
   obtain⟨o,ho,e,he,hb,h⟩:=rj h
   obtain⟨_,o',ho',hall⟩:=mem_ready.1 hj
   obtain rfl:o=o':=Option.some.inj (ho.symm.trans ho')
   have hE:=hall e he hb
   have hf:=wU hi
   rcases h with h|h
   ·rw[h,hf]at hE;cases hE
   ·rw[oh hc n _ _ hE h]at hf;cases hf
theorem lD.set {E:Array Bool}(hc:lD ops E){j:Nat}(hj:j∈Region.ready .any ops E):lD ops (E.setIfInBounds j true):=by
 intro x o ho hx e he hb
 obtain⟨_,o',ho',hall⟩:=mem_ready.1 hj
 by_cases hxj:j=x
 ·subst hxj
  obtain rfl:o=o':=Option.some.inj (ho.symm.trans ho')
  exact getD_set_true (hall e he hb)
 ·rw[getD_set_ne false hxj]at hx
  exact getD_set_true (hc x o ho hx e he hb)
def oE (R:Option Nat)(P:Program)(ops:Array Oper)(Q:Exit->Act->World->Prop)(pend:List (Nat × WP)):Nat->Array Bool->Act->World->Prop
 |0,E,a,w=>Region.ready .any ops E=[]/\Q .normal a w
 |f+1,E,a,w=>(Region.ready .any ops E=[]->Q .normal a w)/\∀j∈Region.ready .any ops E,
   wpOpIn (FW R) 0 P ops Q j (fun a' w'=>(w'=w\/∀p∈pend,iU ops ops.size j p.1=false->p.2 w')/\oE R P ops Q pend f (E.setIfInBounds j true) a' w') a w
theorem tN (pend:List (Nat × WP)):∀(f:Nat) (E:Array Bool) (a:Act) (w:World),oE R P ops Q pend f E a w->wpAnyIn (FW R) 0 P .any ops Q f E a w
 |0,_,_,_,h=>h
 |f+1,_,_,_,h=>⟨h.1,fun j hj=>wpOpIn_mono (fun _ _ k=>tN pend f _ _ _ k.2) (h.2 j hj)⟩
theorem m9 {p:Nat × WP}{pend:List (Nat × WP)}:∀(f:Nat) (E:Array Bool) (a:Act) (w:World),oE R P ops Q (p::pend) f E a w->oE R P ops Q pend f E a w
 |0,_,_,_,h=>h
 |f+1,_,_,_,h=>⟨h.1,fun j hj=>wpOpIn_mono (fun _ _ k=>⟨k.1.imp id fun c q hq=>c q (by simp[hq]),m9 f _ _ _ k.2⟩) (h.2 j hj)⟩
def YD (P:Program)(ops:Array Oper)(C:WP)(o:Oper)(v:Value)(a:Act):Prop:=
 (Region.wanted o (yielded ops a.tmps)=true/\∀w,C w->(execOp a.eval o).run P w= .ok (.value v) w)\/(Region.wanted o (yielded ops a.tmps)=false/\v=undef)
theorem YD.same {C:WP} {o:Oper} {v:Value} {a a':Act} (h:YD P ops C o v a) (he:execOp a'.eval o=execOp a.eval o)
  (hw:Region.wanted o (yielded ops a'.tmps)=Region.wanted o (yielded ops a.tmps)):YD P ops C o v a':=by
 unfold YD at *;rw[he,hw];exact h
theorem YD.op {C:WP}{i:Nat}{o:Oper}{v:Value}{a:Act}{w:World}(hi:ops[i]? =some o)(hd:Df R o)(h:YD P ops C o v a)(hw:C w){K:Act->World->Prop}(hk:K (a.put o.dst v) w):wpOpIn (FW R) 0 P ops Q i K a w:=by
 unfold wpOpIn
 simp only[hi]
 rcases h with ⟨h1,h2⟩|⟨h1,rfl⟩
 ·rw[if_pos h1];refine⟨fun _ _=>trivial,?_⟩;rw[show(FW R).round=R from rfl,m8 hd,h2 w hw];exact hk
 ·rw[if_neg (by simp[h1])];exact⟨fun _ _=>trivial,hk⟩
theorem Mv {C:WP} {j:Nat} {oi oj:Oper} {v:Value} (hj:ops[j]? =some oj) (hd:Df R oj) (hap:oi.apart ops oj=true)
  (hsi:∀cs b,oi.op≠ .select cs b) (hsj:∀cs b,oj.op≠ .select cs b) (hQ:∀c a w,Q (.panic c) (a.put oi.dst v) w->Q (.panic c) a w)
  {K:Act->World->Prop} {a:Act} {w:World} (hy:YD P ops C oi v a) (h:wpOpIn (FW R) 0 P ops Q j K (a.put oi.dst v) w):
  wpOpIn (FW R) 0 P ops Q j (fun a' w'=>YD P ops C oi v a'/\K (a'.put oi.dst v) w') a w:=by
 obtain⟨h1,h2,h3⟩:=Oper.apart_spec hap
 have keep:∀(a:Act),YD P ops C oi v a->∀u,YD P ops C oi v (a.put oj.dst u):=fun a hy u=>
  hy.same (execOp_put oi hsi a oj.dst u h3) (wanted_put oi a oj.dst u h3)
 unfold wpOpIn at *
 simp only[hj]at *
 rw[wanted_put oj a oi.dst v h1]at h
 by_cases hw:Region.wanted oj (yielded ops a.tmps)=true
 ·rw[if_pos hw]at h ⊢
  refine⟨fun _ _=>trivial,?_⟩
  have h:=h.2
  rw[show(FW R).round=R from rfl,m8 hd]at h ⊢
  rw[execOp_put oj hsj a oi.dst v h1]at h
  cases hr:(execOp a.eval oj).run P w with
  |ok n w'=>
   rw[hr]at h
   cases n <;> simp only[Oper.uponIn]at h ⊢
   case value u=>exact⟨keep a hy u,by rw[<- Act.put_comm a v u h2];exact h⟩
   case skip=>exact⟨keep a hy _,by rw[<- Act.put_comm a v undef h2];exact h⟩
   case defer d=>
    refine⟨keep {a with defers:=d::a.defers} (hy.same rfl rfl) _,?_⟩
    rw[<- Act.put_comm _ v undef h2,<- Act.put_defers]
    exact h
   case enter f args=>
    refine⟨h.1,CallsIn.mono h.2 fun e w'' he=>?_⟩
    cases e with
    |returned u=>exact⟨keep a hy u,by rw[<- Act.put_comm a v u h2];exact he⟩
    |panicked c=>exact hQ _ _ _ he
    |outgrown=>exact he
   case row row args=>exact⟨h.1,RowsIn.mono h.2 fun u w'' he=>⟨keep a hy u,by rw[<- Act.put_comm a v u h2];exact he⟩⟩
   case round l f tmps assign body=>
    refine⟨h.1,RoundIn.mono h.2 fun e w'' he=>?_⟩
    cases e with
    |returned u=>exact⟨keep a hy u,by rw[<- Act.put_comm a v u h2];exact he⟩
    |panicked c=>exact hQ _ _ _ he
    |outgrown=>exact he
  |halt x w'=>
   rw[hr]at h
   cases x <;> simp only[Oper.uponIn]at h ⊢
   case panic u=>exact hQ _ _ _ h
 ·rw[if_neg hw]at h ⊢
  exact⟨fun _ _=>trivial,keep a hy _,by rw[<- Act.put_comm a v undef h2];exact h.2⟩
theorem kL {C:WP} {i:Nat} {oi:Oper} {v:Value} {pend:List (Nat × WP)} (hD:∀(j:Nat) o,ops[j]? =some o->Df R o) (hi:ops[i]? =some oi) (hsel:∀(j:Nat) (o:Oper) cs b,ops[j]? =some o->o.op≠ .select cs b)
  (hQ:∀c a w,Q (.panic c) (a.put oi.dst v) w->Q (.panic c) a w):
  ∀(f:Nat) (E:Array Bool) (a:Act) (w:World),lD ops E->
   (∀j oj,ops[j]? =some oj->j≠i->E.getD j true=false->(∀e∈oj.after,Region.binds .any e=true->e.on≠i)->oi.apart ops oj=true)->
   i∈Region.ready .any ops E->YD P ops C oi v a->C w->
   oE R P ops Q ((i,C)::pend) f (E.setIfInBounds i true) (a.put oi.dst v) w->oE R P ops Q pend (f+1) E a w:=by
 intro f
 induction f with
 |zero=>
  intro E a w hc _ hr hy hw H
  refine⟨fun h=>(by rw[h]at hr;cases hr),fun j hj=>?_⟩
  by_cases hji:j=i
  ·subst hji;exact hy.op hi (hD _ _ hi) hw ⟨.inl rfl,m9 0 _ _ _ H⟩
  ·have:=ready_mono hj hji
   rw[H.1]at this
   cases this
 |succ f ih=>
  intro E a w hc hfree hr hy hw H
  refine⟨fun h=>(by rw[h]at hr;cases hr),fun j hj=>?_⟩
  by_cases hji:j=i
  ·subst hji;exact hy.op hi (hD _ _ hi) hw ⟨.inl rfl,m9 _ _ _ _ H⟩
  ·have h1:=H.2 j (ready_mono hj hji)
   have hiun:=(mem_ready.1 hr).1
   have hdep:iU ops ops.size j i=false:=yw hc hj hiun
   obtain⟨hjun,oj,hoj,hall⟩:=mem_ready.1 hj
   have hnot:∀e∈oj.after,Region.binds .any e=true->e.on≠i:=fun e he hb heq=>by
    have h1:=hall e he hb
    rw[heq,wU hiun]at h1
    cases h1
   have h2:=Mv hoj (hD _ _ hoj) (hfree j oj hoj hji hjun hnot) (fun cs b=>hsel i oi cs b hi) (fun cs b=>hsel j oj cs b hoj) hQ hy h1
   have hfree':∀k ok,ops[k]? =some ok->k≠i->(E.setIfInBounds j true).getD k true=false->
     (∀e∈ok.after,Region.binds .any e=true->e.on≠i)->oi.apart ops ok=true:=fun k ok hk hki hun hno=>by
    refine hfree k ok hk hki ?_ hno
    by_cases hjk:j=k
    ·subst hjk;exact hjun
    ·rw[getD_set_ne true hjk]at hun;exact hun
   refine wpOpIn_mono (fun a' w' ⟨hy',hk,h3⟩=>⟨hk.imp id fun c p hp=>c p (by simp[hp]),?_⟩) h2
   refine ih (E.setIfInBounds j true) a' w' (hc.set hj) hfree' (ready_mono hr (Ne.symm hji)) hy' ?_ ?_
   ·rcases hk with rfl|hk
    ·exact hw
    ·exact hk (i,C) (by simp) hdep
   ·rw[Array.setIfInBounds_comm _ _ hji];exact h3
theorem mh {S : WP} {w : World} : ∀ {l : List (Nat × WP)}, Td l S w -> (∀ p ∈ l, p.2 w) /\ S w
 | [], h => ⟨by simp, h⟩
 | (n, C) :: r, h => ⟨by
   intro p hp
   rcases List.mem_cons.1 hp with rfl | hp
   ·exact h.1
   ·exact (mh h.2).1 p hp, (mh h.2).2⟩
theorem wV {ops:Array Oper}:∀(t:DT) (E:Array Bool),gA ops true t E=true->1<=t.len
 | .nil,E,h=>by simp[gA]at h
 | .op k md t,E,h=>by simp[DT.len]
 | .alt a b,E,h=>by
  simp only[gA,Bool.true_or,Bool.true_and,Bool.and_eq_true]at h
  exact wV a E h.2.1
theorem rk {ops:Array Oper}:∀(t:DT) (E:Array Bool),gA ops true t E=true->∃j,j∈Region.ready .any ops E
 | .nil,E,h=>by simp[gA]at h
 | .op k md t,E,h=>by
  match md,h with
  |0,h=>
   simp only[gA,Bool.and_eq_true,List.contains_eq_mem,decide_eq_true_eq]at h
   exact⟨k,h.1⟩
  |md+1,h=>simp[gA]at h
 | .alt a b,E,h=>by
  simp only[gA,Bool.true_or,Bool.true_and,Bool.and_eq_true]at h
  exact rk a E h.2.1
theorem dG {K:dq->WP} (M:List Nat) (e₀:dq) (hD:∀(j:Nat) o,ops[j]? =some o->Df R o) (hM:∀(j:Nat) o t,ops[j]? =some o->o.dst=some t->t∈M) (hsel:Region.noSelect ops=true)
  (hn:∀e a w,Rep n D e a->Agree M e₀ e->K e w->Q .normal a w) (hp:∀ch e a w,Rep n D e a->Agree M e₀ e->Kp ch w->Q (.panic ch) a w)
  (hQ:∀c (a:Act) d v w,(∀t,d=some t->t∈M)->Q (.panic c) (a.put d v) w->Q (.panic c) a w):
  ∀(r:DT) (E:Array Bool) (pend pend':List (Nat × WP)) (e:dq) (a:Act) (w:World),Rep n D e a->lD ops E->Agree M e₀ e->
   (∀p∈pend',p∈pend\/(∀w,p.2 w)\/∀q∈r.acts,iU ops ops.size q p.1=true)->
   gC P n ops Kp K r pend e w->
   (gA ops false r E=true->oE R P ops Q pend' r.len E a w)/\
   (gA ops true r E=true->∀j∈r.heads,wpOpIn (FW R) 0 P ops Q j (fun a' w'=>(w'=w\/∀p∈pend',iU ops ops.size j p.1=false->p.2 w')/\oE R P ops Q pend' (r.len-1) (E.setIfInBounds j true) a' w') a w)
 | .nil,E,pend,pend',e,a,w,hr',hc,ha,hpd,h=>⟨fun hok=>⟨by simpa [gA]using hok,hn e a w hr' ha h⟩,fun hok=>by simp[gA]at hok⟩
 | .alt a1 b1,E,pend,pend',e,a,w,hr',hc,ha,hpd,h=>by
  simp only[gC]at h
  have ih1:=dG M e₀ hD hM hsel hn hp hQ a1 E pend pend' e a w hr' hc ha (fun p hp=>(hpd p hp).imp id (Or.imp id fun h q hq=>h q (by simp[DT.acts,hq]))) h.1
  have ih2:=dG M e₀ hD hM hsel hn hp hQ b1 E pend pend' e a w hr' hc ha (fun p hp=>(hpd p hp).imp id (Or.imp id fun h q hq=>h q (by simp[DT.acts,hq]))) h.2
  have both:(a1.len==b1.len&&(gA ops true a1 E&&gA ops true b1 E))=true->∀j∈a1.heads++b1.heads,wpOpIn (FW R) 0 P ops Q j (fun a' w'=>(w'=w\/∀p∈pend',iU ops ops.size j p.1=false->p.2 w')/\oE R P ops Q pend' (a1.len-1) (E.setIfInBounds j true) a' w') a w:=by
   intro hok j hj
   simp only[Bool.and_eq_true,beq_iff_eq]at hok
   rcases List.mem_append.1 hj with hj|hj
   ·exact ih1.2 hok.2.1 j hj
   ·rw[hok.1];exact ih2.2 hok.2.2 j hj
  refine⟨fun hok=>?_,fun hok=>?_⟩
  ·simp only[gA,Bool.false_or,Bool.and_eq_true,List.all_eq_true,List.contains_eq_mem,decide_eq_true_eq]at hok
   obtain⟨h1,h2⟩:=hok
   have h2':(a1.len==b1.len&&(gA ops true a1 E&&gA ops true b1 E))=true:=by simp only[Bool.and_eq_true];exact h2
   have hl:=wV a1 E h2.2.1
   obtain⟨j0,hj0⟩:=rk a1 E h2.2.1
   show oE R P ops Q pend' a1.len E a w
   obtain⟨m,hm⟩:∃m,a1.len=m+1:=⟨a1.len-1,by omega⟩
   rw[hm]
   refine⟨fun h0=>(by rw[h0]at hj0;cases hj0),fun j hj=>?_⟩
   have:=both h2' j (h1 j hj)
   rw[hm,Nat.add_sub_cancel]at this
   exact this
  ·simp only[gA,Bool.true_or,Bool.true_and]at hok
   exact both hok
 | .op k md r,E,pend,pend',e,a,w,hr',hc,ha,hpd,h=>by
  simp only[gC]at h
  cases ho:ops[k]? with
  |none=>rw[ho]at h;exact h.elim
  |some o=>
   rw[ho]at h
   simp only at h
   have step:∀v,Agree M e₀ (fj e o.dst v):=fun v=>ha.trans (.set e o.dst v M (hM k o · ho)) (fun _ h=>h) (fun _ h=>h)
   match md,h,hpd with
   |0,h,hpd=>
    have hpd':∀p∈pend',p∈pend\/(∀w,p.2 w)\/∀q∈r.acts,iU ops ops.size q p.1=true:=fun p hp=>(hpd p hp).imp id (Or.imp id fun h q hq=>h q (by simp[DT.acts,hq]))
    have main:k∈Region.ready .any ops E->gA ops false r (E.setIfInBounds k true)=true->wpOpIn (FW R) 0 P ops Q k (fun a' w'=>(w'=w\/∀p∈pend',iU ops ops.size k p.1=false->p.2 w')/\oE R P ops Q pend' r.len (E.setIfInBounds k true) a' w') a w:=by
     intro hk hok2
     unfold wpOpIn
     simp only[ho]
     rcases gW hr' h with ⟨hw,h⟩|⟨hw,h⟩
     ·rw[if_pos hw]
      refine lB hr' (hD _ _ ho) h (fun v w' a' hv hra=>?_) (fun ch w' hch=>hp ch e _ w' hr' ha hch)
      obtain⟨h1,h2⟩:=mh hv
      refine⟨.inr fun p hp hd=>?_,(dG M e₀ hD hM hsel hn hp hQ r _ pend pend' _ a' w' hra (hc.set hk) (step v) hpd' h2).1 hok2⟩
      rcases hpd p hp with h|h|h
      ·exact h1 p (by simp[h,hd])
      ·exact h w'
      ·rw[h k (by simp[DT.acts])]at hd;cases hd
     ·rw[if_neg (by simp[hw])]
      exact⟨fun _ _=>trivial,.inl trivial,(dG M e₀ hD hM hsel hn hp hQ r _ pend pend' _ _ w (hr'.put _ _) (hc.set hk) (step undef) hpd' (mh h).2).1 hok2⟩
    refine⟨fun hok=>?_,fun hok=>?_⟩
    ·simp only[gA,Bool.and_eq_true]at hok
     have hr:Region.ready .any ops E=[k]:=by simpa using hok.1
     have hk:k∈Region.ready .any ops E:=by rw[hr];simp
     refine⟨fun h0=>(by rw[hr]at h0;cases h0),fun j hj=>?_⟩
     rw[hr,List.mem_singleton]at hj
     subst hj
     exact main hk hok.2
    ·simp only[gA,Bool.and_eq_true,List.contains_eq_mem,decide_eq_true_eq]at hok
     intro j hj
     simp only[DT.heads,List.mem_singleton]at hj
     subst hj
     exact main hok.1 hok.2
   |1,h,hpd=>
    have hpd':∀p∈pend',p∈pend\/(∀w,p.2 w)\/∀q∈r.acts,iU ops ops.size q p.1=true:=hpd
    refine⟨fun hok=>?_,fun hok=>by simp[gA]at hok⟩
    simp only[gA,Bool.and_eq_true,List.contains_eq_mem,decide_eq_true_eq,bne_self_eq_false,Bool.false_or,List.all_eq_true,Bool.not_false,Bool.true_and]at hok
    obtain⟨⟨⟨hk,hf⟩,dep⟩,hok2⟩:=hok
    rcases gW hr' h with ⟨hw,h⟩|⟨hw,h⟩
    ·obtain⟨v,hv,h⟩:=(mf h).out
     refine kL (hD:=hD) (C:=fun w'=>w'=w) (v:=v) ho (Region.noSelect_spec hsel) (fun c a w=>hQ c a _ _ w (fun t ht=>hM k o t ho ht)) r.len E _ w hc (Region.free_spec ho hf) hk (.inl ⟨hw,by rintro w' rfl;rw[hr'.eval];exact hv⟩) rfl ?_
     refine(dG M e₀ hD hM hsel hn hp hQ r _ pend _ _ _ w (hr'.put _ _) (hc.set hk) (step v) (fun p hp=>?_) h).1 hok2
     rcases List.mem_cons.1 hp with rfl|hp
     ·exact .inr (.inr dep)
     ·exact hpd' p hp
    ·refine kL (hD:=hD) (C:=fun w'=>w'=w) (v:=undef) ho (Region.noSelect_spec hsel) (fun c a w=>hQ c a _ _ w (fun t ht=>hM k o t ho ht)) r.len E _ w hc (Region.free_spec ho hf) hk (.inr ⟨hw,rfl⟩) rfl ?_
     refine(dG M e₀ hD hM hsel hn hp hQ r _ pend _ _ _ w (hr'.put _ _) (hc.set hk) (step undef) (fun p hp=>?_) h).1 hok2
     rcases List.mem_cons.1 hp with rfl|hp
     ·exact .inr (.inr dep)
     ·exact hpd' p hp
   |2,h,hpd=>
    have hpd':∀p∈pend',p∈pend\/(∀w,p.2 w)\/∀q∈r.acts,iU ops ops.size q p.1=true:=hpd
    refine⟨fun hok=>?_,fun hok=>by simp[gA]at hok⟩
    simp only[gA,Bool.and_eq_true,List.contains_eq_mem,decide_eq_true_eq,Bool.not_false,Bool.true_and]at hok
    obtain⟨⟨⟨hk,hf⟩,_⟩,hok2⟩:=hok
    have mv:∀x,(∀w',(execOp (ev n e) o).run P w'= .ok (.value (ev n e x)) w')->Dx n ops e o (fun c=>c (ev n e x)) (fun v=>gC P n ops Kp K r pend (fj e o.dst v)) w->oE R P ops Q pend' (r.len+1) E a w:=by
     intro x hx h
     rcases gW hr' h with ⟨hw,h⟩|⟨hw,h⟩
     ·refine kL (hD:=hD) (C:=fun _=>True) (v:=ev n e x) ho (Region.noSelect_spec hsel) (fun c a w=>hQ c a _ _ w (fun t ht=>hM k o t ho ht)) r.len E _ w hc (Region.free_spec ho hf) hk (.inl ⟨hw,fun w' _=>by rw[hr'.eval];exact hx w'⟩) trivial ?_
      refine(dG M e₀ hD hM hsel hn hp hQ r _ pend _ _ _ w (hr'.put _ _) (hc.set hk) (step _) (fun p hp=>?_) h).1 hok2
      rcases List.mem_cons.1 hp with rfl|hp
      ·exact .inr (.inl fun _=>trivial)
      ·exact hpd' p hp
     ·refine kL (hD:=hD) (C:=fun _=>True) (v:=undef) ho (Region.noSelect_spec hsel) (fun c a w=>hQ c a _ _ w (fun t ht=>hM k o t ho ht)) r.len E _ w hc (Region.free_spec ho hf) hk (.inr ⟨hw,rfl⟩) trivial ?_
      refine(dG M e₀ hD hM hsel hn hp hQ r _ pend _ _ _ w (hr'.put _ _) (hc.set hk) (step undef) (fun p hp=>?_) h).1 hok2
      rcases List.mem_cons.1 hp with rfl|hp
      ·exact .inr (.inl fun _=>trivial)
      ·exact hpd' p hp
    cases hop:o.op <;> rw[hop]at h <;> first
     |exact h.elim
     |exact mv _ (fun w'=>by unfold execOp;simp only[hop];rfl) h
   |md+3,h,hpd=>
    have hpd':∀p∈pend',p∈pend\/(∀w,p.2 w)\/∀q∈r.acts,iU ops ops.size q p.1=true:=hpd
    refine⟨fun hok=>?_,fun hok=>by simp[gA]at hok⟩
    simp only[gA,Bool.and_eq_true,List.contains_eq_mem,decide_eq_true_eq,Bool.not_false,Bool.true_and]at hok
    obtain⟨⟨⟨hk,hf⟩,_⟩,hok2⟩:=hok
    rcases vD hr' h with ⟨hw,⟨C,v,hC,hv,h⟩⟩|⟨hw,h⟩
    ·refine kL (hD:=hD) (C:=C) (v:=v) ho (Region.noSelect_spec hsel) (fun c a w=>hQ c a _ _ w (fun t ht=>hM k o t ho ht)) r.len E _ w hc (Region.free_spec ho hf) hk (.inl ⟨hw,fun w' hw'=>by rw[hr'.eval,<- pn];exact hv w' hw'⟩) hC ?_
     refine(dG M e₀ hD hM hsel hn hp hQ r _ _ _ _ _ w (hr'.put _ _) (hc.set hk) (step v) (fun p hp=>?_) h).1 hok2
     rcases List.mem_cons.1 hp with rfl|hp
     ·exact .inl (by simp)
     ·exact(hpd' p hp).imp (fun h=>by simp[h]) id
    ·refine kL (hD:=hD) (C:=fun _=>True) (v:=undef) ho (Region.noSelect_spec hsel) (fun c a w=>hQ c a _ _ w (fun t ht=>hM k o t ho ht)) r.len E _ w hc (Region.free_spec ho hf) hk (.inr ⟨hw,rfl⟩) trivial ?_
     refine(dG M e₀ hD hM hsel hn hp hQ r _ _ _ _ _ w (hr'.put _ _) (hc.set hk) (step undef) (fun p hp=>?_) h).1 hok2
     rcases List.mem_cons.1 hp with rfl|hp
     ·exact .inl (by simp)
     ·exact(hpd' p hp).imp (fun h=>by simp[h]) id
end Go.Proofs.YtdjkdjepjahjfaaGreatDoor.Sh
namespace Go.Proofs.YtdjkdjepjahjfaaGreatDoor.Sh
open Go
variable {P:Program} {n:Nat} {R:Option Nat} {D:List Deferred} {Kp:List PanicEntry->WP}
theorem yu.grow {K:KT}{M N:List Nat}{e e₁:dq}{ex:Exit}{a:Act}{w:World}(ha:Agree N e e₁)(hs:∀i∈M,i∈N)(h:yu n D Kp K M e₁ ex a w):yu n D Kp K N e ex a w:=by
 cases ex with
 |panic ch=>exact⟨h.1.grow ha hs,h.2⟩
 |outgrown=>exact h
 |_=>obtain⟨e',h1,h2,h3⟩:=h;exact⟨e',h1,ha.trans h2 (fun _ h=>h) hs,h3⟩
theorem yu.mono {K:KT}{M N:List Nat}{e:dq}{ex:Exit}{a:Act}{w:World}(hs:∀i∈M,i∈N)(h:yu n D Kp K M e ex a w):yu n D Kp K N e ex a w:=h.grow (.refl _ _) hs
theorem kM {c:Code}{live:List Nat}:∀i∈wr c,i∈live\/i∈ia c live:=fun i hi=>by
 by_cases h:i∈live
 ·exact .inl h
 ·exact .inr (vE.2 ⟨hi,h⟩)
theorem sg {m:Nat}{body:VF m WP->WP}{rest:List Value->List Value->WP}{w:World}(h:Dy m body rest w):
  ∃J:VF m WP,(∀(e':dq) (live dead:List Nat),live.length=m->∀w',ji m J (lA e' live) w'->rest (lA e' dead) (lA e' live) w')/\body J w:=by
 obtain⟨J,h1,h2⟩:=h
 exact⟨J,fun e' live dead hl w' hv=>by subst hl;exact lC e' live (h1 (lA e' dead)) w' hv,h2⟩
theorem iV (hm:P.follows .mixedOrders=true)(an:Ann):∀(c:Code),(R=none\/h_ c=true)->∀(K:KT) (e:dq) (a:Act) (w:World),Rep n D e a->jT P n an Kp c K e w->c.wpIn (FW R) 0 P (yu n D Kp K (wr c) e) a w:=by
 intro c
 induction c with
 |skip=>exact fun _ K e a w hr h=>wpIn_skip ⟨e,hr,.refl _ _,h⟩
 |region id ops draw=>
  intro hnd K e a w hr h
  cases draw with
  |false=>
   refine wpIn_region_list (oe (n:=n) (wr (.region id ops false)) e (fun e' a' w' hr' ha hk=>⟨e',hr',ha,hk⟩) (fun ch e' a' w' hr' ha hk=>⟨hr'.pan ha,hk⟩) _ e a w (wT hnd) (fun o ho t ht=>?_) hr (.refl _ _) h)
   exact List.mem_filterMap.2 ⟨o,ho,ht⟩
  |true=>
   simp only[jT]at h
   cases hl:m7 id an.drs with
   |none=>rw[hl]at h;exact h.elim
   |some r=>
    rw[hl]at h
    simp only at h
    cases hok:vA ops r with
    |false=>rw[hok]at h;exact h.elim
    |true=>
     rw[hok]at h
     simp only[vA,Bool.and_eq_true,beq_iff_eq]at hok
     have hany:=dG (n:=n) (Q:=yu n D Kp K (wr (.region id ops true)) e) (wr (.region id ops true)) e (R:=R) (fun j o ho=>wT hnd o (by have:=Array.mem_of_getElem? ho;simpa using this)) (fun j o t ho ht=>List.mem_filterMap.2 ⟨o,by have:=Array.mem_of_getElem? ho;simpa using this,ht⟩) hok.1.1 (fun e' a' w' hr' ha hk=>⟨e',hr',ha,hk⟩) (fun ch e' a w' hr' ha hk=>⟨hr'.pan ha,hk⟩) (fun c a d v w' hd hq=>⟨hq.1.unput hd,hq.2⟩) r (Array.replicate ops.size false) [] [] e a _ hr (fun x o ho hx=>(by rcases Nat.lt_or_ge x ops.size with h'|h' <;> simp[h']at hx)) (.refl _ _) (by simp) h
     have hany:=hany.1 hok.2
     rw[hok.1.2]at hany
     exact wpIn_region_any hm (tN [] _ _ _ _ hany)
 |seq x y ihx ihy=>
  intro hnd K e a w hr h
  have hx0:R=none\/h_ x=true:=hnd.imp id fun h=>by simp only[h_,Bool.and_eq_true]at h;exact h.1
  have hy0:R=none\/h_ y=true:=hnd.imp id fun h=>by simp only[h_,Bool.and_eq_true]at h;exact h.2
  have fin:∀(K':KT) (k:dq->WP),K'=qS K k->(∀e' w',Agree (wr x) e e'->k e' w'->jT P n an Kp y K e' w')->jT P n an Kp x K' e w->(Code.seq x y).wpIn (FW R) 0 P (yu n D Kp K (wr (.seq x y)) e) a w:=by
   rintro K' k rfl hk hx
   refine wpIn_seq (wpIn_mono (ihx hx0 _ e a w hr hx) fun ex a' w' hq=>?_)
   cases ex with
   |normal=>
    obtain⟨e',hr',ha,hq⟩:=hq
    exact wpIn_mono (ihy hy0 K e' a' w' hr' (hk e' w' ha hq)) fun ex a w'' hq=>hq.grow (ha.mono fun i hi=>by simp[wr,hi]) (fun i hi=>by simp[wr,hi])
   |panic ch=>exact⟨hq.1.grow (.refl _ _) (fun i hi=>by simp[wr,hi]),hq.2⟩
   |outgrown=>exact hq
   |_=>obtain⟨e',h1,h2,h3⟩:=hq;exact⟨e',h1,h2.mono fun i hi=>by simp[wr,hi],h3⟩
  simp only[jT]at h
  split at h
  ·exact fin _ _ rfl (fun e' w' _ hk=>hk) h
  ·rename_i live _
   obtain⟨J,h1,h2⟩:=sg h
   refine fin _ _ rfl (fun e' w' ha hk=>?_) h2
   have:=h1 e' live (ia x live) rfl w' hk
   rwa [gS ha kM]at this
 |cond c x y ihx ihy=>
  intro hnd K e a w hr h
  have hx0:R=none\/h_ x=true:=hnd.imp id fun h=>by simp only[h_,Bool.and_eq_true]at h;exact h.1
  have hy0:R=none\/h_ y=true:=hnd.imp id fun h=>by simp only[h_,Bool.and_eq_true]at h;exact h.2
  replace h:=condS.out h
  split at h
  ·rename_i hv
   exact wpIn_cond_true (by rw[hr.eval];exact hv) (wpIn_mono (ihx hx0 K e a w hr h) fun ex a w' hq=>hq.mono fun i hi=>by simp[wr,hi])
  ·rename_i hv
   exact wpIn_cond_false (by rw[hr.eval];exact hv) (wpIn_mono (ihy hy0 K e a w hr h) fun ex a w' hq=>hq.mono fun i hi=>by simp[wr,hi])
  ·exact h.elim
 |block id b ih=>
  intro hnd K e a w hr h
  have fin:∀(k:dq->WP),(∀e' w',Agree (wr b) e e'->k e' w'->K .normal e' w')->jT P n an Kp b (Dz K id k) e w->(Code.block id b).wpIn (FW R) 0 P (yu n D Kp K (wr (.block id b)) e) a w:=by
   intro k hk hb
   refine wpIn_block (wpIn_mono (ih hnd _ e a w hr hb) fun ex a w' hq=>?_)
   cases ex with
   |normal=>obtain⟨e',h1,h2,h3⟩:=hq;exact⟨e',h1,h2,hk e' w' h2 h3⟩
   |exit id'=>
    obtain⟨e',h1,h2,h3⟩:=hq
    simp only[Exit.inBlock]
    simp only[Dz]at h3
    by_cases hid:id'=id
    ·rw[if_pos hid]at h3 ⊢;exact⟨e',h1,h2,hk e' w' h2 h3⟩
    ·rw[if_neg hid]at h3 ⊢;exact⟨e',h1,h2,h3⟩
   |panic ch=>exact hq
   |outgrown=>exact hq
   |_=>obtain⟨e',h1,h2,h3⟩:=hq;exact⟨e',h1,h2,h3⟩
  simp only[jT]at h
  cases hl:m7 id an.blks with
  |none=>rw[hl]at h;exact fin _ (fun e' w' _ hk=>hk) h
  |some live=>
   rw[hl]at h
   obtain⟨J,h1,h2⟩:=sg h
   refine fin _ (fun e' w' ha hk=>?_) h2
   have:=h1 e' live (ia b live) rfl w' hk
   rwa [gS ha kM]at this
 |loop b ih=>
  intro hnd K e a w hr h
  simp only[jT]at h
  cases hl:m7 (eJ b) an.loops with
  |none=>rw[hl]at h;exact h.elim
  |some live=>
   rw[hl]at h
   obtain⟨I,h0,h1⟩:=h
   refine oD (fun m a w=>∃e',Rep n D e' a/\Agree (wr b) e e'/\ji live.length (I m) (lA e' live) w) ?_ ?_
   ·obtain⟨m,hm⟩:=h0;exact⟨m,e,hr,.refl _ _,hm⟩
   ·rintro m a' w' ⟨e',hr',ha,hv⟩
    have hb:=lC e' live (h1 m (lA e' (ia b live))) w' hv
    simp only at hb
    rw[gS ha kM]at hb
    refine wpIn_mono (ih hnd _ e' a' w' hr' hb) fun ex a w'' hq=>?_
    cases ex with
    |normal=>
     obtain⟨e3,hr3,h2,m',hlt,h3⟩:=hq
     exact⟨m',hlt,e3,hr3,ha.trans h2 (fun _ h=>h) (fun _ h=>h),h3⟩
    |panic ch=>exact⟨hq.1.grow ha (fun _ h=>h),hq.2⟩
    |outgrown=>exact hq
    |_=>obtain⟨e3,h1,h2,h3⟩:=hq;exact⟨e3,h1,ha.trans h2 (fun _ h=>h) (fun _ h=>h),h3⟩
 |rangeFunc=>exact fun _ K e a w hr h=>h.elim
 |exit id=>exact fun _ K e a w hr h=>wpIn_exit ⟨e,hr,.refl _ _,h⟩
 |scope b ih=>
  intro hnd K e a w hr h
  obtain rfl:R=none:=hnd.resolve_right (by simp[h_])
  refine wpIn_wide.2 (wp_scope_straight ((wpIn_wide (n:=0)).1 (wpIn_mono (ih (.inl rfl) _ e a w hr h) fun ex a w' hq=>?_)))
  cases ex with
  |goto l=>obtain⟨e',h1,h2,h3⟩:=hq;exact h3
  |_=>exact hq
 |label l=>exact fun _ K e a w hr h=>wpIn_label ⟨e,hr,.refl _ _,h⟩
 |goto l=>exact fun _ K e a w hr h=>h.elim
 |ret=>exact fun _ K e a w hr h=>wpIn_ret ⟨e,hr,.refl _ _,h⟩
 |refuse s=>exact fun _ K e a w hr h=>h.elim
theorem fV (hm:P.follows .mixedOrders=true)(an:Ann)(c:Code)(K:KT)(e:dq)(a:Act)(w:World)(hr:Rep n D e a)(h:jT P n an Kp c K e w):c.wp P (yu n D Kp K (wr c) e) a w:=
 wpIn_wide.1 (iV (R:=none) hm an c (.inl rfl) K e a w hr h)

def DA:List Value->Value
 |[v]=>v
 |vs=> .tuple vs.toArray
def f9 (P:Program)(n:Nat):List ResultVar->dq->List Value->(Value->WP)->WP
 |[],_,acc,K=>K (DA acc)
 | .tmp t::r,e,acc,K=>f9 P n r e (acc++[ev n e (.tmp t)]) K
 | .cell a t::r,e,acc,K=>stS P (do pure (.value (<- do loadVar t (<- asAddr (ev n e (.tmp a)))))) fun v=>f9 P n r e (acc++[v]) K
def lE (n:Nat)(e:dq):ResultVar->Sem Value
 | .tmp t=>pure (ev n e (.tmp t))
 | .cell a t=>do loadVar t (<- asAddr (ev n e (.tmp a)))
theorem lF {e:dq}{K:Value->WP}{w:World}:∀(rs:List ResultVar) (acc:List Value),f9 P n rs e acc K w->
  ∃vs,(rs.mapM (lE n e)).run P w= .ok vs w/\K (DA (acc++vs)) w
 |[],acc,h=>⟨[],rfl,by simpa [f9]using h⟩
 | .tmp t::r,acc,h=>by
  obtain⟨vs,h1,h2⟩:=lF r _ h
  exact⟨ev n e (.tmp t)::vs,by simp[List.mapM_cons,lE,h1],by simpa using h2⟩
 | .cell a t::r,acc,h=>by
  obtain⟨v,hv,h⟩:=h.out
  obtain⟨vs,h1,h2⟩:=lF r _ h
  refine⟨v::vs,?_,by simpa using h2⟩
  have hr:(lE n e (.cell a t)).run P w= .ok v w:=by
   simp only[Sem.run_bind]at hv
   simp only[lE,Sem.run_bind]
   generalize (asAddr (ev n e (.tmp a))).run P w=r1 at hv
   cases r1 with
   |ok x w1=>
    simp only[Result.andThen_ok]at hv ⊢
    generalize (loadVar t x).run P w1=r2 at hv
    cases r2 with
    |ok y w2=>simp at hv ⊢;exact hv
    |halt y w2=>simp at hv
   |halt x w1=>simp at hv
  simp[List.mapM_cons,hr,h1]
theorem dO {fn:Func}{e:dq}{a:Act}(hr:Rep n D e a){K:Value->WP}{w:World}(h:f9 P n fn.results.toList e [] K w):∃v,(results fn a.tmps).run P w= .ok v w/\K v w:=by
 obtain⟨vs,h1,h2⟩:=lF _ _ h
 refine⟨DA vs,?_,by simpa using h2⟩
 have hf:(fun(x:ResultVar)=>(match x with
   | .tmp t=>pure (a.tmps.getD t undef)
   | .cell c t=>do loadVar t (<- asAddr (a.tmps.getD c undef)):Sem Value))=lE n e:=by
  funext x;cases x <;> simp only[lE,hr.getD]
 have hs:results fn a.tmps=(do
   let vs <- fn.results.mapM (lE n e)
   pure (if h:vs.size=1 then vs[0]else .tuple vs)):=by
  unfold results;rw[<- hf];rfl
 rw[hs,Array.mapM_eq_mapM_toList]
 simp only[Sem.run_bind,Sem.run_map,h1,Result.andThen_ok,Sem.run_pure]
 congr 1
 match vs with
 |[]=>rfl
 |[v]=>rfl
 |v::u::r=>simp[DA]
def vF (P:Program)(n:Nat)(rs:List ResultVar)(K:Value->WP):KT
 | .normal,e=>f9 P n rs e [] K
 | .ret,e=>f9 P n rs e [] K
 |_,_=>fun _=>False
def pq:List Value->dq
 |[],_=>undef
 |v::_,0=>v
 |_::vs,i+1=>pq vs i
def Aa (P:Program)(an:Ann)(fn:Func)(args:List Value)(Kp:List PanicEntry->WP)(K:Value->WP):WP:=
 match fn.body with
 |some c=>jT P (args.length+(fn.ntmps-args.length)) an Kp c (vF P (args.length+(fn.ntmps-args.length)) fn.results.toList K) (pq args)
 |none=>fun _=>False
theorem mj:∀(l:List Value) (i:Nat),pq l i=l.getD i undef
 |[],_=>rfl
 |v::vs,0=>rfl
 |v::vs,i+1=>by simp only[pq,mj vs i,List.getD_cons_succ]
theorem sj (hm:P.follows .mixedOrders=true){f:FuncId}{fn:Func}(hf:P.funcs[f]? =some fn){an:Ann}{args:List Value}{K:Value->WP}{w:World}(h:Aa P an fn args Kp K w):
  Calls P f args.toArray w fun
   | .returned v,w'=>K v w'
   | .panicked ch,w'=>Kp ch w'
   | .outgrown,_=>False:=by
 unfold Aa at h
 cases hb:fn.body with
 |none=>rw[hb]at h;exact h.elim
 |some c=>
  rw[hb]at h
  refine calls_of_wp hf hb ?_
  have hr:Rep (args.length+(fn.ntmps-args.length)) [] (pq args) {tmps:=args.toArray++Array.replicate (fn.ntmps-args.toArray.size) undef,defers:=[]}:=by
   refine⟨rfl,by simp,fun i hi=>?_⟩
   rw[mj,List.getD_eq_getElem?_getD,Array.getElem?_append]
   by_cases hl:i<args.length
   ·simp[hl]
   ·rw[if_neg (by simpa using hl),Array.getElem?_eq_getElem (by simp;omega)]
    simp only[List.getElem?_eq_none (Nat.le_of_not_lt hl),Array.getElem_replicate,Option.getD_none]
  refine wp_mono (fV (D:=[]) hm an c _ _ _ w hr h) fun ex a w' hq=>?_
  cases ex with
  |normal=>
   obtain⟨e',hr',_,hk⟩:=hq
   obtain⟨v,h1,h2⟩:=dO hr' hk
   exact⟨hr'.defers,v,h1,h2⟩
  |ret=>
   obtain⟨e',hr',_,hk⟩:=hq
   obtain⟨v,h1,h2⟩:=dO hr' hk
   exact⟨hr'.defers,v,h1,h2⟩
  |panic ch=>exact⟨hq.1.defers,hq.2⟩
  |exit id=>obtain⟨_,_,_,hk⟩:=hq;exact hk.elim
  |goto l=>obtain⟨_,_,_,hk⟩:=hq;exact hk.elim
  |outgrown=>exact hq.elim
end Go.Proofs.YtdjkdjepjahjfaaGreatDoor.Sh
namespace Go.Proofs.YtdjkdjepjahjfaaGreatDoor.Sh
open Go
variable {P:Program} {n:Nat} {Kp:List PanicEntry->WP}
def G8 (Kret:WP)(Kp:List PanicEntry->WP):FrameMode->WP
 | .returning=>Kret
 | .panicking ch=>Kp ch
 | .run=>fun _=>False
structure dfS (P:Program)(d:Deferred)(u:FrameMode)(Kret:WP)(Kp:List PanicEntry->WP)(w:World):Prop where
 out:u≠ .run/\∃fv cap f args,d.target= .fn fv cap/\(invoke d.target d.args).run P w= .ok (.enter f args) w/\CallsD P f args u w fun
    | .returned _,u',w'=>G8 Kret Kp (settle u') w'
    | .panicked chain,u',w'=>G8 Kret Kp (raised u' chain) w'
    | .outgrown,_,_=>False
structure opDf (f:Value)(args:List Value)(k:Deferred->WP)(w:World):Prop where
 out:∃fn first cap,f= .func fn first cap/\k {target:= .fn fn cap,args:=first++args.toArray} w
def ez (P:Program)(d:Deferred)(Kret:WP)(Kp:List PanicEntry->WP):List PanicEntry->WP:=fun ch=>dfS P d (.panicking ch) Kret Kp
def oQ:Code->Option (List Oper × Oper × Operand × Array Operand × Array Oper)
 | .region _ ops false=>match ops.toList.reverse with
  |o::pre=>match o.op,o.guard with
   | .defer c,none=>match c.callee with
    | .value f=>some (pre.reverse,o,f,c.args,ops)
    |_=>none
   |_,_=>none
  |[]=>none
 |_=>none
def DB (P:Program)(n:Nat)(an:Ann)(Kp:List PanicEntry->WP)(K0:KT)(k1:Deferred->Code->dq->WP):Code->dq->WP
 | .seq x y,e=>match oQ x with
  |some (pre,o,f,args,ops)=>l_ P n ops Kp (fun e'=>opDf (ev n e' f) (args.toList.map (ev n e')) fun d=>k1 d y (fj e' o.dst undef)) pre e
  |none=>jT P n an Kp x (qS K0 (DB P n an Kp K0 k1 y)) e
 |c,e=>jT P n an Kp c K0 e
def ib (rs:List ResultVar):List Nat:=rs.map fun
 | .tmp t=>t
 | .cell a _=>a
def FL (P:Program)(n:Nat)(rs:List ResultVar)(d:Deferred)(Kp:List PanicEntry->WP)(K:Value->WP):KT
 | .normal,e=>dfS P d .returning (f9 P n rs e [] K) Kp
 | .ret,e=>dfS P d .returning (f9 P n rs e [] K) Kp
 |_,_=>fun _=>False
def Mw (P:Program)(n:Nat)(an:Ann)(rs:List ResultVar)(Kp:List PanicEntry->WP)(K:Value->WP)(d:Deferred)(y:Code)(e:dq):WP:=
 match(ib rs).all fun i=>!(wr y).contains i with
 |true=>jT P n an (fun ch=>dfS P d (.panicking ch) (f9 P n rs e [] K) Kp) y (FL P n rs d Kp K) e
 |false=>jT P n an (fun _ _=>False) y (FL P n rs d Kp K) e
def wW (P:Program)(an:Ann)(fn:Func)(args:List Value)(Kp:List PanicEntry->WP)(K:Value->WP):WP:=
 match fn.body with
 |some c=>DB P (args.length+(fn.ntmps-args.length)) an Kp (vF P (args.length+(fn.ntmps-args.length)) fn.results.toList K) (Mw P (args.length+(fn.ntmps-args.length)) an fn.results.toList Kp K) c (pq args)
 |none=>fun _=>False
theorem lG {K:Value->WP}{e e':dq}:∀(rs:List ResultVar) (acc:List Value),(∀i∈ib rs,ev n e (.tmp i)=ev n e' (.tmp i))->f9 P n rs e acc K=f9 P n rs e' acc K
 |[],acc,_=>rfl
 | .tmp t::r,acc,h=>by
  have h0:=h t (by simp[ib])
  simp only[f9,h0]
  exact lG r _ fun i hi=>h i (by simp[ib]at hi ⊢;exact .inr hi)
 | .cell a t::r,acc,h=>by
  have h0:=h a (by simp[ib])
  simp only[f9,h0]
  congr 1
  funext v
  exact lG r _ fun i hi=>h i (by simp[ib]at hi ⊢;exact .inr hi)
theorem ml {fn:Func} {tmps:Array Value} {R:Ending->World->Prop} {d:Deferred} {u:FrameMode} {Kret:WP} {w:World}
  (hk:∀w,Kret w->∃v,(results fn tmps).run P w= .ok v w/\R (.returned v) w) (hp:∀ch w,Kp ch w->R (.panicked ch) w) (h:dfS P d u Kret Kp w):Leaves P fn tmps R [d] u w:=by
 obtain⟨h1,fv,cap,f,args,h2,h3,h4⟩:=h.out
 have lv:∀u w,G8 Kret Kp u w->Leaves P fn tmps R [] u w:=fun u w h=>by
  cases u with
  |run=>exact h.elim
  |returning=>exact hk w h
  |panicking ch=>exact hp ch w h
 refine⟨h1,fv,cap,f,args,h2,h3,h4.mono fun e u' w' he=>?_⟩
 cases e with
 |returned v=>exact lv _ _ he
 |panicked ch=>exact lv _ _ he
 |outgrown=>exact he.elim
theorem mo {D:List Deferred} {ops:Array Oper} {Q:Exit->Act->World->Prop} {o:Oper} {f:Operand} {c:Call} {k:Deferred->dq->WP} (hop:o.op= .defer c) (hc:c.callee= .value f) (hg:o.guard=none) (M:List Nat) (e₀:dq)
  (hn:∀d e a w,Rep n (d::D) (fj e o.dst undef) a->Agree M e₀ e->k d (fj e o.dst undef) w->Q .normal a w) (hp:∀ch e a w,Rep n D e a->Agree M e₀ e->Kp ch w->Q (.panic ch) a w):
  ∀(l:List Oper) (e:dq) (a:Act) (w:World),(∀o∈l,∀t,o.dst=some t->t∈M)->Rep n D e a->Agree M e₀ e->l_ P n ops Kp (fun e'=>opDf (ev n e' f) (c.args.toList.map (ev n e')) fun d=>k d (fj e' o.dst undef)) l e w->wpListIn (FW none) 0 P ops Q (l++[o]) a w
 |[],e,a,w,_,hr,ha,h=>by
  have h:opDf (ev n e f) (c.args.toList.map (ev n e)) (fun d=>k d (fj e o.dst undef)) w:=h
  obtain⟨fnn,first,cap,hf,hk⟩:=h.out
  rw[List.nil_append]
  unfold wpListIn
  rw[if_pos (by simp[Region.wanted,hg])]
  refine⟨fun _ _=>trivial,?_⟩
  rw[show(FW none).round=none from rfl,Oper.semAt_none]
  have hx:(execOp a.eval o).run P w= .ok (.defer {target:= .fn fnn cap,args:=first++(c.args.toList.map (ev n e)).toArray}) w:=by
   rw[hr.eval]
   simp only[execOp,hop,resolve,hc,hf,Deferred.ofValue,Sem.run_bind,Sem.run_pure,Result.andThen_ok,lm]
  rw[hx]
  simp only[Oper.uponIn]
  unfold wpListIn
  refine hn _ e _ w ?_ ha hk
  have hr2:Rep n ({target:= .fn fnn cap,args:=first++(c.args.toList.map (ev n e)).toArray}::D) e {a with defers:={target:= .fn fnn cap,args:=first++(c.args.toList.map (ev n e)).toArray}::a.defers}:=⟨by rw[hr.defers],hr.size,hr.at_⟩
  exact hr2.put _ _
 |o'::l,e,a,w,hM,hr,ha,h=>by
  unfold l_ at h
  rw[List.cons_append]
  unfold wpListIn
  have hd:∀t,o'.dst=some t->t∈M:=hM o' (by simp)
  have next:∀v w' a',l_ P n ops Kp (fun e'=>opDf (ev n e' f) (c.args.toList.map (ev n e')) fun d=>k d (fj e' o.dst undef)) l (fj e o'.dst v) w'->Rep n D (fj e o'.dst v) a'->wpListIn (FW none) 0 P ops Q (l++[o]) a' w':=fun v w' a' hv hr'=>
   mo hop hc hg M e₀ hn hp l _ a' w' (fun x hx=>hM x (by simp[hx])) hr' (ha.trans (.set e o'.dst v M hd) (fun _ h=>h) (fun _ h=>h)) hv
  rcases gW hr h with ⟨hw,h⟩|⟨hw,h⟩
  ·rw[if_pos hw]
   exact lB hr (.inl rfl) h next (fun ch w'=>hp ch e _ w' hr ha)
  ·rw[if_neg (by simp[hw])]
   exact⟨fun _ _=>trivial,next _ _ _ h (hr.put _ _)⟩
theorem sk {x:Code}{pre:List Oper}{o:Oper}{f:Operand}{args:Array Operand}{ops:Array Oper}(h:oQ x=some (pre,o,f,args,ops)):
  ∃id c,x= .region id ops false/\o.op= .defer c/\c.callee= .value f/\c.args=args/\o.guard=none/\ops.toList=pre++[o]:=by
 unfold oQ at h
 split at h
 ·rename_i id ops'
  split at h
  ·rename_i o' pre' hrev
   split at h
   ·rename_i c hop hg
    split at h
    ·rename_i f' hc
     simp only[Option.some.injEq,Prod.mk.injEq]at h
     obtain⟨rfl,rfl,rfl,rfl,rfl⟩:=h
     refine⟨id,c,rfl,hop,hc,rfl,hg,?_⟩
     have:=congrArg List.reverse hrev
     rw[List.reverse_reverse,List.reverse_cons]at this
     exact this
    ·cases h
   ·cases h
  ·cases h
 ·cases h
theorem vG (hm:P.follows .mixedOrders=true)(an:Ann){fn:Func}{K:Value->WP}{R:Ending->World->Prop}(hK:∀v w,K v w->R (.returned v) w)(hKp:∀ch w,Kp ch w->R (.panicked ch) w):
  ∀(c:Code) (e:dq) (a:Act) (w:World),Rep n [] e a->DB P n an Kp (vF P n fn.results.toList K) (Mw P n an fn.results.toList Kp K) c e w->c.wp P (bodyPostD P fn R) a w:=by
 have post0:∀ {M:List Nat} {e:dq} {ex:Exit} {a:Act} {w:World},yu n [] Kp (vF P n fn.results.toList K) M e ex a w->bodyPostD P fn R ex a w:=by
  intro M e ex a w hq
  cases ex with
  |normal=>
   obtain⟨e',hr',_,hk⟩:=hq
   obtain⟨v,h1,h2⟩:=dO hr' hk
   show Leaves P fn a.tmps R a.defers .returning w
   rw[hr'.defers]
   exact⟨v,h1,hK v w h2⟩
  |ret=>
   obtain⟨e',hr',_,hk⟩:=hq
   obtain⟨v,h1,h2⟩:=dO hr' hk
   show Leaves P fn a.tmps R a.defers .returning w
   rw[hr'.defers]
   exact⟨v,h1,hK v w h2⟩
  |panic ch=>
   show Leaves P fn a.tmps R a.defers (.panicking ch) w
   rw[hq.1.defers]
   exact hKp ch w hq.2
  |exit id=>obtain⟨_,_,_,hk⟩:=hq;exact hk.elim
  |goto l=>obtain⟨_,_,_,hk⟩:=hq;exact hk.elim
  |outgrown=>exact hq.elim
 have plain:∀(c:Code) (e:dq) (a:Act) (w:World),Rep n [] e a->jT P n an Kp c (vF P n fn.results.toList K) e w->c.wp P (bodyPostD P fn R) a w:=fun c e a w hr h=>
  wp_mono (fV hm an c _ e a w hr h) fun ex a w hq=>post0 hq
 intro c
 induction c with
 |seq x y _ ihy=>
  intro e a w hr h
  simp only[DB]at h
  cases hd:oQ x with
  |none=>
   rw[hd]at h
   refine wp_seq (wp_mono (fV hm an x _ e a w hr h) fun ex a' w' hq=>?_)
   cases ex with
   |normal=>
    obtain⟨e',hr',_,hk⟩:=hq
    exact ihy e' a' w' hr' hk
   |panic ch=>exact post0 (M:=wr x) (e:=e) (ex:= .panic ch) (show yu n [] Kp (vF P n fn.results.toList K) (wr x) e (.panic ch) a' w' from hq)
   |outgrown=>exact hq.elim
   |ret=>exact post0 (M:=wr x) (e:=e) (ex:= .ret) hq
   |exit id=>obtain⟨_,_,_,hk⟩:=hq;exact hk.elim
   |goto l=>obtain⟨_,_,_,hk⟩:=hq;exact hk.elim
  |some q=>
   obtain⟨pre,o,f,args,ops⟩:=q
   rw[hd]at h
   obtain⟨id,c,rfl,hop,hc,rfl,hg,hops⟩:=sk hd
   simp only at h
   refine wp_seq ((wpIn_wide (n:=0)).1 (wpIn_region_list ?_))
   rw[hops]
   refine mo (n:=n) (D:=[]) (Kp:=Kp) (Q:=Exit.then (Code.wp P y (bodyPostD P fn R)) (bodyPostD P fn R)) hop hc hg (k:=fun d e'=>Mw P n an fn.results.toList Kp K d y e') (wr (.region id ops false)) e (fun d e1 a1 w1 hr1 _ hk=>?_) (fun ch e1 a1 w1 hr1 ha hk=>post0 (M:=wr (.region id ops false)) (e:=e) (ex:= .panic ch) ⟨hr1.pan ha,hk⟩) pre e a w (fun o' ho' t ht=>?_) hr (.refl _ _) h
   ·show y.wp P (bodyPostD P fn R) a1 w1
    have hk:Mw P n an fn.results.toList Kp K d y (fj e1 o.dst undef) w1:=hk
    unfold Mw at hk
    cases hall:(ib fn.results.toList).all (fun i=>!(wr y).contains i)with
    |true=>
     rw[hall]at hk
     refine wp_mono (fV hm an y _ _ a1 w1 hr1 hk) fun ex a' w' hq=>?_
     have ret1:∀e',Rep n [d] e' a'->∀w,f9 P n fn.results.toList e' [] K w->∃v,(results fn a'.tmps).run P w= .ok v w/\R (.returned v) w:=fun e' hr' w hk=>by
      obtain⟨v,h1,h2⟩:=dO hr' hk
      exact⟨v,h1,hK v w h2⟩
     cases ex with
     |normal=>
      obtain⟨e',hr',_,hk⟩:=hq
      show Leaves P fn a'.tmps R a'.defers .returning w'
      rw[hr'.defers]
      exact ml (ret1 e' hr') hKp hk
     |ret=>
      obtain⟨e',hr',_,hk⟩:=hq
      show Leaves P fn a'.tmps R a'.defers .returning w'
      rw[hr'.defers]
      exact ml (ret1 e' hr') hKp hk
     |panic ch=>
      obtain⟨hpan,hk⟩:=hq
      show Leaves P fn a'.tmps R a'.defers (.panicking ch) w'
      rw[hpan.defers]
      refine ml (fun w hw=>?_) hKp hk
      have hr':Rep n [d] (fun i=>a'.tmps.getD i undef) a':=⟨hpan.defers,hpan.size,fun i hi=>by
       rw[Array.getD_eq_getD_getElem?,Array.getElem?_eq_getElem (by rw[hpan.size];exact hi)];rfl⟩
      refine ret1 _ hr' w ?_
      rw[<- lG fn.results.toList [] (e:=fj _ o.dst undef) (fun i hi=>?_)]
      ·exact hw
      ·have hni:i∉wr y:=by
        have:=List.all_eq_true.1 hall i hi
        simpa using this
       by_cases hlt:i<n
       ·have h1:=hpan.at_ i hlt hni
        have hb:Nat.blt i n=true:=by simpa using hlt
        simp only[ev,hb]
        rw[Array.getD_eq_getD_getElem?,h1];rfl
       ·have hb:Nat.blt i n=false:=by
         cases hx:Nat.blt i n with
         |false=>rfl
         |true=>exact absurd (by simpa using hx) hlt
        simp only[ev,hb]
     |exit id=>obtain⟨_,_,_,hk⟩:=hq;exact hk.elim
     |goto l=>obtain⟨_,_,_,hk⟩:=hq;exact hk.elim
     |outgrown=>exact hq.elim
    |false=>
     rw[hall]at hk
     refine wp_mono (fV hm an y _ _ a1 w1 hr1 hk) fun ex a' w' hq=>?_
     have ret1:∀e',Rep n [d] e' a'->∀w,f9 P n fn.results.toList e' [] K w->∃v,(results fn a'.tmps).run P w= .ok v w/\R (.returned v) w:=fun e' hr' w hk=>by
      obtain⟨v,h1,h2⟩:=dO hr' hk
      exact⟨v,h1,hK v w h2⟩
     cases ex with
     |normal=>
      obtain⟨e',hr',_,hk⟩:=hq
      show Leaves P fn a'.tmps R a'.defers .returning w'
      rw[hr'.defers]
      exact ml (ret1 e' hr') hKp hk
     |ret=>
      obtain⟨e',hr',_,hk⟩:=hq
      show Leaves P fn a'.tmps R a'.defers .returning w'
      rw[hr'.defers]
      exact ml (ret1 e' hr') hKp hk
     |panic ch=>exact hq.2.elim
     |exit id=>obtain⟨_,_,_,hk⟩:=hq;exact hk.elim
     |goto l=>obtain⟨_,_,_,hk⟩:=hq;exact hk.elim
     |outgrown=>exact hq.elim
   ·refine List.mem_filterMap.2 ⟨o',?_,ht⟩
    rw[hops];exact List.mem_append_left _ ho'
 |skip=>exact fun e a w hr h=>plain _ e a w hr h
 |region id ops draw=>exact fun e a w hr h=>plain _ e a w hr h
 |cond c x y _ _=>exact fun e a w hr h=>plain _ e a w hr h
 |block id b _=>exact fun e a w hr h=>plain _ e a w hr h
 |loop b _=>exact fun e a w hr h=>plain _ e a w hr h
 |rangeFunc=>exact fun e a w hr h=>plain _ e a w hr h
 |exit id=>exact fun e a w hr h=>plain _ e a w hr h
 |scope b _=>exact fun e a w hr h=>plain _ e a w hr h
 |label l=>exact fun e a w hr h=>plain _ e a w hr h
 |goto l=>exact fun e a w hr h=>plain _ e a w hr h
 |ret=>exact fun e a w hr h=>plain _ e a w hr h
 |refuse s=>exact fun e a w hr h=>plain _ e a w hr h
theorem qT (hm:P.follows .mixedOrders=true){f:FuncId}{fn:Func}(hf:P.funcs[f]? =some fn){an:Ann}{args:List Value}{K:Value->WP}{w:World}(h:wW P an fn args Kp K w):
  Calls P f args.toArray w fun
   | .returned v,w'=>K v w'
   | .panicked ch,w'=>Kp ch w'
   | .outgrown,_=>False:=by
 unfold wW at h
 cases hb:fn.body with
 |none=>rw[hb]at h;exact h.elim
 |some c=>
  rw[hb]at h
  refine calls_of_wp_defers hf hb ?_
  have hr:Rep (args.length+(fn.ntmps-args.length)) [] (pq args) {tmps:=args.toArray++Array.replicate (fn.ntmps-args.toArray.size) undef,defers:=[]}:=by
   refine⟨rfl,by simp,fun i hi=>?_⟩
   rw[mj,List.getD_eq_getElem?_getD,Array.getElem?_append]
   by_cases hl:i<args.length
   ·simp[hl]
   ·rw[if_neg (by simpa using hl),Array.getElem?_eq_getElem (by simp;omega)]
    simp only[List.getElem?_eq_none (Nat.le_of_not_lt hl),Array.getElem_replicate,Option.getD_none]
  exact vG hm an (fun v w h=>h) (fun ch w h=>h) c _ _ w hr h
end Go.Proofs.YtdjkdjepjahjfaaGreatDoor.Sh
namespace Go.Proofs.YtdjkdjepjahjfaaGreatDoor.Sh
open Go
variable {P:Program} {n:Nat} {Kp:List PanicEntry->WP}
def d6:FrameMode->Value × FrameMode
 | .panicking ({v,recovered:=false,goexit:=false}::older)=>(v,.panicking ({v,recovered:=true}::older))
 |m=>(.nilIface,m)
theorem qU {c₀:Frame}{cs:List Frame}{u:FrameMode}(hu:c₀.mode=u):
  recoverD (c₀::cs)=some ((d6 u).1,{c₀ with mode:=(d6 u).2}::cs)\/(recoverD (c₀::cs)=none/\d6 u=(.nilIface,u)):=by
 unfold recoverD d6
 subst hu
 simp only
 split <;> simp_all
def mq (b:Option Code):Option (List Oper × Oper × Array Oper × Code):=
 match b with
 |some (.seq (.region _ ops false) y)=>match ops.toList with
  |o::rest=>match o.op,o.guard with
   | .call c,none=>match c.callee with
    | .builtin .recover=>some (rest,o,ops,y)
    |_=>none
   |_,_=>none
  |[]=>none
 |_=>none
theorem qV {b:Option Code}{rest:List Oper}{o:Oper}{ops:Array Oper}{y:Code}(h:mq b=some (rest,o,ops,y)):
  ∃id c,b=some (.seq (.region id ops false) y)/\ops.toList=o::rest/\o.op= .call c/\o.guard=none/\c.callee= .builtin .recover:=by
 unfold mq at h
 split at h
 ·rename_i id ops' y'
  split at h
  ·rename_i o' rest' hops
   split at h
   ·rename_i c hop hg
    split at h
    ·rename_i hc
     simp only[Option.some.injEq,Prod.mk.injEq]at h
     obtain⟨rfl,rfl,rfl,rfl⟩:=h
     exact⟨id,c,rfl,hops,hop,hg,hc⟩
    ·cases h
   ·cases h
  ·cases h
 ·cases h
def px (P:Program)(n:Nat)(ops:Array Oper)(K:dq->WP):List Oper->dq->WP
 |[],e=>K e
 |o::rest,e=>Dx n ops e o (wR P n e o) fun v=>px P n ops K rest (fj e o.dst v)
def vH (P:Program)(an:Ann)(fn:Func)(args:List Value)(rv:Value)(Kp:List PanicEntry->WP)(K:Value->WP):WP:=
 match mq fn.body with
 |some (rest,o,ops,y)=>px P (args.length+(fn.ntmps-args.length)) ops (jT P (args.length+(fn.ntmps-args.length)) an Kp y (vF P (args.length+(fn.ntmps-args.length)) fn.results.toList K)) rest (fj (pq args) o.dst rv)
 |none=>fun _=>False
theorem mr {ops:Array Oper} {K:dq->WP} {cs:List Frame} {Q:Exit->Act->List Frame->World->Prop}
  (hn:∀e a w,Rep n [] e a->K e w->Q .normal a cs w):
  ∀(l:List Nat) (L:List Oper) (e:dq) (a:Act) (w:World),l.map (fun i=>ops[i]?)=L.map some->Rep n [] e a->px P n ops K L e w->wpOpsS P ops Q l a cs w
 |[],[],e,a,w,_,hr,h=>hn e a w hr h
 |[],o::L,e,a,w,hl,hr,h=>by simp at hl
 |i::l,[],e,a,w,hl,hr,h=>by simp at hl
 |i::l,o::L,e,a,w,hl,hr,h=>by
  simp only[List.map_cons,List.cons.injEq]at hl
  obtain⟨hi,hl⟩:=hl
  unfold px at h
  unfold wpOpsS
  rw[hi]
  simp only
  have next:∀v w' a',px P n ops K L (fj e o.dst v) w'->Rep n [] (fj e o.dst v) a'->wpOpsS P ops Q l a' cs w':=fun v w' a' hv hr'=>mr hn l L _ a' w' hl hr' hv
  rcases gW hr h with ⟨hw,h⟩|⟨hw,h⟩
  ·rw[if_pos hw]
   obtain⟨v,hv,hk⟩:=(mf h).out
   rw[hr.eval,hv]
   exact next _ _ _ hk (hr.put _ _)
  ·rw[if_neg (by simp[hw])]
   exact next _ _ _ h (hr.put _ _)
theorem eE (hm:P.follows .mixedOrders=true){f:FuncId}{fn:Func}(hf:P.funcs[f]? =some fn){an:Ann}{args:List Value}{K:Value->WP}{w:World}{u:FrameMode}(h:vH P an fn args (d6 u).1 Kp K w):
  CallsD P f args.toArray u w fun
   | .returned v,u',w'=>u'=(d6 u).2/\K v w'
   | .panicked ch,u',w'=>u'=(d6 u).2/\Kp ch w'
   | .outgrown,_,_=>False:=by
 unfold vH at h
 cases hs:mq fn.body with
 |none=>rw[hs]at h;exact h.elim
 |some q=>
     obtain⟨rest,o,ops,y⟩:=q
     rw[hs]at h
     obtain⟨id,c,hb,hops,hop,hg,hc⟩:=qV hs
     simp only at h
     refine callsD_of_wpS hf hb fun c₀ cs hu=>?_
     have hr:Rep (args.length+(fn.ntmps-args.length)) [] (pq args) {tmps:=args.toArray++Array.replicate (fn.ntmps-args.toArray.size) undef,defers:=[]}:=by
      refine⟨rfl,by simp,fun i hi=>?_⟩
      rw[mj,List.getD_eq_getElem?_getD,Array.getElem?_append]
      by_cases hl:i<args.length
      ·simp[hl]
      ·rw[if_neg (by simpa using hl),Array.getElem?_eq_getElem (by simp;omega)]
       simp only[List.getElem?_eq_none (Nat.le_of_not_lt hl),Array.getElem_replicate,Option.getD_none]
     generalize hA:({tmps:=args.toArray++Array.replicate (fn.ntmps-args.toArray.size) undef,defers:=[]}:Act)=A at hr
     refine wpS_seq (wpS_region ?_)
     have hsz:ops.size=rest.length+1:=by rw[<- Array.length_toList,hops];rfl
     rw[hsz,List.range_succ_eq_map]
     have h0:ops[0]? =some o:=by rw[<- Array.getElem?_toList,hops];rfl
     have tailm:(List.map Nat.succ (List.range rest.length)).map (fun i=>ops[i]?)=rest.map some:=by
      rw[List.map_map]
      apply List.ext_getElem?
      intro j
      rw[List.getElem?_map,List.getElem?_map]
      by_cases hj:j<rest.length
      ·rw[List.getElem?_range hj,List.getElem?_eq_getElem hj]
       simp only[Option.map_some,Function.comp_apply]
       rw[<- Array.getElem?_toList,hops,List.getElem?_cons_succ,List.getElem?_eq_getElem hj]
      ·rw[List.getElem?_eq_none (by simpa using hj),List.getElem?_eq_none (by omega)];rfl
     have go:∀(u':FrameMode),u'=(d6 u).2->∀(cs':List Frame),cs'={c₀ with mode:=u'}::cs->wpOpsS P ops (Exit.thenS (y.wpS P (bodyPostS P fn c₀ cs fun
       | .returned v,u',w'=>u'=(d6 u).2/\K v w'
       | .panicked ch,u',w'=>u'=(d6 u).2/\Kp ch w'
       | .outgrown,_,_=>False)) (bodyPostS P fn c₀ cs fun
       | .returned v,u',w'=>u'=(d6 u).2/\K v w'
       | .panicked ch,u',w'=>u'=(d6 u).2/\Kp ch w'
       | .outgrown,_,_=>False)) (List.map Nat.succ (List.range rest.length)) (A.put o.dst (d6 u).1) cs' w:=by
      rintro u' rfl cs' rfl
      refine mr (n:=args.length+(fn.ntmps-args.length)) (fun e a w hr hk=>?_) _ rest _ _ w tailm (hr.put o.dst (d6 u).1) h
      ·refine wpS_of_wp (wp_mono (fV (D:=[]) hm an y _ e a w hr hk) fun ex a' w' hq=>?_)
       cases ex with
       |normal=>
        obtain⟨e',hr',_,hk⟩:=hq
        obtain⟨v,h1,h2⟩:=dO hr' hk
        exact⟨hr'.defers,_,rfl,v,h1,rfl,h2⟩
       |ret=>
        obtain⟨e',hr',_,hk⟩:=hq
        obtain⟨v,h1,h2⟩:=dO hr' hk
        exact⟨hr'.defers,_,rfl,v,h1,rfl,h2⟩
       |panic ch=>exact⟨hq.1.defers,_,rfl,rfl,hq.2⟩
       |exit id=>obtain⟨_,_,_,hk⟩:=hq;exact hk.elim
       |goto l=>obtain⟨_,_,_,hk⟩:=hq;exact hk.elim
       |outgrown=>exact hq.elim
     unfold wpOpsS
     rw[h0]
     simp only
     rw[if_pos (by simp[Region.wanted,hg])]
     have hx:(execOp A.eval o).run P w= .ok .recover w:=by
      simp[execOp,hop,resolve,hc,invoke,builtin]
     rw[hx]
     simp only
     rcases qU (cs:=cs) hu with hrec|⟨hrec,hrv⟩
     ·rw[hrec]
      exact go _ rfl _ rfl
     ·rw[hrec]
      have e1:(d6 u).1= .nilIface:=by rw[hrv]
      have e2:(d6 u).2=u:=by rw[hrv]
      have:=go _ rfl (c₀::cs) (by rw[e2,<- hu])
      rw[e1]at this
      exact this
end Go.Proofs.YtdjkdjepjahjfaaGreatDoor.Sh
namespace Go.Proofs.YtdjkdjepjahjfaaGreatDoor.Sh
open Go
variable {P:Program} {n:Nat} {Kp:List PanicEntry->WP}
structure tkS (d:Nat)(S:WP)(w:World):Prop where
 out:w.heap[d]? =some (.deferred (some []))/\S (w.putObj d (.deferred none))
def fy:List Nat->WP->WP
 |[],S=>S
 |d::ds,S=>tkS d (fy ds S)
def jk (ds:List Nat)(Kp:List PanicEntry->WP):List PanicEntry->WP:=fun ch=>fy ds (Kp ch)
def tO (P:Program)(n:Nat)(rs:List ResultVar)(ds:List Nat)(K:Value->WP):KT
 | .normal,e=>fy ds (f9 P n rs e [] K)
 | .ret,e=>fy ds (f9 P n rs e [] K)
 |_,_=>fun _=>False
def Ab (P:Program)(l:Nat)(vs:List Value)(w:World)(R:Ending->World->Prop):Prop:=
 ∃fn tmps assign body,(Instr.yield l vs.toArray).run P w= .ok (.round l fn tmps assign body) w/\RoundIn Fence.wide 0 P l fn tmps assign body w R
abbrev Q3:=LoopState->Option Code->Loop
def Ac (l:Nat)(rec:Q3)(S:WP)(w:World):Prop:=w.heap[l]? =some (.loop (rec .ready none))/\S (w.putObj l (.loop (rec .busy none)))
def DC (l:Nat)(rec:Q3)(jump:Option Code)(S:WP)(w:World):Prop:=w.heap[l]? =some (.loop (rec .busy none))/\S (w.putObj l (.loop (rec (if jump.isNone then .ready else .done) jump)))
def DD {α:Type}:(n:Nat)->(List Value->α)->VF n α
 |0,f=>f []
 |n+1,f=>fun v=>DD n fun l=>f (v::l)
theorem rm {α:Type}:∀(n:Nat) (f:List Value->α) (vs:List Value),vs.length=n->ji n (DD n f) vs=f vs
 |0,f,[],_=>rfl
 |n+1,f,v::vs,h=>by
  simp only[ji,DD,List.headD_cons,List.tail_cons]
  exact rm n (fun l=>f (v::l)) vs (by simpa using h)
structure rfS (P:Program)(fv:Value)(np:Nat)(rnd:VF np ((WP->WP)->WP->WP->WP))(Kn Kj:Nat->WP)(Kp:Nat->List PanicEntry->WP)(w:World):Prop where
 out:∃f cap,fv= .func (.func f) #[] cap/\(∀(a:Array Value) (w:World),(callFunc f a).run P w= .ok (.enter f a) w)/\
  ∀rec:Q3,(∀(vs:List Value) (w':World) (R:Ending->World->Prop),vs.length=np->w'.heap[w.heap.size+1]? =some (.loop (rec .ready none))->
    ji np rnd vs (Ac (w.heap.size+1) rec) (DC (w.heap.size+1) rec none (R (.returned (.bool true)))) (DC (w.heap.size+1) rec (some .ret) (R (.returned (.bool false)))) w'->Ab P (w.heap.size+1) vs w' R)->
   Calls P f (#[.func (.yield (w.heap.size+1)) #[] #[]]++cap) ((w.alloc (.deferred (some []))).alloc (.loop (rec .ready none))) fun
    | .returned _,w₃=>(w₃.heap[w.heap.size+1]? =some (.loop (rec .ready none))/\Kn w.heap.size (w₃.putObj (w.heap.size+1) (.loop (rec .exhausted none))))\/
      (w₃.heap[w.heap.size+1]? =some (.loop (rec .done (some .ret)))/\Kj w.heap.size (w₃.putObj (w.heap.size+1) (.loop (rec .exhausted (some .ret)))))
    | .panicked ch,w₃=>Kp w.heap.size ch w₃
    | .outgrown,_=>False
def Mx (B:WP->WP)(k:dq->WP):KT
 | .normal,e=>B (k e)
 |_,_=>fun _=>False
def My (N J:WP):KT
 | .normal,_=>N
 | .ret,_=>J
 |_,_=>fun _=>False
def cf:List PanicEntry->WP:=fun _ _=>False
def vI (P:Program)(n:Nat)(an:Ann)(ps:List Nat)(asg body:Code)(e:dq):VF ps.length ((WP->WP)->WP->WP->WP):=
 DD ps.length fun vs B N J=>jT P n an cf asg (Mx B (jT P n an cf body (My N J))) (gZ e ps vs)
def ol:Code->Bool
 | .rangeFunc .. =>true
 | .seq a b=>ol a||ol b
 | .block _ b=>match b with
  | .rangeFunc .. =>true
  |_=>false
 |_=>false
def Q4 (P:Program)(n:Nat)(an:Ann)(rs:List ResultVar)(Kp:List PanicEntry->WP)(K:Value->WP)(g:Operand)(ps:Array Tmp)(asg body:Code)(k:List Nat->dq->WP)(ds:List Nat)(e:dq):WP:=
 match h_ asg&&h_ body with
 |true=>rfS P (ev n e g) ps.toList.length (vI P n an ps.toList asg body e) (fun d=>k (d::ds) e) (fun d=>fy (d::ds) (f9 P n rs e [] K)) (fun d ch=>fy (d::ds) (Kp ch))
 |false=>fun _=>False
def yx (P:Program)(n:Nat)(an:Ann)(rs:List ResultVar)(Kp:List PanicEntry->WP)(K:Value->WP):Code->(List Nat->dq->WP)->List Nat->dq->WP
 | .seq x y,k,ds,e=>match ol x||ol y with
  |true=>(match(match ol x||sb x with|true=>none|false=>m7 (eJ y) an.cuts)with
   |none=>yx P n an rs Kp K x (fun ds e=>yx P n an rs Kp K y k ds e) ds e
   |some live=>Dy live.length (fun J=>jT P n an (jk ds Kp) x (qS (tO P n rs ds K) fun e'=>ji live.length J (lA e' live)) e) fun dd vs=>yx P n an rs Kp K y k ds (upd e (ia x live) dd live vs))
  |false=>jT P n an (jk ds Kp) (.seq x y) (qS (tO P n rs ds K) (k ds)) e
 | .block id b,k,ds,e=>match b with
  | .rangeFunc g ps asg body=>Q4 P n an rs Kp K g ps asg body k ds e
  |b=>jT P n an (jk ds Kp) (.block id b) (qS (tO P n rs ds K) (k ds)) e
 | .rangeFunc g ps asg body,k,ds,e=>Q4 P n an rs Kp K g ps asg body k ds e
 |c,k,ds,e=>jT P n an (jk ds Kp) c (qS (tO P n rs ds K) (k ds)) e
def wX (P:Program)(an:Ann)(fn:Func)(args:List Value)(Kp:List PanicEntry->WP)(K:Value->WP):WP:=
 match fn.body with
 |some c=>yx P (args.length+(fn.ntmps-args.length)) an fn.results.toList Kp K c (fun ds e=>fy ds (f9 P (args.length+(fn.ntmps-args.length)) fn.results.toList e [] K)) [] (pq args)
 |none=>fun _=>False
def e9 (ds:List Nat):List Deferred:=ds.map fun d=>{target:= .collected d,args:=#[]}
theorem sl {fn:Func}{tmps:Array Value}{R:Ending->World->Prop}{S:WP}{u:FrameMode}(hu:u≠ .run)(hS:∀w,S w->LeavesIn Fence.wide 0 P fn tmps R [] u w):
  ∀(ds:List Nat) (w:World),fy ds S w->LeavesInM Fence.wide 0 P fn tmps R (e9 ds) u w
 |[],w,h=>hS w h
 |d::ds,w,h=>⟨hu,.inl ⟨d,_,rfl,run_takeDeferred h.out.1,sl hu hS ds _ h.out.2⟩⟩
theorem rn {e:dq}:∀(ps:List Nat) (vs:List Value) (e:dq) (t:Array Value),ps.length=vs.length->t.size=n->(∀i,i<n->t[i]? =some (e i))->
  Rep n [] (gZ e ps vs) {tmps:=(ps.zip vs).foldl (fun t (x:Nat × Value)=>t.setIfInBounds x.1 x.2) t,defers:=[]}
 |[],[],e,t,_,h1,h2=>⟨rfl,h1,h2⟩
 |p::ps,v::vs,e,t,h,h1,h2=>by
  simp only[List.zip_cons_cons,List.foldl_cons,gZ,List.headD_cons,List.tail_cons]
  refine rn (e:=e) ps vs _ _ (by simpa using h) (by simpa using h1) fun i hi=>?_
  rw[Array.getElem?_setIfInBounds,oP]
  by_cases hp:p=i
  ·subst hp
   rw[if_pos rfl,if_pos (by omega),if_pos rfl]
  ·rw[if_neg hp,if_neg (fun c=>hp c.symm)];exact h2 i hi
theorem tP (hm:P.follows .mixedOrders=true) (an:Ann) {rs:List ResultVar} {K:Value->WP} (g:Operand) (ps:Array Tmp) (asg body:Code) (ds:List Nat) (e:dq) (a:Act) (w:World) (Kn:Nat->WP) (Q:Exit->Act->World->Prop) (hr:Rep n (e9 ds) e a) (hnd:(h_ asg&&h_ body)=true)
  (hn:∀d a' w',Rep n (e9 (d::ds)) e a'->Kn d w'->Q .normal a' w') (hj:∀d a' w',Rep n (e9 (d::ds)) e a'->fy (d::ds) (f9 P n rs e [] K) w'->Q .ret a' w')
  (hp:∀d ch a' w',Rep n (e9 (d::ds)) e a'->fy (d::ds) (Kp ch) w'->Q (.panic ch) a' w')
  (h:rfS P (ev n e g) ps.toList.length (vI P n an ps.toList asg body e) Kn (fun d=>fy (d::ds) (f9 P n rs e [] K)) (fun d ch=>fy (d::ds) (Kp ch)) w):
  (Code.rangeFunc g ps asg body).wpIn Fence.wide 0 P Q a w:=by
 simp only[Bool.and_eq_true]at hnd
 obtain⟨f,cap,hfv,hent,h⟩:=h.out
 refine wpIn_rangeFunc fun fnid _=>?_
 obtain⟨rec,hrec⟩:∃rec:Q3,rec=fun st pe=>{state:=st,pending:=pe,fn:=fnid,tmps:=a.tmps,params:=ps,assign:=asg,body,defers:=w.heap.size}:=⟨_,rfl⟩
 have hg:a.eval g= .func (.func f) #[] cap:=by rw[hr.eval];exact hfv
 have hr2:∀d,Rep n (e9 (d::ds)) e {a with defers:=[{target:= .collected d,args:=#[]}]++a.defers}:=fun d=>⟨by show [({target:= .collected d,args:=#[]}:Deferred)]++a.defers=_;rw[hr.defers];rfl,hr.size,hr.at_⟩
 refine⟨w.heap.size+1,[{target:= .collected w.heap.size,args:=#[]}],(w.alloc (.deferred (some []))).alloc (.loop (rec .ready none)),{target:= .fn (.func f) cap,args:=#[.func (.yield (w.heap.size+1)) #[] #[]]},(w.alloc (.deferred (some []))).alloc (.loop (rec .ready none)),f,
  #[.func (.yield (w.heap.size+1)) #[] #[]]++cap,(w.alloc (.deferred (some []))).alloc (.loop (rec .ready none)),?_,?_,fun _ _=>trivial,?_,fun c=>by simp[Fence.wide]at c,?_⟩
 ·rw[hrec];exact run_enterLoop_outer _ _ _ _ _
 ·simp only[resolve,hg]
  simp[go_sem]
 ·simp[invoke,go_sem,hent]
 ·refine callsIn_wide.2 ((h rec ?_).mono ?_)
  ·intro vs w' R' hvs hl hrnd
   have hy:=run_yield (P:=P) (args:=vs.toArray) hl (by rw[hrec];simpa using hvs)
   rw[hrec]at hy
   refine⟨_,_,_,_,hy,roundIn_of_wpIn trivial ?_⟩
   have hrnd:jT P n an cf asg (Mx (Ac (w.heap.size+1) rec) (jT P n an cf body (My (DC (w.heap.size+1) rec none (R' (.returned (.bool true)))) (DC (w.heap.size+1) rec (some .ret) (R' (.returned (.bool false))))))) (gZ e ps.toList vs) w':=by
    unfold vI at hrnd
    rwa [rm _ _ _ hvs]at hrnd
   have hr3:Rep n [] (gZ e ps.toList vs) {tmps:=(ps.zip vs.toArray).foldl (fun(t:Array Value) (x:Nat × Value)=>t.setIfInBounds x.1 x.2) a.tmps,defers:=[]}:=by
    have:=rn (n:=n) (e:=e) ps.toList vs e a.tmps hvs.symm hr.size hr.at_
    rw[<- Array.foldl_toList]
    simpa using this
   refine wpIn_mono (iV (R:=some (w.heap.size+1)) (D:=[]) hm an asg (.inr hnd.1) _ _ _ w' hr3 hrnd) fun ex a1 w1 hq=>?_
   cases ex with
   |normal=>
    obtain⟨e1,hr1,_,hb1,hb2⟩:=hq
    refine⟨_,by have:=run_beginRound (P:=P) hb1 (by rw[hrec]);rw[hrec]at this;exact this,?_⟩
    rw[hrec]at hb2
    refine wpIn_mono (iV (R:=some (w.heap.size+1)) (D:=[]) hm an body (.inr hnd.2) _ _ _ _ hr1 hb2) fun ex a2 w2 hq=>?_
    cases ex with
    |normal=>
     obtain⟨e2,hr2,_,hc1,hc2⟩:=hq
     exact⟨_,_,run_endRound (P:=P) none hc1,hc2⟩
    |ret=>
     obtain⟨e2,hr2,_,hc1,hc2⟩:=hq
     exact⟨_,_,run_endRound (P:=P) (some .ret) hc1,hc2⟩
    |exit id=>obtain⟨_,_,_,hk⟩:=hq;exact hk.elim
    |goto l=>obtain⟨_,_,_,hk⟩:=hq;exact hk.elim
    |panic ch=>exact hq.2.elim
    |outgrown=>exact hq.elim
   |exit id=>obtain⟨_,_,_,hk⟩:=hq;exact hk.elim
   |ret=>obtain⟨_,_,_,hk⟩:=hq;exact hk.elim
   |goto l=>obtain⟨_,_,_,hk⟩:=hq;exact hk.elim
   |panic ch=>exact hq.2.elim
   |outgrown=>exact hq.elim
  ·intro en w3 he
   cases en with
   |returned v=>
    rcases he with ⟨h1,h2⟩|⟨h1,h2⟩
    ·exact⟨none,_,by have:=run_endLoop (P:=P) h1 (by rw[hrec];simp);rw[hrec]at this;exact this,hn _ _ _ (hr2 _) (by rw[hrec]at h2;exact h2)⟩
    ·exact⟨some .ret,_,by have:=run_endLoop (P:=P) h1 (by rw[hrec];simp);rw[hrec]at this;exact this,wpIn_ret (hj _ _ _ (hr2 _) (by rw[hrec]at h2;exact h2))⟩
   |panicked ch=>exact hp _ _ _ _ (hr2 _) he
   |outgrown=>exact he.elim
theorem vJ (hm:P.follows .mixedOrders=true)(an:Ann){rs:List ResultVar}{K:Value->WP}:
  ∀(c:Code) (k:List Nat->dq->WP) (Q:Exit->Act->World->Prop) (ds:List Nat) (e:dq) (a:Act) (w:World),
   (∀ds e a w,Rep n (e9 ds) e a->k ds e w->Q .normal a w)->(∀ds e a w,Rep n (e9 ds) e a->fy ds (f9 P n rs e [] K) w->Q .ret a w)->(∀ds ch a w,a.defers=e9 ds->fy ds (Kp ch) w->Q (.panic ch) a w)->
   Rep n (e9 ds) e a->yx P n an rs Kp K c k ds e w->c.wpIn Fence.wide 0 P Q a w:=by
 have e8:∀(c:Code) (k:List Nat->dq->WP) (Q:Exit->Act->World->Prop) (ds:List Nat) (e:dq) (a:Act) (w:World),
   (∀ds e a w,Rep n (e9 ds) e a->k ds e w->Q .normal a w)->(∀ds e a w,Rep n (e9 ds) e a->fy ds (f9 P n rs e [] K) w->Q .ret a w)->(∀ds ch a w,a.defers=e9 ds->fy ds (Kp ch) w->Q (.panic ch) a w)->
   Rep n (e9 ds) e a->jT P n an (jk ds Kp) c (qS (tO P n rs ds K) (k ds)) e w->c.wpIn Fence.wide 0 P Q a w:=by
  intro c k Q ds e a w hN hR hP hr h
  refine wpIn_mono (iV (R:=none) hm an c (.inl rfl) _ e a w hr h) fun ex a w hq=>?_
  cases ex with
  |normal=>obtain⟨e',hr',_,hk⟩:=hq;exact hN _ _ _ _ hr' hk
  |ret=>obtain⟨e',hr',_,hk⟩:=hq;exact hR _ _ _ _ hr' hk
  |panic ch=>exact hP _ _ _ _ hq.1.defers hq.2
  |exit id=>obtain⟨_,_,_,hk⟩:=hq;exact hk.elim
  |goto l=>obtain⟨_,_,_,hk⟩:=hq;exact hk.elim
  |outgrown=>exact hq.elim
 have range:∀(g:Operand) (ps:Array Tmp) (asg body:Code) (k:List Nat->dq->WP) (Q:Exit->Act->World->Prop) (ds:List Nat) (e:dq) (a:Act) (w:World),
   (∀ds e a w,Rep n (e9 ds) e a->k ds e w->Q .normal a w)->(∀ds e a w,Rep n (e9 ds) e a->fy ds (f9 P n rs e [] K) w->Q .ret a w)->(∀ds ch a w,a.defers=e9 ds->fy ds (Kp ch) w->Q (.panic ch) a w)->
   Rep n (e9 ds) e a->Q4 P n an rs Kp K g ps asg body k ds e w->(Code.rangeFunc g ps asg body).wpIn Fence.wide 0 P Q a w:=by
  intro g ps asg body k Q ds e a w hN hR hP hr h
  unfold Q4 at h
  cases hnd:(h_ asg&&h_ body)with
  |false=>rw[hnd]at h;exact h.elim
  |true=>
   rw[hnd]at h
   exact tP hm an g ps asg body ds e a w _ Q hr hnd (fun d a' w' hr' hk=>hN _ _ _ _ hr' hk) (fun d a' w' hr' hk=>hR _ _ _ _ hr' hk) (fun d ch a' w' hr' hk=>hP _ _ _ _ hr'.defers hk) h
 intro c
 induction c with
 |seq x y ihx ihy=>
  intro k Q ds e a w hN hR hP hr h
  simp only[yx]at h
  cases hrf:(ol x||ol y)with
  |false=>rw[hrf]at h;exact e8 _ k Q ds e a w hN hR hP hr h
  |true=>
   rw[hrf]at h
   simp only at h
   generalize hlk:(match(ol x||sb x)with|true=>none|false=>m7 (eJ y) an.cuts:Option (List Nat))=lk at h
   cases lk with
   |none=>
    refine wpIn_seq (ihx _ _ ds e a w (fun ds e a w hr hk=>?_) (fun ds e a w hr hk=>hR _ _ _ _ hr hk) (fun ds ch a w hd hk=>hP _ _ _ _ hd hk) hr h)
    exact ihy k Q ds e a w hN hR hP hr hk
   |some live=>
    obtain⟨J,h1,h2⟩:=sg h
    refine wpIn_seq (wpIn_mono (iV (R:=none) hm an x (.inl rfl) _ e a w hr h2) fun ex a' w' hq=>?_)
    cases ex with
    |normal=>
     obtain⟨e',hr',ha,hk⟩:=hq
     have:=h1 e' live (ia x live) rfl w' hk
     rw[gS ha kM]at this
     exact ihy k Q ds e' a' w' hN hR hP hr' this
    |ret=>obtain⟨e',hr',_,hk⟩:=hq;exact hR _ _ _ _ hr' hk
    |panic ch=>exact hP _ _ _ _ hq.1.defers hq.2
    |exit id=>obtain⟨_,_,_,hk⟩:=hq;exact hk.elim
    |goto l=>obtain⟨_,_,_,hk⟩:=hq;exact hk.elim
    |outgrown=>exact hq.elim
 |block id b ih=>
  intro k Q ds e a w hN hR hP hr h
  cases b with
  |rangeFunc g ps asg body=>
   exact wpIn_block (range g ps asg body k (Exit.inBlock id Q) ds e a w (fun ds e a w hr hk=>hN _ _ _ _ hr hk) (fun ds e a w hr hk=>hR _ _ _ _ hr hk) (fun ds ch a w hd hk=>hP _ _ _ _ hd hk) hr h)
  |skip=>exact e8 _ k Q ds e a w hN hR hP hr h
  |region id ops draw=>exact e8 _ k Q ds e a w hN hR hP hr h
  |seq x1 x2=>exact e8 _ k Q ds e a w hN hR hP hr h
  |cond c x1 x2=>exact e8 _ k Q ds e a w hN hR hP hr h
  |block id b=>exact e8 _ k Q ds e a w hN hR hP hr h
  |loop b=>exact e8 _ k Q ds e a w hN hR hP hr h
  |exit id=>exact e8 _ k Q ds e a w hN hR hP hr h
  |scope b=>exact e8 _ k Q ds e a w hN hR hP hr h
  |label l=>exact e8 _ k Q ds e a w hN hR hP hr h
  |goto l=>exact e8 _ k Q ds e a w hN hR hP hr h
  |ret=>exact e8 _ k Q ds e a w hN hR hP hr h
  |refuse s=>exact e8 _ k Q ds e a w hN hR hP hr h
 |rangeFunc g ps asg body=>exact fun k Q ds e a w hN hR hP hr h=>range g ps asg body k Q ds e a w hN hR hP hr h
 |skip=>exact fun k Q ds e a w hN hR hP hr h=>e8 _ k Q ds e a w hN hR hP hr h
 |region id ops draw=>exact fun k Q ds e a w hN hR hP hr h=>e8 _ k Q ds e a w hN hR hP hr h
 |cond c x y _ _=>exact fun k Q ds e a w hN hR hP hr h=>e8 _ k Q ds e a w hN hR hP hr h
 |loop b _=>exact fun k Q ds e a w hN hR hP hr h=>e8 _ k Q ds e a w hN hR hP hr h
 |exit id=>exact fun k Q ds e a w hN hR hP hr h=>e8 _ k Q ds e a w hN hR hP hr h
 |scope b _=>exact fun k Q ds e a w hN hR hP hr h=>e8 _ k Q ds e a w hN hR hP hr h
 |label l=>exact fun k Q ds e a w hN hR hP hr h=>e8 _ k Q ds e a w hN hR hP hr h
 |goto l=>exact fun k Q ds e a w hN hR hP hr h=>e8 _ k Q ds e a w hN hR hP hr h
 |ret=>exact fun k Q ds e a w hN hR hP hr h=>e8 _ k Q ds e a w hN hR hP hr h
 |refuse s=>exact fun k Q ds e a w hN hR hP hr h=>e8 _ k Q ds e a w hN hR hP hr h
theorem qW (hm:P.follows .mixedOrders=true){f:FuncId}{fn:Func}(hf:P.funcs[f]? =some fn){an:Ann}{args:List Value}{K:Value->WP}{w:World}(h:wX P an fn args Kp K w):
  Calls P f args.toArray w fun
   | .returned v,w'=>K v w'
   | .panicked ch,w'=>Kp ch w'
   | .outgrown,_=>False:=by
 unfold wX at h
 cases hb:fn.body with
 |none=>rw[hb]at h;exact h.elim
 |some c=>
  rw[hb]at h
  refine(callsIn_wide (n:=0)).1 (callsIn_of_wp_marks hf hb trivial ?_ rfl)
  have hr:Rep (args.length+(fn.ntmps-args.length)) (e9 []) (pq args) {tmps:=args.toArray++Array.replicate (fn.ntmps-args.toArray.size) undef,defers:=[]}:=by
   refine⟨rfl,by simp,fun i hi=>?_⟩
   rw[mj,List.getD_eq_getElem?_getD,Array.getElem?_append]
   by_cases hl:i<args.length
   ·simp[hl]
   ·rw[if_neg (by simpa using hl),Array.getElem?_eq_getElem (by simp;omega)]
    simp only[List.getElem?_eq_none (Nat.le_of_not_lt hl),Array.getElem_replicate,Option.getD_none]
  have ret0:∀(ds:List Nat) (e:dq) (a:Act) (w:World),Rep (args.length+(fn.ntmps-args.length)) (e9 ds) e a->fy ds (f9 P (args.length+(fn.ntmps-args.length)) fn.results.toList e [] K) w->LeavesInM Fence.wide 0 P fn a.tmps (fun
   | .returned v,w'=>K v w'
   | .panicked ch,w'=>Kp ch w'
   | .outgrown,_=>False) a.defers .returning w:=by
   intro ds e a w hr h
   rw[hr.defers]
   refine sl (by simp) (fun w' hw'=>?_) ds w h
   obtain⟨v,h1,h2⟩:=dO hr hw'
   exact⟨v,h1,h2⟩
  refine vJ hm an c _ _ [] _ _ w ret0 ret0 (fun ds ch a w hd h=>?_) hr h
  show LeavesInM Fence.wide 0 P fn a.tmps _ a.defers (.panicking ch) w
  rw[hd]
  exact sl (fn:=fn) (tmps:=a.tmps) (R:=fun
   | .returned v,w'=>K v w'
   | .panicked ch,w'=>Kp ch w'
   | .outgrown,_=>False) (u:= .panicking ch) (S:=Kp ch) (by simp) (fun w' hw'=>hw') ds w h
end Go.Proofs.YtdjkdjepjahjfaaGreatDoor.Sh
namespace Go.Proofs.YtdjkdjepjahjfaaGreatDoor.Sh
open Go
abbrev PK:=List PanicEntry->WP
def sv (s:Sem Value):Sem Next:=do pure (.value (<- s))
@[irreducible] def em (c a b:Value):Sem Next:=execOp (fun| .tmp 0=>c| .tmp 1=>a|_=>b) {dst:=none,op:= .pick (.tmp 0) (.tmp 1) (.tmp 2),type:=0,pos:= "",after:=#[],guard:=none}
@[irreducible] def cK (t:TypeId):Sem Next:=do pure (.value (<- Instr.alloc t true (.tuple #[])))
@[irreducible] def kX (t:TypeId)(v:Value):Sem Next:=do pure (.value (<- Instr.box t v))
@[irreducible] def aD (t:TypeId)(ps:List (Nat × Value)):Sem Next:=do pure (.value (<- Instr.build t ps.toArray))
@[irreducible] def cm (t:TypeId)(n:Nat)(ps:List (Nat × Value)):Sem Next:=do pure (.value (<- Instr.buildSlice t n ps.toArray))
@[irreducible] def aL (t:TypeId)(x:Value):Sem Next:=do pure (.value (<- Instr.loadAt t x))
@[irreducible] def aJ (t:TypeId)(x v:Value):Sem Next:=do Instr.storeAt t x v;pure .skip
@[irreducible] def dB (x:Value):Sem Next:=execOp (fun _=>x) {dst:=none,op:= .nilCheck (.tmp 0),type:=0,pos:= "",after:=#[],guard:=none}
@[irreducible] def bf (op:BinOp)(t:TypeId)(x y:Value):Sem Next:=sv (do eqGuard op t (.tmp 0) (.tmp 0) x y;binOp op t x y)
@[irreducible] def eo (op:BinOp)(t:TypeId)(ox oy:Operand)(x y:Value):Sem Next:=sv (do eqGuard op t ox oy x y;binOp op t x y)
@[irreducible] def zQ (op:UnOp)(x:Value):Sem Next:=do pure (.value (<- Op.unary op x))
@[irreducible] def eF (s t:TypeId)(x:Value):Sem Next:=do pure (.value (<- convert s t x))
@[irreducible] def oR (t:TypeId)(x:Value)(l h m:Option Value):Sem Next:=do pure (.value (<- Instr.sliceAt t x l h m))
@[irreducible] def gB (t:TypeId)(x:Value)(f:Nat):Sem Next:=do pure (.value (<- Instr.fieldAt t x f))
@[irreducible] def Te (t:TypeId)(x:Value)(f:Nat):Sem Next:=do pure (.value (<- Instr.field t x f))
@[irreducible] def lH (t:TypeId)(x i:Value):Sem Next:=do pure (.value (<- Instr.indexAt t x i))
@[irreducible] def ms (t:TypeId)(x i:Value):Sem Next:=do pure (.value (<- Instr.index t x i))
@[irreducible] def iW (t:TypeId)(x i:Value)(ok:Bool):Sem Next:=do pure (.value (<- Instr.lookup t x i ok))
@[irreducible] def gT (t:TypeId)(m k v:Value):Sem Next:=do Instr.mapUpdate t m k v;pure .skip
@[irreducible] def DE (t:TypeId)(m k:Value):Sem Next:=do pure (.value (<- Instr.mapEntry t m k))
@[irreducible] def G9 (t:TypeId)(m s v:Value):Sem Next:=do Instr.entryStore t m s v;pure .skip
@[irreducible] def sn (t:TypeId)(x:Value):Sem Next:=do pure (.value (<- Instr.range t x))
@[irreducible] def py (it:Value)(str:Bool)(t:TypeId):Sem Next:=do pure (.value (<- Instr.next it str t))
@[irreducible] def G_ (it:Value):Sem Next:=do pure (.value (<- Instr.entry it))
@[irreducible] def DF (x:Value)(t a:TypeId)(ok:Bool):Sem Next:=do pure (.value (<- Instr.typeAssert x t a ok))
@[irreducible] def kY (x:Value)(i:Nat):Sem Next:=do pure (.value (<- Instr.extract x i))
@[irreducible] def oF (t:TypeId)(x:Value):Sem Next:=do pure (.value (<- Instr.makeInterface t x))
@[irreducible] def nf (f:Fn)(a b:List Value):Sem Next:=do pure (.value (<- Instr.makeFunc f a.toArray b.toArray))
@[irreducible] def pz (t:TypeId)(r:Option Value):Sem Next:=do pure (.value (<- Instr.makeMap t r))
@[irreducible] def wY (t:TypeId)(l c:Value):Sem Next:=do pure (.value (<- Instr.makeSlice t l c))
@[irreducible] def Mz (t:TypeId)(x:Value):Sem Next:=do pure (.value (<- Instr.arrayAt t x))
@[irreducible] def pA (x:Value):Sem Next:=do pure (.value (<- Instr.panic x))
@[irreducible] def jU (ts:Array TypeId)(t:TypeId)(a:List Value):Sem Next:=do pure (.value (<- Builtin.append_ ts t a.toArray))
@[irreducible] def iL (ts:Array TypeId)(t:TypeId)(a:List Value):Sem Next:=do pure (.value (<- Builtin.len_ ts t a.toArray))
@[irreducible] def yz (ts:Array TypeId)(t:TypeId)(a:List Value):Sem Next:=do pure (.value (<- Builtin.cap_ ts t a.toArray))
@[irreducible] def Ad (ts:Array TypeId)(t:TypeId)(a:List Value):Sem Next:=do pure (.value (<- Builtin.copy_ ts t a.toArray))
@[irreducible] def tQ (ts:Array TypeId)(t:TypeId)(a:List Value):Sem Next:=do pure (.value (<- Builtin.delete_ ts t a.toArray))
@[irreducible] def Ha (ts:Array TypeId)(t:TypeId)(a:List Value):Sem Next:=do pure (.value (<- Builtin.min_ ts t a.toArray))
@[irreducible] def DG (ts:Array TypeId)(t:TypeId)(a:List Value):Sem Next:=do pure (.value (<- Builtin.max_ ts t a.toArray))
@[irreducible] def sq (ts:Array TypeId)(t:TypeId)(a:List Value):Sem Next:=do pure (.value (<- Builtin.clear_ ts t a.toArray))
@[irreducible] def bT (f:Value)(a:List Value):Sem Next:=do
 let d <- Deferred.ofValue f a.toArray
 invoke d.target d.args
@[irreducible] def Ae (r:Value)(nm:String)(a:List Value):Sem Next:=invoke (.fn (.method nm) #[]) (#[r]++a.toArray)
def fn (f:FuncId):Value:= .func (.func f) #[] #[]
def after (Kp:PK)(K:Value->WP):Ending->World->Prop
 | .returned v,w=>K v w
 | .panicked ch,w=>Kp ch w
 | .outgrown,_=>False
theorem ic {P:Program} {f:FuncId} {args:Array Value} {w:World} {Kp:PK} {K:Value->WP} (h:Calls P f args w fun
   | .returned v,w'=>K v w'
   | .panicked ch,w'=>Kp ch w'
   | .outgrown,_=>False):Calls P f args w (after Kp K):=h.mono fun e w' h=>by cases e <;> exact h
@[irreducible] def dv (t:TypeId)(x:Value):Sem Next:=do pure (.value (<- do loadVar t (<- asAddr x)))
def vK (body:(WP)->WP)(rest:List Value->WP)(w:World):Prop:=
 ∃J:WP,(∀(ds:List Value) (w':World),J w'->rest ds w')/\body J w
def Af (body:(Nat->WP)->Nat->List Value->WP)(w:World):Prop:=
 ∃I:Nat->WP,(∃m,I m w)/\∀(m:Nat) (ds:List Value) (w':World),I m w'->body I m ds w'
def Ag (I:Nat->WP)(m:Nat)(w:World):Prop:=∃m',m'<m/\I m' w
def sr (body:(Value->WP)->WP)(rest:List Value->Value->WP)(w:World):Prop:=
 ∃J:Value->WP,(∀(ds:List Value) (x0:Value) (w':World),J x0 w'->rest ds x0 w')/\body J w
def wZ (body:(Nat->Value->WP)->Nat->List Value->Value->WP)(x0:Value)(w:World):Prop:=
 ∃I:Nat->Value->WP,(∃m,I m x0 w)/\∀(m:Nat) (ds:List Value) (y0:Value) (w':World),I m y0 w'->body I m ds y0 w'
def tR (I:Nat->Value->WP)(m:Nat)(x0:Value)(w:World):Prop:=∃m',m'<m/\I m' x0 w
def pB (body:(Value->Value->WP)->WP)(rest:List Value->Value->Value->WP)(w:World):Prop:=
 ∃J:Value->Value->WP,(∀(ds:List Value) (x0 x1:Value) (w':World),J x0 x1 w'->rest ds x0 x1 w')/\body J w
def pD (body:(Nat->Value->Value->WP)->Nat->List Value->Value->Value->WP)(x0 x1:Value)(w:World):Prop:=
 ∃I:Nat->Value->Value->WP,(∃m,I m x0 x1 w)/\∀(m:Nat) (ds:List Value) (y0 y1:Value) (w':World),I m y0 y1 w'->body I m ds y0 y1 w'
def pF (I:Nat->Value->Value->WP)(m:Nat)(x0 x1:Value)(w:World):Prop:=∃m',m'<m/\I m' x0 x1 w
def Ah (body:(Value->Value->Value->WP)->WP)(rest:List Value->Value->Value->Value->WP)(w:World):Prop:=
 ∃J:Value->Value->Value->WP,(∀(ds:List Value) (x0 x1 x2:Value) (w':World),J x0 x1 x2 w'->rest ds x0 x1 x2 w')/\body J w
def Ai (body:(Nat->Value->Value->Value->WP)->Nat->List Value->Value->Value->Value->WP)(x0 x1 x2:Value)(w:World):Prop:=
 ∃I:Nat->Value->Value->Value->WP,(∃m,I m x0 x1 x2 w)/\∀(m:Nat) (ds:List Value) (y0 y1 y2:Value) (w':World),I m y0 y1 y2 w'->body I m ds y0 y1 y2 w'
def Aj (I:Nat->Value->Value->Value->WP)(m:Nat)(x0 x1 x2:Value)(w:World):Prop:=∃m',m'<m/\I m' x0 x1 x2 w
def Hb (body:(Value->Value->Value->Value->WP)->WP)(rest:List Value->Value->Value->Value->Value->WP)(w:World):Prop:=
 ∃J:Value->Value->Value->Value->WP,(∀(ds:List Value) (x0 x1 x2 x3:Value) (w':World),J x0 x1 x2 x3 w'->rest ds x0 x1 x2 x3 w')/\body J w
def FN (body:(Nat->Value->Value->Value->Value->WP)->Nat->List Value->Value->Value->Value->Value->WP)(x0 x1 x2 x3:Value)(w:World):Prop:=
 ∃I:Nat->Value->Value->Value->Value->WP,(∃m,I m x0 x1 x2 x3 w)/\∀(m:Nat) (ds:List Value) (y0 y1 y2 y3:Value) (w':World),I m y0 y1 y2 y3 w'->body I m ds y0 y1 y2 y3 w'
def FO (I:Nat->Value->Value->Value->Value->WP)(m:Nat)(x0 x1 x2 x3:Value)(w:World):Prop:=∃m',m'<m/\I m' x0 x1 x2 x3 w
end Go.Proofs.YtdjkdjepjahjfaaGreatDoor.Sh
namespace Go.Proofs.YtdjkdjepjahjfaaGreatDoor.Sl
open Go Go.RowKit Sh
abbrev f_:=Nat->Option Obj
abbrev HP:=World->f_->Prop
def pt (g:Nat)(o:Obj):HP:=fun _ h=>h g=some o
def pu (φ:Prop):HP:=fun _ _=>φ
def ex {α:Type}(A:α->HP):HP:=fun W h=>∃x,A x W h
def gf (A B:HP):HP:=fun W h=>∃h1 h2:f_,A W h1/\B W h2/\(∀i,h1 i=none\/h2 i=none)/\(∀i o,h1 i=some o->h i=some o)/\(∀i o,h2 i=some o->h i=some o)
def all:List HP->HP
 |[]=>fun _ _=>True
 |A::l=>gf A (all l)
structure sat (W:World)(L:List HP)(w:World):Prop where
 base:Below W.heap.size W w
 heap:∃h:f_,all L W h/\∀i o,h i=some o->W.heap.size<=i/\w.heap[i]? =some o
theorem gX {A B C:HP}{W:World}{h:f_}(H:gf A (gf B C) W h):gf B (gf A C) W h:=by
 obtain⟨h1,h2,ha,⟨h21,h22,hb,hc,d2,s21,s22⟩,d1,s1,s2⟩:=H
 refine⟨h21,fun i=>match h1 i with|some o=>some o|none=>h22 i,hb,⟨h1,h22,ha,hc,?_,?_,?_⟩,?_,?_,?_⟩
 ·intro i
  rcases d1 i with h|h
  ·exact .inl h
  ·right
   cases h':h22 i with
   |none=>rfl
   |some o=>rw[s22 i o h']at h;cases h
 ·intro i o hi;simp only[hi]
 ·intro i o hi
  have:h1 i=none:=by
   rcases d1 i with h|h
   ·exact h
   ·rw[s22 i o hi]at h;cases h
  simp only[this,hi]
 ·intro i
  cases h21i:h21 i with
  |none=>exact .inl rfl
  |some o=>
   right
   have h1i:h1 i=none:=by
    rcases d1 i with h|h
    ·exact h
    ·rw[s21 i o h21i]at h;cases h
   have h22i:h22 i=none:=by
    rcases d2 i with h|h
    ·rw[h21i]at h;cases h
    ·exact h
   simp only[h1i,h22i]
 ·intro i o hi;exact s2 i o (s21 i o hi)
 ·intro i o hi
  cases h1i:h1 i with
  |some o'=>simp only[h1i]at hi;rw[<- hi];exact s1 i o' h1i
  |none=>simp only[h1i]at hi;exact s2 i o (s22 i o hi)
theorem eK {A B B':HP}{W:World}{h:f_}(f:∀h,B W h->B' W h)(H:gf A B W h):gf A B' W h:=by
 obtain⟨h1,h2,ha,hb,r⟩:=H
 exact⟨h1,h2,ha,f h2 hb,r⟩
inductive Pick:List HP->HP->List HP->Prop
 |here {A:HP} {l:List HP}:Pick (A::l) A l
 |there {A B:HP} {l l':List HP} (h:Pick l A l'):Pick (B::l) A (B::l')
theorem Pick.all {L L':List HP}{A:HP}(p:Pick L A L'):∀ {W:World} {h:f_},all L W h->all (A::L') W h:=by
 induction p with
 |here=>intro W h H;exact H
 |there p ih=>intro W h H;exact gX (eK (fun h=>ih) H)
theorem sat.map {W:World}{L M:List HP}{w:World}(f:∀h,all L W h->all M W h)(H:sat W L w):sat W M w:=
 ⟨H.base,let ⟨h,a,b⟩:=H.heap;⟨h,f h a,b⟩⟩
theorem sat.pick {W:World}{L L':List HP}{A:HP}{w:World}(p:Pick L A L')(H:sat W L w):sat W (A::L') w:=H.map fun _=>p.all
theorem pG {A:HP}{l:List HP}{W:World}{h:f_}(H:all (A::l) W h):∃h',all l W h'/\∀i o,h' i=some o->h i=some o:=by
 obtain⟨h1,h2,_,hb,_,_,s2⟩:=H
 exact⟨h2,hb,s2⟩
theorem sat.drop {W:World}{L:List HP}{A:HP}{w:World}(H:sat W (A::L) w):sat W L w:=by
 obtain⟨h,a,b⟩:=H.heap
 obtain⟨h',a',s⟩:=pG a
 exact⟨H.base,h',a',fun i o hi=>b i o (s i o hi)⟩
inductive Imp (W:World):List HP->List HP->Prop
 |refl {F:List HP}:Imp W F F
 |nil {F:List HP}:Imp W F []
 |drop {A:HP} {L M:List HP} (h:Imp W L M):Imp W (A::L) M
 |pick {A:HP} {L L' M:List HP} (p:Pick L A L') (h:Imp W L' M):Imp W L (A::M)
 |ex {α:Type} {A:α->HP} {L M:List HP} (x:α) (h:Imp W L (A x::M)):Imp W L (ex A::M)
 |pu {φ:Prop} {L M:List HP} (hp:φ) (h:Imp W L M):Imp W L (pu φ::M)
 |all {L N M:List HP} (h:Imp W L (N++M)):Imp W L (Sl.all N::M)
 |conv {A B:HP} {L M:List HP} (e:∀h,B W h->A W h) (h:Imp W L (B::M)):Imp W L (A::M)
 |convL {A B:HP} {L L' M:List HP} (p:Pick L A L') (e:∀h,A W h->B W h) (h:Imp W (B::L') M):Imp W L M
theorem w4 {φ:Prop}{B:HP}{W:World}{h:f_}(hp:φ)(H:B W h):gf (pu φ) B W h:=
 ⟨fun _=>none,h,hp,H,fun _=> .inl rfl,fun _ _ c=>(by cases c),fun _ _ c=>c⟩
theorem DH {α:Type}{A:α->HP}{B:HP}{W:World}{h:f_}(x:α)(H:gf (A x) B W h):gf (ex A) B W h:=by
 obtain⟨h1,h2,ha,r⟩:=H
 exact⟨h1,h2,⟨x,ha⟩,r⟩
theorem tS {A B C:HP}{W:World}{h:f_}(H:gf A (gf B C) W h):gf (gf A B) C W h:=by
 obtain⟨h1,h2,ha,⟨h21,h22,hb,hc,d2,s21,s22⟩,d1,s1,s2⟩:=gX H
 -- h1: B, h21: A, h22: C
 refine⟨fun i=>match h1 i with|some o=>some o|none=>h21 i,h22,⟨h21,h1,hb,ha,?_,?_,?_⟩,hc,?_,?_,?_⟩
 ·intro i
  rcases d1 i with h|h
  ·exact .inr h
  ·left
   cases h':h21 i with
   |none=>rfl
   |some o=>rw[s21 i o h']at h;cases h
 ·intro i o hi
  have:h1 i=none:=by
   rcases d1 i with h|h
   ·exact h
   ·rw[s21 i o hi]at h;cases h
  simp only[this,hi]
 ·intro i o hi;simp only[hi]
 ·intro i
  cases h22i:h22 i with
  |none=>exact .inr rfl
  |some o=>
   left
   have h1i:h1 i=none:=by
    rcases d1 i with h|h
    ·exact h
    ·rw[s22 i o h22i]at h;cases h
   have h21i:h21 i=none:=by
    rcases d2 i with h|h
    ·exact h
    ·rw[h22i]at h;cases h
   simp only[h1i,h21i]
 ·intro i o hi
  cases h1i:h1 i with
  |some o'=>simp only[h1i]at hi;rw[<- hi];exact s1 i o' h1i
  |none=>simp only[h1i]at hi;exact s2 i o (s21 i o hi)
 ·intro i o hi;exact s2 i o (s22 i o hi)
theorem all_append {N M:List HP}{W:World}:∀ {h:f_},all (N++M) W h->gf (all N) (all M) W h:=by
 induction N with
 |nil=>intro h H;exact⟨fun _=>none,h,trivial,H,fun _=> .inl rfl,fun _ _ c=>(by cases c),fun _ _ c=>c⟩
 |cons A N ih=>intro h H;exact tS (eK (fun h=>ih) H)
theorem b_ {N M:List HP}{W:World}:∀ {h:f_},gf (all N) (all M) W h->all (N++M) W h:=by
 induction N with
 |nil=>
  intro h H
  -- the left part is nothing: grow the right one
  obtain⟨h1,h2,_,hb,_,_,s2⟩:=H
  revert hb s2
  induction M generalizing h h2 with
  |nil=>intro _ _;trivial
  |cons B M ih=>
   intro hb s2
   obtain⟨k1,k2,b1,b2,d,t1,t2⟩:=hb
   exact⟨k1,k2,b1,b2,d,fun i o c=>s2 i o (t1 i o c),fun i o c=>s2 i o (t2 i o c)⟩
 |cons A N ih=>
  intro h H
  have e:gf A (gf (all N) (all M)) W h:=by
   obtain⟨h1,h2,⟨k1,k2,ha,hn,dk,t1,t2⟩,hm,d,s1,s2⟩:=H
   refine⟨k1,fun i=>match k2 i with|some o=>some o|none=>h2 i,ha,⟨k2,h2,hn,hm,?_,?_,?_⟩,?_,?_,?_⟩
   ·intro i
    rcases d i with c|c
    ·left
     cases c':k2 i with
     |none=>rfl
     |some o=>rw[t2 i o c']at c;cases c
    ·exact .inr c
   ·intro i o c;simp only[c]
   ·intro i o c
    have:k2 i=none:=by
     rcases d i with c'|c'
     ·cases c'':k2 i with
      |none=>rfl
      |some o=>rw[t2 i o c'']at c';cases c'
     ·rw[c]at c';cases c'
    simp only[this,c]
   ·intro i
    cases c:k1 i with
    |none=>exact .inl rfl
    |some o=>
     right
     have c2:k2 i=none:=by
      rcases dk i with c'|c'
      ·rw[c]at c';cases c'
      ·exact c'
     have c3:h2 i=none:=by
      rcases d i with c'|c'
      ·rw[t1 i o c]at c';cases c'
      ·exact c'
     simp only[c2,c3]
   ·intro i o c;exact s1 i o (t1 i o c)
   ·intro i o c
    cases c2:k2 i with
    |some o'=>simp only[c2]at c;rw[<- c];exact s1 i o' (t2 i o' c2)
    |none=>simp only[c2]at c;exact s2 i o c
  exact eK (fun h=>ih) e
theorem Ak:∀ {L:List HP} {W:World} {h h':f_},all L W h->(∀i o,h i=some o->h' i=some o)->all L W h'
 |[],_,_,_,_,_=>trivial
 |_::_,_,_,_,⟨h1,h2,ha,hb,d,s1,s2⟩,s=>⟨h1,h2,ha,hb,d,fun i o c=>s i o (s1 i o c),fun i o c=>s i o (s2 i o c)⟩
theorem Imp.all' {W:World}{L M:List HP}(H:Imp W L M):∀h,Sl.all L W h->Sl.all M W h:=by
 induction H with
 |refl=>exact fun _ h=>h
 |nil=>exact fun _ _=>trivial
 |drop _ ih=>
  intro h H
  obtain⟨h',a,s⟩:=pG H
  exact Ak (ih h' a) s
 |pick p _ ih=>exact fun h H=>eK ih (p.all H)
 |ex x _ ih=>exact fun h H=>DH x (ih h H)
 |pu hp _ ih=>exact fun h H=>w4 hp (ih h H)
 |all _ ih=>exact fun h H=>all_append (ih h H)
 |conv e _ ih=>exact fun h H=>(by obtain⟨h1,h2,ha,r⟩:=ih h H;exact⟨h1,h2,e h1 ha,r⟩)
 |convL p e _ ih=>exact fun h H=>ih h (by obtain⟨h1,h2,ha,r⟩:=p.all H;exact⟨h1,h2,e h1 ha,r⟩)
theorem Imp.sat {W:World}{L M:List HP}(H:Imp W L M){w:World}(h:Sl.sat W L w):Sl.sat W M w:=h.map H.all'

theorem sat.start (W:World):sat W [] W:=⟨Below.refl _ _,fun _=>none,trivial,fun _ _ c=>by cases c⟩
theorem sat.keep {W:World}{L:List HP}{w w':World}(H:sat W L w)(hb:Below w.heap.size w w'):sat W L w':=by
 obtain⟨h,a,b⟩:=H.heap
 refine⟨H.base.trans (hb.mono H.base.size),h,a,fun i o hi=>?_⟩
 obtain⟨b1,b2⟩:=b i o hi
 have hlt:i<w.heap.size:=by
  rcases Nat.lt_or_ge i w.heap.size with c|c
  ·exact c
  ·rw[Array.getElem?_eq_none c]at b2;cases b2
 exact⟨b1,(hb.block i hlt).trans b2⟩
theorem sat.drew {W:World}{L:List HP}{w:World}(H:sat W L w):sat W L w.drew:=H.keep (Below.refl _ _).drew
theorem sat.pt_ {W:World}{L:List HP}{w:World}{g:Nat}{o:Obj}(H:sat W (pt g o::L) w):w.heap[g]? =some o/\W.heap.size<=g:=by
 obtain⟨h,⟨h1,h2,ha,_,_,s1,_⟩,b⟩:=H.heap
 have:=b g o (s1 g o ha)
 exact⟨this.2,this.1⟩
theorem sat.fst {W:World}{L:List HP}{A:HP}{w:World}(H:sat W (A::L) w):∃h,A W h/\∀i o,h i=some o->W.heap.size<=i/\w.heap[i]? =some o:=by
 obtain⟨h,⟨h1,h2,ha,_,_,s1,_⟩,b⟩:=H.heap
 exact⟨h1,ha,fun i o c=>b i o (s1 i o c)⟩
theorem sat.change {W:World} {L:List HP} {A:HP} {w w':World} (H:sat W (A::L) w) (hos:w'.os=w.os) (htape:w'.tape=w.tape) (hout:w'.output=w.output) (hsz:w.heap.size<=w'.heap.size)
  {B:HP} (hB:∀h,A W h->(∀i o,h i=some o->W.heap.size<=i/\w.heap[i]? =some o)->∃h':f_,B W h'/\(∀i o,h' i=some o->W.heap.size<=i/\w'.heap[i]? =some o)/\(∀i,h' i≠none->h i≠none\/w.heap.size<=i)/\
   (∀i,i<w.heap.size->h i=none->w'.heap[i]? =w.heap[i]?)/\(∀i,h i≠none->W.heap.size<=i)):sat W (B::L) w':=by
 obtain⟨h,⟨h1,h2,ha,hl,d,s1,s2⟩,b⟩:=H.heap
 obtain⟨h',hb,b',n',k',q'⟩:=hB h1 ha (fun i o c=>b i o (s1 i o c))
 have lt2:∀i o,h2 i=some o->i<w.heap.size:=fun i o c=>by
  rcases Nat.lt_or_ge i w.heap.size with e|e
  ·exact e
  ·have:=(b i o (s2 i o c)).2;rw[Array.getElem?_eq_none e]at this;cases this
 have dj:∀i,h' i=none\/h2 i=none:=fun i=>by
  cases c:h2 i with
  |none=>exact .inr rfl
  |some o=>
   left
   cases c':h' i with
   |none=>rfl
   |some o'=>
    rcases n' i (by rw[c'];simp)with e|e
    ·rcases d i with e'|e'
     ·exact absurd e' e
     ·rw[c]at e';cases e'
    ·exact absurd (lt2 i o c) (by omega)
 refine⟨H.base.trans ⟨hos,htape,hout,hsz,fun k hk=>?_⟩,fun i=>match h' i with|some o=>some o|none=>h2 i,⟨h',h2,hb,hl,dj,?_,?_⟩,?_⟩
 ·refine k' k (Nat.lt_of_lt_of_le hk H.base.size) ?_
  cases c:h1 k with
  |none=>rfl
  |some o=>exact absurd (q' k (by rw[c];simp)) (by omega)
 ·intro i o c;simp only[c]
 ·intro i o c
  have:h' i=none:=by
   rcases dj i with e|e
   ·exact e
   ·rw[c]at e;cases e
  simp only[this,c]
 ·intro i o c
  cases c1:h' i with
  |some o'=>simp only[c1]at c;rw[<- c];exact b' i o' c1
  |none=>
   simp only[c1]at c
   obtain⟨e1,e2⟩:=b i o (s2 i o c)
   refine⟨e1,?_⟩
   rw[k' i (lt2 i o c) ?_]
   ·exact e2
   ·rcases d i with e|e
    ·exact e
    ·rw[c]at e;cases e
theorem sat.alloc {W:World}{L:List HP}{w:World}(H:sat W L w)(o:Obj):sat W (pt w.heap.size o::L) (w.alloc o):=by
 have H':sat W (pu True::L) w:=H.map fun _=>w4 trivial
 refine H'.change (w':=w.alloc o) rfl rfl rfl (by simp) fun h _ hh=>⟨fun i=>if i=w.heap.size then some o else none,by simp[pt],fun i o' c=>?_,fun i c=>?_,fun i hi _=>Below.heap_alloc w o i hi,fun i c=>?_⟩
 ·by_cases e:i=w.heap.size
  ·subst e;simp at c;subst c;exact⟨H.base.size,Array.getElem?_push_size⟩
  ·simp[e]at c
 ·by_cases e:i=w.heap.size
  ·exact .inr (by omega)
  ·simp[e]at c
 ·cases e:h i with
  |none=>exact absurd e c
  |some o'=>exact(hh i o' e).1
theorem sat.turn {W : World} {L : List HP} {w w' : World} {g : Nat} {o o' : Obj} (H : sat W (pt g o :: L) w) (hos : w'.os = w.os) (htape : w'.tape = w.tape) (hout : w'.output = w.output)
  (hsz : w'.heap.size = w.heap.size) (hg : w'.heap[g]? = some o') (hr : ∀ i, i ≠ g → w'.heap[i]? = w.heap[i]?) : sat W (pt g o' :: L) w' := by
 have hge := H.pt_.2
 obtain ⟨h, ⟨h1, h2, ha, hl, d, s1, s2⟩, b⟩ := H.heap
 have H1 : sat W ((fun (_ : World) (k : f_) => k g = some o ∧ ∀ i, i ≠ g → k i = none) :: L) w :=
  ⟨H.base, h, ⟨fun i => if i = g then some o else none, h2, ⟨by simp, fun i hi => by simp [hi]⟩, hl, fun i => (by
   by_cases e : i = g
   ·subst e
    right
    rcases d i with c | c
    ·have : h1 i = some o := ha
     rw [this] at c; cases c
    ·exact c
   ·exact .inl (by simp [e])), fun i o'' c => (by
   by_cases e : i = g
   ·subst e; simp at c; subst c; exact s1 i o ha
   ·simp [e] at c), s2⟩, b⟩
 refine H1.change hos htape hout (by omega) fun h hh hb => ⟨fun i => if i = g then some o' else none, by simp [pt], fun i o'' c => ?_, fun i c => ?_, fun i _ c => ?_, fun i c => ?_⟩
 ·by_cases e : i = g
  ·subst e; simp at c; subst c; exact ⟨hge, hg⟩
  ·simp [e] at c
 ·by_cases e : i = g
  ·subst e; left; rw [hh.1]; simp
  ·simp [e] at c
 ·refine hr i ?_
  rintro rfl
  rw [hh.1] at c; cases c
 ·by_cases e : i = g
  ·subst e; exact hge
  ·exact absurd (hh.2 i e) c
theorem sat.setCell {W:World}{L:List HP}{w:World}{g o:Nat}{cs:Array Value}{T:TypeId}{fz:Nat × Nat}(H:sat W (pt g (.cells cs T fz)::L) w)(v:Value):
  sat W (pt g (.cells (cs.setIfInBounds o v) T fz)::L) (w.setCell ⟨g,o,none⟩ v):=by
 have hg:=H.pt_.1
 refine H.turn rfl rfl rfl (by simp) ?_ ?_
 ·simp[World.setCell,Array.getElem?_modify,hg]
 ·intro i hi
  exact Below.heap_setCell w ⟨g,o,none⟩ v i hi
theorem sat.cell {W:World}{L:List HP}{w:World}{g o:Nat}{cs:Array Value}{T:TypeId}{fz:Nat × Nat}(H:sat W (pt g (.cells cs T fz)::L) w):w.cell? ⟨g,o,none⟩=cs[o]? :=by
 simp[World.cell?,H.pt_.1]
theorem sat.free {W:World}{L:List HP}{w:World}{g o:Nat}{cs:Array Value}{T:TypeId}(H:sat W (pt g (.cells cs T (0,0))::L) w):w.frozen? ⟨g,o,none⟩=false:=by
 simp[World.frozen?,H.pt_.1]

def aR (W:World)(L:List HP)(S:WP):Prop:=∀w,sat W L w->S w
variable {P:Program} {W:World} {L L' L'':List HP} {Kp:PK} {k:Value->WP} {S:WP}
theorem bu {M:List HP}(i:Imp W L M)(h:aR W M S):aR W L S:=fun w hw=>h w (i.sat hw)
theorem vL {A:HP}(p:Pick L A L')(h:aR W (A::L') S):aR W L S:=fun w hw=>h w (hw.pick p)
theorem aX {φ:Prop}(p:Pick L (pu φ) L')(h:φ->aR W L' S):aR W L S:=fun w hw=>by
 have hw':=hw.pick p
 obtain⟨_,⟨_,_,hp,_⟩,_⟩:=hw'.heap
 exact h hp w hw'.drop
theorem bt {α:Type}{A:α->HP}(p:Pick L (ex A) L')(h:∀x,aR W (A x::L') S):aR W L S:=fun w hw=>by
 have hw':=hw.pick p
 obtain⟨f,⟨h1,h2,⟨x,ha⟩,r⟩,b⟩:=hw'.heap
 exact h x w ⟨hw'.base,f,⟨h1,h2,ha,r⟩,b⟩
theorem aE {M:List HP}(p:Pick L (all M) L')(h:aR W (M++L') S):aR W L S:=fun w hw=>h w (sat.map (L:=Sl.all M::L') (fun _ H=>b_ H) (hw.pick p))
theorem nh {A B:HP}(p:Pick L A L')(e:∀h,A W h->B W h)(h:aR W (B::L') S):aR W L S:=fun w hw=>h w (sat.map (L:=A::L') (fun _ ⟨h1,h2,ha,r⟩=>⟨h1,h2,e h1 ha,r⟩) (hw.pick p))
theorem aV (h:aR W L S):aR W L (oO S):=fun w hw=>h _ (show sat W L w.drew from hw.drew)
theorem om {A:List HP}(i:Imp W L A)(h:aR W L S):aR W L (fun w=>sat W A w/\S w):=fun w hw=>⟨i.sat hw,h w hw⟩
theorem eR (h:aR W L S):aR W L (fun w=>True/\S w):=fun w hw=>⟨trivial,h w hw⟩
def aT (P:Program)(W:World)(A:List HP)(s:Sem Next)(v:Value):Prop:=∀w,sat W A w->s.run P w= .ok (.value v) w
theorem aB {A:List HP}{s:Sem Next}{v:Value}(hr:aT P W A s v)(i:Imp W L A)(h:aR W L (k v)):aR W L (opN P s Kp k):=fun w hw=>
 ⟨by rw[hr w (i.sat hw)];exact h w hw⟩
theorem aP {A:List HP}{s:Sem Next}{v:Value}(hr:aT P W A s v)(i:Imp W L A)(h:aR W L (k v)):aR W L (stS P s k):=fun w hw=>⟨v,hr w (i.sat hw),h w hw⟩
theorem ay {A:List HP}{s:Sem Next}{v:Value}{kd:WP->Value->WP}(hr:aT P W A s v)(i:Imp W L A)(h:aR W L (kd (sat W A) v)):aR W L (stD P s kd):=fun w hw=>
 ⟨sat W A,v,i.sat hw,fun w' hw'=>hr w' hw',h w hw⟩
theorem ai {A B:WP}(h:aR W L A):aR W L (condS (.bool true) A B):=fun w hw=>⟨h w hw⟩
theorem af {A B:WP}(h:aR W L B):aR W L (condS (.bool false) A B):=fun w hw=>⟨h w hw⟩
theorem ab {b:Bool}{body:(Value->WP)->WP}(h:aR W L (body k)):aR W L (gdK (.bool b) b body k):=fun w hw=>⟨by show(if b=b then body k w else k undef w);rw[if_pos rfl];exact h w hw⟩
theorem aC {body:(Value->WP)->WP}(h:aR W L (k undef)):aR W L (gdK (.bool true) false body k):=fun w hw=>⟨h w hw⟩
theorem ao {body:(Value->WP)->WP}(h:aR W L (k undef)):aR W L (gdK (.bool false) true body k):=fun w hw=>⟨h w hw⟩
theorem cV {want:Bool}{body:(Value->WP)->WP}(h:aR W L (k undef)):aR W L (gdK undef want body k):=fun w hw=>⟨h w hw⟩
theorem jV {b:Bool}{kd:WP->Value->WP}{body:(WP->Value->WP)->WP}(h:aR W L (body kd)):aR W L (gdD (.bool b) b body kd):=fun w hw=>⟨by show(if b=b then body kd w else kd (fun _=>True) undef w);rw[if_pos rfl];exact h w hw⟩
theorem d5 {kd:WP->Value->WP}{body:(WP->Value->WP)->WP}(h:aR W L (kd (fun _=>True) undef)):aR W L (gdD (.bool false) true body kd):=fun w hw=>⟨h w hw⟩

structure Cn {α:Type}(P:Program)(f:FuncId)(args:List Value)(W:World)(A:List HP)(r:α->Value)(B:α->List HP):Prop where
 call:∀(a:Array Value) (w:World),(callFunc f a).run P w= .ok (.enter f a) w
 run:∀(F:List HP) (w:World),sat W (A++F) w->Calls P f args.toArray w (fun e w'=>∃x,e= .returned (r x)/\sat W (B x++F) w')
def w5:PK:=fun _ _=>False
theorem Cn.of {α : Type} {f : FuncId} {args : List Value} {A : List HP} {r : α → Value} {B : α → List HP} {shape : PK → (Value → WP) → WP}
  (hc : ∀ (a : Array Value) (w : World), (callFunc f a).run P w = .ok (.enter f a) w)
  (hs : ∀ {Kp : PK} {K : Value → WP} {w : World}, shape Kp K w → Calls P f args.toArray w (after Kp K))
  (h : ∀ F, aR W (A ++ F) (shape w5 fun v w' => ∃ x, v = r x ∧ sat W (B x ++ F) w')) : Cn P f args W A r B :=
 ⟨hc, fun F w hw => (hs (h F w hw)).mono fun e w' he => by
  cases e with
  | returned v => obtain ⟨x, rfl, h2⟩ := he; exact ⟨x, rfl, h2⟩
  | panicked ch => exact he.elim
  | outgrown => exact he.elim⟩
theorem ru {f:FuncId}{args:List Value}(hc:∀(a:Array Value) (w:World),(callFunc f a).run P w= .ok (.enter f a) w)(w:World):
  (bT (fn f) args).run P w= .ok (.enter f args.toArray) w:=by
 unfold bT fn Deferred.ofValue
 simp[invoke,hc]
inductive Picks:List HP->List HP->List HP->Prop
 |nil {L:List HP}:Picks L [] L
 |cons {L L' F A:List HP} {a:HP} (p:Pick L a L') (h:Picks L' A F):Picks L (a::A) F
theorem Picks.sat {A F:List HP}(p:Picks L A F){w:World}(h:Sl.sat W L w):Sl.sat W (A++F) w:=by
 have:∀h,Sl.all L W h->Sl.all (A++F) W h:=by
  clear h w
  induction p with
  |nil=>exact fun _ h=>h
  |cons p _ ih=>exact fun h H=>eK ih (p.all H)
 exact h.map this
theorem aj {α:Type} {f:FuncId} {args:List Value} {A F:List HP} {r:α->Value} {B:α->List HP} (hf:Cn P f args W A r B) (p:Picks L A F)
  (h:∀x,aR W (B x++F) (k (r x))):aR W L (opN P (bT (fn f) args) Kp k):=fun w hw=>by
 refine⟨?_⟩
 rw[ru hf.call]
 refine(hf.run F w (p.sat hw)).mono fun e w' ⟨x,he,hs⟩=>?_
 subst he
 exact h x w' hs
theorem bG {α:Type}{r:α->Value}{M:α->List HP}{v:Value}(x:α)(hv:v=r x)(i:Imp W L (M x)):aR W L (fun w'=>∃x,v=r x/\sat W (M x) w'):=fun w hw=>⟨x,hv,i.sat hw⟩
theorem jW {α:Type}{M:α->List HP}(x:α)(i:Imp W L (M x)):aR W L (fun w'=>∃x:α,True/\sat W (M x) w'):=fun w hw=>⟨x,trivial,i.sat hw⟩

theorem jl {body:(Nat->WP)->Nat->List Value->WP}(J:Nat->List HP)(m:Nat)(i:Imp W L (J m))(h:∀m ds,aR W (J m) (body (fun m w=>sat W (J m) w) m ds)):aR W L (Af body):=fun w hw=>
 ⟨fun m w=>sat W (J m) w,⟨m,i.sat hw⟩,fun m ds w' hw'=>h m ds w' hw'⟩
theorem a_ {body:(Nat->Value->WP)->Nat->List Value->Value->WP}{a:Value}(J:Nat->Value->List HP)(m:Nat)(i:Imp W L (J m a))(h:∀m ds x,aR W (J m x) (body (fun m x w=>sat W (J m x) w) m ds x)):aR W L (wZ body a):=fun w hw=>
 ⟨fun m x w=>sat W (J m x) w,⟨m,i.sat hw⟩,fun m ds x w' hw'=>h m ds x w' hw'⟩
theorem cz {body:(Nat->Value->Value->WP)->Nat->List Value->Value->Value->WP}{a b:Value}(J:Nat->Value->Value->List HP)(m:Nat)(i:Imp W L (J m a b))(h:∀m ds x y,aR W (J m x y) (body (fun m x y w=>sat W (J m x y) w) m ds x y)):aR W L (pD body a b):=fun w hw=>
 ⟨fun m x y w=>sat W (J m x y) w,⟨m,i.sat hw⟩,fun m ds x y w' hw'=>h m ds x y w' hw'⟩
theorem f7 {body:(Nat->Value->Value->Value->WP)->Nat->List Value->Value->Value->Value->WP}{a b c:Value}(J:Nat->Value->Value->Value->List HP)(m:Nat)(i:Imp W L (J m a b c))(h:∀m ds x y z,aR W (J m x y z) (body (fun m x y z w=>sat W (J m x y z) w) m ds x y z)):aR W L (Ai body a b c):=fun w hw=>
 ⟨fun m x y z w=>sat W (J m x y z) w,⟨m,i.sat hw⟩,fun m ds x y z w' hw'=>h m ds x y z w' hw'⟩
theorem oS {J:Nat->List HP}{m:Nat}(m':Nat)(hm:m'<m)(i:Imp W L (J m')):aR W L (Ag (fun m w=>sat W (J m) w) m):=fun w hw=>⟨m',hm,i.sat hw⟩
theorem bq {J:Nat->Value->List HP}{m:Nat}{a:Value}(m':Nat)(hm:m'<m)(i:Imp W L (J m' a)):aR W L (tR (fun m x w=>sat W (J m x) w) m a):=fun w hw=>⟨m',hm,i.sat hw⟩
theorem bX {J:Nat->Value->Value->List HP}{m:Nat}{a b:Value}(m':Nat)(hm:m'<m)(i:Imp W L (J m' a b)):aR W L (pF (fun m x y w=>sat W (J m x y) w) m a b):=fun w hw=>⟨m',hm,i.sat hw⟩
theorem cH {J:Nat->Value->Value->Value->List HP}{m:Nat}{a b c:Value}(m':Nat)(hm:m'<m)(i:Imp W L (J m' a b c)):aR W L (Aj (fun m x y z w=>sat W (J m x y z) w) m a b c):=fun w hw=>⟨m',hm,i.sat hw⟩
theorem jn {body:WP->WP}{rest:List Value->WP}(J:List HP)(hr:∀ds,aR W J (rest ds))(hb:aR W L (body fun w=>sat W J w)):aR W L (vK body rest):=fun w hw=>⟨fun w=>sat W J w,fun ds w' hw'=>hr ds w' hw',hb w hw⟩
theorem dt {body:(Value->WP)->WP}{rest:List Value->Value->WP}(J:Value->List HP)(hr:∀ds x,aR W (J x) (rest ds x))(hb:aR W L (body fun x w=>sat W (J x) w)):aR W L (sr body rest):=fun w hw=>⟨fun x w=>sat W (J x) w,fun ds x w' hw'=>hr ds x w' hw',hb w hw⟩
theorem fW {body:(Value->Value->WP)->WP}{rest:List Value->Value->Value->WP}(J:Value->Value->List HP)(hr:∀ds x y,aR W (J x y) (rest ds x y))(hb:aR W L (body fun x y w=>sat W (J x y) w)):aR W L (pB body rest):=fun w hw=>⟨fun x y w=>sat W (J x y) w,fun ds x y w' hw'=>hr ds x y w' hw',hb w hw⟩
theorem eb {body:WP->WP}{rest:List Value->WP}(hb:aR W L (body fun w=>∀ds,rest ds w)):aR W L (vK body rest):=fun w hw=>⟨fun w=>∀ds,rest ds w,fun ds w' hw'=>hw' ds,hb w hw⟩
theorem fA {body:(Value->WP)->WP}{rest:List Value->Value->WP}(hb:aR W L (body fun x w=>∀ds,rest ds x w)):aR W L (sr body rest):=fun w hw=>⟨fun x w=>∀ds,rest ds x w,fun ds x w' hw'=>hw' ds,hb w hw⟩
theorem oT {body:(Value->Value->WP)->WP}{rest:List Value->Value->Value->WP}(hb:aR W L (body fun x y w=>∀ds,rest ds x y w)):aR W L (pB body rest):=fun w hw=>⟨fun x y w=>∀ds,rest ds x y w,fun ds x y w' hw'=>hw' ds,hb w hw⟩
theorem jo {R:List Value->WP}(h:∀ds,aR W L (R ds)):aR W L (fun w=>∀ds,R ds w):=fun w hw ds=>h ds w hw
theorem aI {M:List HP}(i:Imp W L M):aR W L (fun w=>sat W M w):=fun w hw=>i.sat hw
end Go.Proofs.YtdjkdjepjahjfaaGreatDoor.Sl
namespace Go.Proofs.YtdjkdjepjahjfaaGreatDoor.Sl
open Go Go.RowKit Sh
variable {P:Program} {W:World} {L L' L'':List HP} {Kp:PK} {k:Value->WP}

theorem FP {n:Int}(h1: -9223372036854775808<=n)(h2:n<=9223372036854775807):IntKind.i64.wrap n=n:=IntWalk.i64_in n ⟨h1,h2⟩
theorem ie {t:TypeId}{a b:Int}(h1: -9223372036854775808<=a+b)(h2:a+b<=9223372036854775807):aT P W [] (bf .add t (.int .i64 a) (.int .i64 b)) (.int .i64 (a+b)):=fun w _=>by
 simp[bf,sv,eqGuard,binOp,Op.intArith,FP h1 h2]
theorem gI {t:TypeId}{a b:Int}(h1: -9223372036854775808<=a-b)(h2:a-b<=9223372036854775807):aT P W [] (bf .sub t (.int .i64 a) (.int .i64 b)) (.int .i64 (a-b)):=fun w _=>by
 simp[bf,sv,eqGuard,binOp,Op.intArith,FP h1 h2]
theorem gJ {t:TypeId}{a b:Int}(h1: -9223372036854775808<=a * b)(h2:a * b<=9223372036854775807):aT P W [] (bf .mul t (.int .i64 a) (.int .i64 b)) (.int .i64 (a * b)):=fun w _=>by
 simp[bf,sv,eqGuard,binOp,Op.intArith,FP h1 h2]
theorem pH {t:TypeId}{q:IntKind}{a b:Int}:aT P W [] (bf .add t (.int q a) (.int q b)) (.int q (q.wrap (a+b))):=fun w _=>by
 simp[bf,sv,eqGuard,binOp,Op.intArith]
theorem lI {t:TypeId}{q:IntKind}{a b:Int}:aT P W [] (bf .sub t (.int q a) (.int q b)) (.int q (q.wrap (a-b))):=fun w _=>by
 simp[bf,sv,eqGuard,binOp,Op.intArith]
theorem Al {t:TypeId}{q:IntKind}{a b:Int}:aT P W [] (bf .mul t (.int q a) (.int q b)) (.int q (q.wrap (a * b))):=fun w _=>by
 simp[bf,sv,eqGuard,binOp,Op.intArith]
theorem fB {t:TypeId}{a b:Int}(ha:0<=a)(hb:0<b)(h2:a<=9223372036854775807):aT P W [] (bf .quo t (.int .i64 a) (.int .i64 b)) (.int .i64 (a / b)):=fun w _=>by
 have h0:¬b=0:=by omega
 have e:a.tdiv b=a / b:=Int.tdiv_eq_ediv_of_nonneg ha
 have l1:0<=a / b:=Int.ediv_nonneg ha (by omega)
 have l2:a / b<=a:=Int.ediv_le_self b ha
 simp[bf,sv,eqGuard,binOp,Op.intDiv,h0,e,FP (n:=a / b) (by omega) (by omega)]
theorem gK {t:TypeId}{q:IntKind}{a b:Int}(ha:0<=a)(hb:0<b):aT P W [] (bf .rem t (.int q a) (.int q b)) (.int q (a%b)):=fun w _=>by
 have h0:¬b=0:=by omega
 have e:a.tmod b=a%b:=Int.tmod_eq_emod_of_nonneg ha
 simp[bf,sv,eqGuard,binOp,Op.intDiv,h0,e]
theorem jX {t:TypeId}{q:IntKind}{a b:Int}(hb:b≠0):aT P W [] (bf .rem t (.int q a) (.int q b)) (.int q (a.tmod b)):=fun w _=>by
 simp[bf,sv,eqGuard,binOp,Op.intDiv,hb]
theorem MA {t:TypeId}{q r:IntKind}{a b:Int}(hb:0<=b):aT P W [] (bf .shl t (.int q a) (.int r b)) (.int q (q.wrap (a * 2^(min b.toNat q.bits)))):=fun w _=>by
 have h0:¬b<0:=by omega
 simp[bf,sv,eqGuard,binOp,Op.shift,h0]
theorem FQ {t:TypeId}{q r:IntKind}{a b:Int}(hb:0<=b):aT P W [] (bf .shr t (.int q a) (.int r b)) (.int q (a.fdiv (2^(min b.toNat q.bits)))):=fun w _=>by
 have h0:¬b<0:=by omega
 simp[bf,sv,eqGuard,binOp,Op.shift,h0]
def iA (o:BinOp)(q:IntKind)(a b:Int):Int:=
 let x:=BitVec.ofInt q.bits a
 let y:=BitVec.ofInt q.bits b
 q.wrap (match o with| .and=>x &&& y| .or=>x ||| y| .xor=>x ^^^ y|_=>x &&& ~~~y:BitVec q.bits).toNat
theorem FR {t:TypeId}{q:IntKind}{a b:Int}:aT P W [] (bf .and t (.int q a) (.int q b)) (.int q (iA .and q a b)):=fun w _=>by
 simp[bf,sv,eqGuard,binOp,Op.intBits,iA]
theorem Hc {t:TypeId}{q:IntKind}{a b:Int}:aT P W [] (bf .or t (.int q a) (.int q b)) (.int q (iA .or q a b)):=fun w _=>by
 simp[bf,sv,eqGuard,binOp,Op.intBits,iA]
theorem bD {t:TypeId}{q:IntKind}{a b:Int}:aT P W [] (bf .lss t (.int q a) (.int q b)) (.bool (decide (a<b))):=fun w _=>by
 simp[bf,sv,eqGuard,binOp,Op.intCmp]
theorem gL {t:TypeId}{q:IntKind}{a b:Int}:aT P W [] (bf .leq t (.int q a) (.int q b)) (.bool (decide (a<=b))):=fun w _=>by
 simp[bf,sv,eqGuard,binOp,Op.intCmp]
theorem eu {t:TypeId}{q:IntKind}{a b:Int}:aT P W [] (bf .gtr t (.int q a) (.int q b)) (.bool (decide (b<a))):=fun w _=>by
 simp[bf,sv,eqGuard,binOp,Op.intCmp]
theorem dy {t:TypeId}{q:IntKind}{a b:Int}:aT P W [] (bf .geq t (.int q a) (.int q b)) (.bool (decide (b<=a))):=fun w _=>by
 simp[bf,sv,eqGuard,binOp,Op.intCmp]
theorem cJ {t:TypeId}{ox oy:Operand}{q:IntKind}{a b:Int}:aT P W [] (eo .eql t ox oy (.int q a) (.int q b)) (.bool (decide (a=b))):=fun w _=>by
 simp[eo,sv,eqGuard,binOp,Op.intCmp]
 by_cases h:a=b <;> simp[h]
theorem jY {t:TypeId}{ox oy:Operand}{q:IntKind}{a b:Int}:aT P W [] (eo .neq t ox oy (.int q a) (.int q b)) (.bool (decide (a≠b))):=fun w _=>by
 simp[eo,sv,eqGuard,binOp,Op.intCmp]
 by_cases h:a=b <;> simp[h]
theorem eU {b:Bool}:aT P W [] (zQ .not (.bool b)) (.bool (!b)):=fun w _=>by simp[zQ,Op.unary]
theorem bA:aT P W [] (zQ .not (.bool true)) (.bool false):=eU
theorem cP:aT P W [] (zQ .not (.bool false)) (.bool true):=eU
theorem mu {ts:Array TypeId}{t:TypeId}{q r:IntKind}{a b:Int}:aT P W [] (Ha ts t [.int q a,.int r b]) (.int q (if b<a then b else a)):=fun w _=>by
 simp[Ha,Builtin.min_,Builtin.min2]
theorem pI {ts:Array TypeId}{t:TypeId}{q r:IntKind}{a b:Int}:aT P W [] (DG ts t [.int q a,.int r b]) (.int q (if a<b then b else a)):=fun w _=>by
 simp[DG,Builtin.max_,Builtin.max2]
theorem av {a b:Value}:aT P W [] (em (.bool true) a b) a:=fun w _=>by simp[em,execOp,asBool]
theorem am {a b:Value}:aT P W [] (em (.bool false) a b) b:=fun w _=>by simp[em,execOp,asBool]
theorem MB {vs:Array Value}{i:Nat}{v:Value}(h:vs[i]? =some v):aT P W [] (kY (.tuple vs) i) v:=fun w _=>by
 simp[kY,Instr.extract,h]
class IntT (P:Program)(t:TypeId)(q:outParam IntKind):Prop where
 run:∀w,(underlying t).run P w= .ok (.int q) w
theorem eG {s t:TypeId}{p q r:IntKind}{n:Int}[hs:IntT P s p][ht:IntT P t q]:aT P W [] (eF s t (.int r n)) (.int q (q.wrap n)):=fun w _=>by
 simp[eF,convert,hs.run,ht.run,Conv.intToInt]
theorem bj {A:List HP}{s:Sem Next}{φ:Prop}[Decidable φ](hr:aT P W A s (.bool (decide φ)))(i:Imp W L A)(ht:φ->aR W L (k (.bool true)))(hf:¬φ->aR W L (k (.bool false))):aR W L (opN P s Kp k):=by
 refine aB hr i ?_
 by_cases h:φ
 ·rw[dT_ h];exact ht h
 ·rw[dF_ h];exact hf h
theorem Am {A:List HP}{s:Sem Next}{φ:Prop}[Decidable φ](hr:aT P W A s (.bool (decide φ)))(i:Imp W L A)(ht:φ->aR W L (k (.bool true)))(hf:¬φ->aR W L (k (.bool false))):aR W L (stS P s k):=by
 refine aP hr i ?_
 by_cases h:φ
 ·rw[dT_ h];exact ht h
 ·rw[dF_ h];exact hf h
class OC (a:Value):Prop where
 one:a.oneCell'=true
instance {q:IntKind}{n:Int}:OC (.int q n):=⟨rfl⟩
instance {b:Bool}:OC (.bool b):=⟨rfl⟩
instance {s:ByteArray}:OC (.string s):=⟨rfl⟩
instance {a:Option Addr}:OC (.pointer a):=⟨rfl⟩
instance {a:Option Addr}{n c:Nat}:OC (.slice a n c):=⟨rfl⟩
instance {m:Option Nat}:OC (.map m):=⟨rfl⟩
instance {f:Fn}{a b:Array Value}:OC (.func f a b):=⟨rfl⟩
instance {t:TypeId}{v:Value}:OC (.iface t v):=⟨rfl⟩
class RV (P:Program)(s:Sem Next)(v:outParam Value):Prop where
 run:∀W,aT P W [] s v
theorem bM {s:Sem Next}{v:Value}[h:RV P s v]:aT P W [] s v:=h.run W
theorem aF {cs:Array Value}:(Value.agg cs).cells=cs:=rfl
theorem ak {a:Value}(h:a.oneCell'=true):a.cells= #[a]:=by cases a <;> first|rfl|cases h

theorem ah {a:Addr}:aT P W [] (dB (.pointer (some a))) (.pointer (some a)):=fun w _=>by simp[dB,execOp]
class PtrT (P:Program)(t:TypeId):Prop where
 ex:P.underlying t=some (.pointer (P.pointee t))
theorem ss {t:TypeId}{ox oy:Operand}{p:Option Addr}[ht:PtrT P t]:aT P W [] (eo .eql t ox oy (.pointer p) (.pointer none)) (.bool p.isNone):=fun w _=>by
 simp[eo,sv,eqGuard,run_eql_pointer_nil w t p ht.ex]
theorem w6 {t:TypeId}{ox oy:Operand}{p:Option Addr}[ht:PtrT P t]:aT P W [] (eo .neq t ox oy (.pointer p) (.pointer none)) (.bool (!p.isNone)):=fun w _=>by
 simp[eo,sv,eqGuard,run_neq_pointer_nil w t p ht.ex]
theorem mw {t:TypeId}{ox oy:Operand}[ht:PtrT P t]:aT P W [] (eo .eql t ox oy (.pointer none) (.pointer none)) (.bool true):=ss
theorem cp {t:TypeId}{ox oy:Operand}{a:Addr}[ht:PtrT P t]:aT P W [] (eo .eql t ox oy (.pointer (some a)) (.pointer none)) (.bool false):=ss
theorem jZ {t:TypeId}{ox oy:Operand}[ht:PtrT P t]:aT P W [] (eo .neq t ox oy (.pointer none) (.pointer none)) (.bool false):=w6
theorem tT {t:TypeId}{ox oy:Operand}{a:Addr}[ht:PtrT P t]:aT P W [] (eo .neq t ox oy (.pointer (some a)) (.pointer none)) (.bool true):=w6
class FldT (P:Program)(t:TypeId)(f:Nat)(o:outParam Nat):Prop where
 run:∀(g b:Nat) (w:World),(Instr.fieldAt t (.pointer (some ⟨g,b,none⟩)) f).run P w= .ok (.pointer (some ⟨g,b+o,none⟩)) w
theorem dP {t:TypeId}{f o g b:Nat}[h:FldT P t f o]:aT P W [] (gB t (.pointer (some ⟨g,b,none⟩)) f) (.pointer (some ⟨g,b+o,none⟩)):=fun w _=>by
 simp[gB,h.run]
theorem ae {t:TypeId}{f o g:Nat}[h:FldT P t f o]:aT P W [] (gB t (.pointer (some ⟨g,0,none⟩)) f) (.pointer (some ⟨g,o,none⟩)):=fun w _=>by
 simp[gB,h.run]
inductive Nth:List Value->Nat->Value->Prop
 |here {v:Value} {l:List Value}:Nth (v::l) 0 v
 |there {u v:Value} {l:List Value} {n:Nat} (h:Nth l n v):Nth (u::l) (n+1) v
theorem Nth.get {l:List Value}{n:Nat}{v:Value}(h:Nth l n v):l.toArray[n]? =some v:=by
 induction h with
 |here=>simp
 |there _ ih=>simpa using ih
inductive Put:List Value->Nat->Value->List Value->Prop
 |here {u v:Value} {l:List Value}:Put (u::l) 0 v (v::l)
 |there {u v:Value} {l l':List Value} {n:Nat} (h:Put l n v l'):Put (u::l) (n+1) v (u::l')
theorem Put.set {l l':List Value}{n:Nat}{v:Value}(h:Put l n v l'):l.toArray.setIfInBounds n v=l'.toArray/\n<l.length:=by
 induction h with
 |here=>simp
 |there _ ih=>obtain⟨h1,h2⟩:=ih;simp at h1 ⊢;exact⟨h1,h2⟩
class OneT (P:Program)(t:TypeId):Prop where
 agg:∀w,(isAgg t).run P w= .ok false w
 size:∀w,(sizeOf t).run P w= .ok 1 w
theorem iX {t:TypeId}{g o:Nat}{cs:Array Value}{T:TypeId}{fz:Nat × Nat}{v:Value}[ht:OneT P t](hc:cs[o]? =some v):aT P W [pt g (.cells cs T fz)] (aL t (.pointer (some ⟨g,o,none⟩))) v:=fun w hw=>by
 have h:w.cell? ⟨g,o,none⟩=some v:=by rw[hw.cell,hc]
 simp[aL,Instr.loadAt,Instr.sureAddr,loadVar,ht.agg,h]
theorem aQ {t:TypeId}{g o:Nat}{cs:List Value}{T:TypeId}{fz:Nat × Nat}{v:Value}[ht:OneT P t](hc:Nth cs o v):aT P W [pt g (.cells cs.toArray T fz)] (aL t (.pointer (some ⟨g,o,none⟩))) v:=iX hc.get
theorem qX {t:TypeId} {g o:Nat} {cs:Array Value} {T:TypeId} {v:Value} [ht:OneT P t] [hv:OC v] (p:Pick L (pt g (.cells cs T (0,0))) L') (ho:o<cs.size)
  (h:aR W (pt g (.cells (cs.setIfInBounds o v) T (0,0))::L') (k undef)):aR W L (opN P (aJ t (.pointer (some ⟨g,o,none⟩)) v) Kp k):=fun w hw=>by
 have hw':=hw.pick p
 have hc:w.cell? ⟨g,o,none⟩=some cs[o]:=by rw[hw'.cell,Array.getElem?_eq_getElem ho]
 have hf:=hw'.free (o:=o)
 have hcells:v.cells= #[v]:=by exact ak hv.one
 refine⟨?_⟩
 have hr:(aJ t (.pointer (some ⟨g,o,none⟩)) v).run P w= .ok .skip (w.setCell ⟨g,o,none⟩ v):=by
  simp[aJ,Instr.storeAt,Instr.sureAddr,storeVar,ht.size,hcells,storeCells,Addr.add,run_store,hv.one,hc,hf]
 rw[hr]
 exact h _ (hw'.setCell v)
theorem e_ {t:TypeId} {g o:Nat} {cs cs':List Value} {T:TypeId} {v:Value} [ht:OneT P t] (p:Pick L (pt g (.cells cs.toArray T (0,0))) L') (ho:Put cs o v cs') [hv:OC v]
  (h:aR W (pt g (.cells cs'.toArray T (0,0))::L') (k undef)):aR W L (opN P (aJ t (.pointer (some ⟨g,o,none⟩)) v) Kp k):=by
 refine qX p (by simpa using ho.set.2) ?_
 rw[ho.set.1];exact h
theorem bk {vs:List Value}{i:Nat}{v:Value}(h:Nth vs i v):aT P W [] (kY (.tuple vs.toArray) i) v:=MB h.get
end Go.Proofs.YtdjkdjepjahjfaaGreatDoor.Sl
namespace Go.Proofs.YtdjkdjepjahjfaaGreatDoor.Sl
open Go Go.RowKit Sh
variable {P:Program} {W:World} {L L':List HP} {Kp:PK} {k:Value->WP}
structure CnP {α β:Type}(P:Program)(f:FuncId)(args:List Value)(W:World)(A:List HP)(r:α->Value)(B:α->List HP)(pc:β->List PanicEntry)(Bp:β->List HP):Prop where
 call:∀(a:Array Value) (w:World),(callFunc f a).run P w= .ok (.enter f a) w
 run:∀(F:List HP) (w:World),sat W (A++F) w->Calls P f args.toArray w (fun e w'=>(∃x,e= .returned (r x)/\sat W (B x++F) w')\/∃y,e= .panicked (pc y)/\sat W (Bp y++F) w')
theorem CnP.of {α β : Type} {f : FuncId} {args : List Value} {A : List HP} {r : α → Value} {B : α → List HP} {pc : β → List PanicEntry} {Bp : β → List HP} {shape : PK → (Value → WP) → WP}
  (hc : ∀ (a : Array Value) (w : World), (callFunc f a).run P w = .ok (.enter f a) w)
  (hs : ∀ {Kp : PK} {K : Value → WP} {w : World}, shape Kp K w → Calls P f args.toArray w (after Kp K))
  (h : ∀ F, aR W (A ++ F) (shape (fun ch w' => ∃ y, ch = pc y ∧ sat W (Bp y ++ F) w') fun v w' => ∃ x, v = r x ∧ sat W (B x ++ F) w')) : CnP P f args W A r B pc Bp :=
 ⟨hc, fun F w hw => (hs (h F w hw)).mono fun e w' he => by
  cases e with
  | returned v => obtain ⟨x, rfl, h2⟩ := he; exact .inl ⟨x, rfl, h2⟩
  | panicked ch => obtain ⟨y, rfl, h2⟩ := he; exact .inr ⟨y, rfl, h2⟩
  | outgrown => exact he.elim⟩
theorem bY {α β:Type} {f:FuncId} {args:List Value} {A F:List HP} {r:α->Value} {B:α->List HP} {pc:β->List PanicEntry} {Bp:β->List HP} (hf:CnP P f args W A r B pc Bp) (p:Picks L A F)
  (h:∀x,aR W (B x++F) (k (r x))) (hp:∀y,aR W (Bp y++F) (Kp (pc y))):aR W L (opN P (bT (fn f) args) Kp k):=fun w hw=>by
 refine⟨?_⟩
 rw[ru hf.call]
 refine(hf.run F w (p.sat hw)).mono fun e w' he=>?_
 rcases he with ⟨x,he,hs⟩|⟨y,he,hs⟩
 ·subst he;exact h x w' hs
 ·subst he;exact hp y w' hs
def pe (v:Value):List PanicEntry:=[{v,recovered:=false}]
theorem oU {t:TypeId}{x:Value}(h:aR W L (Kp (pe (.iface t x)))):aR W L (opN P (pA (.iface t x)) Kp k):=fun w hw=>by
 refine⟨?_⟩
 have:(pA (.iface t x)).run P w= .halt (.panic (.iface t x)) w:=by simp[pA,Instr.panic,goPanic]
 rw[this]
 exact h w hw
theorem pJ {t:TypeId}{v:Value}{q:IntKind}[ht:IntT P t q]:aT P W [] (oF t v) (.iface t v):=fun w _=>by
 simp[oF,Instr.makeInterface,ht.run]
theorem du {β:Type}{pc:β->List PanicEntry}{M:β->List HP}{ch:List PanicEntry}(y:β)(hv:ch=pc y)(i:Imp W L (M y)):aR W L (fun w'=>∃y,ch=pc y/\sat W (M y) w'):=fun w hw=>⟨y,hv,i.sat hw⟩
theorem bP {f:FuncId}{bs cs:List Value}:aT P W [] (nf (.func f) bs cs) (.func (.func f) bs.toArray cs.toArray):=fun w _=>by
 simp[nf,Instr.makeFunc]
theorem ni {fn:Fn}{a b:Array Value}{args:List Value}{kd:Deferred->WP}(h:aR W L (kd {target:= .fn fn b,args:=a++args.toArray})):aR W L (opDf (.func fn a b) args kd):=fun w hw=>⟨fn,a,b,rfl,h w hw⟩
theorem rx {f : FuncId} {A : List Value} {d : Deferred} {u : FrameMode} {Kret : WP} {Kq : PK} {shape : Value → PK → (Value → WP) → WP} (hu : u ≠ .run) (ht : ∃ fv cap, d.target = .fn fv cap)
  (hinv : ∀ w, (invoke d.target d.args).run P w = .ok (.enter f A.toArray) w)
  (hs : ∀ {Kp' : PK} {K : Value → WP} {w : World}, shape (d6 u).1 Kp' K w → CallsD P f A.toArray u w fun
   | .returned v, u', w' => u' = (d6 u).2 ∧ K v w'
   | .panicked ch, u', w' => u' = (d6 u).2 ∧ Kp' ch w'
   | .outgrown, _, _ => False)
  (h : aR W L (shape (d6 u).1 (fun ch => G8 Kret Kq (raised (d6 u).2 ch)) fun _ => G8 Kret Kq (settle (d6 u).2))) : aR W L (dfS P d u Kret Kq) := fun w hw => by
 obtain ⟨fv, cap, ht⟩ := ht
 refine ⟨hu, fv, cap, f, A.toArray, ht, hinv w, (hs (h w hw)).mono fun e u' w' he => ?_⟩
 cases e with
 | returned v => obtain ⟨rfl, h2⟩ := he; exact h2
 | panicked ch => obtain ⟨rfl, h2⟩ := he; exact h2
 | outgrown => exact he.elim
theorem pK {Kret:WP}{Kq:PK}:G8 Kret Kq (settle (d6 .returning).2)=Kret:=rfl
theorem He {Kret:WP}{Kq:PK}{v:Value}:G8 Kret Kq (settle (d6 (.panicking (pe v))).2)=Kret:=rfl
theorem mx:(d6 .returning).1= .nilIface:=rfl
theorem DI {v:Value}:(d6 (.panicking (pe v))).1=v:=rfl
theorem fe {f:FuncId}{cs bs:List Value}(hc:∀(a:Array Value) (w:World),(callFunc f a).run P w= .ok (.enter f a) w)(w:World):(invoke (.fn (.func f) cs.toArray) bs.toArray).run P w= .ok (.enter f (bs++cs).toArray) w:=by
 simp[invoke,hc]
end Go.Proofs.YtdjkdjepjahjfaaGreatDoor.Sl
namespace Go.Proofs.YtdjkdjepjahjfaaGreatDoor.Sl
open Go Go.RowKit Sh
variable {P:Program} {W:World} {L L':List HP} {Kp:PK} {k:Value->WP}
theorem vM {f:FuncId}{cap:Array Value}{args:List Value}(hc:∀(a:Array Value) (w:World),(callFunc f a).run P w= .ok (.enter f a) w)(w:World):
  (bT (.func (.func f) #[] cap) args).run P w= .ok (.enter f (args.toArray++cap)) w:=by
 unfold bT Deferred.ofValue
 simp[invoke,hc]
theorem bB {α:Type} {f:FuncId} {args cap:List Value} {A F:List HP} {r:α->Value} {B:α->List HP} (hf:Cn P f (args++cap) W A r B) (p:Picks L A F)
  (h:∀x,aR W (B x++F) (k (r x))):aR W L (opN P (bT (.func (.func f) #[] cap.toArray) args) Kp k):=fun w hw=>by
 refine⟨?_⟩
 rw[vM hf.call,show args.toArray++cap.toArray=(args++cap).toArray by simp]
 refine(hf.run F w (p.sat hw)).mono fun e w' ⟨x,he,hs⟩=>?_
 subst he
 exact h x w' hs
def j3 (P:Program)(l:Nat)(xs:List (List Value))(I:Nat->HP)(Ix:HP)(W:World):Prop:=
 ∀i (hi:i<xs.length) (F:List HP) (w:World),sat W (I i::F) w->Ab P l xs[i] w fun e w'=>
  (e= .returned (.bool true)/\sat W (I (i+1)::F) w')\/(e= .returned (.bool false)/\sat W (Ix::F) w')
def yv (l:Nat):Value:= .func (.yield l) #[] #[]
theorem iB {l:Nat} {xs:List (List Value)} {I:Nat->HP} {Ix:HP} {args:List Value} (hy:j3 P l xs I Ix W) (i:Nat) (hi:xs[i]? =some args) (p:Pick L (I i) L')
  (ht:aR W (I (i+1)::L') (k (.bool true))) (hf:aR W (Ix::L') (k (.bool false))):aR W L (opN P (bT (yv l) args) Kp k):=fun w hw=>by
 have hlt:i<xs.length:=by
  rcases Nat.lt_or_ge i xs.length with c|c
  ·exact c
  ·rw[List.getElem?_eq_none c]at hi;cases hi
 have he:xs[i]=args:=by rw[List.getElem?_eq_getElem hlt]at hi;exact Option.some.inj hi
 obtain⟨fn,tmps,assign,body,hr,hR⟩:=hy i hlt L' w (hw.pick p)
 rw[he]at hr
 refine⟨?_⟩
 have:(bT (yv l) args).run P w= .ok (.round l fn tmps assign body) w:=by
  unfold bT yv Deferred.ofValue
  simp[invoke,hr]
 rw[this]
 refine hR.mono fun e w' he=>?_
 rcases he with ⟨rfl,hs⟩|⟨rfl,hs⟩
 ·exact ht w' hs
 ·exact hf w' hs
theorem sat.putO {w:World}{g:Nat}{o o':Obj}(H:sat W (pt g o::L) w):sat W (pt g o'::L) (w.putObj g o'):=by
 have hg:=H.pt_.1
 have hlt:g<w.heap.size:=(Array.getElem?_eq_some_iff.1 hg).1
 exact H.turn rfl rfl rfl (by simp) (World.putObj_heap_same hlt) (fun i hi=>World.putObj_heap_other hi)
theorem su {d:Nat}{S:WP}(p:Pick L (pt d (.deferred (some []))) L')(h:aR W L' S):aR W L (tkS d S):=fun w hw=>by
 have hw':=hw.pick p
 exact⟨hw'.pt_.1,h _ (hw'.putO (o':= .deferred none)).drop⟩
theorem Ao {fv : Value} {f : FuncId} {cap : List Value} {np : Nat} {rnd : VF np ((WP → WP) → WP → WP → WP)} {Kn Kj : Nat → WP} {Kq : Nat → PK} (xs : List (List Value)) (I : Nat → HP) (Ix : HP) (hf : fv = .func (.func f) #[] cap.toArray)
  (hxs : ∀ x ∈ xs, x.length = np) (hi : Imp W L [I 0])
  (hit : ∀ (l : Nat) (T T' : HP), j3 P l xs (fun i => all [T, I i]) (all [T', Ix]) W → Cn P f (yv l :: cap) W [all [T, I 0]] (fun _ : Bool => .tuple #[]) (fun b => [if b then all [T, I xs.length] else all [T', Ix]]))
  (hbody : ∀ i (hi : i < xs.length) (F : List HP) (T0 T1 : HP) (B : WP → WP) (N J : WP), (∀ L L' S, Pick L T0 L' → aR W (T1 :: L') S → aR W L (B S)) → (∀ L, Imp W L (T1 :: I (i + 1) :: F) → aR W L N) → (∀ L, Imp W L (T1 :: Ix :: F) → aR W L J) →
   aR W (T0 :: I i :: F) (ji np rnd xs[i] B N J))
  (hn : ∀ d, aR W [pt d (.deferred (some [])), I xs.length] (Kn d)) (hj : ∀ d, aR W [pt d (.deferred (some [])), Ix] (Kj d)) : aR W L (rfS P fv np rnd Kn Kj Kq) := fun w hw => by
 have hcall := (hit 0 (pu False) (pu False) (fun i hi F w hs => (by obtain ⟨h, ⟨h1, h2, ⟨h3, h4, hp, _⟩, _⟩, _⟩ := hs.heap; exact hp.elim))).call
 refine ⟨f, cap.toArray, hf, hcall, fun rec hrec => ?_⟩
 obtain ⟨l, hl⟩ : ∃ l, l = w.heap.size + 1 := ⟨_, rfl⟩
 have h0 : sat W [all [all [pt l (.loop (rec .ready none)), pt w.heap.size (.deferred (some []))], I 0]] ((w.alloc (.deferred (some []))).alloc (.loop (rec .ready none))) := by
  have := ((hi.sat hw).alloc (.deferred (some []))).alloc (.loop (rec .ready none))
  rw [World.size_alloc, ← hl] at this
  exact (Imp.all (N := [_, _]) (Imp.all (N := [_, _]) .refl)).sat this
 rw [← hl] at hrec ⊢
 have hy : j3 P l xs (fun i => all [all [pt l (.loop (rec .ready none)), pt w.heap.size (.deferred (some []))], I i]) (all [all [pt l (.loop (rec .done (some .ret))), pt w.heap.size (.deferred (some []))], Ix]) W := by
  intro i hi F w' hs
  have hs1 : sat W (pt l (.loop (rec .ready none)) :: pt w.heap.size (.deferred (some [])) :: I i :: F) w' :=
   hs.map fun h H => b_ (N := [_, _]) (M := I i :: F) (by
    have := b_ (N := [_, _]) (M := F) H
    exact this)
  refine hrec xs[i] w' _ (hxs _ (List.getElem_mem hi)) hs1.pt_.1 ?_
  refine hbody i hi F (all [pt l (.loop (rec .ready none)), pt w.heap.size (.deferred (some []))]) (all [pt l (.loop (rec .busy none)), pt w.heap.size (.deferred (some []))]) _ _ _ ?_ ?_ ?_ w' ?_
  ·intro L1 L2 S p hS w1 hw1
   have h1 : sat W (pt l (.loop (rec .ready none)) :: pt w.heap.size (.deferred (some [])) :: L2) w1 := sat.map (L := all [pt l (.loop (rec .ready none)), pt w.heap.size (.deferred (some []))] :: L2) (fun h H => b_ (N := [_, _]) H) (hw1.pick p)
   refine ⟨h1.pt_.1, hS _ ?_⟩
   exact (Imp.all (N := [_, _]) .refl).sat (h1.putO (o' := .loop (rec .busy none)))
  ·intro L1 i1 w1 hw1
   have h1 : sat W (pt l (.loop (rec .busy none)) :: pt w.heap.size (.deferred (some [])) :: I (i + 1) :: F) w1 := sat.map (L := all [pt l (.loop (rec .busy none)), pt w.heap.size (.deferred (some []))] :: I (i + 1) :: F) (fun h H => b_ (N := [_, _]) H) (i1.sat hw1)
   refine ⟨h1.pt_.1, .inl ⟨rfl, ?_⟩⟩
   exact (Imp.all (N := [_, _]) (Imp.all (N := [_, _]) .refl)).sat (h1.putO (o' := .loop (rec .ready none)))
  ·intro L1 i1 w1 hw1
   have h1 : sat W (pt l (.loop (rec .busy none)) :: pt w.heap.size (.deferred (some [])) :: Ix :: F) w1 := sat.map (L := all [pt l (.loop (rec .busy none)), pt w.heap.size (.deferred (some []))] :: Ix :: F) (fun h H => b_ (N := [_, _]) H) (i1.sat hw1)
   refine ⟨h1.pt_.1, .inr ⟨rfl, ?_⟩⟩
   exact (Imp.all (N := [_, _]) (Imp.all (N := [_, _]) .refl)).sat (h1.putO (o' := .loop (rec .done (some .ret))))
  ·exact (Imp.all (N := [_, _]) .refl).sat hs1
 have hc := (hit l _ _ hy).run [] _ (by simpa using h0)
 rw [show (yv l :: cap).toArray = #[.func (.yield l) #[] #[]] ++ cap.toArray by simp [yv]] at hc
 refine hc.mono fun e w' he => ?_
 obtain ⟨b, rfl, hs⟩ := he
 cases b with
 | true =>
  left
  have h1 : sat W (pt l (.loop (rec .ready none)) :: [pt w.heap.size (.deferred (some [])), I xs.length]) w' :=
   hs.map fun h H => b_ (N := [_, _]) (M := [I xs.length]) (by
    have := b_ (N := [_, _]) (M := []) H
    exact this)
  exact ⟨h1.pt_.1, hn _ _ (h1.putO (o' := .loop (rec .exhausted none))).drop⟩
 | false =>
  right
  have h1 : sat W (pt l (.loop (rec .done (some .ret))) :: [pt w.heap.size (.deferred (some [])), Ix]) w' :=
   hs.map fun h H => b_ (N := [_, _]) (M := [Ix]) (by
    have := b_ (N := [_, _]) (M := []) H
    exact this)
  exact ⟨h1.pt_.1, hj _ _ (h1.putO (o' := .loop (rec .exhausted (some .ret)))).drop⟩
theorem Ap {M:List HP}{S:WP}(h:aR W (M++L) S):aR W (L++M) S:=fun w hw=>by
 refine h w (hw.map fun f H=>b_ ?_)
 obtain⟨h1,h2,ha,hb,d,s1,s2⟩:=all_append H
 exact⟨h2,h1,hb,ha,fun i=>(d i).symm,s2,s1⟩
theorem jp {M F:List HP}{S:WP}(i:Imp W L (M++[all F]))(h:aR W (M++F) S):aR W L S:=by
 refine bu i (Ap (L:=M) (M:=[all F]) ?_)
 refine aE (M:=F) (L':=M) .here (Ap h)
end Go.Proofs.YtdjkdjepjahjfaaGreatDoor.Sl
namespace Go.Proofs.YtdjkdjepjahjfaaGreatDoor.Sl
open Go Go.RowKit Sh
variable {P:Program} {W:World} {L L' L'':List HP} {Kp:PK} {k:Value->WP}
class SlT (P:Program)(t:TypeId)(e:outParam TypeId)(s bytes:outParam Nat):Prop where
 ut:P.underlying t=some (.slice e)
 info:∃i z,P.info? e=some i/\i.zero=some z/\i.size=s/\i.bytes=bytes/\z.cells.size=s
def Sl (s:Nat)(e:TypeId)(a:Option Addr)(cap n:Nat)(cs:List Value):HP:=fun _ h=>
 cs.length=n * s/\n<=cap/\cap<=maxLen/\((a=none/\cap=0)\/∃g rest,a=some ⟨g,0,none⟩/\rest.length=(cap-n) * s/\h g=some (.cells (cs++rest).toArray e (0,0)))
theorem Sl.nil (s:Nat)(e:TypeId)(W:World)(h:f_):Sl s e none 0 0 [] W h:=⟨by simp,Nat.le_refl _,by unfold maxLen;omega,.inl ⟨rfl,rfl⟩⟩
theorem bO {s:Nat}{e:TypeId}{M:List HP}(h:Imp W L M):Imp W L (Sl s e none 0 0 []::M):= .conv (B:=pu True) (fun h _=>Sl.nil s e W h) (.pu trivial h)
theorem w7 {s:Nat}{e:TypeId}{g n:Nat}{cs:List Value}{M:List HP}(p:Pick L (pt g (.cells cs.toArray e (0,0))) L')(hn:cs.length=n * s)(hm:n<=maxLen)(h:Imp W L' M):Imp W L (Sl s e (some ⟨g,0,none⟩) n n cs::M):=
 .conv (B:=pt g (.cells cs.toArray e (0,0))) (fun h hh=>⟨hn,Nat.le_refl _,hm,.inr ⟨g,[],rfl,by simp,by rw[List.append_nil];exact hh⟩⟩) (.pick p h)
theorem MC {s:Nat}{e:TypeId}{g n:Nat}{cs:List Value}{S:WP}(p:Pick L (pt g (.cells cs.toArray e (0,0))) L')(hn:cs.length=n * s)(hm:n<=maxLen)(h:aR W (Sl s e (some ⟨g,0,none⟩) n n cs::L') S):aR W L S:=
 nh p (fun h hh=>⟨hn,Nat.le_refl _,hm,.inr ⟨g,[],rfl,by simp,by rw[List.append_nil];exact hh⟩⟩) h
theorem aN {s:Nat} {e:TypeId} {a:Option Addr} {cap n:Nat} {cs:List Value} {S:WP} (p:Pick L (Sl s e a cap n cs) L')
  (h:cs.length=n * s->n<=cap->cap<=maxLen->(0<n->∃g,a=some ⟨g,0,none⟩)->aR W L S):aR W L S:=fun w hw=>by
 obtain⟨f,⟨h1,h2,h3,h4⟩,_⟩:=(hw.pick p).fst
 refine h h1 h2 h3 (fun hn=>?_) w hw
 rcases h4 with ⟨rfl,rfl⟩|⟨g,rest,rfl,_⟩
 ·omega
 ·exact⟨g,rfl⟩
theorem be {s:Nat} {e:TypeId} {a:Option Addr} {cap n:Nat} {cs:List Value} {S:WP} (p:Pick L (Sl s e a cap n cs) L') (hn:0<n)
  (h:∀g,a=some ⟨g,0,none⟩->aR W L S):aR W L S:=aN p fun _ _ _ h4=>by obtain⟨g,hg⟩:=h4 hn;exact h g hg
theorem jr {s:Nat}{e:TypeId}{g cap n:Nat}{cs:List Value}{w:World}(H:sat W (Sl s e (some ⟨g,0,none⟩) cap n cs::L) w):
  ∃rest,rest.length=(cap-n) * s/\cs.length=n * s/\n<=cap/\cap<=maxLen/\sat W (pt g (.cells (cs++rest).toArray e (0,0))::L) w:=by
 obtain⟨f,⟨h1,h2,⟨l1,l2,l3,hd⟩,r⟩,b⟩:=H.heap
 rcases hd with ⟨c,_⟩|⟨g',rest,c,e1,e2⟩
 ·cases c
 ·injection c with c;injection c with c;subst c
  exact⟨rest,e1,l1,l2,l3,H.base,f,⟨h1,h2,e2,r⟩,b⟩
theorem oV {s:Nat} {e:TypeId} {g cap n:Nat} {cs rest:List Value} {w:World} (hr:rest.length=(cap-n) * s) (hc:cs.length=n * s) (hn:n<=cap) (hm:cap<=maxLen)
  (H:sat W (pt g (.cells (cs++rest).toArray e (0,0))::L) w):sat W (Sl s e (some ⟨g,0,none⟩) cap n cs::L) w:=by
 obtain⟨f,⟨h1,h2,ha,r⟩,b⟩:=H.heap
 exact⟨H.base,f,⟨h1,h2,⟨hc,hn,hm,.inr ⟨g,rest,rfl,hr,ha⟩⟩,r⟩,b⟩
theorem aK {t e ty:TypeId}{s b:Nat}{a:Option Addr}{n cap:Nat}[ht:SlT P t e s b]:aT P W [] (iL #[t] ty [.slice a n cap]) (.int .i64 (n:Int)):=fun w _=>by
 simp[iL,Builtin.len_,run_underlying ht.ut,goInt]
theorem Hf {t ty:TypeId}{s:ByteArray}(ht:P.underlying t=some .string):aT P W [] (iL #[t] ty [.string s]) (.int .i64 (s.size:Int)):=fun w _=>by
 simp[iL,Builtin.len_,run_underlying ht,goInt]
theorem ed {e:TypeId}{i:TypeInfo}(h:P.info? e=some i)(w:World):(sizeOf e).run P w= .ok i.size w:=by
 simp[sizeOf,typeInfo,h]
theorem eA {t e:TypeId}{s b:Nat}{g o n cap:Nat}{q:IntKind}{i:Int}(j:Nat)[ht:SlT P t e s b](hi:i=(j:Int))(hlt:j<n):aT P W [] (lH t (.slice (some ⟨g,o,none⟩) n cap) (.int q i)) (.pointer (some ⟨g,o+j * s,none⟩)):=fun w _=>by
 obtain⟨inf,z,h1,_,h3,_⟩:=ht.info
 subst hi
 have hl:(j:Int)<(n:Int):=by omega
 have hn:¬((n:Int)<=1/\False):=by simp
 simp[lH,Instr.indexAt,asIntOf,run_underlying ht.ut,ed h1,h3,hlt,Addr.add]
theorem br {t e:TypeId}{b:Nat}{g o n cap:Nat}{q:IntKind}{i:Int}(j:Nat)[ht:SlT P t e 1 b](hi:i=(j:Int))(hlt:j<n):aT P W [] (lH t (.slice (some ⟨g,o,none⟩) n cap) (.int q i)) (.pointer (some ⟨g,o+j,none⟩)):=by
 have:=eA (P:=P) (W:=W) (g:=g) (o:=o) (cap:=cap) (q:=q) (t:=t) j hi hlt
 rwa [Nat.mul_one]at this
theorem bF {t e:TypeId}{s:Nat}{g j cap n:Nat}{cs:List Value}{v:Value}[ht:OneT P t](hc:cs[j]? =some v):aT P W [Sl s e (some ⟨g,0,none⟩) cap n cs] (aL t (.pointer (some ⟨g,j,none⟩))) v:=fun w hw=>by
 obtain⟨rest,_,_,_,_,hw'⟩:=jr hw
 refine iX (fz:=(0,0)) ?_ w hw'
 have hj:j<cs.length:=by
  rcases Nat.lt_or_ge j cs.length with h|h
  ·exact h
  ·rw[List.getElem?_eq_none h]at hc;cases hc
 simpa [List.getElem?_append_left hj]using hc
theorem dN {t e:TypeId} {s:Nat} {g j cap n:Nat} {cs:List Value} {v:Value} [ht:OneT P t] [hv:OC v] (p:Pick L (Sl s e (some ⟨g,0,none⟩) cap n cs) L') (hj:j<cs.length)
  (h:aR W (Sl s e (some ⟨g,0,none⟩) cap n (cs.set j v)::L') (k undef)):aR W L (opN P (aJ t (.pointer (some ⟨g,j,none⟩)) v) Kp k):=fun w hw=>by
 obtain⟨rest,r1,r2,r3,r4,hw'⟩:=jr (hw.pick p)
 refine qX (L:=pt g (.cells (cs++rest).toArray e (0,0))::L') .here (by simp;omega) ?_ w hw'
 intro w'' hw''
 refine h w'' (oV r1 (by simpa using r2) r3 r4 ?_)
 have he:((cs++rest).toArray.setIfInBounds j v)=(cs.set j v++rest).toArray:=by
  simp[hj]
 rwa [he]at hw''

theorem fC (g o:Nat):∀(vs:List Value) (w:World) (cs:Array Value) (T:TypeId),sat W (pt g (.cells cs T (0,0))::L) w->∃cs':Array Value,sat W (pt g (.cells cs' T (0,0))::L) (w.setCells g o vs)/\cs'.size=cs.size/\∀i,cs'[i]? =if o<=i/\i<o+vs.length/\i<cs.size then vs[i-o]? else cs[i]? :=by
 intro vs
 induction vs generalizing o with
 |nil=>intro w cs T H;exact⟨cs,H,rfl,fun i=>by rw[if_neg (by simp;omega)]⟩
 |cons v vs ih=>
  intro w cs T H
  obtain⟨cs',h1,h2,h3⟩:=ih (o+1) _ _ _ (H.setCell (o:=o) v)
  refine⟨cs',h1,by simpa using h2,fun i=>?_⟩
  rw[h3]
  simp only[Array.size_setIfInBounds,List.length_cons]
  by_cases hi:i=o
  ·subst hi
   rw[if_neg (by omega)]
   by_cases hs:i<cs.size
   ·rw[if_pos ⟨Nat.le_refl _,by omega,hs⟩];simp[hs]
   ·rw[if_neg (fun c=>hs c.2.2)];simp[hs]
  ·by_cases hc:o+1<=i/\i<o+1+vs.length/\i<cs.size
   ·rw[if_pos hc,if_pos ⟨by omega,by omega,hc.2.2⟩]
    rw[show i-o=(i-(o+1))+1 from by omega,List.getElem?_cons_succ]
   ·rw[if_neg hc,if_neg (fun c=>hc ⟨by omega,by omega,c.2.2⟩),Array.getElem?_setIfInBounds_ne (fun c=>hi c.symm)]
theorem bV {t tx ty e:TypeId} {s bytes:Nat} {a:Option Addr} {cap n m:Nat} {cs news:List Value} {y:Value} [ht:SlT P t e s bytes] (p:Pick L (Sl s e a cap n cs) L')
  (hsrc:∀w,sat W L w->Src P s tx y m news w) (h1:(n+m) * bytes<=140737488355328) (h2:n+m<=4611686018427387904)
  (h:∀a' cap',aR W (Sl s e a' cap' (n+m) (cs++news)::L') (k (.slice a' (n+m) cap'))):aR W L (opN P (jU #[t,tx] ty [.slice a n cap,y]) Kp k):=fun w hw=>by
 obtain⟨i,z,hi,hz,hs,hb,hzs⟩:=ht.info
 subst hs;subst hb
 have S:=hsrc w hw
 have hw':=hw.pick p
 have hnl:=S.newsLen
 refine⟨?_⟩
 have hrun:∃a' cap' w',(Builtin.append_ #[t,tx] ty #[.slice a n cap,y]).run P w= .ok (.slice a' (n+m) cap') w'/\sat W (Sl i.size e a' cap' (n+m) (cs++news)::L') w':=by
  obtain⟨f,⟨l1,l2,l3,hd⟩,_⟩:=hw'.fst
  have grow:cap<n+m->(Builtin.firstCells i.size n (.slice a n cap)).run P w.drew= .ok cs.toArray w.drew->∃a' cap' w',(Builtin.append_ #[t,tx] ty #[.slice a n cap,y]).run P w= .ok (.slice a' (n+m) cap') w'/\sat W (Sl i.size e a' cap' (n+m) (cs++news)::L') w':=by
   intro hg hold
   have hr:=run_append_grow_src (P:=P) w t tx ty e i z ht.ut hi hz a n cap cs hold y m news S hg (by omega) (growslice_fits hg h1)
   refine⟨_,_,_,hr,?_⟩
   have hge:=grownCap_ge w (n+m) cap e
   have hle:=grownCap_le_maxLen w (n+m) cap e (by unfold maxLen;omega)
   have ha:=(hw'.drop.drew).alloc (.cells ((cs++news).toArray++Builtin.zeroCells z.cells (grownCap w (n+m) cap e-(n+m))) e)
   have he:(cs++news).toArray++Builtin.zeroCells z.cells (grownCap w (n+m) cap e-(n+m))=(cs++news++(Builtin.zeroCells z.cells (grownCap w (n+m) cap e-(n+m))).toList).toArray:=by
    apply Array.ext';simp
   rw[he]at ha ⊢
   refine oV (g:=w.heap.size) ?_ ?_ hge hle ha
   ·rw[Array.length_toList,size_zeroCells,hzs]
   ·rw[List.length_append,l1,hnl,Nat.add_mul]
  by_cases hfit:n+m<=cap
  ·rcases hd with ⟨rfl,hc0⟩|⟨g,rest,rfl,_,_⟩
   ·-- nothing is appended onto nothing
    have hn0:n=0:=by omega
    have hm0:m=0:=by omega
    subst hn0;subst hm0;subst hc0
    have hnews:news=[]:=List.eq_nil_of_length_eq_zero (by simpa using hnl)
    have hcs:cs=[]:=List.eq_nil_of_length_eq_zero (by simpa using l1)
    subst hnews;subst hcs
    refine⟨none,0,w,?_,hw'⟩
    rcases S.kind with ⟨e',hk⟩|hk <;> simp[Builtin.append_,run_underlying ht.ut,run_underlying hk,sizeOf,typeInfo,hi,S.len,S.cells]
   ·obtain⟨rest,r1,r2,r3,r4,hp⟩:=jr hw'
    have hsz:(cs++rest).length=cap * i.size:=by rw[List.length_append,r1,r2,<- Nat.add_mul];congr 1;omega
    have hrl:rest.length+n * i.size=cap * i.size:=by rw[r1,<- Nat.add_mul];congr 1;omega
    have hbnd:(n+m) * i.size<=cap * i.size:=Nat.mul_le_mul_right _ hfit
    rw[Nat.add_mul]at hbnd
    have hr:=run_append_room_src (P:=P) w t tx ty e i ht.ut hi g 0 n cap y m news S hfit (fun j hj=>by
      rw[hp.cell,Array.getElem?_eq_getElem (by simp only[List.size_toArray,hsz];omega)];rfl) (fun j _=>hp.free)
    refine⟨_,_,_,hr,?_⟩
    obtain⟨cs',c1,c2,c3⟩:=fC g (0+n * i.size) news w _ _ hp
    have he:cs'=(cs++news++rest.drop news.length).toArray:=by
     apply Array.ext_getElem?
     intro j
     rw[c3]
     simp only[List.size_toArray,hsz,List.getElem?_toArray,Nat.zero_add]
     by_cases hj:n * i.size<=j/\j<n * i.size+news.length/\j<cap * i.size
     ·rw[if_pos hj,List.getElem?_append_left (by simp;omega),List.getElem?_append_right (by omega),r2]
     ·rw[if_neg hj]
      by_cases hj1:j<n * i.size
      ·rw[List.getElem?_append_left (by omega),List.append_assoc,List.getElem?_append_left (by omega)]
      ·rw[List.getElem?_append_right (by omega),List.getElem?_append_right (by simp;omega),List.getElem?_drop]
       by_cases hj2:j<cap * i.size
       ·congr 1;simp;omega
       ·rw[List.getElem?_eq_none (by omega),List.getElem?_eq_none (by simp;omega)]
    rw[he]at c1
    refine oV ?_ ?_ hfit r4 c1
    ·rw[List.length_drop,r1,hnl,<- Nat.sub_mul];congr 1;omega
    ·rw[List.length_append,r2,hnl,Nat.add_mul]
  ·refine grow (by omega) ?_
   rcases hd with ⟨rfl,hc0⟩|⟨g,rest,rfl,_,_⟩
   ·have hcs:cs=[]:=List.eq_nil_of_length_eq_zero (by rw[l1,show n=0 by omega];simp)
    subst hcs
    simp[Builtin.firstCells]
   ·obtain⟨rest,r1,r2,r3,r4,hp⟩:=jr hw'
    refine run_firstCells_some w.drew i.size n ⟨g,0,none⟩ n cap cs l1 fun j u hu=>?_
    have:(⟨g,0,none⟩:Addr).add j=⟨g,j,none⟩:=by unfold Addr.add;split <;> simp_all
    rw[this]
    show w.cell? ⟨g,j,none⟩=some u
    rw[hp.cell]
    have hj:j<cs.length:=by
     rcases Nat.lt_or_ge j cs.length with c|c
     ·exact c
     ·rw[List.getElem?_eq_none c]at hu;cases hu
    simpa [List.getElem?_append_left hj]using hu
 obtain⟨a',cap',w',hr,hs⟩:=hrun
 have:(jU #[t,tx] ty [.slice a n cap,y]).run P w= .ok (.value (.slice a' (n+m) cap')) w':=by simp[jU,hr]
 rw[this]
 exact h a' cap' w' hs

theorem bR {tx e' T:TypeId}{s g m c:Nat}{cs:Array Value}{fz:Nat × Nat}(hk:P.underlying tx=some (.slice e'))(p:Pick L (pt g (.cells cs T fz)) L')(hl:cs.size=m * s)(h1:∀u∈cs.toList,u.oneCell'=true):
  ∀w,sat W L w->Src P s tx (.slice (some ⟨g,0,none⟩) m c) m cs.toList w:=fun w hw=>
 Src.ofSlice w hk _ _ _ _ (by simpa using hl) (fun j u hu=>by
  have:(⟨g,0,none⟩:Addr).add j=⟨g,j,none⟩:=by unfold Addr.add;split <;> simp_all
  rw[this,(hw.pick p).cell];simpa using hu) h1
theorem nj {tx e' e:TypeId}{s:Nat}{a:Option Addr}{cap m:Nat}{cs:List Value}(hk:P.underlying tx=some (.slice e'))(p:Pick L (Sl s e a cap m cs) L')(h1:∀u∈cs,u.oneCell'=true):
  ∀w,sat W L w->Src P s tx (.slice a m cap) m cs w:=fun w hw=>by
 have hw':=hw.pick p
 obtain⟨f,⟨l1,l2,l3,hd⟩,_⟩:=hw'.fst
 rcases hd with ⟨rfl,hc0⟩|⟨g,rest,rfl,_,_⟩
 ·have hm:m=0:=by omega
  subst hm
  have hcs:cs=[]:=List.eq_nil_of_length_eq_zero (by simpa using l1)
  subst hcs
  exact Src.ofNil w hk cap
 ·obtain⟨rest,r1,r2,r3,r4,hp⟩:=jr hw'
  refine Src.ofSlice w hk _ _ _ _ l1 (fun j u hu=>?_) h1
  have:(⟨g,0,none⟩:Addr).add j=⟨g,j,none⟩:=by unfold Addr.add;split <;> simp_all
  rw[this,hp.cell]
  have hj:j<cs.length:=by
   rcases Nat.lt_or_ge j cs.length with c|c
   ·exact c
   ·rw[List.getElem?_eq_none c]at hu;cases hu
  simpa [List.getElem?_append_left hj]using hu

theorem FS {t:TypeId}{v:Value}(h:∀g,aR W (pt g (.cells v.cells t)::L) (k (.pointer (some ⟨g,0,none⟩)))):aR W L (opN P (kX t v) Kp k):=fun w hw=>by
 refine⟨?_⟩
 have:(kX t v).run P w= .ok (.value (.pointer (some ⟨w.heap.size,0,none⟩))) (w.alloc (.cells v.cells t)):=by
  simp[kX,Instr.box,newVar,newRow]
 rw[this]
 exact h _ _ (hw.alloc _)
theorem FT {t:TypeId}{z:Value}(hz:∀w,(zeroValue t).run P w= .ok z w)(h:∀g,aR W (pt g (.cells z.cells t)::L) (k (.pointer (some ⟨g,0,none⟩)))):aR W L (opN P (cK t) Kp k):=fun w hw=>by
 refine⟨?_⟩
 have:(cK t).run P w= .ok (.value (.pointer (some ⟨w.heap.size,0,none⟩))) (w.alloc (.cells z.cells t)):=by
  simp[cK,Instr.alloc,hz,newVar,newRow]
 rw[this]
 exact h _ _ (hw.alloc _)
theorem cZ {t e:TypeId}{b:Nat}{v:Value}[ht:SlT P t e 1 b][hv:OC v](h:∀g,aR W (pt g (.cells #[v] e)::L) (k (.slice (some ⟨g,0,none⟩) 1 1))):aR W L (opN P (cm t 1 [(0,v)]) Kp k):=fun w hw=>by
 refine⟨?_⟩
 obtain⟨i,z,hi,hz,hs,hb,hzs⟩:=ht.info
 have hc:v.cells= #[v]:=ak hv.one
 have hr:Array.range 1= #[0]:=rfl
 have:(cm t 1 [(0,v)]).run P w= .ok (.value (.slice (some ⟨w.heap.size,0,none⟩) 1 1)) (w.alloc (.cells #[v] e)):=by
  simp[cm,Instr.buildSlice,run_underlying ht.ut,ed hi,hs,zeroValue,typeInfo,hi,hz,Instr.fill,hc,hr,newRow]
 rw[this]
 exact h _ _ (hw.alloc _)

class AggT (P:Program)(t:TypeId)(n:outParam Nat):Prop where
 agg:∀w,(isAgg t).run P w= .ok true w
 size:∀w,(sizeOf t).run P w= .ok n w
class ArrT (P:Program)(t:TypeId)(len:outParam Nat)(e:outParam TypeId)(s:outParam Nat):Prop where
 ut:∀w,(underlying t).run P w= .ok (.array len e) w
 size:∀w,(sizeOf e).run P w= .ok s w
theorem ig {t e:TypeId}{s len:Nat}{g o:Nat}{q:IntKind}{i:Int}(j:Nat)[ht:ArrT P t len e s](hi:i=(j:Int))(hlt:j<len):aT P W [] (lH t (.pointer (some ⟨g,o,none⟩)) (.int q i)) (.pointer (some ⟨g,o+j * s,none⟩)):=fun w _=>by
 subst hi
 simp[lH,Instr.indexAt,asIntOf,ht.ut,ht.size,hlt,Addr.add,Instr.sureAddr]
theorem bK {t:TypeId}{n g:Nat}{cs:Array Value}{T:TypeId}{fz:Nat × Nat}[ht:AggT P t n](hn:cs.size=n):aT P W [pt g (.cells cs T fz)] (aL t (.pointer (some ⟨g,0,none⟩))) (.agg cs):=fun w hw=>by
 have h:(loadCells ⟨g,0,none⟩ n).run P w= .ok cs w:=by
  subst hn
  have:=run_loadCells_list (P:=P) w ⟨g,0,none⟩ cs.toList (fun j v hv=>by
   have e:(⟨g,0,none⟩:Addr).add j=⟨g,j,none⟩:=by unfold Addr.add;split <;> simp_all
   rw[e,hw.cell];simpa using hv)
  simpa using this
 simp[aL,Instr.loadAt,Instr.sureAddr,loadVar,ht.agg,ht.size,h]
theorem sw {g:Nat}{T:TypeId}(vs:List Value)(w:World){cs:Array Value}(H:sat W (pt g (.cells cs T (0,0))::L) w)(hn:cs.size=vs.length)(h1:∀u∈vs,u.oneCell'=true):
  ∃w',(storeCells ⟨g,0,none⟩ vs).run P w= .ok () w'/\sat W (pt g (.cells vs.toArray T (0,0))::L) w':=by
 have hst:=run_storeCells_cells (P:=P) g 0 vs 0 w (fun j hj=>by rw[H.cell,Array.getElem?_eq_getElem (by omega)];rfl) (fun j _=>H.free) h1
 obtain⟨cs',c1,c2,c3⟩:=fC g (0+0) vs w cs T H
 refine⟨_,hst,?_⟩
 have he:cs'=vs.toArray:=by
  apply Array.ext_getElem?
  intro j
  rw[c3]
  simp only[Nat.add_zero,Nat.zero_le,true_and,Nat.zero_add,Nat.sub_zero,List.getElem?_toArray]
  by_cases hj:j<vs.length/\j<cs.size
  ·rw[if_pos hj]
  ·rw[if_neg hj,Array.getElem?_eq_none (by omega),List.getElem?_eq_none (by omega)]
 rwa [he]at c1
theorem aG {t T:TypeId} {n g:Nat} {cs vs:Array Value} [ht:AggT P t n] (p:Pick L (pt g (.cells cs T (0,0))) L') (hn:cs.size=n) (hv:vs.size=n) (h1:∀u∈vs.toList,u.oneCell'=true)
  (h:aR W (pt g (.cells vs T (0,0))::L') (k undef)):aR W L (opN P (aJ t (.pointer (some ⟨g,0,none⟩)) (.agg vs)) Kp k):=fun w hw=>by
 obtain⟨w',hr,hs⟩:=sw (P:=P) vs.toList w (hw.pick p) (by simp;omega) h1
 refine⟨?_⟩
 have:(aJ t (.pointer (some ⟨g,0,none⟩)) (.agg vs)).run P w= .ok .skip w':=by
  simp[aJ,Instr.storeAt,Instr.sureAddr,storeVar,ht.size,Value.cells,hv,hr]
 rw[this]
 exact h w' (by simpa using hs)
class ZeroT (P:Program)(t:TypeId)(z:outParam Value):Prop where
 run:∀w,(zeroValue t).run P w= .ok z w
theorem aS {t:TypeId}{cs:Array Value}[hz:ZeroT P t (.agg cs)](h:∀g,aR W (pt g (.cells cs t (0,0))::L) (k (.pointer (some ⟨g,0,none⟩)))):aR W L (opN P (cK t) Kp k):=FT hz.run h
theorem dH {t:TypeId}{z:Value}[hz:ZeroT P t z][hc:OC z](h:∀g,aR W (pt g (.cells #[z] t (0,0))::L) (k (.pointer (some ⟨g,0,none⟩)))):aR W L (opN P (cK t) Kp k):=FT hz.run (by rw[ak hc.one];exact h)
theorem aU {t:TypeId}{cs:Array Value}(h:∀g,aR W (pt g (.cells cs t (0,0))::L) (k (.pointer (some ⟨g,0,none⟩)))):aR W L (opN P (kX t (.agg cs)) Kp k):=FS h
theorem cA {t:TypeId}{v:Value}[hc:OC v](h:∀g,aR W (pt g (.cells #[v] t (0,0))::L) (k (.pointer (some ⟨g,0,none⟩)))):aR W L (opN P (kX t v) Kp k):=FS (by rw[ak hc.one];exact h)
theorem cB {t:TypeId}{n g:Nat}{cs:Array Value}{T:TypeId}{fz:Nat × Nat}[ht:AggT P t n](hn:cs.size=n):aT P W [pt g (.cells cs T fz)] (dv t (.pointer (some ⟨g,0,none⟩))) (.agg cs):=fun w hw=>by
 have:=bK (P:=P) (t:=t) hn w hw
 simp[aL,Instr.loadAt,Instr.sureAddr]at this
 simp[dv,asAddr,this]
theorem dh {t:TypeId}{g o:Nat}{cs:List Value}{T:TypeId}{fz:Nat × Nat}{v:Value}[ht:OneT P t](hc:Nth cs o v):aT P W [pt g (.cells cs.toArray T fz)] (dv t (.pointer (some ⟨g,o,none⟩))) v:=fun w hw=>by
 have:=aQ (P:=P) (t:=t) hc w hw
 simp[aL,Instr.loadAt,Instr.sureAddr]at this
 simp[dv,asAddr,this]
end Go.Proofs.YtdjkdjepjahjfaaGreatDoor.Sl
namespace Go.Proofs.YtdjkdjepjahjfaaGreatDoor.Sl
open Go Go.RowKit Sh
variable {P:Program} {W:World} {L L' L'':List HP} {Kp:PK} {k:Value->WP} {A:HP}
structure RdB (W:World)(A:HP)(a:Option Addr)(n:Nat)(cs:List Value):Prop where
 len:cs.length=n
 at_:0<n->∃g o,a=some ⟨g,o,none⟩/\∀w L,sat W (A::L) w->∀j v,cs[j]? =some v->w.cell? ⟨g,o+j,none⟩=some v
theorem sat.only {w:World}(h:sat W (A::L) w):sat W [A] w:=(Imp.pick (L':=L) .here .nil).sat h
theorem dQ (g o j:Nat):(⟨g,o,none⟩:Addr).add j=⟨g,o+j,none⟩:=by unfold Addr.add;split <;> simp_all
theorem fD {e:TypeId}{a:Option Addr}{cap n:Nat}{cs:List Value}(hl:cs.length=n)(ha:0<n->∃g,a=some ⟨g,0,none⟩):RdB W (Sl 1 e a cap n cs) a n cs:=⟨hl,fun hn=>by
 obtain⟨g,rfl⟩:=ha hn
 refine⟨g,0,rfl,fun w L hw j v hv=>?_⟩
 obtain⟨rest,r1,r2,r3,r4,hp⟩:=jr hw
 rw[Nat.zero_add,hp.cell]
 have hj:j<cs.length:=by
  rcases Nat.lt_or_ge j cs.length with c|c
  ·exact c
  ·rw[List.getElem?_eq_none c]at hv;cases hv
 simpa [List.getElem?_append_left hj]using hv⟩
theorem fE {g n:Nat}{cs:List Value}{T:TypeId}{fz:Nat × Nat}(h:cs.length=n):RdB W (pt g (.cells cs.toArray T fz)) (some ⟨g,0,none⟩) n cs:=⟨h,fun _=>⟨g,0,rfl,fun w L hw j v hv=>by rw[Nat.zero_add,hw.cell];simpa using hv⟩⟩
theorem Hg {g o n:Nat}{cs:List Value}(hl:cs.length=n)(hg:g<W.heap.size)(hc:∀j v,cs[j]? =some v->W.cell? ⟨g,o+j,none⟩=some v):RdB W A (some ⟨g,o,none⟩) n cs:=
 ⟨hl,fun _=>⟨g,o,rfl,fun w L hw j v hv=>by rw[hw.base.cell (p:=⟨g,o+j,none⟩) hg];exact hc j v hv⟩⟩
theorem RdB.cut {a:Option Addr}{n cap l h:Nat}{cs:List Value}(H:RdB W A a n cs)(h1:l<=h)(h2:h<=n)(h3:n<=cap):RdB W A (if cap=l then a else a.map (·.add (l * 1))) (h-l) ((cs.drop l).take (h-l)):=by
 have hl:=H.len
 refine⟨by simp;omega,fun hn=>?_⟩
 obtain⟨g,o,rfl,hc⟩:=H.at_ (by omega)
 rw[if_neg (by omega)]
 refine⟨g,o+l,by simp[dQ],fun w L hw j v hv=>?_⟩
 rw[Nat.add_assoc]
 refine hc w L hw (l+j) v ?_
 rw[List.getElem?_take]at hv
 split at hv
 ·rwa [List.getElem?_drop]at hv
 ·cases hv
theorem nk {tx e':TypeId}{a:Option Addr}{n cap:Nat}{cs:List Value}(hk:P.underlying tx=some (.slice e'))(p:Pick L A L')(H:RdB W A a n cs)(ha:a=none->n=0)(h1:∀u∈cs,u.oneCell'=true):
  ∀w,sat W L w->Src P 1 tx (.slice a n cap) n cs w:=fun w hw=>by
 have hl:=H.len
 rcases Nat.eq_zero_or_pos n with h0|hn
 ·subst h0
  have hcs:cs=[]:=List.eq_nil_of_length_eq_zero hl
  subst hcs
  cases a with
  |none=>exact Src.ofNil w hk cap
  |some ad=>exact Src.ofSlice w hk ad 0 cap [] (by simp) (fun j u hu=>by simp at hu) (by simp)
 ·obtain⟨g,o,rfl,hc⟩:=H.at_ hn
  exact Src.ofSlice w hk _ _ _ _ (by omega) (fun j u hu=>by rw[dQ];exact hc w L' (hw.pick p) j u hu) h1
theorem dI {t:TypeId}{g o n j:Nat}{cs:List Value}{v:Value}[ht:OneT P t](H:RdB W A (some ⟨g,o,none⟩) n cs)(hv:cs[j]? =some v):aT P W [A] (aL t (.pointer (some ⟨g,o+j,none⟩))) v:=fun w hw=>by
 have hl:=H.len
 have hj:j<cs.length:=by
  rcases Nat.lt_or_ge j cs.length with c|c
  ·exact c
  ·rw[List.getElem?_eq_none c]at hv;cases hv
 obtain⟨g',o',e,hc⟩:=H.at_ (by omega)
 injection e with e;injection e with e1 e2;subst e1;subst e2
 have h:=hc w [] hw j v hv
 simp[aL,Instr.loadAt,Instr.sureAddr,loadVar,ht.agg,h]

theorem iY {q:IntKind}{i:Int}{y:Nat}{c:BoundsCode}(j:Nat)(hi:i=(j:Int))(h:j<=y)(w:World):(Instr.sliceBound (.int q i) y c).run P w= .ok j w:=by
 subst hi
 have:(0:Int)<=j/\(j:Int)<=y:=⟨by omega,by omega⟩
 simp[Instr.sliceBound,asIntOf,this]
theorem Aq {t e:TypeId}{s b n cap:Nat}{a:Option Addr}{r:IntKind}{j:Int}(h:Nat)[ht:SlT P t e s b](hj:j=(h:Int))(h2:h<=cap):
  aT P W [] (oR t (.slice a n cap) none (some (.int r j)) none) (.slice (if cap=0 then a else a.map (·.add (0 * s))) h cap):=fun w _=>by
 obtain⟨inf,z,k1,_,k3,_⟩:=ht.info
 simp[oR,Instr.sliceAt,Instr.slice,Instr.sliceBounds,run_underlying ht.ut,iY h hj h2,ed k1,k3]
theorem lj {t e:TypeId}{s b n cap:Nat}{a:Option Addr}{q:IntKind}{i:Int}(l:Nat)[ht:SlT P t e s b](hi:i=(l:Int))(h1:l<=n):
  aT P W [] (oR t (.slice a n cap) (some (.int q i)) none none) (.slice (if cap=l then a else a.map (·.add (l * s))) (n-l) (cap-l)):=fun w _=>by
 obtain⟨inf,z,k1,_,k3,_⟩:=ht.info
 simp[oR,Instr.sliceAt,Instr.slice,Instr.sliceBounds,run_underlying ht.ut,iY l hi h1,ed k1,k3]

def B (c:UInt8):Value:= .int .u8 (c.toNat:Int)
instance {c:UInt8}:OC (B c):=⟨rfl⟩
theorem MD {l:List UInt8}:∀u∈l.map B,u.oneCell'=true:=by
 intro u hu;obtain⟨c,_,rfl⟩:=List.mem_map.1 hu;rfl
theorem ME {l:List UInt8}{j:Nat}(h:j<l.length):(l.map B)[j]? =some (B l[j]):=by simp[h]
def az (l:List UInt8):Value:= .string ⟨l.toArray⟩
instance {l:List UInt8}:OC (az l):=⟨rfl⟩
class StrT (P:Program)(t:TypeId):Prop where
 ut:P.underlying t=some .string
class BytesT (P:Program)(t:TypeId):Prop where
 ut:∃e,P.underlying t=some (.slice e)/\P.underlying e=some (.int .u8)
theorem ry {s t:TypeId}{a:Option Addr}{n cap:Nat}{l:List UInt8}[hs:BytesT P s][ht:StrT P t](H:RdB W A a n (l.map B))(ha:a=none->n=0):aT P W [A] (eF s t (.slice a n cap)) (az l):=fun w hw=>by
 obtain⟨e,h1,h2⟩:=hs.ut
 have hl:l.length=n:=by simpa using H.len
 have key:(Conv.bytesToString (.slice a n cap)).run P w= .ok (az l) w:=by
  rcases Nat.eq_zero_or_pos n with h0|hn
  ·subst h0
   have hl0:l=[]:=List.eq_nil_of_length_eq_zero hl
   subst hl0
   cases a with
   |none=>simp[Conv.bytesToString,az];rfl
   |some ad=>
    rw[run_bytesToString w ad 0 cap [] (by simp[loadCells,loadCellsFrom])]
    rfl
  ·obtain⟨g,o,rfl,hc⟩:=H.at_ hn
   have hlc:=run_loadCells_list (P:=P) w ⟨g,o,none⟩ (l.map B) (fun j v hv=>by rw[dQ];exact hc w [] hw j v hv)
   rw[List.length_map,hl]at hlc
   have hm:l.map B=(l.map fun c=>(c.toNat:Int)).map (Value.int .u8):=by simp[B,Function.comp_def]
   rw[hm]at hlc
   rw[run_bytesToString w _ n cap _ hlc]
   have hf:∀(m:List UInt8) (s:ByteArray),(m.map fun c=>(c.toNat:Int)).foldl (fun r n=>r.push (UInt8.ofNat n.toNat)) s=⟨s.data++m.toArray⟩:=by
    intro m
    induction m with
    |nil=>intro s;simp
    |cons c m ih=>
     intro s
     simp only[List.map_cons,List.foldl_cons,ih]
     simp[ByteArray.push]
   rw[hf]
   simp[az,ByteArray.empty,ByteArray.emptyWithCapacity]
   rfl
 have hcv:=run_convert_bytes_string (P:=P) w s t e a n cap h1 h2 ht.ut
 simp[eF,hcv,key]
theorem Ar {l m:List UInt8}:((⟨l.toArray⟩:ByteArray).toList==(⟨m.toArray⟩:ByteArray).toList)=decide (l=m):=by
 rw[ByteArray.toList_mk,ByteArray.toList_mk]
 by_cases h:l=m <;> simp[h]
theorem ew {t:TypeId}{ox oy:Operand}{l m:List UInt8}:aT P W [] (eo .eql t ox oy (az l) (az m)) (.bool (decide (l=m))):=fun w _=>by
 simp[eo,sv,eqGuard,az,binOp_string_eql]
 by_cases h:l=m <;> simp[h]
theorem ee {t:TypeId}{ox oy:Operand}{l m:List UInt8}:aT P W [] (eo .neq t ox oy (az l) (az m)) (.bool (decide (l≠m))):=fun w _=>by
 simp[eo,sv,eqGuard,az,binOp_string_neq]
 by_cases h:l=m <;> simp[h]
theorem bC {t ty:TypeId}{l:List UInt8}[ht:StrT P t]:aT P W [] (iL #[t] ty [az l]) (.int .i64 (l.length:Int)):=by
 have:=Hf (P:=P) (W:=W) (t:=t) (ty:=ty) (s:=⟨l.toArray⟩) ht.ut
 simpa [az,ByteArray.size]using this
theorem iZ {s:Nat}{e:TypeId}{S:WP}(h:aR W (Sl s e none 0 0 []::L) S):aR W L S:=bu (bO .refl) h
end Go.Proofs.YtdjkdjepjahjfaaGreatDoor.Sl
namespace Go.Proofs.YtdjkdjepjahjfaaGreatDoor.Sl
open Go Sh
structure Shp (P:Program)(f:FuncId)(args:List Value)(sh:PK->(Value->WP)->WP):Prop where
 call:∀(a:Array Value) (w:World),(callFunc f a).run P w= .ok (.enter f a) w
 run:∀ {Kp:PK} {K:Value->WP} {w:World},sh Kp K w->Calls P f args.toArray w (after Kp K)
theorem Vg {P:Program} {f:FuncId} {fn:Func} {an:Ann} {args:List Value} {sh:PK->(Value->WP)->WP} (hm:P.follows .mixedOrders=true) (hc:∀(a:Array Value) (w:World),(callFunc f a).run P w= .ok (.enter f a) w) (hf:P.funcs[f]? =some fn)
  (he:∀Kp K,Aa P an fn args Kp K=sh Kp K):Shp P f args sh:=⟨hc,fun {Kp K w} h=>ic (sj hm hf (an:=an) (args:=args) (cast (congrFun (he Kp K) w).symm h))⟩
theorem Tf {P:Program} {f:FuncId} {fn:Func} {an:Ann} {args:List Value} {sh:PK->(Value->WP)->WP} (hm:P.follows .mixedOrders=true) (hc:∀(a:Array Value) (w:World),(callFunc f a).run P w= .ok (.enter f a) w) (hf:P.funcs[f]? =some fn)
  (he:∀Kp K,wW P an fn args Kp K=sh Kp K):Shp P f args sh:=⟨hc,fun {Kp K w} h=>ic (qT hm hf (an:=an) (args:=args) (cast (congrFun (he Kp K) w).symm h))⟩
theorem Tg {P:Program} {f:FuncId} {fn:Func} {an:Ann} {args:List Value} {sh:PK->(Value->WP)->WP} (hm:P.follows .mixedOrders=true) (hc:∀(a:Array Value) (w:World),(callFunc f a).run P w= .ok (.enter f a) w) (hf:P.funcs[f]? =some fn)
  (he:∀Kp K,wX P an fn args Kp K=sh Kp K):Shp P f args sh:=⟨hc,fun {Kp K w} h=>ic (qW hm hf (an:=an) (args:=args) (cast (congrFun (he Kp K) w).symm h))⟩
theorem Shp.cn {P:Program}{W:World}{f:FuncId}{args:List Value}{sh:PK->(Value->WP)->WP}{α:Type}{A:List HP}{r:α->Value}{B:α->List HP}(H:Shp P f args sh)(h:∀F,aR W (A++F) (sh w5 fun v w=>∃x,v=r x/\sat W (B x++F) w)):Cn P f args W A r B:=
 Cn.of (shape:=sh) H.call H.run h
theorem Shp.cnP {P:Program}{W:World}{f:FuncId}{args:List Value}{sh:PK->(Value->WP)->WP}{α β:Type}{A:List HP}{r:α->Value}{B:α->List HP}{pc:β->List PanicEntry}{Bp:β->List HP}(H:Shp P f args sh)(h:∀F,aR W (A++F) (sh (fun ch w=>∃y,ch=pc y/\sat W (Bp y++F) w) fun v w=>∃x,v=r x/\sat W (B x++F) w)):CnP P f args W A r B pc Bp:=
 CnP.of (shape:=sh) H.call H.run h
end Go.Proofs.YtdjkdjepjahjfaaGreatDoor.Sl
namespace Go.Proofs.YtdjkdjepjahjfaaGreatDoor.Cl
open Go Sl Go.RowKit Go.ChangeShapes Go.WideShapes
variable {H:Type} {enc:TypeId × Value->H} {P:Program}
def w8 (P:Program)(ts:List TypeId):Bool:=ts.all fun t=>P.readableRec t&&decide (t<P.types.size)
theorem ll (hl:laidOutB P=true){W W':World}(hb:Below W.heap.size W W'):∀ {ts:List TypeId} {vs:List Value} {ds:List (DataW H)} {ps:List MemPlace},w8 P ts=true->
  DataW.TrodAll enc P W 0 (fun _=>true) true ts vs ds ps->(∀x∈ps,x.block<W.heap.size)->DataW.TrodAll enc P W' 0 (fun b=>decide (b<W.heap.size)) true ts vs ds ps
 |[],vs,ds,ps,_,h,_=>by
  obtain⟨rfl,rfl,rfl⟩:=trodAll_nil h
  exact trodAll_mk0
 |t::ts,vs,ds,ps,hr,h,hlt=>by
  obtain⟨v,vs',d,ds',p,q,rfl,rfl,rfl,h1,h2⟩:=trodAll_cons h
  simp only[w8,List.all_cons,Bool.and_eq_true,decide_eq_true_eq]at hr
  exact trodAll_cons_mk (Below.trod hl hr.1.1 hr.1.2 h1 hb fun x hx=>hlt x (by simp[hx])) (ll hl hb (by simpa [w8]using hr.2) h2 fun x hx=>hlt x (by simp[hx]))
theorem vN {fn:Func} {s:ChangeSpec} {W W':World} {args:Array Value} {ds gs:List (DataW H)} {before:List MemPlace} {t:TypeId} {apart:Bool}
  (hl:laidOutB P=true) (hts:w8 P fn.params.toList=true) (hvs:s.vars=[]) (hrt:fn.resultTypes= #[t]) (ht:P.underlying t=some .bool)
  (hW:DataW.Whole enc P fn.params.toList s.vars apart W args.toList ds gs before) (h1:(s.fn H (ds++gs)).results=[.lit (.bool true)]) (h2:(s.fn H (ds++gs)).args=ds) (h3:(s.fn H (ds++gs)).vars=gs)
  (hb:Below W.heap.size W W'):s.post enc P fn apart true false false W args (.bool true) W':=by
 have hW':=hW
 obtain⟨p,q,hA,hV,rfl,hz,hn⟩:=hW'
 have hlt:=hW.lt
 refine⟨ds,gs,p++q,[],p,q,hW,?_,?_,?_,hb.frame _,fun c=>by cases c⟩
 ·rw[h1,hrt]
  exact trodAll_cons_mk (shut_bool ht _) trodAll_mk0
 ·rw[h2]
  exact ll hl hb hts hA fun x hx=>hlt x (by simp[hx])
 ·rw[h3]
  rw[hvs]at hV ⊢
  obtain⟨rfl,rfl⟩:=trodVars_none hV
  rfl
theorem As {f:FuncId}{args:List Value}{W:World}{α:Type}{B:α->List HP}(h:Cn P f args W [] (fun _:α=> .bool true) B):Calls P f args.toArray W fun e w'=>e= .returned (.bool true)/\Below W.heap.size W w':=
 (h.run [] W (sat.start W)).mono fun e w' ⟨x,he,hs⟩=>⟨he,hs.base⟩
end Go.Proofs.YtdjkdjepjahjfaaGreatDoor.Cl
namespace Go.Proofs.YtdjkdjepjahjfaaGreatDoor.Sl
open Go Go.RowKit Sh
variable {P:Program} {W:World} {L L':List HP} {Kp:PK} {k:Value->WP} {A:HP}
theorem At {t e ty:TypeId}{s b:Nat}{a:Option Addr}{n cap:Nat}[ht:SlT P t e s b]:aT P W [] (yz #[t] ty [.slice a n cap]) (.int .i64 (cap:Int)):=fun w _=>by
 simp[yz,Builtin.cap_,run_underlying ht.ut,goInt]
theorem dp {t:TypeId}{n m g o j:Nat}{cs vs:List Value}[ht:AggT P t n](H:RdB W A (some ⟨g,o,none⟩) m cs)(hn:vs.length=n)(hc:∀i,i<n->cs[j+i]? =vs[i]?):aT P W [A] (aL t (.pointer (some ⟨g,o+j,none⟩))) (.agg vs.toArray):=fun w hw=>by
 have h:(loadCells ⟨g,o+j,none⟩ n).run P w= .ok vs.toArray w:=by
  subst hn
  refine run_loadCells_list (P:=P) w ⟨g,o+j,none⟩ vs (fun i v hv=>?_)
  have hi:i<vs.length:=by
   rcases Nat.lt_or_ge i vs.length with c|c
   ·exact c
   ·rw[List.getElem?_eq_none c]at hv;cases hv
  have hcv:=hc i hi
  rw[hv]at hcv
  have hl:=H.len
  have hlt:j+i<cs.length:=by
   rcases Nat.lt_or_ge (j+i) cs.length with c|c
   ·exact c
   ·rw[List.getElem?_eq_none c]at hcv;cases hcv
  obtain⟨g',o',e,hcell⟩:=H.at_ (by omega)
  injection e with e;injection e with e1 e2;subst e1;subst e2
  rw[dQ,Nat.add_assoc]
  exact hcell w [] hw (j+i) v hcv
 simp[aL,Instr.loadAt,Instr.sureAddr,loadVar,ht.agg,ht.size,h]
theorem tU {cs rest vs:List Value}{o n j:Nat}(hn:vs.length=n)(ho:o+n<=cs.length):(cs.take o++vs++cs.drop (o+n)++rest)[j]? =if o<=j/\j<o+n then vs[j-o]? else(cs++rest)[j]? :=by
 simp only[List.getElem?_append,List.length_append,List.length_take,List.length_drop,hn,Nat.min_eq_left (show o<=cs.length by omega),List.getElem?_take,List.getElem?_drop]
 repeat' split
 all_goals first|rfl|omega|(congr 1;omega)
theorem ef {s:Nat}{e:TypeId}{a:Option Addr}{cap n:Nat}{cs:List Value}(hl:cs.length=n * s)(ha:0<n->∃g,a=some ⟨g,0,none⟩):RdB W (Sl s e a cap n cs) a (n * s) cs:=⟨hl,fun hn=>by
 obtain⟨g,rfl⟩:=ha (by
  rcases Nat.eq_zero_or_pos n with z|z
  ·subst z;simp at hn
  ·exact z)
 refine⟨g,0,rfl,fun w L hw j v hv=>?_⟩
 obtain⟨rest,r1,r2,r3,r4,hp⟩:=jr hw
 rw[Nat.zero_add,hp.cell]
 have hj:j<cs.length:=by
  rcases Nat.lt_or_ge j cs.length with c|c
  ·exact c
  ·rw[List.getElem?_eq_none c]at hv;cases hv
 simpa [List.getElem?_append_left hj]using hv⟩
theorem sx {t e:TypeId}{s b:Nat}[ht:SlT P t e s b](h:∀g,aR W (Sl s e (some ⟨g,0,none⟩) 0 0 []::L) (k (.slice (some ⟨g,0,none⟩) 0 0))):aR W L (opN P (cm t 0 []) Kp k):=fun w hw=>by
 refine⟨?_⟩
 obtain⟨i,z,hi,hz,hs,hb,hzs⟩:=ht.info
 have e0:(Array.range 0).map (fun _=>(default:Value))= #[]:=Array.eq_empty_of_size_eq_zero (by simp)
 have:(cm t 0 []).run P w= .ok (.value (.slice (some ⟨w.heap.size,0,none⟩) 0 0)) (w.alloc (.cells #[] e)):=by
  simp[cm,Instr.buildSlice,run_underlying ht.ut,ed hi,newRow,Instr.fill]
  rw[e0]
 rw[this]
 exact h _ _ ((w7 (cs:=[]) .here (by simp) (by unfold maxLen;omega) .refl).sat (hw.alloc (.cells #[] e)))
theorem w9 {tx e':TypeId}{s:Nat}{a:Option Addr}{n cap:Nat}{cs:List Value}(hk:P.underlying tx=some (.slice e'))(hs:0<s)(p:Pick L A L')(H:RdB W A a (n * s) cs)(ha:a=none->n=0)(h1:∀u∈cs,u.oneCell'=true):
  ∀w,sat W L w->Src P s tx (.slice a n cap) n cs w:=fun w hw=>by
 have hl:=H.len
 rcases Nat.eq_zero_or_pos n with h0|hn
 ·subst h0
  have hcs:cs=[]:=List.eq_nil_of_length_eq_zero (by simpa using hl)
  subst hcs
  cases a with
  |none=>exact Src.ofNil w hk cap
  |some ad=>exact Src.ofSlice w hk ad 0 cap [] (by simp) (fun j u hu=>by simp at hu) (by simp)
 ·obtain⟨g,o,rfl,hc⟩:=H.at_ (Nat.mul_pos hn hs)
  exact Src.ofSlice w hk _ _ _ _ hl (fun j u hu=>by rw[dQ];exact hc w L' (hw.pick p) j u hu) h1
theorem xd {t:TypeId}{ox oy:Operand}{a b:Bool}(ht:P.underlying t=some .bool):aT P W [] (eo .eql t ox oy (.bool a) (.bool b)) (.bool (decide (a=b))):=fun w _=>by
 have h:(Op.equal t (.bool a) (.bool b)).run P w= .ok (a==b) w:=by
  unfold Op.equal Op.maxDepth Op.equalIn
  simp only[Sem.run_bind,run_underlying ht,Result.andThen_ok]
  rfl
 simp[eo,sv,eqGuard,binOp,h,Result.andThen]
 cases a <;> cases b <;> rfl
end Go.Proofs.YtdjkdjepjahjfaaGreatDoor.Sl
namespace Go.Proofs.YtdjkdjepjahjfaaGreatDoor.Sl
open Go Go.RowKit Sh
variable {P:Program} {W:World} {L L' L'':List HP} {Kp:PK} {k:Value->WP}
theorem xe {F:Nat->HP}{i:Nat}:∀(l:List Nat),i∈l->l.Nodup->∀ {h:f_},all (l.map F) W h->gf (F i) (all ((l.filter fun j=>decide (j≠i)).map F)) W h
 |[],hi,_,_,_=>by simp at hi
 |j::l,hi,hn,h,H=>by
  rw[List.nodup_cons]at hn
  by_cases c:j=i
  ·subst c
   have e:(List.filter (fun x=>decide (x≠j)) (j::l))=l:=by
    rw[List.filter_cons_of_neg (by simp)]
    exact List.filter_eq_self.2 fun x hx=>by
     simp only[ne_eq,decide_not,Bool.not_eq_eq_eq_not,Bool.not_true,decide_eq_false_iff_not]
     rintro rfl
     exact hn.1 hx
   rw[e]
   exact H
  ·have hi':i∈l:=by
    rcases List.mem_cons.1 hi with e|e
    ·exact absurd e.symm c
    ·exact e
   rw[List.filter_cons_of_pos (by simpa using c),List.map_cons]
   have:=eK (fun h=>xe (i:=i) l hi' hn.2 (h:=h)) H
   exact gX this
theorem Au {F:Nat->HP}{i:Nat}:∀(l:List Nat),i∈l->l.Nodup->∀ {h:f_},gf (F i) (all ((l.filter fun j=>decide (j≠i)).map F)) W h->all (l.map F) W h
 |[],hi,_,_,_=>by simp at hi
 |j::l,hi,hn,h,H=>by
  rw[List.nodup_cons]at hn
  by_cases c:j=i
  ·subst c
   have e:(List.filter (fun x=>decide (x≠j)) (j::l))=l:=by
    rw[List.filter_cons_of_neg (by simp)]
    exact List.filter_eq_self.2 fun x hx=>by
     simp only[ne_eq,decide_not,Bool.not_eq_eq_eq_not,Bool.not_true,decide_eq_false_iff_not]
     rintro rfl
     exact hn.1 hx
   rw[e]at H
   exact H
  ·have hi':i∈l:=by
    rcases List.mem_cons.1 hi with e|e
    ·exact absurd e.symm c
    ·exact e
   rw[List.filter_cons_of_pos (by simpa using c),List.map_cons]at H
   exact eK (fun h=>Au (i:=i) l hi' hn.2 (h:=h)) (gX H)
def BS (n:Nat)(F:Nat->HP):HP:=all ((List.range n).map F)
def BH (n:Nat)(F:Nat->HP)(i:Nat):HP:=all (((List.range n).filter fun j=>decide (j≠i)).map F)
theorem BH.congr {n i:Nat}{F F':Nat->HP}(h:∀j,j<n->j≠i->F j=F' j):BH n F i=BH n F' i:=by
 unfold BH
 congr 1
 exact List.map_congr_left fun j hj=>by
  rw[List.mem_filter]at hj
  exact h j (List.mem_range.1 hj.1) (by simpa using hj.2)
theorem oq {n:Nat}{F:Nat->HP}{S:WP}(p:Pick L (BS n F) L')(i:Nat)(hi:i<n)(h:aR W (F i::BH n F i::L') S):aR W L S:=fun w hw=>by
 refine h w (sat.map (L:=BS n F::L') (fun f H=>?_) (hw.pick p))
 have H2:gf (all [F i,BH n F i]) (all L') W f:=by
  obtain⟨h1,h2,ha,r⟩:=H
  refine⟨h1,h2,?_,r⟩
  obtain⟨k1,k2,b1,b2,d,t1,t2⟩:=xe (List.range n) (List.mem_range.2 hi) List.nodup_range ha
  exact⟨k1,k2,b1,⟨k2,fun _=>none,b2,trivial,fun _=> .inr rfl,fun _ _ c=>c,fun _ _ c=>by cases c⟩,d,t1,t2⟩
 exact b_ H2
theorem my {n:Nat}{F F':Nat->HP}{M:List HP}(i:Nat)(hi:i<n)(hF:∀j,j<n->j≠i->F j=F' j)(h:Imp W L (F' i::BH n F i::M)):Imp W L (BS n F'::M):=by
 refine .conv (B:=all [F' i,BH n F i]) (fun f H=>?_) (.all h)
 refine Au (List.range n) (List.mem_range.2 hi) List.nodup_range ?_
 have e:=BH.congr hF
 obtain⟨k1,k2,b1,⟨k3,k4,b2,_,_,t3,_⟩,d,t1,t2⟩:=H
 rw[e]at b2
 refine⟨k1,k3,b1,b2,fun j=>?_,t1,fun j o c=>t2 j o (t3 j o c)⟩
 rcases d j with c|c
 ·exact .inl c
 ·right
  cases c':k3 j with
  |none=>rfl
  |some o=>rw[t3 j o c']at c;cases c
theorem xh {F:Nat->HP}{M:List HP}(h:Imp W L M):Imp W L (BS 0 F::M):= .all (M:=M) (N:=[]) h
theorem sy {n:Nat}{F F':Nat->HP}{M:List HP}(hF:∀j,j<n->F j=F' j)(h:Imp W L (BS n F::F' n::M)):Imp W L (BS (n+1) F'::M):=by
 refine .conv (B:=all [BS n F,F' n]) (fun f H=>?_) (.all h)
 unfold BS
 rw[List.range_succ,List.map_append]
 refine b_ ?_
 obtain⟨k1,k2,b1,b2,d,t1,t2⟩:=H
 refine⟨k1,k2,?_,b2,d,t1,t2⟩
 have e:(List.range n).map F'=(List.range n).map F:=List.map_congr_left fun j hj=>(hF j (List.mem_range.1 hj)).symm
 rw[e];exact b1
theorem mz {s:Nat}{e:TypeId}{a:Option Addr}{cap n m:Nat}{cs:List Value}{S:WP}(p:Pick L (Sl s e a cap n cs) L')(hm:m<=n)(h:aR W (Sl s e a cap m (cs.take (m * s))::L') S):aR W L S:=by
 refine nh p (fun f H=>?_) h
 obtain⟨h1,h2,h3,h4⟩:=H
 have hms:m * s<=n * s:=Nat.mul_le_mul_right _ hm
 refine⟨by rw[List.length_take];omega,by omega,h3,?_⟩
 rcases h4 with ⟨rfl,rfl⟩|⟨g,rest,rfl,hr,hg⟩
 ·exact .inl ⟨rfl,rfl⟩
 ·refine .inr ⟨g,cs.drop (m * s)++rest,rfl,?_,?_⟩
  ·rw[List.length_append,List.length_drop,hr,h1,<- Nat.sub_mul,<- Nat.add_mul];congr 1;omega
  ·rw[<- List.append_assoc,List.take_append_drop];exact hg
theorem pL {t e:TypeId}{s b n cap:Nat}{g:Nat}{r:IntKind}{j:Int}(h:Nat)[ht:SlT P t e s b](hj:j=(h:Int))(h2:h<=cap):
  aT P W [] (oR t (.slice (some ⟨g,0,none⟩) n cap) none (some (.int r j)) none) (.slice (some ⟨g,0,none⟩) h cap):=by
 have:=Aq (P:=P) (W:=W) (t:=t) (n:=n) (a:=some ⟨g,0,none⟩) (r:=r) h hj h2
 have e:(if cap=0 then some (⟨g,0,none⟩:Addr)else(some (⟨g,0,none⟩:Addr)).map (·.add (0 * s)))=some ⟨g,0,none⟩:=by
  split
  ·rfl
  ·simp[dQ]
 rwa [e]at this
end Go.Proofs.YtdjkdjepjahjfaaGreatDoor.Sl
namespace Go.Proofs.YtdjkdjepjahjfaaGreatDoor.Sl
open Go Sh
variable {P:Program} {W:World} {L L' M F:List HP} {Kp:PK} {k:Value->WP} {S:WP}
theorem aA (h:Imp W L M:=by repeat(first|exact .refl|exact .nil|(apply Imp.pick;(focus ((repeat constructor);done)))|refine .drop ?_)):Imp W L M:=h
theorem aq {A B:Prop}(h:B)(e:A=B:=by first|(simp only[ca_,na_,-eq_self];exact rfl)|exact rfl):A:=e▸h
theorem o_ {s:Sem Next}{v:Value}(hr:aT P W [] s v)(h:aR W L (k v)):aR W L (opN P s Kp k):=aB hr .nil h
theorem t_ {s:Sem Next}{v:Value}(hr:aT P W [] s v)(h:aR W L (k v)):aR W L (stS P s k):=aP hr .nil h
theorem dm {A:List HP}{s:Sem Next}{v:Value}(hr:aT P W A s v)(h:aR W L (k v))(i:Imp W L A:=by exact .pick (by repeat constructor) .nil):aR W L (opN P s Kp k):=aB hr i h
theorem ii {A:List HP}{s:Sem Next}{v:Value}(hr:aT P W A s v)(h:aR W L (k v))(i:Imp W L A:=by exact .pick (by repeat constructor) .nil):aR W L (stS P s k):=aP hr i h
theorem aM {t:TypeId}{g o:Nat}{cs:List Value}{T:TypeId}{fz:Nat × Nat}{v:Value}[ht:OneT P t](h:aR W L (k v))(i:Imp W L [pt g (.cells cs.toArray T fz)]:=by exact .pick (by repeat constructor) .nil)(hc:Nth cs o v:=by repeat constructor):aR W L (opN P (aL t (.pointer (some ⟨g,o,none⟩))) Kp k):=aB (aQ hc) i h
theorem cu {t:TypeId}{g o:Nat}{cs:List Value}{T:TypeId}{fz:Nat × Nat}{v:Value}[ht:OneT P t](h:aR W L (k v))(i:Imp W L [pt g (.cells cs.toArray T fz)]:=by exact .pick (by repeat constructor) .nil)(hc:Nth cs o v:=by repeat constructor):aR W L (stS P (aL t (.pointer (some ⟨g,o,none⟩))) k):=aP (aQ hc) i h
theorem iS {t:TypeId}{n g:Nat}{cs:Array Value}{T:TypeId}{fz:Nat × Nat}[ht:AggT P t n](h:aR W L (k (.agg cs)))(i:Imp W L [pt g (.cells cs T fz)]:=by exact .pick (by repeat constructor) .nil)(hn:cs.size=n:=by rfl):aR W L (opN P (aL t (.pointer (some ⟨g,0,none⟩))) Kp k):=aB (bK hn) i h
theorem bU {t:TypeId}{g o:Nat}{cs cs':List Value}{T:TypeId}{v:Value}[ht:OneT P t][hv:OC v](h:aR W (pt g (.cells cs'.toArray T (0,0))::L') (k undef))(p:Pick L (pt g (.cells cs.toArray T (0,0))) L':=by repeat constructor)(ho:Put cs o v cs':=by repeat constructor):aR W L (opN P (aJ t (.pointer (some ⟨g,o,none⟩)) v) Kp k):=e_ p ho h
theorem VQ {t T:TypeId}{n g:Nat}{cs vs:Array Value}[ht:AggT P t n](h:aR W (pt g (.cells vs T (0,0))::L') (k undef))(p:Pick L (pt g (.cells cs T (0,0))) L':=by repeat constructor)(hn:cs.size=n:=by rfl)(hv:vs.size=n:=by rfl)(h1:∀u∈vs.toList,u.oneCell'=true:=by first|(simp[Value.oneCell'];done)|(intro u hu;simp at hu;rcases hu with rfl|rfl <;> rfl)|(intro u hu;simp at hu;rcases hu with rfl|rfl|rfl <;> rfl)):aR W L (opN P (aJ t (.pointer (some ⟨g,0,none⟩)) (.agg vs)) Kp k):=aG p hn hv h1 h
theorem bI {vs:List Value}{i:Nat}{v:Value}(h:aR W L (k v))(hc:Nth vs i v:=by repeat constructor):aR W L (opN P (kY (.tuple vs.toArray) i) Kp k):=aB (bk hc) .nil h
theorem zR {vs:List Value}{i:Nat}{v:Value}(h:aR W L (k v))(hc:Nth vs i v:=by repeat constructor):aR W L (stS P (kY (.tuple vs.toArray) i) k):=aP (bk hc) .nil h
theorem bS {t:TypeId}{a b:Int}(h:aR W L (k (.int .i64 (a+b))))(h1: -9223372036854775808<=a+b:=by omega)(h2:a+b<=9223372036854775807:=by omega):aR W L (opN P (bf .add t (.int .i64 a) (.int .i64 b)) Kp k):=aB (ie h1 h2) .nil h
theorem kN {t:TypeId}{a b:Int}(h:aR W L (k (.int .i64 (a-b))))(h1: -9223372036854775808<=a-b:=by omega)(h2:a-b<=9223372036854775807:=by omega):aR W L (opN P (bf .sub t (.int .i64 a) (.int .i64 b)) Kp k):=aB (gI h1 h2) .nil h
theorem c_ {α:Type}{f:FuncId}{args:List Value}{A:List HP}{r:α->Value}{B G:α->List HP}(hf:Cn P f args W A r B)(h:∀x,aR W (G x) (k (r x)))(p:Picks L A F:=by repeat(first|exact Picks.nil|(apply Picks.cons;(focus repeat constructor))))(e:∀x,B x++F=G x:=by intro _;first|(simp only[ca_,na_,-eq_self];exact rfl)|exact rfl):aR W L (opN P (bT (fn f) args) Kp k):=aj hf p fun x=>e x▸h x
theorem aY {A:List HP}(h:aR W L S)(i:Imp W L A:=by repeat(first|exact .refl|exact .nil|(apply Imp.pick;(focus ((repeat constructor);done)))|refine .drop ?_)):aR W L (fun w=>sat W A w/\S w):=om i h
theorem aO {α:Type}{φ:α->Prop}{M:α->List HP}(x:α)(i:Imp W L (M x))(hv:φ x:=by first|exact rfl|trivial):aR W L (fun w'=>∃x,φ x/\sat W (M x) w'):=fun w hw=>⟨x,hv,i.sat hw⟩
end Go.Proofs.YtdjkdjepjahjfaaGreatDoor.Sl
namespace Go.Proofs.YtdjkdjepjahjfaaGreatDoor.Sg
open Go Sh Sl
abbrev E:=List (Nat × Value)
def Th (b:Bool)(v:Value)(f:E->Value)(r:E):Value:=match b with
 |true=>v
 |false=>f r
theorem MF {v:Value}{f:E->Value}{r:E}:Th true v f r=v:=rfl
theorem MG {v:Value}{f:E->Value}{r:E}:Th false v f r=f r:=rfl
def lk (t:Nat):E->Value
 |[]=>undef
 |(i,v)::r=>match t==i with
  |true=>v
  |false=>lk t r
theorem Ti {t i:Nat}{v:Value}{r:E}:lk t ((i,v)::r)=Th (t==i) v (lk t) r:=rfl
def vq (e:E):Operand->Value
 | .tmp t=>lk t e
 | .const v=>v
 | .global g=> .pointer (some ⟨g,0,none⟩)
 | .func f=>fn f
theorem Tj {e:E}{t:Nat}:vq e (.tmp t)=lk t e:=rfl
def vo (e:E):Option Operand->Option Value
 |none=>none
 |some x=>some (vq e x)
def vl (e:E):List Operand->List Value
 |[]=>[]
 |x::r=>vq e x::vl e r
def vp (e:E):List (Nat × Operand)->List (Nat × Value)
 |[]=>[]
 |(i,x)::r=>(i,vq e x)::vp e r
def bi (ts:Array TypeId)(t:TypeId)(a:List Value):Builtin->Sem Next
 | .append=>jU ts t a
 | .len=>iL ts t a
 | .cap=>yz ts t a
 | .copy=>Ad ts t a
 | .delete=>tQ ts t a
 | .min=>Ha ts t a
 | .max=>DG ts t a
 | .clear=>sq ts t a
 |_=>pure .skip
def cl (e:E)(t:TypeId)(a:List Operand)(ts:Array TypeId):Callee->Sem Next
 | .value f=>bT (vq e f) (vl e a)
 | .invoke r n=>Ae (vq e r) n (vl e a)
 | .builtin b=>bi ts t (vl e a) b
def bn (e:E)(t:TypeId)(x y:Operand):BinOp->Sem Next
 | .eql=>eo .eql t x y (vq e x) (vq e y)
 | .neq=>eo .neq t x y (vq e x) (vq e y)
 |b=>bf b t (vq e x) (vq e y)
def og (e:E)(t:TypeId):Op->Sem Next
 | .pick a b c=>em (vq e a) (vq e b) (vq e c)
 | .alloc u=>cK u
 | .box u x=>kX u (vq e x)
 | .build u ps=>aD u (vp e ps.toList)
 | .buildSlice u n ps=>cm u n (vp e ps.toList)
 | .load u x=>aL u (vq e x)
 | .store u x y=>aJ u (vq e x) (vq e y)
 | .nilCheck x=>dB (vq e x)
 | .binOp b u x y _=>bn e u x y b
 | .unOp b _ x=>zQ b (vq e x)
 | .convert u s x=>eF u s (vq e x)
 | .slice u x l h m=>oR u (vq e x) (vo e l) (vo e h) (vo e m)
 | .fieldAddr u x i=>gB u (vq e x) i
 | .field u x i=>Te u (vq e x) i
 | .indexAddr u x i=>lH u (vq e x) (vq e i)
 | .index u x i=>ms u (vq e x) (vq e i)
 | .lookup u x i ok=>iW u (vq e x) (vq e i) ok
 | .mapUpdate u m k x=>gT u (vq e m) (vq e k) (vq e x)
 | .insert u m k x=>gT u (vq e m) (vq e k) (vq e x)
 | .mapEntry u m k=>DE u (vq e m) (vq e k)
 | .entryStore u m s x=>G9 u (vq e m) (vq e s) (vq e x)
 | .range u x=>sn u (vq e x)
 | .next x s=>py (vq e x) s t
 | .entry x=>G_ (vq e x)
 | .typeAssert x u a ok=>DF (vq e x) u a ok
 | .extract x i=>kY (vq e x) i
 | .makeInterface u x=>oF u (vq e x)
 | .makeFunc f a b=>nf f (vl e a.toList) (vl e b.toList)
 | .makeMap u r=>pz u (vo e r)
 | .makeSlice u l c=>wY u (vq e l) (vq e c)
 | .sliceToArrayPointer u x=>Mz u (vq e x)
 | .panic x=>pA (vq e x)
 | .call c=>cl e t c.args.toList c.argTypes c.callee
 |_=>pure .skip

inductive RO where
 |mv (x:Operand)
 |op (t:TypeId) (o:Op)
abbrev Gd:=Option (Nat × Bool)
inductive DO where
 |nil
 |a (d:Option Nat) (g:Gd) (o:RO) (r:DO)
 |b (d:Option Nat) (g:Gd) (o:RO) (l:List Nat) (r:DO)
 |s (d:Option Nat) (g:Gd) (o:RO) (r:DO)
 |c (k:Nat) (d:Option Nat) (g:Gd) (o:RO) (r:DO)
 |alt (x y:DO)
inductive D where
 |skip
 |reg (l:List (Option Nat × Gd × RO))
 |drw (t:DO)
 |seq (x y:D)
 |cut (l:List Nat) (x y:D)
 |cond (c:Operand) (x y:D)
 |blk (x:D)
 |bcut (l:List Nat) (x:D)
 |loop (l:List Nat) (x:D)
 |ex (n:Nat)
 |ret
 |bad
def ro (t:TypeId):Op->RO
 | .move x=> .mv x
 | .assign x=> .mv x
 |o=> .op t o
def Tl:List Oper->Nat->Nat
 |[],_=>0
 |o::_,0=>match o.dst with
  |some t=>t
  |none=>0
 |_::r,j+1=>Tl r j
def gd (all:List Oper):Option (Nat × Bool)->Gd
 |none=>none
 |some (j,w)=>some (Tl all j,w)
def Tn (all:List Oper):List Oper->List (Option Nat × Gd × RO)
 |[]=>[]
 |o::r=>(o.dst,gd all o.guard,ro o.type o.op)::Tn all r
def To:List Oper->Nat->Option Oper
 |[],_=>none
 |o::_,0=>some o
 |_::r,n+1=>To r n
def lo {α:Type}(k:Nat):List (Nat × α)->Option α
 |[]=>none
 |(i,x)::r=>match Nat.beq i k with
  |true=>some x
  |false=>lo k r
def FU (all:List Oper)(os:List (Nat × List Nat)):DT->DO
 | .nil=> .nil
 | .op k md t=>match To all k with
  |none=> .nil
  |some o=>match Nat.beq md 3 with
   |true=> .c k o.dst (gd all o.guard) (ro o.type o.op) (FU all os t)
   |false=>match Nat.beq md 0 with
    |false=> .s o.dst (gd all o.guard) (ro o.type o.op) (FU all os t)
    |true=>match lo k os with
     |none=> .a o.dst (gd all o.guard) (ro o.type o.op) (FU all os t)
     |some l=> .b o.dst (gd all o.guard) (ro o.type o.op) l (FU all os t)
 | .alt a b=> .alt (FU all os a) (FU all os b)
def fo (a b:Nat):Nat:=match Nat.beq a 1000000 with
 |true=>b
 |false=>a
def fi:Code->Nat
 | .region id _ _=>id
 | .seq a b=>fo (fi a) (fi b)
 | .cond _ a b=>fo (fi a) (fi b)
 | .block _ b=>fi b
 | .loop b=>fi b
 | .scope b=>fi b
 |_=>1000000
def pl:Code->Bool
 | .region .. =>true
 | .skip=>true
 | .label _=>true
 |_=>false
def ct (an:Ann)(x y:Code):Option (List Nat):=match pl x with
 |true=>lo (fi y) an.rcuts
 |false=>lo (fi y) an.cuts
def ix (i:Nat):List Nat->Nat
 |[]=>0
 |a0::r=>match Nat.beq i a0 with
  |true=>0
  |false=>match r with
   |[]=>0
   |a1::r=>match Nat.beq i a1 with
    |true=>1
    |false=>match r with
     |[]=>0
     |a2::r=>match Nat.beq i a2 with
      |true=>2
      |false=>match r with
       |[]=>0
       |a3::_=>match Nat.beq i a3 with
        |true=>3
        |false=>4
def ls {α:Type}:Option (List α)->List α
 |none=>[]
 |some l=>l
def dc (an:Ann)(os:List (Nat × List (Nat × List Nat))):List Nat->Code->D
 |_,.skip=> .skip
 |_,.region i ops d=>match d with
  |false=> .reg (Tn ops.toList ops.toList)
  |true=>match lo i an.drs with
   |none=> .bad
   |some t=> .drw (FU ops.toList (ls (lo i os)) t)
 |bl,.seq x y=>match ct an x y with
  |none=> .seq (dc an os bl x) (dc an os bl y)
  |some l=> .cut l (dc an os bl x) (dc an os bl y)
 |bl,.cond c x y=> .cond c (dc an os bl x) (dc an os bl y)
 |bl,.block i b=>match lo i an.blks with
  |none=> .blk (dc an os (i::bl) b)
  |some l=> .bcut l (dc an os (i::bl) b)
 |bl,.loop b=>match lo (fi b) an.loops with
  |none=> .bad
  |some l=> .loop l (dc an os bl b)
 |bl,.exit i=> .ex (ix i bl)
 |_,.ret=> .ret
 |_,.label _=> .skip
 |bl,.scope b=>dc an os bl b
 |_,_=> .bad

section
variable (Kp:PK)
def Av (e:E):RO->(Value->WP)->WP
 | .mv x=>fun k=>k (vq e x)
 | .op t o=>opN p_ (og e t o) Kp
def MH (e:E):RO->(Value->WP)->WP
 | .mv x=>fun k=>k (vq e x)
 | .op t o=>stS p_ (og e t o)
def Q5 (e:E):RO->(WP->Value->WP)->WP
 | .mv _=>fun _ _=>False
 | .op t o=>stD p_ (og e t o)
def has (k:Nat):List Nat->Bool
 |[]=>false
 |i::r=>match i==k with
  |true=>true
  |false=>has k r
def ob (l:List Nat):List (Nat × WP)->WP->WP
 |[],S=>S
 |(k,D)::r,S=>match has k l with
  |true=>fun w=>D w/\ob l r S w
  |false=>ob l r S
def pp (d:Option Nat)(v:Value)(e:E):E:=match d with
 |none=>e
 |some t=>(t,v)::e
def gk (g:Gd)(e:E)(body:(Value->WP)->WP)(k:Value->WP):WP:=match g with
 |none=>body k
 |some (t,w)=>gdK (lk t e) w body k
def MI (g:Gd)(e:E)(body:(WP->Value->WP)->WP)(k:WP->Value->WP):WP:=match g with
 |none=>body k
 |some (t,w)=>gdD (lk t e) w body k
def rw_ (K:E->WP):List (Option Nat × Gd × RO)->E->WP
 |[],e=>K e
 |(d,g,o)::r,e=>gk g e (Av Kp e o) fun v=>rw_ K r (pp d v e)
def dw (K:E->WP):DO->List (Nat × WP)->E->WP
 | .nil,_,e=>K e
 | .a d g o r,q,e=>gk g e (Av Kp e o) fun v=>dw K r q (pp d v e)
 | .b d g o l r,q,e=>gk g e (Av Kp e o) fun v=>ob l q (dw K r q (pp d v e))
 | .s d g o r,q,e=>gk g e (MH e o) fun v=>dw K r q (pp d v e)
 | .c k d g o r,q,e=>MI g e (Q5 e o) fun D v=>dw K r ((k,D)::q) (pp d v e)
 | .alt x y,q,e=>zZ (dw K x q e) (dw K y q e)
def Vh (l:List Nat)(B:(E->WP)->WP)(R:E->WP)(e:E):WP:=match l with
 |[]=>vK (fun J=>B fun _=>J) fun _=>R e
 |[a]=>sr (fun J=>B fun e'=>J (lk a e')) fun _ x=>R ((a,x)::e)
 |[a,b]=>pB (fun J=>B fun e'=>J (lk a e') (lk b e')) fun _ x y=>R ((a,x)::(b,y)::e)
 |[a,b,c]=>Ah (fun J=>B fun e'=>J (lk a e') (lk b e') (lk c e')) fun _ x y z=>R ((a,x)::(b,y)::(c,z)::e)
 |[a,b,c,d]=>Hb (fun J=>B fun e'=>J (lk a e') (lk b e') (lk c e') (lk d e')) fun _ x y z u=>R ((a,x)::(b,y)::(c,z)::(d,u)::e)
 |_=>fun _=>False
def VR (l:List Nat)(B:(E->WP)->E->WP)(e:E):WP:=match l with
 |[]=>Af (fun I m _=>B (fun _=>Ag I m) e)
 |[a]=>wZ (fun I m _ x=>B (fun e'=>tR I m (lk a e')) ((a,x)::e)) (lk a e)
 |[a,b]=>pD (fun I m _ x y=>B (fun e'=>pF I m (lk a e') (lk b e')) ((a,x)::(b,y)::e)) (lk a e) (lk b e)
 |[a,b,c]=>Ai (fun I m _ x y z=>B (fun e'=>Aj I m (lk a e') (lk b e') (lk c e')) ((a,x)::(b,y)::(c,z)::e)) (lk a e) (lk b e) (lk c e)
 |[a,b,c,d]=>FN (fun I m _ x y z u=>B (fun e'=>FO I m (lk a e') (lk b e') (lk c e') (lk d e')) ((a,x)::(b,y)::(c,z)::(d,u)::e)) (lk a e) (lk b e) (lk c e) (lk d e)
 |_=>fun _=>False
def kx:Nat->List (E->WP)->E->WP
 |_,[],_=>fun _=>False
 |0,x::_,e=>x e
 |n+1,_::r,e=>kx n r e
def cw:D->(E->WP)->List (E->WP)->(E->WP)->E->WP
 | .skip,k,_,_,e=>k e
 | .reg l,k,_,_,e=>rw_ Kp k l e
 | .drw t,k,_,_,e=>oO (dw Kp k t [] e)
 | .seq x y,k,X,R,e=>cw x (cw y k X R) X R e
 | .cut l x y,k,X,R,e=>Vh l (fun J=>cw x J X R e) (cw y k X R) e
 | .cond c x y,k,X,R,e=>condS (vq e c) (cw x k X R e) (cw y k X R e)
 | .blk x,k,X,R,e=>cw x k (k::X) R e
 | .bcut l x,k,X,R,e=>Vh l (fun J=>cw x J (J::X) R e) k e
 | .loop l x,_,X,R,e=>VR l (fun J e'=>cw x J X R e') e
 | .ex n,_,X,_,e=>kx n X e
 | .ret,_,_,R,e=>R e
 | .bad,_,_,_,_=>fun _=>False
end
section
variable {Kp:PK} {K k:E->WP} {X:List (E->WP)} {R:E->WP} {e:E} {d:Nat} {g:Gd} {o:RO} {r:List (Option Nat × Gd × RO)} {q:List (Nat × WP)} {t:DO} {l:List Nat} {x y:D} {a b a2 a3 a4:Nat} {w:Bool}
theorem MJ {v:Operand}:Av Kp e (.mv v)=fun k=>k (vq e v):=rfl
theorem MK {t:TypeId}{o:Op}:Av Kp e (.op t o)=opN p_ (og e t o) Kp:=rfl
theorem ML {v:Operand}:MH e (.mv v)=fun k=>k (vq e v):=rfl
theorem MM {t:TypeId}{o:Op}:MH e (.op t o)=stS p_ (og e t o):=rfl
theorem MN {t:TypeId}{o:Op}:Q5 e (.op t o)=stD p_ (og e t o):=rfl
theorem Tp {B:(Value->WP)->WP}{k:Value->WP}:gk none e B k=B k:=rfl
theorem Tq {B:(Value->WP)->WP}{k:Value->WP}:gk (some (a,w)) e B k=gdK (lk a e) w B k:=rfl
theorem MO {B:(WP->Value->WP)->WP}{k:WP->Value->WP}:MI none e B k=B k:=rfl
theorem MP {B:(WP->Value->WP)->WP}{k:WP->Value->WP}:MI (some (a,w)) e B k=gdD (lk a e) w B k:=rfl
theorem Tr:rw_ Kp K [] e=K e:=rfl
theorem Ts:rw_ Kp K ((none,g,o)::r) e=gk g e (Av Kp e o) fun _=>rw_ Kp K r e:=rfl
theorem Tt:rw_ Kp K ((some d,g,o)::r) e=gk g e (Av Kp e o) fun v=>rw_ Kp K r ((d,v)::e):=rfl
theorem Tu:dw Kp K .nil q e=K e:=rfl
theorem MQ:dw Kp K (.a none g o t) q e=gk g e (Av Kp e o) fun _=>dw Kp K t q e:=rfl
theorem MR:dw Kp K (.a (some d) g o t) q e=gk g e (Av Kp e o) fun v=>dw Kp K t q ((d,v)::e):=rfl
theorem MS:dw Kp K (.b none g o l t) q e=gk g e (Av Kp e o) fun _=>ob l q (dw Kp K t q e):=rfl
theorem MT:dw Kp K (.b (some d) g o l t) q e=gk g e (Av Kp e o) fun v=>ob l q (dw Kp K t q ((d,v)::e)):=rfl
theorem MU:dw Kp K (.s none g o t) q e=gk g e (MH e o) fun _=>dw Kp K t q e:=rfl
theorem MV:dw Kp K (.s (some d) g o t) q e=gk g e (MH e o) fun v=>dw Kp K t q ((d,v)::e):=rfl
theorem MW:dw Kp K (.c a none g o t) q e=MI g e (Q5 e o) fun D _=>dw Kp K t ((a,D)::q) e:=rfl
theorem MX:dw Kp K (.c a (some d) g o t) q e=MI g e (Q5 e o) fun D v=>dw Kp K t ((a,D)::q) ((d,v)::e):=rfl
theorem Hh {t u:DO}:dw Kp K (.alt t u) q e=zZ (dw Kp K t q e) (dw Kp K u q e):=rfl
theorem Tv {S:WP}:ob l [] S=S:=rfl
theorem Tw {S:WP}{D:WP}:ob l ((a,D)::q) S=(match has a l with
  |true=>fun w=>D w/\ob l q S w
  |false=>ob l q S):=rfl
theorem DJ:cw Kp .skip k X R e=k e:=rfl
theorem Hi:cw Kp (.reg r) k X R e=rw_ Kp k r e:=rfl
theorem Hj:cw Kp (.drw t) k X R e=oO (dw Kp k t [] e):=rfl
theorem Hk:cw Kp (.seq x y) k X R e=cw Kp x (cw Kp y k X R) X R e:=rfl
theorem MY:cw Kp (.cut [] x y) k X R e=vK (fun J=>cw Kp x (fun _=>J) X R e) fun _=>cw Kp y k X R e:=rfl
theorem MZ:cw Kp (.cut [a] x y) k X R e=sr (fun J=>cw Kp x (fun e'=>J (lk a e')) X R e) fun _ u=>cw Kp y k X R ((a,u)::e):=rfl
theorem M0:cw Kp (.cut [a,a2] x y) k X R e=pB (fun J=>cw Kp x (fun e'=>J (lk a e') (lk a2 e')) X R e) fun _ u u2=>cw Kp y k X R ((a,u)::(a2,u2)::e):=rfl
theorem M1:cw Kp (.cut [a,a2,a3] x y) k X R e=Ah (fun J=>cw Kp x (fun e'=>J (lk a e') (lk a2 e') (lk a3 e')) X R e) fun _ u u2 u3=>cw Kp y k X R ((a,u)::(a2,u2)::(a3,u3)::e):=rfl
theorem M2:cw Kp (.cut [a,a2,a3,a4] x y) k X R e=Hb (fun J=>cw Kp x (fun e'=>J (lk a e') (lk a2 e') (lk a3 e') (lk a4 e')) X R e) fun _ u u2 u3 u4=>cw Kp y k X R ((a,u)::(a2,u2)::(a3,u3)::(a4,u4)::e):=rfl
theorem M3:cw Kp (.bcut [] x) k X R e=vK (fun J=>cw Kp x (fun _=>J) ((fun _=>J)::X) R e) fun _=>k e:=rfl
theorem M4:cw Kp (.bcut [a] x) k X R e=sr (fun J=>cw Kp x (fun e'=>J (lk a e')) ((fun e'=>J (lk a e'))::X) R e) fun _ u=>k ((a,u)::e):=rfl
theorem M5:cw Kp (.bcut [a,a2] x) k X R e=pB (fun J=>cw Kp x (fun e'=>J (lk a e') (lk a2 e')) ((fun e'=>J (lk a e') (lk a2 e'))::X) R e) fun _ u u2=>k ((a,u)::(a2,u2)::e):=rfl
theorem M6:cw Kp (.bcut [a,a2,a3] x) k X R e=Ah (fun J=>cw Kp x (fun e'=>J (lk a e') (lk a2 e') (lk a3 e')) ((fun e'=>J (lk a e') (lk a2 e') (lk a3 e'))::X) R e) fun _ u u2 u3=>k ((a,u)::(a2,u2)::(a3,u3)::e):=rfl
theorem M7:cw Kp (.bcut [a,a2,a3,a4] x) k X R e=Hb (fun J=>cw Kp x (fun e'=>J (lk a e') (lk a2 e') (lk a3 e') (lk a4 e')) ((fun e'=>J (lk a e') (lk a2 e') (lk a3 e') (lk a4 e'))::X) R e) fun _ u u2 u3 u4=>k ((a,u)::(a2,u2)::(a3,u3)::(a4,u4)::e):=rfl
theorem DK {c:Operand}:cw Kp (.cond c x y) k X R e=condS (vq e c) (cw Kp x k X R e) (cw Kp y k X R e):=rfl
theorem Hl:cw Kp (.blk x) k X R e=cw Kp x k (k::X) R e:=rfl
theorem M8:cw Kp (.loop [] x) k X R e=Af (fun I m _=>cw Kp x (fun _=>Ag I m) X R e):=rfl
theorem M9:cw Kp (.loop [a] x) k X R e=wZ (fun I m _ u=>cw Kp x (fun e'=>tR I m (lk a e')) X R ((a,u)::e)) (lk a e):=rfl
theorem M_:cw Kp (.loop [a,a2] x) k X R e=pD (fun I m _ u u2=>cw Kp x (fun e'=>pF I m (lk a e') (lk a2 e')) X R ((a,u)::(a2,u2)::e)) (lk a e) (lk a2 e):=rfl
theorem Na:cw Kp (.loop [a,a2,a3] x) k X R e=Ai (fun I m _ u u2 u3=>cw Kp x (fun e'=>Aj I m (lk a e') (lk a2 e') (lk a3 e')) X R ((a,u)::(a2,u2)::(a3,u3)::e)) (lk a e) (lk a2 e) (lk a3 e):=rfl
theorem Nb:cw Kp (.loop [a,a2,a3,a4] x) k X R e=FN (fun I m _ u u2 u3 u4=>cw Kp x (fun e'=>FO I m (lk a e') (lk a2 e') (lk a3 e') (lk a4 e')) X R ((a,u)::(a2,u2)::(a3,u3)::(a4,u4)::e)) (lk a e) (lk a2 e) (lk a3 e) (lk a4 e):=rfl
theorem Hm:cw Kp .ret k X R e=R e:=rfl
theorem Nc {k0:E->WP}:cw Kp (.ex 0) k (k0::X) R e=k0 e:=rfl
theorem Nd {k0 k1:E->WP}:cw Kp (.ex 1) k (k0::k1::X) R e=k1 e:=rfl
theorem Nf {k0 k1 k2:E->WP}:cw Kp (.ex 2) k (k0::k1::k2::X) R e=k2 e:=rfl
theorem Ng {k0 k1 k2 k3:E->WP}:cw Kp (.ex 3) k (k0::k1::k2::k3::X) R e=k3 e:=rfl
theorem Nh {k0 k1 k2 k3 k4:E->WP}:cw Kp (.ex 4) k (k0::k1::k2::k3::k4::X) R e=k4 e:=rfl
end
def tp:List Value->Value
 |[]=> .tuple #[]
 |[v]=>v
 |[a,b]=> .tuple #[a,b]
 |[a,b,c]=> .tuple #[a,b,c]
 |l=> .tuple l.toArray
def rt (e:E)(K:Value->WP):List ResultVar->List Value->WP
 |[],acc=>K (tp acc)
 | .tmp t::r,acc=>rt e K r (acc++[lk t e])
 | .cell a t::r,acc=>stS p_ (dv t (lk a e)) fun v=>rt e K r (acc++[v])
theorem Tx {e:E}{K:Value->WP}{acc:List Value}:rt e K [] acc=K (tp acc):=rfl
theorem Ty {e:E}{K:Value->WP}{acc:List Value}{t:Nat}{r:List ResultVar}:rt e K (.tmp t::r) acc=rt e K r (acc++[lk t e]):=rfl
theorem Tz {e:E}{K:Value->WP}{acc:List Value}{a t:Nat}{r:List ResultVar}:rt e K (.cell a t::r) acc=stS p_ (dv t (lk a e)) fun v=>rt e K r (acc++[v]):=rfl
def en:List Value->E
 |[]=>[]
 |[v0]=>[(0,v0)]
 |[v0,v1]=>[(0,v0),(1,v1)]
 |[v0,v1,v2]=>[(0,v0),(1,v1),(2,v2)]
 |[v0,v1,v2,v3]=>[(0,v0),(1,v1),(2,v2),(3,v3)]
 |[v0,v1,v2,v3,v4]=>[(0,v0),(1,v1),(2,v2),(3,v3),(4,v4)]
 |[v0,v1,v2,v3,v4,v5]=>[(0,v0),(1,v1),(2,v2),(3,v3),(4,v4),(5,v5)]
 |[v0,v1,v2,v3,v4,v5,v6]=>[(0,v0),(1,v1),(2,v2),(3,v3),(4,v4),(5,v5),(6,v6)]
 |[v0,v1,v2,v3,v4,v5,v6,v7]=>[(0,v0),(1,v1),(2,v2),(3,v3),(4,v4),(5,v5),(6,v6),(7,v7)]
 |[v0,v1,v2,v3,v4,v5,v6,v7,v8]=>[(0,v0),(1,v1),(2,v2),(3,v3),(4,v4),(5,v5),(6,v6),(7,v7),(8,v8)]
 |_=>[]
theorem Ni:p_.follows .mixedOrders=true:=by kernel_rfl
theorem g_ {f:FuncId} {fn:Func} {args:List Value} (hc:∀(a:Array Value) (w:World),(callFunc f a).run p_ w= .ok (.enter f a) w) (hf:p_.funcs[f]? =some fn) (an:Ann:={}) (os:List (Nat × List (Nat × List Nat)):=[]) {c:Code} {rs:List ResultVar} {d:D} {b:PK->(Value->WP)->WP} (_:fn.body=some c:=by exact rfl) (_:fn.results=rs.toArray:=by exact rfl)
 (_:dc an os [] c=d:=by dsimp only[Sg.dc,Sg.ct,Sg.pl,Sg.fi,Sg.fo,Sg.lo,Sg.ls,Sg.ix,Sg.Tn,Sg.gd,Sg.Tl,Sg.ro,Sg.To,Sg.FU,Sh.DT.ofL] <;> exact rfl)
 (_:∀Kp K,cw Kp d (fun e=>rt e K rs []) [] (fun e=>rt e K rs []) (en args)=b Kp K:=by intro Kp K;dsimp only[Nat.reduceBEq,Sg.MF,Sg.MG,Sg.has,↓Sg.Ti,↓Sg.Tj,↓Sg.MJ,↓Sg.MK,↓Sg.ML,↓Sg.MM,↓Sg.MN,↓Sg.Tp,↓Sg.Tq,↓Sg.MO,↓Sg.MP,↓Sg.Tr,↓Sg.Ts,↓Sg.Tt,↓Sg.Tu,↓Sg.MQ,↓Sg.MR,↓Sg.MS,↓Sg.MT,↓Sg.MU,↓Sg.MV,↓Sg.MW,↓Sg.MX,↓Sg.Hh,↓Sg.Tv,↓Sg.Tw,↓Sg.DJ,↓Sg.Hi,↓Sg.Hj,↓Sg.Hk,↓Sg.MY,↓Sg.MZ,↓Sg.M0,↓Sg.M1,↓Sg.M2,↓Sg.M3,↓Sg.M4,↓Sg.M5,↓Sg.M6,↓Sg.M7,↓Sg.DK,↓Sg.Hl,↓Sg.M8,↓Sg.M9,↓Sg.M_,↓Sg.Na,↓Sg.Nb,↓Sg.Hm,↓Sg.Nc,↓Sg.Nd,↓Sg.Nf,↓Sg.Ng,↓Sg.Nh,↓Sg.Tx,↓Sg.Ty,↓Sg.Tz,Sg.og,Sg.bn,Sg.cl,Sg.bi,Sg.vq,Sg.vo,Sg.vl,Sg.vp,Sg.tp,Sg.en,List.nil_append,List.cons_append] <;> exact rfl)
 (he:∀Kp K,Aa p_ an fn args Kp K=b Kp K:=by intro _ _;kernel_rfl):Shp p_ f args b:=Vg Ni hc hf he
end Go.Proofs.YtdjkdjepjahjfaaGreatDoor.Sg
namespace Go.Proofs.YtdjkdjepjahjfaaGreatDoor.Sl
open Go Go.RowKit Sh
variable {P:Program} {W:World} {L L':List HP} {Kp:PK} {k:Value->WP}
theorem bE {t:TypeId}{a b:List UInt8}(h:a.length+b.length<=9223372036854775807):aT P W [] (bf .add t (az a) (az b)) (az (a++b)):=fun w _=>by
 have hm:¬(((a.length+b.length:Nat):Int) > IntKind.i64.max):=by
  have:IntKind.i64.max=9223372036854775807:=by decide
  rw[this];omega
 have e:(⟨a.toArray⟩:ByteArray)++⟨b.toArray⟩=⟨(a++b).toArray⟩:=by
  apply ByteArray.ext
  simp
 simp[bf,sv,eqGuard,az,binOp_string_add,Op.stringOp,e,ByteArray.size]
 omega
theorem nl {q:IntKind}{w:World}{i:Int}{y:Nat}{c:BoundsCode}(h:Nat)(hi:i=(h:Int))(hy:h<=y):(Instr.sliceBound (.int q i) y c).run P w= .ok h w:=by
 subst hi
 simp[Instr.sliceBound,asIntOf,hy]
theorem Aw {l:List UInt8}{h:Nat}(hh:h<=l.length):(⟨l.toArray⟩:ByteArray).extract 0 h=⟨(l.take h).toArray⟩:=by
 apply ByteArray.ext
 rw[ByteArray.data_extract]
 simp
theorem Ax {l:List UInt8}{h:Nat}:(⟨l.toArray⟩:ByteArray).extract h l.length=⟨(l.drop h).toArray⟩:=by
 apply ByteArray.ext
 rw[ByteArray.data_extract]
 simp
 exact List.take_of_length_le (by rw[List.length_drop];omega)
theorem j4 {t:TypeId}{l:List UInt8}{q:IntKind}{i:Int}(h:Nat)[ht:StrT P t](hi:i=(h:Int))(hh:h<=l.length):aT P W [] (oR t (az l) none (some (.int q i)) none) (az (l.take h)):=fun w _=>by
 have e:(⟨l.toArray⟩:ByteArray).size=l.length:=rfl
 simp[oR,Instr.sliceAt,Instr.slice,Instr.sliceBounds,run_underlying ht.ut,az,e,nl h hi hh,Aw hh]
theorem i4 {t:TypeId}{l:List UInt8}{q:IntKind}{i:Int}(h:Nat)[ht:StrT P t](hi:i=(h:Int))(hh:h<=l.length):aT P W [] (oR t (az l) (some (.int q i)) none none) (az (l.drop h)):=fun w _=>by
 have e:(⟨l.toArray⟩:ByteArray).size=l.length:=rfl
 simp[oR,Instr.sliceAt,Instr.slice,Instr.sliceBounds,run_underlying ht.ut,az,e,nl h hi hh,Ax]
theorem eP {t:TypeId}{l:List UInt8}{q:IntKind}{i:Int}(j:Nat)[ht:StrT P t](hi:i=(j:Int))(hh:j<l.length):aT P W [] (ms t (az l) (.int q i)) (B l[j]):=fun w _=>by
 subst hi
 have h2:j<(⟨l.toArray⟩:ByteArray).size:=hh
 have e:(⟨l.toArray⟩:ByteArray)[j]=l[j]:=by simp[ByteArray.getElem_eq_getElem_data]
 have:=run_index_string (P:=P) w t ⟨l.toArray⟩ q (j:Int) ht.ut
 rw[dif_pos ⟨by omega,by simpa using h2⟩]at this
 simp[ms,az,this,B]
 exact congrArg (fun c:UInt8=>(c.toNat:Int)) e
theorem iC {t e:TypeId}{n:Nat}{cs:Array Value}{v:Value}{q:IntKind}{i:Int}(j:Nat)[ht:ArrT P t n e 1][ho:OneT P e](hi:i=(j:Int))(hj:j<n)(hv:cs[j]? =some v):aT P W [] (ms t (.agg cs) (.int q i)) v:=fun w _=>by
 subst hi
 simp[ms,Instr.index,asIntOf,ht.ut,ht.size,hj,part,ho.agg,hv]
theorem mA {s t e:TypeId} {l:List UInt8} [hs:StrT P s] (ht:P.underlying t=some (.slice e)) (he:P.underlying e=some (.int .u8))
  (h:∀g c (rest:List Value) fz,aR W (pt g (.cells (l.map B++rest).toArray e fz)::L) (k (.slice (some ⟨g,0,none⟩) l.length c))):aR W L (opN P (eF s t (az l)) Kp k):=fun w hw=>by
 refine⟨?_⟩
 have hr:=run_bytes_of_string (P:=P) w s t e ⟨l.toArray⟩ hs.ut ht he
 have hb:bytesRow ⟨l.toArray⟩ (grownCap w l.length 0 e)=(l.map B++(Array.replicate (grownCap w l.length 0 e-l.length) (Value.int .u8 0)).toList).toArray:=by
  apply Array.ext'
  simp[bytesRow,B,ByteArray.size]
 have:(eF s t (az l)).run P w= .ok (.value (.slice (some ⟨w.heap.size,0,none⟩) l.length (grownCap w l.length 0 e))) (w.drew.alloc (.cells (bytesRow ⟨l.toArray⟩ (grownCap w l.length 0 e)) e ((bytesRow ⟨l.toArray⟩ (grownCap w l.length 0 e)).size,(bytesRow ⟨l.toArray⟩ (grownCap w l.length 0 e)).size+1))):=by
  simp[eF,az,hr,ByteArray.size]
 rw[this]
 have h2:=(hw.drew).alloc (.cells (bytesRow ⟨l.toArray⟩ (grownCap w l.length 0 e)) e ((bytesRow ⟨l.toArray⟩ (grownCap w l.length 0 e)).size,(bytesRow ⟨l.toArray⟩ (grownCap w l.length 0 e)).size+1))
 rw[hb]at h2 ⊢
 exact h _ _ _ _ _ h2
theorem sA {g : Nat} {e : TypeId} {fz : Nat × Nat} {cs rest : List Value} : RdB W (pt g (.cells (cs ++ rest).toArray e fz)) (some ⟨g, 0, none⟩) cs.length cs :=
 ⟨rfl, fun _ => ⟨g, 0, rfl, fun w L hw j v hv => by
  rw [Nat.zero_add, hw.cell]
  have hj : j < cs.length := by
   rcases Nat.lt_or_ge j cs.length with c | c
   ·exact c
   ·rw [List.getElem?_eq_none c] at hv; cases hv
  simpa [List.getElem?_append_left hj] using hv⟩⟩
end Go.Proofs.YtdjkdjepjahjfaaGreatDoor.Sl
