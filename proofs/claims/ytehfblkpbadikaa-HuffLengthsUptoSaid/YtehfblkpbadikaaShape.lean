/- A shape for walks: what the model's run of a function's code asks, written as nested continuations over plain values, and that it suffices. No program in sight; no conditions. -/
import Derived.OrdersIn
import Derived.TacticsIn
import Derived.Below
import Derived.Scope
namespace Go.Proofs.Ytehfblkpbadikaa.Sh

/-- what the slots hold; only the first n count -/
abbrev Env := Nat → Value
abbrev WP := World → Prop

def ev (n : Nat) (e : Env) : Operand → Value
  | .tmp t => match Nat.blt t n with
    | true => e t
    | false => undef
  | .const v => v
  | .global g => .pointer (some ⟨g, 0, none⟩)
  | .func f => .func (.func f) #[] #[]

def setE (e : Env) (d : Nat) (v : Value) : Env := fun i => match Nat.beq i d with
  | true => v
  | false => e i

def setD (e : Env) (d : Option Tmp) (v : Value) : Env :=
  match d with
  | some d => setE e d v
  | none => e

/-- an operation's run, and what is asked behind it -/
structure opN (P : Program) (s : Sem Next) (Kp : List PanicEntry → WP) (k : Value → WP) (w : World) : Prop where
  out : match s.run P w with
  | .ok (.value v) w' => k v w'
  | .ok .skip w' => k undef w'
  | .ok (.enter f args) w' => Calls P f args w' fun
      | .returned v, w'' => k v w''
      | .panicked ch, w'' => Kp ch w''
      | .outgrown, _ => False
  | .ok (.round l f tmps assign body) w' => RoundIn Fence.wide 0 P l f tmps assign body w' fun
      | .returned v, w'' => k v w''
      | .panicked ch, w'' => Kp ch w''
      | .outgrown, _ => False
  | .halt (.panic v) w' => Kp [{ v, recovered := false }] w'
  | _ => False

/-- an operation that leaves the world as it is -/
structure stS (P : Program) (s : Sem Next) (k : Value → WP) (w : World) : Prop where
  out : ∃ v, s.run P w = .ok (.value v) w ∧ k v w

/-- an operation that yields one value in every world of a class -/
structure stD (P : Program) (s : Sem Next) (k : WP → Value → WP) (w : World) : Prop where
  out : ∃ (D : WP) (v : Value), D w ∧ (∀ w', D w' → s.run P w' = .ok (.value v) w') ∧ k D v w

def gval (n : Nat) (ops : Array Oper) (e : Env) (j : Nat) : Value :=
  match (ops[j]?).bind (·.dst) with
  | some t => ev n e (.tmp t)
  | none => undef

def gdS (v : Value) (want : Bool) (A B : WP) (w : World) : Prop :=
  match v with
  | .bool b => if b = want then A w else B w
  | _ => B w

/-- a guarded operation, what follows written once -/
structure gdK (v : Value) (want : Bool) (body : (Value → WP) → WP) (k : Value → WP) (w : World) : Prop where
  out : gdS v want (body k) (k undef) w
structure gdD (v : Value) (want : Bool) (body : (WP → Value → WP) → WP) (k : WP → Value → WP) (w : World) : Prop where
  out : gdS v want (body k) (k (fun _ => True) undef) w

def gdO (n : Nat) (ops : Array Oper) (e : Env) (o : Oper) (body : (Value → WP) → WP) (k : Value → WP) : WP :=
  match o.guard with
  | none => body k
  | some (j, want) => gdK (gval n ops e j) want body k

def gdOD (n : Nat) (ops : Array Oper) (e : Env) (o : Oper) (body : (WP → Value → WP) → WP) (k : WP → Value → WP) : WP :=
  match o.guard with
  | none => body k
  | some (j, want) => gdD (gval n ops e j) want body k

structure condS (v : Value) (A B : WP) (w : World) : Prop where
  out : match v with
  | .bool true => A w
  | .bool false => B w
  | _ => False

/-- the operation over a list of values: as the model has it, its arguments taken one by one -/
def execL (n : Nat) (e : Env) (o : Oper) : Sem Next :=
  match o.op with
  | .build t ps => do pure (.value (← Instr.build t (ps.toList.map fun p => (p.1, ev n e p.2)).toArray))
  | .buildSlice t len ps => do pure (.value (← Instr.buildSlice t len (ps.toList.map fun p => (p.1, ev n e p.2)).toArray))
  | .makeFunc f a b => do pure (.value (← Instr.makeFunc f (a.toList.map (ev n e)).toArray (b.toList.map (ev n e)).toArray))
  | .call c => match c.callee with
    | .value f => do
      let d ← Deferred.ofValue (ev n e f) (c.args.toList.map (ev n e)).toArray
      invoke d.target d.args
    | .builtin .append => do pure (.value (← Builtin.append_ c.argTypes o.type (c.args.toList.map (ev n e)).toArray))
    | .builtin .len => do pure (.value (← Builtin.len_ c.argTypes o.type (c.args.toList.map (ev n e)).toArray))
    | .builtin .cap => do pure (.value (← Builtin.cap_ c.argTypes o.type (c.args.toList.map (ev n e)).toArray))
    | .builtin .copy => do pure (.value (← Builtin.copy_ c.argTypes o.type (c.args.toList.map (ev n e)).toArray))
    | .builtin .delete => do pure (.value (← Builtin.delete_ c.argTypes o.type (c.args.toList.map (ev n e)).toArray))
    | .builtin .min => do pure (.value (← Builtin.min_ c.argTypes o.type (c.args.toList.map (ev n e)).toArray))
    | .builtin .max => do pure (.value (← Builtin.max_ c.argTypes o.type (c.args.toList.map (ev n e)).toArray))
    | .builtin .clear => do pure (.value (← Builtin.clear_ c.argTypes o.type (c.args.toList.map (ev n e)).toArray))
    | .invoke r nm => invoke (.fn (.method nm) #[]) (#[ev n e r] ++ (c.args.toList.map (ev n e)).toArray)
    | _ => execOp (ev n e) o
  | _ => execOp (ev n e) o

/-- one operation: a move is none -/
def stepO (P : Program) (n : Nat) (e : Env) (o : Oper) (Kp : List PanicEntry → WP) (k : Value → WP) : WP :=
  match o.op with
  | .move x => k (ev n e x)
  | .assign x => k (ev n e x)
  | _ => opN P (execL n e o) Kp k

def stepS (P : Program) (n : Nat) (e : Env) (o : Oper) (k : Value → WP) : WP :=
  match o.op with
  | .move x => k (ev n e x)
  | .assign x => k (ev n e x)
  | _ => stS P (execL n e o) k

def evOps (P : Program) (n : Nat) (ops : Array Oper) (Kp : List PanicEntry → WP) (K : Env → WP) : List Oper → Env → WP
  | [], e => K e
  | o :: rest, e => gdO n ops e o (stepO P n e o Kp) fun v => evOps P n ops Kp K rest (setD e o.dst v)

/-- operation k waits for operation i, maybe by others -/
def depT (ops : Array Oper) : Nat → Nat → Nat → Bool
  | 0, _, _ => false
  | n + 1, k, i => match ops[k]? with
    | some o => o.after.toList.any fun e => Region.binds .any e && (e.on == i || depT ops n e.on i)
    | none => false

def obl : List (Nat × WP) → WP → WP
  | [], S => S
  | (_, D) :: r, S => fun w => D w ∧ obl r S w

def drawEv (P : Program) (n : Nat) (ops : Array Oper) (Kp : List PanicEntry → WP) (K : Env → WP) : List (Nat × Nat) → List (Nat × WP) → Env → WP
  | [], _, e => K e
  | (k, md) :: r, pend, e => match ops[k]? with
    | none => fun _ => False
    | some o => match md with
      | 0 => gdO n ops e o (stepO P n e o Kp) fun v => obl (pend.filter fun p => !depT ops ops.size k p.1) (drawEv P n ops Kp K r pend (setD e o.dst v))
      | 1 => gdO n ops e o (stepS P n e o) fun v => drawEv P n ops Kp K r pend (setD e o.dst v)
      | 2 => match o.op with
        | .move x => gdO n ops e o (fun c => c (ev n e x)) fun v => drawEv P n ops Kp K r pend (setD e o.dst v)
        | .assign x => gdO n ops e o (fun c => c (ev n e x)) fun v => drawEv P n ops Kp K r pend (setD e o.dst v)
        | _ => fun _ => False
      | _ => gdOD n ops e o (stD P (execL n e o)) fun D v => drawEv P n ops Kp K r ((k, D) :: pend) (setD e o.dst v)

/-- an order that may be walked: md 0: nothing else is ready; else: it may come first, and (md 1) whatever acts later waits for it -/
def okFrom (ops : Array Oper) : List (Nat × Nat) → Array Bool → Bool
  | [], E => (Region.ready .any ops E).isEmpty
  | (k, md) :: r, E =>
    (match md with
     | 0 => Region.ready .any ops E == [k]
     | _ => (Region.ready .any ops E).contains k && Region.free .any ops E k && (md != 1 || r.all fun p => p.2 != 0 || depT ops ops.size p.1 k)) && okFrom ops r (E.setIfInBounds k true)

def okDraw (ops : Array Oper) (r : List (Nat × Nat)) : Bool := Region.noSelect ops && r.length == ops.size && okFrom ops r (Array.replicate ops.size false)

def drS (S : WP) (w : World) : Prop := S { w with drawn := w.drawn + 1 }

@[reducible] def VF : Nat → Type → Type
  | 0, α => α
  | n + 1, α => Value → VF n α

def vapp {α : Type} : (n : Nat) → VF n α → List Value → α
  | 0, f, _ => f
  | n + 1, f, vs => vapp n (f (vs.headD undef)) vs.tail

def allVL : Nat → (List Value → Prop) → Prop
  | 0, f => f []
  | n + 1, f => ∀ v, allVL n fun l => f (v :: l)

def setAll : Env → List Nat → List Value → Env
  | e, [], _ => e
  | e, i :: is, vs => setAll (setE e i (vs.headD undef)) is vs.tail

def upd (e : Env) (dead : List Nat) (ds : List Value) (live : List Nat) (vs : List Value) : Env := setAll (setAll e dead ds) live vs

def gets (e : Env) (l : List Nat) : List Value := l.map e

def cutG (n : Nat) (body : VF n WP → WP) (rest : List Value → List Value → WP) (w : World) : Prop :=
  ∃ J : VF n WP, (∀ ds, allVL n fun vs => ∀ w', vapp n J vs w' → rest ds vs w') ∧ body J w

def loopG (n : Nat) (body : (Nat → VF n WP) → Nat → List Value → List Value → WP) (vs0 : List Value) (w : World) : Prop :=
  ∃ I : Nat → VF n WP, (∃ m, vapp n (I m) vs0 w) ∧ ∀ m ds, allVL n fun vs => ∀ w', vapp n (I m) vs w' → body I m ds vs w'

def nextG (n : Nat) (I : Nat → VF n WP) (m : Nat) (vs : List Value) (w : World) : Prop := ∃ m', m' < m ∧ vapp n (I m') vs w

structure Ann where
  cuts : List (Nat × List Nat) := []
  blks : List (Nat × List Nat) := []
  loops : List (Nat × List Nat) := []
  drs : List (Nat × List (Nat × Nat)) := []

def look {α : Type} (k : Nat) : List (Nat × α) → Option α
  | [] => none
  | (i, x) :: r => if i = k then some x else look k r

def firstId : Code → Nat
  | .region id _ _ => id
  | .seq a b => let n := firstId a; if n = 1000000 then firstId b else n
  | .cond _ a b => let n := firstId a; if n = 1000000 then firstId b else n
  | .block _ b => firstId b
  | .loop b => firstId b
  | .scope b => firstId b
  | _ => 1000000

def wr : Code → List Nat
  | .region _ ops _ => ops.toList.filterMap (·.dst)
  | .seq a b => wr a ++ wr b
  | .cond _ a b => wr a ++ wr b
  | .block _ b => wr b
  | .loop b => wr b
  | .scope b => wr b
  | _ => []

/-- fit for a round: no call deferred, no scope -/
def opDf? (o : Oper) : Bool := match o.op with
  | .defer _ => true
  | _ => false
def noDf : Code → Bool
  | .region _ ops _ => ops.toList.all fun o => !opDf? o
  | .seq a b => noDf a && noDf b
  | .cond _ a b => noDf a && noDf b
  | .block _ b => noDf b
  | .loop b => noDf b
  | .scope _ => false
  | _ => true

def isPlain : Code → Bool
  | .region .. | .skip | .label _ => true
  | _ => false

def deadOf (c : Code) (live : List Nat) : List Nat := (wr c).filter fun i => !live.contains i

abbrev KT := Exit → Env → WP

def kSeq (K : KT) (k : Env → WP) : KT
  | .normal, e => k e
  | .exit id, e => K (.exit id) e
  | .goto l, e => K (.goto l) e
  | .ret, e => K .ret e
  | .panic c, e => K (.panic c) e
  | .outgrown, e => K .outgrown e

def kBlk (K : KT) (id : Nat) (k : Env → WP) : KT
  | .normal, e => k e
  | .exit id', e => if id' = id then k e else K (.exit id') e
  | .goto l, e => K (.goto l) e
  | .ret, e => K .ret e
  | .panic c, e => K (.panic c) e
  | .outgrown, e => K .outgrown e

def kScope (K : KT) : KT
  | .goto _, _ => fun _ => False
  | .normal, e => K .normal e
  | .exit id, e => K (.exit id) e
  | .ret, e => K .ret e
  | .panic c, e => K (.panic c) e
  | .outgrown, e => K .outgrown e

def cev (P : Program) (n : Nat) (an : Ann) (Kp : List PanicEntry → WP) : Code → KT → Env → WP
  | .skip, K, e => K .normal e
  | .region id ops draw, K, e => match draw with
    | false => evOps P n ops Kp (K .normal) ops.toList e
    | true => match look id an.drs with
      | some r => match okDraw ops r with
        | true => drS (drawEv P n ops Kp (K .normal) r [] e)
        | false => fun _ => False
      | none => fun _ => False
  | .seq x y, K, e => match (match isPlain x with | true => none | false => look (firstId y) an.cuts) with
    | none => cev P n an Kp x (kSeq K (cev P n an Kp y K)) e
    | some live => cutG live.length (fun J => cev P n an Kp x (kSeq K fun e' => vapp live.length J (gets e' live)) e) fun ds vs => cev P n an Kp y K (upd e (deadOf x live) ds live vs)
  | .cond c x y, K, e => condS (ev n e c) (cev P n an Kp x K e) (cev P n an Kp y K e)
  | .block id b, K, e => match look id an.blks with
    | none => cev P n an Kp b (kBlk K id (K .normal)) e
    | some live => cutG live.length (fun J => cev P n an Kp b (kBlk K id fun e' => vapp live.length J (gets e' live)) e) fun ds vs => K .normal (upd e (deadOf b live) ds live vs)
  | .loop b, K, e => match look (firstId b) an.loops with
    | none => fun _ => False
    | some live => loopG live.length (fun I m ds vs => cev P n an Kp b (kSeq K fun e' => nextG live.length I m (gets e' live)) (upd e (deadOf b live) ds live vs)) (gets e live)
  | .exit id, K, e => K (.exit id) e
  | .ret, K, e => K .ret e
  | .label _, K, e => K .normal e
  | .scope b, K, e => cev P n an Kp b (kScope K) e
  | _, _, _ => fun _ => False

end Go.Proofs.Ytehfblkpbadikaa.Sh
