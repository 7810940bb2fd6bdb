/- Names for the shape's pieces, as a function's printed shape uses them. No conditions. -/
import Derived.Test.YtehfblkpbadikaaRange
namespace Go.Proofs.Ytehfblkpbadikaa.Sh
open Go

abbrev PK := List PanicEntry → WP

def sv (s : Sem Value) : Sem Next := do pure (.value (← s))
@[irreducible] def sPick (c a b : Value) : Sem Next := execOp (fun | .tmp 0 => c | .tmp 1 => a | _ => b) { dst := none, op := .pick (.tmp 0) (.tmp 1) (.tmp 2), type := 0, pos := "", after := #[], guard := none }
@[irreducible] def sAlloc (t : TypeId) : Sem Next := do pure (.value (← Instr.alloc t true (.tuple #[])))
@[irreducible] def sBox (t : TypeId) (v : Value) : Sem Next := do pure (.value (← Instr.box t v))
@[irreducible] def sBuild (t : TypeId) (ps : List (Nat × Value)) : Sem Next := do pure (.value (← Instr.build t ps.toArray))
@[irreducible] def sBuildSl (t : TypeId) (n : Nat) (ps : List (Nat × Value)) : Sem Next := do pure (.value (← Instr.buildSlice t n ps.toArray))
@[irreducible] def sLoad (t : TypeId) (x : Value) : Sem Next := do pure (.value (← Instr.loadAt t x))
@[irreducible] def sStore (t : TypeId) (x v : Value) : Sem Next := do Instr.storeAt t x v; pure .skip
@[irreducible] def sNil (x : Value) : Sem Next := execOp (fun _ => x) { dst := none, op := .nilCheck (.tmp 0), type := 0, pos := "", after := #[], guard := none }
@[irreducible] def sBin (op : BinOp) (t : TypeId) (x y : Value) : Sem Next := sv (do eqGuard op t (.tmp 0) (.tmp 0) x y; binOp op t x y)
@[irreducible] def sEq (op : BinOp) (t : TypeId) (ox oy : Operand) (x y : Value) : Sem Next := sv (do eqGuard op t ox oy x y; binOp op t x y)
@[irreducible] def sUn (op : UnOp) (x : Value) : Sem Next := do pure (.value (← Op.unary op x))
@[irreducible] def sConv (s t : TypeId) (x : Value) : Sem Next := do pure (.value (← convert s t x))
@[irreducible] def sSl (t : TypeId) (x : Value) (l h m : Option Value) : Sem Next := do pure (.value (← Instr.sliceAt t x l h m))
@[irreducible] def sFA (t : TypeId) (x : Value) (f : Nat) : Sem Next := do pure (.value (← Instr.fieldAt t x f))
@[irreducible] def sFld (t : TypeId) (x : Value) (f : Nat) : Sem Next := do pure (.value (← Instr.field t x f))
@[irreducible] def sIA (t : TypeId) (x i : Value) : Sem Next := do pure (.value (← Instr.indexAt t x i))
@[irreducible] def sIx (t : TypeId) (x i : Value) : Sem Next := do pure (.value (← Instr.index t x i))
@[irreducible] def sLook (t : TypeId) (x i : Value) (ok : Bool) : Sem Next := do pure (.value (← Instr.lookup t x i ok))
@[irreducible] def sMapSet (t : TypeId) (m k v : Value) : Sem Next := do Instr.mapUpdate t m k v; pure .skip
@[irreducible] def sMapEnt (t : TypeId) (m k : Value) : Sem Next := do pure (.value (← Instr.mapEntry t m k))
@[irreducible] def sEntSt (t : TypeId) (m s v : Value) : Sem Next := do Instr.entryStore t m s v; pure .skip
@[irreducible] def sRange (t : TypeId) (x : Value) : Sem Next := do pure (.value (← Instr.range t x))
@[irreducible] def sNext (it : Value) (str : Bool) (t : TypeId) : Sem Next := do pure (.value (← Instr.next it str t))
@[irreducible] def sEntry (it : Value) : Sem Next := do pure (.value (← Instr.entry it))
@[irreducible] def sTA (x : Value) (t a : TypeId) (ok : Bool) : Sem Next := do pure (.value (← Instr.typeAssert x t a ok))
@[irreducible] def sExt (x : Value) (i : Nat) : Sem Next := do pure (.value (← Instr.extract x i))
@[irreducible] def sMkI (t : TypeId) (x : Value) : Sem Next := do pure (.value (← Instr.makeInterface t x))
@[irreducible] def sMkF (f : Fn) (a b : List Value) : Sem Next := do pure (.value (← Instr.makeFunc f a.toArray b.toArray))
@[irreducible] def sMkMap (t : TypeId) (r : Option Value) : Sem Next := do pure (.value (← Instr.makeMap t r))
@[irreducible] def sMkSl (t : TypeId) (l c : Value) : Sem Next := do pure (.value (← Instr.makeSlice t l c))
@[irreducible] def sArrP (t : TypeId) (x : Value) : Sem Next := do pure (.value (← Instr.arrayAt t x))
@[irreducible] def sPanic (x : Value) : Sem Next := do pure (.value (← Instr.panic x))
@[irreducible] def sApp (ts : Array TypeId) (t : TypeId) (a : List Value) : Sem Next := do pure (.value (← Builtin.append_ ts t a.toArray))
@[irreducible] def sLen (ts : Array TypeId) (t : TypeId) (a : List Value) : Sem Next := do pure (.value (← Builtin.len_ ts t a.toArray))
@[irreducible] def sCap (ts : Array TypeId) (t : TypeId) (a : List Value) : Sem Next := do pure (.value (← Builtin.cap_ ts t a.toArray))
@[irreducible] def sCopy (ts : Array TypeId) (t : TypeId) (a : List Value) : Sem Next := do pure (.value (← Builtin.copy_ ts t a.toArray))
@[irreducible] def sDel (ts : Array TypeId) (t : TypeId) (a : List Value) : Sem Next := do pure (.value (← Builtin.delete_ ts t a.toArray))
@[irreducible] def sMin (ts : Array TypeId) (t : TypeId) (a : List Value) : Sem Next := do pure (.value (← Builtin.min_ ts t a.toArray))
@[irreducible] def sMax (ts : Array TypeId) (t : TypeId) (a : List Value) : Sem Next := do pure (.value (← Builtin.max_ ts t a.toArray))
@[irreducible] def sClear (ts : Array TypeId) (t : TypeId) (a : List Value) : Sem Next := do pure (.value (← Builtin.clear_ ts t a.toArray))
@[irreducible] def sCall (f : Value) (a : List Value) : Sem Next := do
  let d ← Deferred.ofValue f a.toArray
  invoke d.target d.args
@[irreducible] def sInv (r : Value) (nm : String) (a : List Value) : Sem Next := invoke (.fn (.method nm) #[]) (#[r] ++ a.toArray)
def fn (f : FuncId) : Value := .func (.func f) #[] #[]
/-- what is asked behind a call -/
def after (Kp : PK) (K : Value → WP) : Ending → World → Prop
  | .returned v, w => K v w
  | .panicked ch, w => Kp ch w
  | .outgrown, _ => False
theorem calls_of_shape {P : Program} {f : FuncId} {args : Array Value} {w : World} {Kp : PK} {K : Value → WP} (h : Calls P f args w fun
      | .returned v, w' => K v w'
      | .panicked ch, w' => Kp ch w'
      | .outgrown, _ => False) : Calls P f args w (after Kp K) := h.mono fun e w' h => by cases e <;> exact h
/-- a result that stands in memory -/
@[irreducible] def sRes (t : TypeId) (x : Value) : Sem Next := do pure (.value (← do loadVar t (← asAddr x)))

def cut0 (body : (WP) → WP) (rest : List Value → WP) (w : World) : Prop :=
  ∃ J : WP, (∀ (ds : List Value) (w' : World), J w' → rest ds w') ∧ body J w
def loop0 (body : (Nat → WP) → Nat → List Value → WP) (w : World) : Prop :=
  ∃ I : Nat → WP, (∃ m, I m w) ∧ ∀ (m : Nat) (ds : List Value) (w' : World), I m w' → body I m ds w'
def next0 (I : Nat → WP) (m : Nat) (w : World) : Prop := ∃ m', m' < m ∧ I m' w

def cut1 (body : (Value → WP) → WP) (rest : List Value → Value → WP) (w : World) : Prop :=
  ∃ J : Value → WP, (∀ (ds : List Value) (x0 : Value) (w' : World), J x0 w' → rest ds x0 w') ∧ body J w
def loop1 (body : (Nat → Value → WP) → Nat → List Value → Value → WP) (x0 : Value) (w : World) : Prop :=
  ∃ I : Nat → Value → WP, (∃ m, I m x0 w) ∧ ∀ (m : Nat) (ds : List Value) (y0 : Value) (w' : World), I m y0 w' → body I m ds y0 w'
def next1 (I : Nat → Value → WP) (m : Nat) (x0 : Value) (w : World) : Prop := ∃ m', m' < m ∧ I m' x0 w

def cut2 (body : (Value → Value → WP) → WP) (rest : List Value → Value → Value → WP) (w : World) : Prop :=
  ∃ J : Value → Value → WP, (∀ (ds : List Value) (x0 x1 : Value) (w' : World), J x0 x1 w' → rest ds x0 x1 w') ∧ body J w
def loop2 (body : (Nat → Value → Value → WP) → Nat → List Value → Value → Value → WP) (x0 x1 : Value) (w : World) : Prop :=
  ∃ I : Nat → Value → Value → WP, (∃ m, I m x0 x1 w) ∧ ∀ (m : Nat) (ds : List Value) (y0 y1 : Value) (w' : World), I m y0 y1 w' → body I m ds y0 y1 w'
def next2 (I : Nat → Value → Value → WP) (m : Nat) (x0 x1 : Value) (w : World) : Prop := ∃ m', m' < m ∧ I m' x0 x1 w

def cut3 (body : (Value → Value → Value → WP) → WP) (rest : List Value → Value → Value → Value → WP) (w : World) : Prop :=
  ∃ J : Value → Value → Value → WP, (∀ (ds : List Value) (x0 x1 x2 : Value) (w' : World), J x0 x1 x2 w' → rest ds x0 x1 x2 w') ∧ body J w
def loop3 (body : (Nat → Value → Value → Value → WP) → Nat → List Value → Value → Value → Value → WP) (x0 x1 x2 : Value) (w : World) : Prop :=
  ∃ I : Nat → Value → Value → Value → WP, (∃ m, I m x0 x1 x2 w) ∧ ∀ (m : Nat) (ds : List Value) (y0 y1 y2 : Value) (w' : World), I m y0 y1 y2 w' → body I m ds y0 y1 y2 w'
def next3 (I : Nat → Value → Value → Value → WP) (m : Nat) (x0 x1 x2 : Value) (w : World) : Prop := ∃ m', m' < m ∧ I m' x0 x1 x2 w

def cut4 (body : (Value → Value → Value → Value → WP) → WP) (rest : List Value → Value → Value → Value → Value → WP) (w : World) : Prop :=
  ∃ J : Value → Value → Value → Value → WP, (∀ (ds : List Value) (x0 x1 x2 x3 : Value) (w' : World), J x0 x1 x2 x3 w' → rest ds x0 x1 x2 x3 w') ∧ body J w
def loop4 (body : (Nat → Value → Value → Value → Value → WP) → Nat → List Value → Value → Value → Value → Value → WP) (x0 x1 x2 x3 : Value) (w : World) : Prop :=
  ∃ I : Nat → Value → Value → Value → Value → WP, (∃ m, I m x0 x1 x2 x3 w) ∧ ∀ (m : Nat) (ds : List Value) (y0 y1 y2 y3 : Value) (w' : World), I m y0 y1 y2 y3 w' → body I m ds y0 y1 y2 y3 w'
def next4 (I : Nat → Value → Value → Value → Value → WP) (m : Nat) (x0 x1 x2 x3 : Value) (w : World) : Prop := ∃ m', m' < m ∧ I m' x0 x1 x2 x3 w

def cut5 (body : (Value → Value → Value → Value → Value → WP) → WP) (rest : List Value → Value → Value → Value → Value → Value → WP) (w : World) : Prop :=
  ∃ J : Value → Value → Value → Value → Value → WP, (∀ (ds : List Value) (x0 x1 x2 x3 x4 : Value) (w' : World), J x0 x1 x2 x3 x4 w' → rest ds x0 x1 x2 x3 x4 w') ∧ body J w
def loop5 (body : (Nat → Value → Value → Value → Value → Value → WP) → Nat → List Value → Value → Value → Value → Value → Value → WP) (x0 x1 x2 x3 x4 : Value) (w : World) : Prop :=
  ∃ I : Nat → Value → Value → Value → Value → Value → WP, (∃ m, I m x0 x1 x2 x3 x4 w) ∧ ∀ (m : Nat) (ds : List Value) (y0 y1 y2 y3 y4 : Value) (w' : World), I m y0 y1 y2 y3 y4 w' → body I m ds y0 y1 y2 y3 y4 w'
def next5 (I : Nat → Value → Value → Value → Value → Value → WP) (m : Nat) (x0 x1 x2 x3 x4 : Value) (w : World) : Prop := ∃ m', m' < m ∧ I m' x0 x1 x2 x3 x4 w

def cut6 (body : (Value → Value → Value → Value → Value → Value → WP) → WP) (rest : List Value → Value → Value → Value → Value → Value → Value → WP) (w : World) : Prop :=
  ∃ J : Value → Value → Value → Value → Value → Value → WP, (∀ (ds : List Value) (x0 x1 x2 x3 x4 x5 : Value) (w' : World), J x0 x1 x2 x3 x4 x5 w' → rest ds x0 x1 x2 x3 x4 x5 w') ∧ body J w
def loop6 (body : (Nat → Value → Value → Value → Value → Value → Value → WP) → Nat → List Value → Value → Value → Value → Value → Value → Value → WP) (x0 x1 x2 x3 x4 x5 : Value) (w : World) : Prop :=
  ∃ I : Nat → Value → Value → Value → Value → Value → Value → WP, (∃ m, I m x0 x1 x2 x3 x4 x5 w) ∧ ∀ (m : Nat) (ds : List Value) (y0 y1 y2 y3 y4 y5 : Value) (w' : World), I m y0 y1 y2 y3 y4 y5 w' → body I m ds y0 y1 y2 y3 y4 y5 w'
def next6 (I : Nat → Value → Value → Value → Value → Value → Value → WP) (m : Nat) (x0 x1 x2 x3 x4 x5 : Value) (w : World) : Prop := ∃ m', m' < m ∧ I m' x0 x1 x2 x3 x4 x5 w

def cut7 (body : (Value → Value → Value → Value → Value → Value → Value → WP) → WP) (rest : List Value → Value → Value → Value → Value → Value → Value → Value → WP) (w : World) : Prop :=
  ∃ J : Value → Value → Value → Value → Value → Value → Value → WP, (∀ (ds : List Value) (x0 x1 x2 x3 x4 x5 x6 : Value) (w' : World), J x0 x1 x2 x3 x4 x5 x6 w' → rest ds x0 x1 x2 x3 x4 x5 x6 w') ∧ body J w
def loop7 (body : (Nat → Value → Value → Value → Value → Value → Value → Value → WP) → Nat → List Value → Value → Value → Value → Value → Value → Value → Value → WP) (x0 x1 x2 x3 x4 x5 x6 : Value) (w : World) : Prop :=
  ∃ I : Nat → Value → Value → Value → Value → Value → Value → Value → WP, (∃ m, I m x0 x1 x2 x3 x4 x5 x6 w) ∧ ∀ (m : Nat) (ds : List Value) (y0 y1 y2 y3 y4 y5 y6 : Value) (w' : World), I m y0 y1 y2 y3 y4 y5 y6 w' → body I m ds y0 y1 y2 y3 y4 y5 y6 w'
def next7 (I : Nat → Value → Value → Value → Value → Value → Value → Value → WP) (m : Nat) (x0 x1 x2 x3 x4 x5 x6 : Value) (w : World) : Prop := ∃ m', m' < m ∧ I m' x0 x1 x2 x3 x4 x5 x6 w

def cut8 (body : (Value → Value → Value → Value → Value → Value → Value → Value → WP) → WP) (rest : List Value → Value → Value → Value → Value → Value → Value → Value → Value → WP) (w : World) : Prop :=
  ∃ J : Value → Value → Value → Value → Value → Value → Value → Value → WP, (∀ (ds : List Value) (x0 x1 x2 x3 x4 x5 x6 x7 : Value) (w' : World), J x0 x1 x2 x3 x4 x5 x6 x7 w' → rest ds x0 x1 x2 x3 x4 x5 x6 x7 w') ∧ body J w
def loop8 (body : (Nat → Value → Value → Value → Value → Value → Value → Value → Value → WP) → Nat → List Value → Value → Value → Value → Value → Value → Value → Value → Value → WP) (x0 x1 x2 x3 x4 x5 x6 x7 : Value) (w : World) : Prop :=
  ∃ I : Nat → Value → Value → Value → Value → Value → Value → Value → Value → WP, (∃ m, I m x0 x1 x2 x3 x4 x5 x6 x7 w) ∧ ∀ (m : Nat) (ds : List Value) (y0 y1 y2 y3 y4 y5 y6 y7 : Value) (w' : World), I m y0 y1 y2 y3 y4 y5 y6 y7 w' → body I m ds y0 y1 y2 y3 y4 y5 y6 y7 w'
def next8 (I : Nat → Value → Value → Value → Value → Value → Value → Value → Value → WP) (m : Nat) (x0 x1 x2 x3 x4 x5 x6 x7 : Value) (w : World) : Prop := ∃ m', m' < m ∧ I m' x0 x1 x2 x3 x4 x5 x6 x7 w

def cut9 (body : (Value → Value → Value → Value → Value → Value → Value → Value → Value → WP) → WP) (rest : List Value → Value → Value → Value → Value → Value → Value → Value → Value → Value → WP) (w : World) : Prop :=
  ∃ J : Value → Value → Value → Value → Value → Value → Value → Value → Value → WP, (∀ (ds : List Value) (x0 x1 x2 x3 x4 x5 x6 x7 x8 : Value) (w' : World), J x0 x1 x2 x3 x4 x5 x6 x7 x8 w' → rest ds x0 x1 x2 x3 x4 x5 x6 x7 x8 w') ∧ body J w
def loop9 (body : (Nat → Value → Value → Value → Value → Value → Value → Value → Value → Value → WP) → Nat → List Value → Value → Value → Value → Value → Value → Value → Value → Value → Value → WP) (x0 x1 x2 x3 x4 x5 x6 x7 x8 : Value) (w : World) : Prop :=
  ∃ I : Nat → Value → Value → Value → Value → Value → Value → Value → Value → Value → WP, (∃ m, I m x0 x1 x2 x3 x4 x5 x6 x7 x8 w) ∧ ∀ (m : Nat) (ds : List Value) (y0 y1 y2 y3 y4 y5 y6 y7 y8 : Value) (w' : World), I m y0 y1 y2 y3 y4 y5 y6 y7 y8 w' → body I m ds y0 y1 y2 y3 y4 y5 y6 y7 y8 w'
def next9 (I : Nat → Value → Value → Value → Value → Value → Value → Value → Value → Value → WP) (m : Nat) (x0 x1 x2 x3 x4 x5 x6 x7 x8 : Value) (w : World) : Prop := ∃ m', m' < m ∧ I m' x0 x1 x2 x3 x4 x5 x6 x7 x8 w

def cut10 (body : (Value → Value → Value → Value → Value → Value → Value → Value → Value → Value → WP) → WP) (rest : List Value → Value → Value → Value → Value → Value → Value → Value → Value → Value → Value → WP) (w : World) : Prop :=
  ∃ J : Value → Value → Value → Value → Value → Value → Value → Value → Value → Value → WP, (∀ (ds : List Value) (x0 x1 x2 x3 x4 x5 x6 x7 x8 x9 : Value) (w' : World), J x0 x1 x2 x3 x4 x5 x6 x7 x8 x9 w' → rest ds x0 x1 x2 x3 x4 x5 x6 x7 x8 x9 w') ∧ body J w
def loop10 (body : (Nat → Value → Value → Value → Value → Value → Value → Value → Value → Value → Value → WP) → Nat → List Value → Value → Value → Value → Value → Value → Value → Value → Value → Value → Value → WP) (x0 x1 x2 x3 x4 x5 x6 x7 x8 x9 : Value) (w : World) : Prop :=
  ∃ I : Nat → Value → Value → Value → Value → Value → Value → Value → Value → Value → Value → WP, (∃ m, I m x0 x1 x2 x3 x4 x5 x6 x7 x8 x9 w) ∧ ∀ (m : Nat) (ds : List Value) (y0 y1 y2 y3 y4 y5 y6 y7 y8 y9 : Value) (w' : World), I m y0 y1 y2 y3 y4 y5 y6 y7 y8 y9 w' → body I m ds y0 y1 y2 y3 y4 y5 y6 y7 y8 y9 w'
def next10 (I : Nat → Value → Value → Value → Value → Value → Value → Value → Value → Value → Value → WP) (m : Nat) (x0 x1 x2 x3 x4 x5 x6 x7 x8 x9 : Value) (w : World) : Prop := ∃ m', m' < m ∧ I m' x0 x1 x2 x3 x4 x5 x6 x7 x8 x9 w

def cut11 (body : (Value → Value → Value → Value → Value → Value → Value → Value → Value → Value → Value → WP) → WP) (rest : List Value → Value → Value → Value → Value → Value → Value → Value → Value → Value → Value → Value → WP) (w : World) : Prop :=
  ∃ J : Value → Value → Value → Value → Value → Value → Value → Value → Value → Value → Value → WP, (∀ (ds : List Value) (x0 x1 x2 x3 x4 x5 x6 x7 x8 x9 x10 : Value) (w' : World), J x0 x1 x2 x3 x4 x5 x6 x7 x8 x9 x10 w' → rest ds x0 x1 x2 x3 x4 x5 x6 x7 x8 x9 x10 w') ∧ body J w
def loop11 (body : (Nat → Value → Value → Value → Value → Value → Value → Value → Value → Value → Value → Value → WP) → Nat → List Value → Value → Value → Value → Value → Value → Value → Value → Value → Value → Value → Value → WP) (x0 x1 x2 x3 x4 x5 x6 x7 x8 x9 x10 : Value) (w : World) : Prop :=
  ∃ I : Nat → Value → Value → Value → Value → Value → Value → Value → Value → Value → Value → Value → WP, (∃ m, I m x0 x1 x2 x3 x4 x5 x6 x7 x8 x9 x10 w) ∧ ∀ (m : Nat) (ds : List Value) (y0 y1 y2 y3 y4 y5 y6 y7 y8 y9 y10 : Value) (w' : World), I m y0 y1 y2 y3 y4 y5 y6 y7 y8 y9 y10 w' → body I m ds y0 y1 y2 y3 y4 y5 y6 y7 y8 y9 y10 w'
def next11 (I : Nat → Value → Value → Value → Value → Value → Value → Value → Value → Value → Value → Value → WP) (m : Nat) (x0 x1 x2 x3 x4 x5 x6 x7 x8 x9 x10 : Value) (w : World) : Prop := ∃ m', m' < m ∧ I m' x0 x1 x2 x3 x4 x5 x6 x7 x8 x9 x10 w

def cut12 (body : (Value → Value → Value → Value → Value → Value → Value → Value → Value → Value → Value → Value → WP) → WP) (rest : List Value → Value → Value → Value → Value → Value → Value → Value → Value → Value → Value → Value → Value → WP) (w : World) : Prop :=
  ∃ J : Value → Value → Value → Value → Value → Value → Value → Value → Value → Value → Value → Value → WP, (∀ (ds : List Value) (x0 x1 x2 x3 x4 x5 x6 x7 x8 x9 x10 x11 : Value) (w' : World), J x0 x1 x2 x3 x4 x5 x6 x7 x8 x9 x10 x11 w' → rest ds x0 x1 x2 x3 x4 x5 x6 x7 x8 x9 x10 x11 w') ∧ body J w
def loop12 (body : (Nat → Value → Value → Value → Value → Value → Value → Value → Value → Value → Value → Value → Value → WP) → Nat → List Value → Value → Value → Value → Value → Value → Value → Value → Value → Value → Value → Value → Value → WP) (x0 x1 x2 x3 x4 x5 x6 x7 x8 x9 x10 x11 : Value) (w : World) : Prop :=
  ∃ I : Nat → Value → Value → Value → Value → Value → Value → Value → Value → Value → Value → Value → Value → WP, (∃ m, I m x0 x1 x2 x3 x4 x5 x6 x7 x8 x9 x10 x11 w) ∧ ∀ (m : Nat) (ds : List Value) (y0 y1 y2 y3 y4 y5 y6 y7 y8 y9 y10 y11 : Value) (w' : World), I m y0 y1 y2 y3 y4 y5 y6 y7 y8 y9 y10 y11 w' → body I m ds y0 y1 y2 y3 y4 y5 y6 y7 y8 y9 y10 y11 w'
def next12 (I : Nat → Value → Value → Value → Value → Value → Value → Value → Value → Value → Value → Value → Value → WP) (m : Nat) (x0 x1 x2 x3 x4 x5 x6 x7 x8 x9 x10 x11 : Value) (w : World) : Prop := ∃ m', m' < m ∧ I m' x0 x1 x2 x3 x4 x5 x6 x7 x8 x9 x10 x11 w

end Go.Proofs.Ytehfblkpbadikaa.Sh
