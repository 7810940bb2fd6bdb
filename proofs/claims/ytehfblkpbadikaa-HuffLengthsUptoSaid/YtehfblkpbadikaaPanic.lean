/- Contracts with two ends: a value, or a panic. No conditions but those that each names. -/
import Derived.Test.YtehfblkpbadikaaOps
set_option linter.unusedVariables false
namespace Go.Proofs.Ytehfblkpbadikaa.Sl
open Go Go.RowKit Go.Proofs.Ytehfblkpbadikaa.Sh
variable {P : Program} {W : World} {L L' : List HP} {Kp : PK} {k : Value → WP}
/-- called where A holds it returns r x where B x holds, or passes up the panic pc y where Bp y holds -/
structure CnP {α β : Type} (P : Program) (f : FuncId) (args : List Value) (W : World) (A : List HP) (r : α → Value) (B : α → List HP) (pc : β → List PanicEntry) (Bp : β → List HP) : Prop where
  call : ∀ (a : Array Value) (w : World), (callFunc f a).run P w = .ok (.enter f a) w
  run : ∀ (F : List HP) (w : World), sat W (A ++ F) w → Calls P f args.toArray w (fun e w' => (∃ x, e = .returned (r x) ∧ sat W (B x ++ F) w') ∨ ∃ y, e = .panicked (pc y) ∧ sat W (Bp y ++ F) w')
theorem CnP.of {α β : Type} {f : FuncId} {args : List Value} {A : List HP} {r : α → Value} {B : α → List HP} {pc : β → List PanicEntry} {Bp : β → List HP} {shape : PK → (Value → WP) → WP}
    (hc : ∀ (a : Array Value) (w : World), (callFunc f a).run P w = .ok (.enter f a) w)
    (hs : ∀ {Kp : PK} {K : Value → WP} {w : World}, shape Kp K w → Calls P f args.toArray w (after Kp K))
    (h : ∀ F, Ent W (A ++ F) (shape (fun ch w' => ∃ y, ch = pc y ∧ sat W (Bp y ++ F) w') fun v w' => ∃ x, v = r x ∧ sat W (B x ++ F) w')) : CnP P f args W A r B pc Bp :=
  ⟨hc, fun F w hw => (hs (h F w hw)).mono fun e w' he => by
    cases e with
    | returned v => obtain ⟨x, rfl, h2⟩ := he; exact .inl ⟨x, rfl, h2⟩
    | panicked ch => obtain ⟨y, rfl, h2⟩ := he; exact .inr ⟨y, rfl, h2⟩
    | outgrown => exact he.elim⟩
theorem Cn.noPanic {α : Type} {f : FuncId} {args : List Value} {A : List HP} {r : α → Value} {B : α → List HP} {β : Type} {pc : β → List PanicEntry} {Bp : β → List HP} (h : Cn P f args W A r B) : CnP P f args W A r B pc Bp :=
  ⟨h.call, fun F w hw => (h.run F w hw).mono fun e w' he => .inl he⟩
theorem CnP.plain {α β : Type} {f : FuncId} {args : List Value} {A : List HP} {r : α → Value} {B : α → List HP} {pc : β → List PanicEntry} {Bp : β → List HP} (h : CnP P f args W A r B pc Bp) (hn : β → False) : Cn P f args W A r B :=
  ⟨h.call, fun F w hw => (h.run F w hw).mono fun e w' he => he.resolve_right fun ⟨y, _⟩ => hn y⟩
theorem e_callP {α β : Type} {f : FuncId} {args : List Value} {A F : List HP} {r : α → Value} {B : α → List HP} {pc : β → List PanicEntry} {Bp : β → List HP} (hf : CnP P f args W A r B pc Bp) (p : Picks L A F)
    (h : ∀ x, Ent W (B x ++ F) (k (r x))) (hp : ∀ y, Ent W (Bp y ++ F) (Kp (pc y))) : Ent W L (opN P (sCall (fn f) args) Kp k) := fun w hw => by
  refine ⟨?_⟩
  rw [run_sCall hf.call]
  refine (hf.run F w (p.sat hw)).mono fun e w' he => ?_
  rcases he with ⟨x, he, hs⟩ | ⟨y, he, hs⟩
  · subst he; exact h x w' hs
  · subst he; exact hp y w' hs
/-- a panic's chain, fresh -/
def pe (v : Value) : List PanicEntry := [{ v, recovered := false }]
theorem e_panic {t : TypeId} {x : Value} (h : Ent W L (Kp (pe (.iface t x)))) : Ent W L (opN P (sPanic (.iface t x)) Kp k) := fun w hw => by
  refine ⟨?_⟩
  have : (sPanic (.iface t x)).run P w = .halt (.panic (.iface t x)) w := by simp [sPanic, Instr.panic, goPanic]
  rw [this]
  exact h w hw
theorem v_mkI {t : TypeId} {v : Value} {q : IntKind} [ht : IntT P t q] : RunV P W [] (sMkI t v) (.iface t v) := fun w _ => by
  simp [sMkI, Instr.makeInterface, ht.run]
theorem e_pan {β : Type} {pc : β → List PanicEntry} {M : β → List HP} {ch : List PanicEntry} (y : β) (hv : ch = pc y) (i : Imp W L (M y)) : Ent W L (fun w' => ∃ y, ch = pc y ∧ sat W (M y) w') := fun w hw => ⟨y, hv, i.sat hw⟩
/-- a function value that is a closure over cells -/
theorem v_mkF {f : FuncId} {bs cs : List Value} : RunV P W [] (sMkF (.func f) bs cs) (.func (.func f) bs.toArray cs.toArray) := fun w _ => by
  simp [sMkF, Instr.makeFunc]
theorem e_opDf {fn : Fn} {a b : Array Value} {args : List Value} {kd : Deferred → WP} (h : Ent W L (kd { target := .fn fn b, args := a ++ args.toArray })) : Ent W L (opDf (.func fn a b) args kd) := fun w hw => ⟨fn, a, b, rfl, h w hw⟩
/-- the deferred call at a function's end, by the deferred function's shape -/
theorem e_dfS {f : FuncId} {A : List Value} {d : Deferred} {u : FrameMode} {Kret : WP} {Kq : PK} {shape : Value → PK → (Value → WP) → WP} (hu : u ≠ .run) (ht : ∃ fv cap, d.target = .fn fv cap)
    (hinv : ∀ w, (invoke d.target d.args).run P w = .ok (.enter f A.toArray) w)
    (hs : ∀ {Kp' : PK} {K : Value → WP} {w : World}, shape (recV u).1 Kp' K w → CallsD P f A.toArray u w fun
      | .returned v, u', w' => u' = (recV u).2 ∧ K v w'
      | .panicked ch, u', w' => u' = (recV u).2 ∧ Kp' ch w'
      | .outgrown, _, _ => False)
    (h : Ent W L (shape (recV u).1 (fun ch => lvS Kret Kq (raised (recV u).2 ch)) fun _ => lvS Kret Kq (settle (recV u).2))) : Ent W L (dfS P d u Kret Kq) := fun w hw => by
  obtain ⟨fv, cap, ht⟩ := ht
  refine ⟨hu, fv, cap, f, A.toArray, ht, hinv w, (hs (h w hw)).mono fun e u' w' he => ?_⟩
  cases e with
  | returned v => obtain ⟨rfl, h2⟩ := he; exact h2
  | panicked ch => obtain ⟨rfl, h2⟩ := he; exact h2
  | outgrown => exact he.elim
theorem lv_ret {Kret : WP} {Kq : PK} : lvS Kret Kq (settle (recV .returning).2) = Kret := rfl
theorem lv_pan {Kret : WP} {Kq : PK} {v : Value} : lvS Kret Kq (settle (recV (.panicking (pe v))).2) = Kret := rfl
theorem rec_ret : (recV .returning).1 = .nilIface := rfl
theorem rec_pan {v : Value} : (recV (.panicking (pe v))).1 = v := rfl
theorem inv_closure {f : FuncId} {cs bs : List Value} (hc : ∀ (a : Array Value) (w : World), (callFunc f a).run P w = .ok (.enter f a) w) (w : World) : (invoke (.fn (.func f) cs.toArray) bs.toArray).run P w = .ok (.enter f (bs ++ cs).toArray) w := by
  simp [invoke, hc]
end Go.Proofs.Ytehfblkpbadikaa.Sl
