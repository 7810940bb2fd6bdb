/- A deferred function that asks first what panicked: what its run asks, and that it suffices. No conditions. -/
import Derived.Test.YtehfblkpbadikaaDefer
set_option linter.unusedVariables false
namespace Go.Proofs.Ytehfblkpbadikaa.Sh
open Go
variable {P : Program} {n : Nat} {Kp : List PanicEntry → WP}
/-- what recover hands out in a mode, and the mode behind it -/
def recV : FrameMode → Value × FrameMode
  | .panicking ({ v, recovered := false, goexit := false } :: older) => (v, .panicking ({ v, recovered := true } :: older))
  | m => (.nilIface, m)
theorem recoverD_spec {c₀ : Frame} {cs : List Frame} {u : FrameMode} (hu : c₀.mode = u) :
    recoverD (c₀ :: cs) = some ((recV u).1, { c₀ with mode := (recV u).2 } :: cs) ∨ (recoverD (c₀ :: cs) = none ∧ recV u = (.nilIface, u)) := by
  unfold recoverD recV
  subst hu
  simp only
  split <;> simp_all
def recSplit (b : Option Code) : Option (List Oper × Oper × Array Oper × Code) :=
  match b with
  | some (.seq (.region _ ops false) y) => match ops.toList with
    | o :: rest => match o.op, o.guard with
      | .call c, none => match c.callee with
        | .builtin .recover => some (rest, o, ops, y)
        | _ => none
      | _, _ => none
    | [] => none
  | _ => none
theorem recSplit_spec {b : Option Code} {rest : List Oper} {o : Oper} {ops : Array Oper} {y : Code} (h : recSplit b = some (rest, o, ops, y)) :
    ∃ id c, b = some (.seq (.region id ops false) y) ∧ ops.toList = o :: rest ∧ o.op = .call c ∧ o.guard = none ∧ c.callee = .builtin .recover := by
  unfold recSplit at h
  split at h
  · rename_i id ops' y'
    split at h
    · rename_i o' rest' hops
      split at h
      · rename_i c hop hg
        split at h
        · rename_i hc
          simp only [Option.some.injEq, Prod.mk.injEq] at h
          obtain ⟨rfl, rfl, rfl, rfl⟩ := h
          exact ⟨id, c, rfl, hops, hop, hg, hc⟩
        · cases h
      · cases h
    · cases h
  · cases h
/-- operations that leave the world -/
def evOpsP (P : Program) (n : Nat) (ops : Array Oper) (K : Env → WP) : List Oper → Env → WP
  | [], e => K e
  | o :: rest, e => gdO n ops e o (stepS P n e o) fun v => evOpsP P n ops K rest (setD e o.dst v)
def cevR (P : Program) (an : Ann) (fn : Func) (args : List Value) (rv : Value) (Kp : List PanicEntry → WP) (K : Value → WP) : WP :=
  match recSplit fn.body with
  | some (rest, o, ops, y) => evOpsP P (args.length + (fn.ntmps - args.length)) ops (cev P (args.length + (fn.ntmps - args.length)) an Kp y (kFun P (args.length + (fn.ntmps - args.length)) fn.results.toList K)) rest (setD (env0 args) o.dst rv)
  | none => fun _ => False
theorem evOpsS_sound {ops : Array Oper} {K : Env → WP} {cs : List Frame} {Q : Exit → Act → List Frame → World → Prop}
    (hn : ∀ e a w, Rep n [] e a → K e w → Q .normal a cs w) :
    ∀ (l : List Nat) (L : List Oper) (e : Env) (a : Act) (w : World), l.map (fun i => ops[i]?) = L.map some → Rep n [] e a → evOpsP P n ops K L e w → wpOpsS P ops Q l a cs w
  | [], [], e, a, w, _, hr, h => hn e a w hr h
  | [], o :: L, e, a, w, hl, hr, h => by simp at hl
  | i :: l, [], e, a, w, hl, hr, h => by simp at hl
  | i :: l, o :: L, e, a, w, hl, hr, h => by
    simp only [List.map_cons, List.cons.injEq] at hl
    obtain ⟨hi, hl⟩ := hl
    unfold evOpsP at h
    unfold wpOpsS
    rw [hi]
    simp only
    have next : ∀ v w' a', evOpsP P n ops K L (setD e o.dst v) w' → Rep n [] (setD e o.dst v) a' → wpOpsS P ops Q l a' cs w' := fun v w' a' hv hr' => evOpsS_sound hn l L _ a' w' hl hr' hv
    rcases gdO_cases hr h with ⟨hw, h⟩ | ⟨hw, h⟩
    · rw [if_pos hw]
      obtain ⟨v, hv, hk⟩ := (stS_of_stepS h).out
      rw [hr.eval, hv]
      exact next _ _ _ hk (hr.put _ _)
    · rw [if_neg (by simp [hw])]
      exact next _ _ _ h (hr.put _ _)
theorem callsD_of_cevR (hm : P.follows .mixedOrders = true) {f : FuncId} {fn : Func} (hf : P.funcs[f]? = some fn) {an : Ann} {args : List Value} {K : Value → WP} {w : World} {u : FrameMode} (h : cevR P an fn args (recV u).1 Kp K w) :
    CallsD P f args.toArray u w fun
      | .returned v, u', w' => u' = (recV u).2 ∧ K v w'
      | .panicked ch, u', w' => u' = (recV u).2 ∧ Kp ch w'
      | .outgrown, _, _ => False := by
  unfold cevR at h
  cases hs : recSplit fn.body with
  | none => rw [hs] at h; exact h.elim
  | some q =>
          obtain ⟨rest, o, ops, y⟩ := q
          rw [hs] at h
          obtain ⟨id, c, hb, hops, hop, hg, hc⟩ := recSplit_spec hs
          simp only at h
          refine callsD_of_wpS hf hb fun c₀ cs hu => ?_
          have hr : Rep (args.length + (fn.ntmps - args.length)) [] (env0 args) { tmps := args.toArray ++ Array.replicate (fn.ntmps - args.toArray.size) undef, defers := [] } := by
            refine ⟨rfl, by simp, fun i hi => ?_⟩
            rw [env0_eq, List.getD_eq_getElem?_getD, Array.getElem?_append]
            by_cases hl : i < args.length
            · simp [hl]
            · rw [if_neg (by simpa using hl), Array.getElem?_eq_getElem (by simp; omega)]
              simp only [List.getElem?_eq_none (Nat.le_of_not_lt hl), Array.getElem_replicate, Option.getD_none]
          generalize hA : ({ tmps := args.toArray ++ Array.replicate (fn.ntmps - args.toArray.size) undef, defers := [] } : Act) = A at hr
          refine wpS_seq (wpS_region ?_)
          have hsz : ops.size = rest.length + 1 := by rw [← Array.length_toList, hops]; rfl
          rw [hsz, List.range_succ_eq_map]
          have h0 : ops[0]? = some o := by rw [← Array.getElem?_toList, hops]; rfl
          have tailm : (List.map Nat.succ (List.range rest.length)).map (fun i => ops[i]?) = rest.map some := by
            rw [List.map_map]
            apply List.ext_getElem?
            intro j
            rw [List.getElem?_map, List.getElem?_map]
            by_cases hj : j < rest.length
            · rw [List.getElem?_range hj, List.getElem?_eq_getElem hj]
              simp only [Option.map_some, Function.comp_apply]
              rw [← Array.getElem?_toList, hops, List.getElem?_cons_succ, List.getElem?_eq_getElem hj]
            · rw [List.getElem?_eq_none (by simpa using hj), List.getElem?_eq_none (by omega)]; rfl
          have go : ∀ (u' : FrameMode), u' = (recV u).2 → ∀ (cs' : List Frame), cs' = { c₀ with mode := u' } :: cs → wpOpsS P ops (Exit.thenS (y.wpS P (bodyPostS P fn c₀ cs fun
              | .returned v, u', w' => u' = (recV u).2 ∧ K v w'
              | .panicked ch, u', w' => u' = (recV u).2 ∧ Kp ch w'
              | .outgrown, _, _ => False)) (bodyPostS P fn c₀ cs fun
              | .returned v, u', w' => u' = (recV u).2 ∧ K v w'
              | .panicked ch, u', w' => u' = (recV u).2 ∧ Kp ch w'
              | .outgrown, _, _ => False)) (List.map Nat.succ (List.range rest.length)) (A.put o.dst (recV u).1) cs' w := by
            rintro u' rfl cs' rfl
            refine evOpsS_sound (n := args.length + (fn.ntmps - args.length)) (fun e a w hr hk => ?_) _ rest _ _ w tailm (hr.put o.dst (recV u).1) h
            · refine wpS_of_wp (wp_mono (cev_sound0 (D := []) hm an y _ e a w hr hk) fun ex a' w' hq => ?_)
              cases ex with
              | normal =>
                obtain ⟨e', hr', _, hk⟩ := hq
                obtain ⟨v, h1, h2⟩ := results_run hr' hk
                exact ⟨hr'.defers, _, rfl, v, h1, rfl, h2⟩
              | ret =>
                obtain ⟨e', hr', _, hk⟩ := hq
                obtain ⟨v, h1, h2⟩ := results_run hr' hk
                exact ⟨hr'.defers, _, rfl, v, h1, rfl, h2⟩
              | panic ch => exact ⟨hq.1.defers, _, rfl, rfl, hq.2⟩
              | exit id => obtain ⟨_, _, _, hk⟩ := hq; exact hk.elim
              | goto l => obtain ⟨_, _, _, hk⟩ := hq; exact hk.elim
              | outgrown => exact hq.elim
          unfold wpOpsS
          rw [h0]
          simp only
          rw [if_pos (by simp [Region.wanted, hg])]
          have hx : (execOp A.eval o).run P w = .ok .recover w := by
            simp [execOp, hop, resolve, hc, invoke, builtin]
          rw [hx]
          simp only
          rcases recoverD_spec (cs := cs) hu with hrec | ⟨hrec, hrv⟩
          · rw [hrec]
            exact go _ rfl _ rfl
          · rw [hrec]
            have e1 : (recV u).1 = .nilIface := by rw [hrv]
            have e2 : (recV u).2 = u := by rw [hrv]
            have := go _ rfl (c₀ :: cs) (by rw [e2, ← hu])
            rw [e1] at this
            exact this
end Go.Proofs.Ytehfblkpbadikaa.Sh
