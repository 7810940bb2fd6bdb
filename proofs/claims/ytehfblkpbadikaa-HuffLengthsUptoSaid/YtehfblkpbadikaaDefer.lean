/- A function that defers one call at its top: what its run asks, and that it suffices. No conditions. -/
import Derived.Test.YtehfblkpbadikaaMain
import Derived.Recover
set_option linter.unusedVariables false
namespace Go.Proofs.Ytehfblkpbadikaa.Sh
open Go
variable {P : Program} {n : Nat} {Kp : List PanicEntry → WP}

def lvS (Kret : WP) (Kp : List PanicEntry → WP) : FrameMode → WP
  | .returning => Kret
  | .panicking ch => Kp ch
  | .run => fun _ => False
/-- the one deferred call is made, in a mode -/
structure dfS (P : Program) (d : Deferred) (u : FrameMode) (Kret : WP) (Kp : List PanicEntry → WP) (w : World) : Prop where
  out : u ≠ .run ∧ ∃ fv cap f args, d.target = .fn fv cap ∧ (invoke d.target d.args).run P w = .ok (.enter f args) w ∧ CallsD P f args u w fun
        | .returned _, u', w' => lvS Kret Kp (settle u') w'
        | .panicked chain, u', w' => lvS Kret Kp (raised u' chain) w'
        | .outgrown, _, _ => False
structure opDf (f : Value) (args : List Value) (k : Deferred → WP) (w : World) : Prop where
  out : ∃ fn first cap, f = .func fn first cap ∧ k { target := .fn fn cap, args := first ++ args.toArray } w

/-- behind a panic: the deferred call is made -/
def KpD (P : Program) (d : Deferred) (Kret : WP) (Kp : List PanicEntry → WP) : List PanicEntry → WP := fun ch => dfS P d (.panicking ch) Kret Kp

def isDefer : Code → Option (List Oper × Oper × Operand × Array Operand × Array Oper)
  | .region _ ops false => match ops.toList.reverse with
    | o :: pre => match o.op, o.guard with
      | .defer c, none => match c.callee with
        | .value f => some (pre.reverse, o, f, c.args, ops)
        | _ => none
      | _, _ => none
    | [] => none
  | _ => none

def cevD (P : Program) (n : Nat) (an : Ann) (Kp : List PanicEntry → WP) (K0 : KT) (k1 : Deferred → Code → Env → WP) : Code → Env → WP
  | .seq x y, e => match isDefer x with
    | some (pre, o, f, args, ops) => evOps P n ops Kp (fun e' => opDf (ev n e' f) (args.toList.map (ev n e')) fun d => k1 d y (setD e' o.dst undef)) pre e
    | none => cev P n an Kp x (kSeq K0 (cevD P n an Kp K0 k1 y)) e
  | c, e => cev P n an Kp c K0 e

def resSlots (rs : List ResultVar) : List Nat := rs.map fun
  | .tmp t => t
  | .cell a _ => a
/-- at the function's end, one call deferred -/
def kFunD (P : Program) (n : Nat) (rs : List ResultVar) (d : Deferred) (Kp : List PanicEntry → WP) (K : Value → WP) : KT
  | .normal, e => dfS P d .returning (retL P n rs e [] K) Kp
  | .ret, e => dfS P d .returning (retL P n rs e [] K) Kp
  | _, _ => fun _ => False
def k1D (P : Program) (n : Nat) (an : Ann) (rs : List ResultVar) (Kp : List PanicEntry → WP) (K : Value → WP) (d : Deferred) (y : Code) (e : Env) : WP :=
  match (resSlots rs).all fun i => !(wr y).contains i with
  | true => cev P n an (fun ch => dfS P d (.panicking ch) (retL P n rs e [] K) Kp) y (kFunD P n rs d Kp K) e
  | false => fun _ => False
def cevFD (P : Program) (an : Ann) (fn : Func) (args : List Value) (Kp : List PanicEntry → WP) (K : Value → WP) : WP :=
  match fn.body with
  | some c => cevD P (args.length + (fn.ntmps - args.length)) an Kp (kFun P (args.length + (fn.ntmps - args.length)) fn.results.toList K) (k1D P (args.length + (fn.ntmps - args.length)) an fn.results.toList Kp K) c (env0 args)
  | none => fun _ => False

theorem retL_congr {K : Value → WP} {e e' : Env} : ∀ (rs : List ResultVar) (acc : List Value), (∀ i ∈ resSlots rs, ev n e (.tmp i) = ev n e' (.tmp i)) → retL P n rs e acc K = retL P n rs e' acc K
  | [], acc, _ => rfl
  | .tmp t :: r, acc, h => by
    have h0 := h t (by simp [resSlots])
    simp only [retL, h0]
    exact retL_congr r _ fun i hi => h i (by simp [resSlots] at hi ⊢; exact .inr hi)
  | .cell a t :: r, acc, h => by
    have h0 := h a (by simp [resSlots])
    simp only [retL, h0]
    congr 1
    funext v
    exact retL_congr r _ fun i hi => h i (by simp [resSlots] at hi ⊢; exact .inr hi)

theorem leaves1 {fn : Func} {tmps : Array Value} {R : Ending → World → Prop} {d : Deferred} {u : FrameMode} {Kret : WP} {w : World}
    (hk : ∀ w, Kret w → ∃ v, (results fn tmps).run P w = .ok v w ∧ R (.returned v) w) (hp : ∀ ch w, Kp ch w → R (.panicked ch) w) (h : dfS P d u Kret Kp w) : Leaves P fn tmps R [d] u w := by
  obtain ⟨h1, fv, cap, f, args, h2, h3, h4⟩ := h.out
  have lv : ∀ u w, lvS Kret Kp u w → Leaves P fn tmps R [] u w := fun u w h => by
    cases u with
    | run => exact h.elim
    | returning => exact hk w h
    | panicking ch => exact hp ch w h
  refine ⟨h1, fv, cap, f, args, h2, h3, h4.mono fun e u' w' he => ?_⟩
  cases e with
  | returned v => exact lv _ _ he
  | panicked ch => exact lv _ _ he
  | outgrown => exact he.elim

theorem evOpsD_sound {D : List Deferred} {ops : Array Oper} {Q : Exit → Act → World → Prop} {o : Oper} {f : Operand} {c : Call} {k : Deferred → Env → WP} (hop : o.op = .defer c) (hc : c.callee = .value f) (hg : o.guard = none) (M : List Nat) (e₀ : Env)
    (hn : ∀ d e a w, Rep n (d :: D) (setD e o.dst undef) a → Agree M e₀ e → k d (setD e o.dst undef) w → Q .normal a w) (hp : ∀ ch e a w, Rep n D e a → Agree M e₀ e → Kp ch w → Q (.panic ch) a w) :
    ∀ (l : List Oper) (e : Env) (a : Act) (w : World), (∀ o ∈ l, ∀ t, o.dst = some t → t ∈ M) → Rep n D e a → Agree M e₀ e → evOps P n ops Kp (fun e' => opDf (ev n e' f) (c.args.toList.map (ev n e')) fun d => k d (setD e' o.dst undef)) l e w → wpListIn (FW none) 0 P ops Q (l ++ [o]) a w
  | [], e, a, w, _, hr, ha, h => by
    have h : opDf (ev n e f) (c.args.toList.map (ev n e)) (fun d => k d (setD e o.dst undef)) w := h
    obtain ⟨fnn, first, cap, hf, hk⟩ := h.out
    rw [List.nil_append]
    unfold wpListIn
    rw [if_pos (by simp [Region.wanted, hg])]
    refine ⟨fun _ _ => trivial, ?_⟩
    rw [show (FW none).round = none from rfl, Oper.semAt_none]
    have hx : (execOp a.eval o).run P w = .ok (.defer { target := .fn fnn cap, args := first ++ (c.args.toList.map (ev n e)).toArray }) w := by
      rw [hr.eval]
      simp only [execOp, hop, resolve, hc, hf, Deferred.ofValue, Sem.run_bind, Sem.run_pure, Result.andThen_ok, lm]
    rw [hx]
    simp only [Oper.uponIn]
    unfold wpListIn
    refine hn _ e _ w ?_ ha hk
    have hr2 : Rep n ({ target := .fn fnn cap, args := first ++ (c.args.toList.map (ev n e)).toArray } :: D) e { a with defers := { target := .fn fnn cap, args := first ++ (c.args.toList.map (ev n e)).toArray } :: a.defers } := ⟨by rw [hr.defers], hr.size, hr.at_⟩
    exact hr2.put _ _
  | o' :: l, e, a, w, hM, hr, ha, h => by
    unfold evOps at h
    rw [List.cons_append]
    unfold wpListIn
    have hd : ∀ t, o'.dst = some t → t ∈ M := hM o' (by simp)
    have next : ∀ v w' a', evOps P n ops Kp (fun e' => opDf (ev n e' f) (c.args.toList.map (ev n e')) fun d => k d (setD e' o.dst undef)) l (setD e o'.dst v) w' → Rep n D (setD e o'.dst v) a' → wpListIn (FW none) 0 P ops Q (l ++ [o]) a' w' := fun v w' a' hv hr' =>
      evOpsD_sound hop hc hg M e₀ hn hp l _ a' w' (fun x hx => hM x (by simp [hx])) hr' (ha.trans (.set e o'.dst v M hd) (fun _ h => h) (fun _ h => h)) hv
    rcases gdO_cases hr h with ⟨hw, h⟩ | ⟨hw, h⟩
    · rw [if_pos hw]
      exact upon_stepO hr (.inl rfl) h next (fun ch w' => hp ch e _ w' hr ha)
    · rw [if_neg (by simp [hw])]
      exact ⟨fun _ _ => trivial, next _ _ _ h (hr.put _ _)⟩

theorem isDefer_spec {x : Code} {pre : List Oper} {o : Oper} {f : Operand} {args : Array Operand} {ops : Array Oper} (h : isDefer x = some (pre, o, f, args, ops)) :
    ∃ id c, x = .region id ops false ∧ o.op = .defer c ∧ c.callee = .value f ∧ c.args = args ∧ o.guard = none ∧ ops.toList = pre ++ [o] := by
  unfold isDefer at h
  split at h
  · rename_i id ops'
    split at h
    · rename_i o' pre' hrev
      split at h
      · rename_i c hop hg
        split at h
        · rename_i f' hc
          simp only [Option.some.injEq, Prod.mk.injEq] at h
          obtain ⟨rfl, rfl, rfl, rfl, rfl⟩ := h
          refine ⟨id, c, rfl, hop, hc, rfl, hg, ?_⟩
          have := congrArg List.reverse hrev
          rw [List.reverse_reverse, List.reverse_cons] at this
          exact this
        · cases h
      · cases h
    · cases h
  · cases h

theorem cevD_sound (hm : P.follows .mixedOrders = true) (an : Ann) {fn : Func} {K : Value → WP} {R : Ending → World → Prop} (hK : ∀ v w, K v w → R (.returned v) w) (hKp : ∀ ch w, Kp ch w → R (.panicked ch) w) :
    ∀ (c : Code) (e : Env) (a : Act) (w : World), Rep n [] e a → cevD P n an Kp (kFun P n fn.results.toList K) (k1D P n an fn.results.toList Kp K) c e w → c.wp P (bodyPostD P fn R) a w := by
  have post0 : ∀ {M : List Nat} {e : Env} {ex : Exit} {a : Act} {w : World}, QOf n [] Kp (kFun P n fn.results.toList K) M e ex a w → bodyPostD P fn R ex a w := by
    intro M e ex a w hq
    cases ex with
    | normal =>
      obtain ⟨e', hr', _, hk⟩ := hq
      obtain ⟨v, h1, h2⟩ := results_run hr' hk
      show Leaves P fn a.tmps R a.defers .returning w
      rw [hr'.defers]
      exact ⟨v, h1, hK v w h2⟩
    | ret =>
      obtain ⟨e', hr', _, hk⟩ := hq
      obtain ⟨v, h1, h2⟩ := results_run hr' hk
      show Leaves P fn a.tmps R a.defers .returning w
      rw [hr'.defers]
      exact ⟨v, h1, hK v w h2⟩
    | panic ch =>
      show Leaves P fn a.tmps R a.defers (.panicking ch) w
      rw [hq.1.defers]
      exact hKp ch w hq.2
    | exit id => obtain ⟨_, _, _, hk⟩ := hq; exact hk.elim
    | goto l => obtain ⟨_, _, _, hk⟩ := hq; exact hk.elim
    | outgrown => exact hq.elim
  have plain : ∀ (c : Code) (e : Env) (a : Act) (w : World), Rep n [] e a → cev P n an Kp c (kFun P n fn.results.toList K) e w → c.wp P (bodyPostD P fn R) a w := fun c e a w hr h =>
    wp_mono (cev_sound0 hm an c _ e a w hr h) fun ex a w hq => post0 hq
  intro c
  induction c with
  | seq x y _ ihy =>
    intro e a w hr h
    simp only [cevD] at h
    cases hd : isDefer x with
    | none =>
      rw [hd] at h
      refine wp_seq (wp_mono (cev_sound0 hm an x _ e a w hr h) fun ex a' w' hq => ?_)
      cases ex with
      | normal =>
        obtain ⟨e', hr', _, hk⟩ := hq
        exact ihy e' a' w' hr' hk
      | panic ch => exact post0 (M := wr x) (e := e) (ex := .panic ch) (show QOf n [] Kp (kFun P n fn.results.toList K) (wr x) e (.panic ch) a' w' from hq)
      | outgrown => exact hq.elim
      | ret => exact post0 (M := wr x) (e := e) (ex := .ret) hq
      | exit id => obtain ⟨_, _, _, hk⟩ := hq; exact hk.elim
      | goto l => obtain ⟨_, _, _, hk⟩ := hq; exact hk.elim
    | some q =>
      obtain ⟨pre, o, f, args, ops⟩ := q
      rw [hd] at h
      obtain ⟨id, c, rfl, hop, hc, rfl, hg, hops⟩ := isDefer_spec hd
      simp only at h
      refine wp_seq ((wpIn_wide (n := 0)).1 (wpIn_region_list ?_))
      rw [hops]
      refine evOpsD_sound (n := n) (D := []) (Kp := Kp) (Q := Exit.then (Code.wp P y (bodyPostD P fn R)) (bodyPostD P fn R)) hop hc hg (k := fun d e' => k1D P n an fn.results.toList Kp K d y e') (wr (.region id ops false)) e (fun d e1 a1 w1 hr1 _ hk => ?_) (fun ch e1 a1 w1 hr1 ha hk => post0 (M := wr (.region id ops false)) (e := e) (ex := .panic ch) ⟨hr1.pan ha, hk⟩) pre e a w (fun o' ho' t ht => ?_) hr (.refl _ _) h
      · show y.wp P (bodyPostD P fn R) a1 w1
        have hk : k1D P n an fn.results.toList Kp K d y (setD e1 o.dst undef) w1 := hk
        unfold k1D at hk
        cases hall : (resSlots fn.results.toList).all (fun i => !(wr y).contains i) with
        | true =>
          rw [hall] at hk
          refine wp_mono (cev_sound0 hm an y _ _ a1 w1 hr1 hk) fun ex a' w' hq => ?_
          have ret1 : ∀ e', Rep n [d] e' a' → ∀ w, retL P n fn.results.toList e' [] K w → ∃ v, (results fn a'.tmps).run P w = .ok v w ∧ R (.returned v) w := fun e' hr' w hk => by
            obtain ⟨v, h1, h2⟩ := results_run hr' hk
            exact ⟨v, h1, hK v w h2⟩
          cases ex with
          | normal =>
            obtain ⟨e', hr', _, hk⟩ := hq
            show Leaves P fn a'.tmps R a'.defers .returning w'
            rw [hr'.defers]
            exact leaves1 (ret1 e' hr') hKp hk
          | ret =>
            obtain ⟨e', hr', _, hk⟩ := hq
            show Leaves P fn a'.tmps R a'.defers .returning w'
            rw [hr'.defers]
            exact leaves1 (ret1 e' hr') hKp hk
          | panic ch =>
            obtain ⟨hpan, hk⟩ := hq
            show Leaves P fn a'.tmps R a'.defers (.panicking ch) w'
            rw [hpan.defers]
            refine leaves1 (fun w hw => ?_) hKp hk
            have hr' : Rep n [d] (fun i => a'.tmps.getD i undef) a' := ⟨hpan.defers, hpan.size, fun i hi => by
              rw [Array.getD_eq_getD_getElem?, Array.getElem?_eq_getElem (by rw [hpan.size]; exact hi)]; rfl⟩
            refine ret1 _ hr' w ?_
            rw [← retL_congr fn.results.toList [] (e := setD _ o.dst undef) (fun i hi => ?_)]
            · exact hw
            · have hni : i ∉ wr y := by
                have := List.all_eq_true.1 hall i hi
                simpa using this
              by_cases hlt : i < n
              · have h1 := hpan.at_ i hlt hni
                have hb : Nat.blt i n = true := by simpa using hlt
                simp only [ev, hb]
                rw [Array.getD_eq_getD_getElem?, h1]; rfl
              · have hb : Nat.blt i n = false := by
                  cases hx : Nat.blt i n with
                  | false => rfl
                  | true => exact absurd (by simpa using hx) hlt
                simp only [ev, hb]
          | exit id => obtain ⟨_, _, _, hk⟩ := hq; exact hk.elim
          | goto l => obtain ⟨_, _, _, hk⟩ := hq; exact hk.elim
          | outgrown => exact hq.elim
        | false =>
          rw [hall] at hk
          exact hk.elim
      · refine List.mem_filterMap.2 ⟨o', ?_, ht⟩
        rw [hops]; exact List.mem_append_left _ ho'
  | skip => exact fun e a w hr h => plain _ e a w hr h
  | region id ops draw => exact fun e a w hr h => plain _ e a w hr h
  | cond c x y _ _ => exact fun e a w hr h => plain _ e a w hr h
  | block id b _ => exact fun e a w hr h => plain _ e a w hr h
  | loop b _ => exact fun e a w hr h => plain _ e a w hr h
  | rangeFunc => exact fun e a w hr h => plain _ e a w hr h
  | exit id => exact fun e a w hr h => plain _ e a w hr h
  | scope b _ => exact fun e a w hr h => plain _ e a w hr h
  | label l => exact fun e a w hr h => plain _ e a w hr h
  | goto l => exact fun e a w hr h => plain _ e a w hr h
  | ret => exact fun e a w hr h => plain _ e a w hr h
  | refuse s => exact fun e a w hr h => plain _ e a w hr h

theorem calls_of_cevD (hm : P.follows .mixedOrders = true) {f : FuncId} {fn : Func} (hf : P.funcs[f]? = some fn) {an : Ann} {args : List Value} {K : Value → WP} {w : World} (h : cevFD P an fn args Kp K w) :
    Calls P f args.toArray w fun
      | .returned v, w' => K v w'
      | .panicked ch, w' => Kp ch w'
      | .outgrown, _ => False := by
  unfold cevFD at h
  cases hb : fn.body with
  | none => rw [hb] at h; exact h.elim
  | some c =>
    rw [hb] at h
    refine calls_of_wp_defers hf hb ?_
    have hr : Rep (args.length + (fn.ntmps - args.length)) [] (env0 args) { tmps := args.toArray ++ Array.replicate (fn.ntmps - args.toArray.size) undef, defers := [] } := by
      refine ⟨rfl, by simp, fun i hi => ?_⟩
      rw [env0_eq, List.getD_eq_getElem?_getD, Array.getElem?_append]
      by_cases hl : i < args.length
      · simp [hl]
      · rw [if_neg (by simpa using hl), Array.getElem?_eq_getElem (by simp; omega)]
        simp only [List.getElem?_eq_none (Nat.le_of_not_lt hl), Array.getElem_replicate, Option.getD_none]
    exact cevD_sound hm an (fun v w h => h) (fun ch w h => h) c _ _ w hr h
end Go.Proofs.Ytehfblkpbadikaa.Sh
