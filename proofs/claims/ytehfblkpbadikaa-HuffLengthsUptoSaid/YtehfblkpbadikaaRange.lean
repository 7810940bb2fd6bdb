/- A range over a function at the top chain of a body: what its run asks, and that it suffices. No conditions. -/
import Derived.Test.YtehfblkpbadikaaRecover
import Derived.RangeFuncRecord
set_option linter.unusedVariables false
namespace Go.Proofs.Ytehfblkpbadikaa.Sh
open Go
variable {P : Program} {n : Nat} {Kp : List PanicEntry → WP}

/-- the mark of a loop is taken at the function's end -/
structure tkS (d : Nat) (S : WP) (w : World) : Prop where
  out : w.heap[d]? = some (.deferred (some [])) ∧ S (w.putObj d (.deferred none))
def takeS : List Nat → WP → WP
  | [], S => S
  | d :: ds, S => tkS d (takeS ds S)
def KpM (ds : List Nat) (Kp : List PanicEntry → WP) : List PanicEntry → WP := fun ch => takeS ds (Kp ch)
def kFunM (P : Program) (n : Nat) (rs : List ResultVar) (ds : List Nat) (K : Value → WP) : KT
  | .normal, e => takeS ds (retL P n rs e [] K)
  | .ret, e => takeS ds (retL P n rs e [] K)
  | _, _ => fun _ => False

/-- a call of a loop's yield -/
def YieldP (P : Program) (l : Nat) (vs : List Value) (w : World) (R : Ending → World → Prop) : Prop :=
  ∃ fn tmps assign body, (Instr.yield l vs.toArray).run P w = .ok (.round l fn tmps assign body) w ∧ RoundIn Fence.wide 0 P l fn tmps assign body w R

abbrev Rec := LoopState → Option Code → Loop
def beginS (l : Nat) (rec : Rec) (S : WP) (w : World) : Prop := w.heap[l]? = some (.loop (rec .ready none)) ∧ S (w.putObj l (.loop (rec .busy none)))
def endS (l : Nat) (rec : Rec) (jump : Option Code) (S : WP) (w : World) : Prop := w.heap[l]? = some (.loop (rec .busy none)) ∧ S (w.putObj l (.loop (rec (if jump.isNone then .ready else .done) jump)))

def vlam {α : Type} : (n : Nat) → (List Value → α) → VF n α
  | 0, f => f []
  | n + 1, f => fun v => vlam n fun l => f (v :: l)
theorem vapp_vlam {α : Type} : ∀ (n : Nat) (f : List Value → α) (vs : List Value), vs.length = n → vapp n (vlam n f) vs = f vs
  | 0, f, [], _ => rfl
  | n + 1, f, v :: vs, h => by
    simp only [vapp, vlam, List.headD_cons, List.tail_cons]
    exact vapp_vlam n (fun l => f (v :: l)) vs (by simpa using h)

/-- the statement: rnd: a round's shape, over what is handed in, how it begins, what follows where it goes on, where it returns -/
structure rfS (P : Program) (fv : Value) (np : Nat) (rnd : VF np ((WP → WP) → WP → WP → WP)) (Kn Kj : Nat → WP) (Kp : Nat → List PanicEntry → WP) (w : World) : Prop where
  out : ∃ f cap, fv = .func (.func f) #[] cap ∧ (∀ (a : Array Value) (w : World), (callFunc f a).run P w = .ok (.enter f a) w) ∧
    ∀ rec : Rec, (∀ (vs : List Value) (w' : World) (R : Ending → World → Prop), vs.length = np → w'.heap[w.heap.size + 1]? = some (.loop (rec .ready none)) →
        vapp np rnd vs (beginS (w.heap.size + 1) rec) (endS (w.heap.size + 1) rec none (R (.returned (.bool true)))) (endS (w.heap.size + 1) rec (some .ret) (R (.returned (.bool false)))) w' → YieldP P (w.heap.size + 1) vs w' R) →
      Calls P f (#[.func (.yield (w.heap.size + 1)) #[] #[]] ++ cap) ((w.alloc (.deferred (some []))).alloc (.loop (rec .ready none))) fun
        | .returned _, w₃ => (w₃.heap[w.heap.size + 1]? = some (.loop (rec .ready none)) ∧ Kn w.heap.size (w₃.putObj (w.heap.size + 1) (.loop (rec .exhausted none)))) ∨
            (w₃.heap[w.heap.size + 1]? = some (.loop (rec .done (some .ret))) ∧ Kj w.heap.size (w₃.putObj (w.heap.size + 1) (.loop (rec .exhausted (some .ret)))))
        | .panicked ch, w₃ => Kp w.heap.size ch w₃
        | .outgrown, _ => False

def kAsg (B : WP → WP) (k : Env → WP) : KT
  | .normal, e => B (k e)
  | _, _ => fun _ => False
def kRnd (N J : WP) : KT
  | .normal, _ => N
  | .ret, _ => J
  | _, _ => fun _ => False

def noK : List PanicEntry → WP := fun _ _ => False

def roundS (P : Program) (n : Nat) (an : Ann) (ps : List Nat) (asg body : Code) (e : Env) : VF ps.length ((WP → WP) → WP → WP → WP) :=
  vlam ps.length fun vs B N J => cev P n an noK asg (kAsg B (cev P n an noK body (kRnd N J))) (setAll e ps vs)

def hasRf : Code → Bool
  | .rangeFunc .. => true
  | .seq a b => hasRf a || hasRf b
  | .block _ b => match b with
    | .rangeFunc .. => true
    | _ => false
  | _ => false
def rfC (P : Program) (n : Nat) (an : Ann) (rs : List ResultVar) (Kp : List PanicEntry → WP) (K : Value → WP) (g : Operand) (ps : Array Tmp) (asg body : Code) (k : List Nat → Env → WP) (ds : List Nat) (e : Env) : WP :=
  match noDf asg && noDf body with
  | true => rfS P (ev n e g) ps.toList.length (roundS P n an ps.toList asg body e) (fun d => k (d :: ds) e) (fun d => takeS (d :: ds) (retL P n rs e [] K)) (fun d ch => takeS (d :: ds) (Kp ch))
  | false => fun _ => False
/-- codes one behind the other, ranges over functions among them -/
def cevC (P : Program) (n : Nat) (an : Ann) (rs : List ResultVar) (Kp : List PanicEntry → WP) (K : Value → WP) : Code → (List Nat → Env → WP) → List Nat → Env → WP
  | .seq x y, k, ds, e => match hasRf x || hasRf y with
    | true => (match (match hasRf x || isPlain x with | true => none | false => look (firstId y) an.cuts) with
      | none => cevC P n an rs Kp K x (fun ds e => cevC P n an rs Kp K y k ds e) ds e
      | some live => cutG live.length (fun J => cev P n an (KpM ds Kp) x (kSeq (kFunM P n rs ds K) fun e' => vapp live.length J (gets e' live)) e) fun dd vs => cevC P n an rs Kp K y k ds (upd e (deadOf x live) dd live vs))
    | false => cev P n an (KpM ds Kp) (.seq x y) (kSeq (kFunM P n rs ds K) (k ds)) e
  | .block id b, k, ds, e => match b with
    | .rangeFunc g ps asg body => rfC P n an rs Kp K g ps asg body k ds e
    | b => cev P n an (KpM ds Kp) (.block id b) (kSeq (kFunM P n rs ds K) (k ds)) e
  | .rangeFunc g ps asg body, k, ds, e => rfC P n an rs Kp K g ps asg body k ds e
  | c, k, ds, e => cev P n an (KpM ds Kp) c (kSeq (kFunM P n rs ds K) (k ds)) e
def cevFT (P : Program) (an : Ann) (fn : Func) (args : List Value) (Kp : List PanicEntry → WP) (K : Value → WP) : WP :=
  match fn.body with
  | some c => cevC P (args.length + (fn.ntmps - args.length)) an fn.results.toList Kp K c (fun ds e => takeS ds (retL P (args.length + (fn.ntmps - args.length)) fn.results.toList e [] K)) [] (env0 args)
  | none => fun _ => False

def marks (ds : List Nat) : List Deferred := ds.map fun d => { target := .collected d, args := #[] }

theorem leavesM {fn : Func} {tmps : Array Value} {R : Ending → World → Prop} {S : WP} {u : FrameMode} (hu : u ≠ .run) (hS : ∀ w, S w → LeavesIn Fence.wide 0 P fn tmps R [] u w) :
    ∀ (ds : List Nat) (w : World), takeS ds S w → LeavesInM Fence.wide 0 P fn tmps R (marks ds) u w
  | [], w, h => hS w h
  | d :: ds, w, h => ⟨hu, .inl ⟨d, _, rfl, run_takeDeferred h.out.1, leavesM hu hS ds _ h.out.2⟩⟩

theorem setAll_size : ∀ (l : List (Nat × Value)) (t : Array Value), (l.foldl (fun t (x : Nat × Value) => t.setIfInBounds x.1 x.2) t).size = t.size
  | [], t => rfl
  | x :: l, t => by rw [List.foldl_cons, setAll_size l]; simp
theorem rep_round {e : Env} : ∀ (ps : List Nat) (vs : List Value) (e : Env) (t : Array Value), ps.length = vs.length → t.size = n → (∀ i, i < n → t[i]? = some (e i)) →
    Rep n [] (setAll e ps vs) { tmps := (ps.zip vs).foldl (fun t (x : Nat × Value) => t.setIfInBounds x.1 x.2) t, defers := [] }
  | [], [], e, t, _, h1, h2 => ⟨rfl, h1, h2⟩
  | p :: ps, v :: vs, e, t, h, h1, h2 => by
    simp only [List.zip_cons_cons, List.foldl_cons, setAll, List.headD_cons, List.tail_cons]
    refine rep_round (e := e) ps vs _ _ (by simpa using h) (by simpa using h1) fun i hi => ?_
    rw [Array.getElem?_setIfInBounds, setE_eq]
    by_cases hp : p = i
    · subst hp
      rw [if_pos rfl, if_pos (by omega), if_pos rfl]
    · rw [if_neg hp, if_neg (fun c => hp c.symm)]; exact h2 i hi

theorem range_sound (hm : P.follows .mixedOrders = true) (an : Ann) {rs : List ResultVar} {K : Value → WP} (g : Operand) (ps : Array Tmp) (asg body : Code) (ds : List Nat) (e : Env) (a : Act) (w : World) (Kn : Nat → WP) (Q : Exit → Act → World → Prop) (hr : Rep n (marks ds) e a) (hnd : (noDf asg && noDf body) = true)
    (hn : ∀ d a' w', Rep n (marks (d :: ds)) e a' → Kn d w' → Q .normal a' w') (hj : ∀ d a' w', Rep n (marks (d :: ds)) e a' → takeS (d :: ds) (retL P n rs e [] K) w' → Q .ret a' w')
    (hp : ∀ d ch a' w', Rep n (marks (d :: ds)) e a' → takeS (d :: ds) (Kp ch) w' → Q (.panic ch) a' w')
    (h : rfS P (ev n e g) ps.toList.length (roundS P n an ps.toList asg body e) Kn (fun d => takeS (d :: ds) (retL P n rs e [] K)) (fun d ch => takeS (d :: ds) (Kp ch)) w) :
    (Code.rangeFunc g ps asg body).wpIn Fence.wide 0 P Q a w := by
  simp only [Bool.and_eq_true] at hnd
  obtain ⟨f, cap, hfv, hent, h⟩ := h.out
  refine wpIn_rangeFunc fun fnid _ => ?_
  obtain ⟨rec, hrec⟩ : ∃ rec : Rec, rec = fun st pe => { state := st, pending := pe, fn := fnid, tmps := a.tmps, params := ps, assign := asg, body, defers := w.heap.size } := ⟨_, rfl⟩
  have hg : a.eval g = .func (.func f) #[] cap := by rw [hr.eval]; exact hfv
  have hr2 : ∀ d, Rep n (marks (d :: ds)) e { a with defers := [{ target := .collected d, args := #[] }] ++ a.defers } := fun d => ⟨by show [({ target := .collected d, args := #[] } : Deferred)] ++ a.defers = _; rw [hr.defers]; rfl, hr.size, hr.at_⟩
  refine ⟨w.heap.size + 1, [{ target := .collected w.heap.size, args := #[] }], (w.alloc (.deferred (some []))).alloc (.loop (rec .ready none)), { target := .fn (.func f) cap, args := #[.func (.yield (w.heap.size + 1)) #[] #[]] }, (w.alloc (.deferred (some []))).alloc (.loop (rec .ready none)), f,
    #[.func (.yield (w.heap.size + 1)) #[] #[]] ++ cap, (w.alloc (.deferred (some []))).alloc (.loop (rec .ready none)), ?_, ?_, fun _ _ => trivial, ?_, fun c => by simp [Fence.wide] at c, ?_⟩
  · rw [hrec]; exact run_enterLoop_outer _ _ _ _ _
  · simp only [resolve, hg]
    simp [go_sem]
  · simp [invoke, go_sem, hent]
  · refine callsIn_wide.2 ((h rec ?_).mono ?_)
    · intro vs w' R' hvs hl hrnd
      have hy := run_yield (P := P) (args := vs.toArray) hl (by rw [hrec]; simpa using hvs)
      rw [hrec] at hy
      refine ⟨_, _, _, _, hy, roundIn_of_wpIn trivial ?_⟩
      have hrnd : cev P n an noK asg (kAsg (beginS (w.heap.size + 1) rec) (cev P n an noK body (kRnd (endS (w.heap.size + 1) rec none (R' (.returned (.bool true)))) (endS (w.heap.size + 1) rec (some .ret) (R' (.returned (.bool false))))))) (setAll e ps.toList vs) w' := by
        unfold roundS at hrnd
        rwa [vapp_vlam _ _ _ hvs] at hrnd
      have hr3 : Rep n [] (setAll e ps.toList vs) { tmps := (ps.zip vs.toArray).foldl (fun (t : Array Value) (x : Nat × Value) => t.setIfInBounds x.1 x.2) a.tmps, defers := [] } := by
        have := rep_round (n := n) (e := e) ps.toList vs e a.tmps hvs.symm hr.size hr.at_
        rw [← Array.foldl_toList]
        simpa using this
      refine wpIn_mono (cev_sound (R := some (w.heap.size + 1)) (D := []) hm an asg (.inr hnd.1) _ _ _ w' hr3 hrnd) fun ex a1 w1 hq => ?_
      cases ex with
      | normal =>
        obtain ⟨e1, hr1, _, hb1, hb2⟩ := hq
        refine ⟨_, by have := run_beginRound (P := P) hb1 (by rw [hrec]); rw [hrec] at this; exact this, ?_⟩
        rw [hrec] at hb2
        refine wpIn_mono (cev_sound (R := some (w.heap.size + 1)) (D := []) hm an body (.inr hnd.2) _ _ _ _ hr1 hb2) fun ex a2 w2 hq => ?_
        cases ex with
        | normal =>
          obtain ⟨e2, hr2, _, hc1, hc2⟩ := hq
          exact ⟨_, _, run_endRound (P := P) none hc1, hc2⟩
        | ret =>
          obtain ⟨e2, hr2, _, hc1, hc2⟩ := hq
          exact ⟨_, _, run_endRound (P := P) (some .ret) hc1, hc2⟩
        | exit id => obtain ⟨_, _, _, hk⟩ := hq; exact hk.elim
        | goto l => obtain ⟨_, _, _, hk⟩ := hq; exact hk.elim
        | panic ch => exact hq.2.elim
        | outgrown => exact hq.elim
      | exit id => obtain ⟨_, _, _, hk⟩ := hq; exact hk.elim
      | ret => obtain ⟨_, _, _, hk⟩ := hq; exact hk.elim
      | goto l => obtain ⟨_, _, _, hk⟩ := hq; exact hk.elim
      | panic ch => exact hq.2.elim
      | outgrown => exact hq.elim
    · intro en w3 he
      cases en with
      | returned v =>
        rcases he with ⟨h1, h2⟩ | ⟨h1, h2⟩
        · exact ⟨none, _, by have := run_endLoop (P := P) h1 (by rw [hrec]; simp); rw [hrec] at this; exact this, hn _ _ _ (hr2 _) (by rw [hrec] at h2; exact h2)⟩
        · exact ⟨some .ret, _, by have := run_endLoop (P := P) h1 (by rw [hrec]; simp); rw [hrec] at this; exact this, wpIn_ret (hj _ _ _ (hr2 _) (by rw [hrec] at h2; exact h2))⟩
      | panicked ch => exact hp _ _ _ _ (hr2 _) he
      | outgrown => exact he.elim

theorem cevC_sound (hm : P.follows .mixedOrders = true) (an : Ann) {rs : List ResultVar} {K : Value → WP} :
    ∀ (c : Code) (k : List Nat → Env → WP) (Q : Exit → Act → World → Prop) (ds : List Nat) (e : Env) (a : Act) (w : World),
      (∀ ds e a w, Rep n (marks ds) e a → k ds e w → Q .normal a w) → (∀ ds e a w, Rep n (marks ds) e a → takeS ds (retL P n rs e [] K) w → Q .ret a w) → (∀ ds ch a w, a.defers = marks ds → takeS ds (Kp ch) w → Q (.panic ch) a w) →
      Rep n (marks ds) e a → cevC P n an rs Kp K c k ds e w → c.wpIn Fence.wide 0 P Q a w := by
  have leaf : ∀ (c : Code) (k : List Nat → Env → WP) (Q : Exit → Act → World → Prop) (ds : List Nat) (e : Env) (a : Act) (w : World),
      (∀ ds e a w, Rep n (marks ds) e a → k ds e w → Q .normal a w) → (∀ ds e a w, Rep n (marks ds) e a → takeS ds (retL P n rs e [] K) w → Q .ret a w) → (∀ ds ch a w, a.defers = marks ds → takeS ds (Kp ch) w → Q (.panic ch) a w) →
      Rep n (marks ds) e a → cev P n an (KpM ds Kp) c (kSeq (kFunM P n rs ds K) (k ds)) e w → c.wpIn Fence.wide 0 P Q a w := by
    intro c k Q ds e a w hN hR hP hr h
    refine wpIn_mono (cev_sound (R := none) hm an c (.inl rfl) _ e a w hr h) fun ex a w hq => ?_
    cases ex with
    | normal => obtain ⟨e', hr', _, hk⟩ := hq; exact hN _ _ _ _ hr' hk
    | ret => obtain ⟨e', hr', _, hk⟩ := hq; exact hR _ _ _ _ hr' hk
    | panic ch => exact hP _ _ _ _ hq.1.defers hq.2
    | exit id => obtain ⟨_, _, _, hk⟩ := hq; exact hk.elim
    | goto l => obtain ⟨_, _, _, hk⟩ := hq; exact hk.elim
    | outgrown => exact hq.elim
  have range : ∀ (g : Operand) (ps : Array Tmp) (asg body : Code) (k : List Nat → Env → WP) (Q : Exit → Act → World → Prop) (ds : List Nat) (e : Env) (a : Act) (w : World),
      (∀ ds e a w, Rep n (marks ds) e a → k ds e w → Q .normal a w) → (∀ ds e a w, Rep n (marks ds) e a → takeS ds (retL P n rs e [] K) w → Q .ret a w) → (∀ ds ch a w, a.defers = marks ds → takeS ds (Kp ch) w → Q (.panic ch) a w) →
      Rep n (marks ds) e a → rfC P n an rs Kp K g ps asg body k ds e w → (Code.rangeFunc g ps asg body).wpIn Fence.wide 0 P Q a w := by
    intro g ps asg body k Q ds e a w hN hR hP hr h
    unfold rfC at h
    cases hnd : (noDf asg && noDf body) with
    | false => rw [hnd] at h; exact h.elim
    | true =>
      rw [hnd] at h
      exact range_sound hm an g ps asg body ds e a w _ Q hr hnd (fun d a' w' hr' hk => hN _ _ _ _ hr' hk) (fun d a' w' hr' hk => hR _ _ _ _ hr' hk) (fun d ch a' w' hr' hk => hP _ _ _ _ hr'.defers hk) h
  intro c
  induction c with
  | seq x y ihx ihy =>
    intro k Q ds e a w hN hR hP hr h
    simp only [cevC] at h
    cases hrf : (hasRf x || hasRf y) with
    | false => rw [hrf] at h; exact leaf _ k Q ds e a w hN hR hP hr h
    | true =>
      rw [hrf] at h
      simp only at h
      generalize hlk : (match (hasRf x || isPlain x) with | true => none | false => look (firstId y) an.cuts : Option (List Nat)) = lk at h
      cases lk with
      | none =>
        refine wpIn_seq (ihx _ _ ds e a w (fun ds e a w hr hk => ?_) (fun ds e a w hr hk => hR _ _ _ _ hr hk) (fun ds ch a w hd hk => hP _ _ _ _ hd hk) hr h)
        exact ihy k Q ds e a w hN hR hP hr hk
      | some live =>
        obtain ⟨J, h1, h2⟩ := cut_use h
        refine wpIn_seq (wpIn_mono (cev_sound (R := none) hm an x (.inl rfl) _ e a w hr h2) fun ex a' w' hq => ?_)
        cases ex with
        | normal =>
          obtain ⟨e', hr', ha, hk⟩ := hq
          have := h1 e' live (deadOf x live) rfl w' hk
          rw [upd_of_agree ha dead_live] at this
          exact ihy k Q ds e' a' w' hN hR hP hr' this
        | ret => obtain ⟨e', hr', _, hk⟩ := hq; exact hR _ _ _ _ hr' hk
        | panic ch => exact hP _ _ _ _ hq.1.defers hq.2
        | exit id => obtain ⟨_, _, _, hk⟩ := hq; exact hk.elim
        | goto l => obtain ⟨_, _, _, hk⟩ := hq; exact hk.elim
        | outgrown => exact hq.elim
  | block id b ih =>
    intro k Q ds e a w hN hR hP hr h
    cases b with
    | rangeFunc g ps asg body =>
      exact wpIn_block (range g ps asg body k (Exit.inBlock id Q) ds e a w (fun ds e a w hr hk => hN _ _ _ _ hr hk) (fun ds e a w hr hk => hR _ _ _ _ hr hk) (fun ds ch a w hd hk => hP _ _ _ _ hd hk) hr h)
    | skip => exact leaf _ k Q ds e a w hN hR hP hr h
    | region id ops draw => exact leaf _ k Q ds e a w hN hR hP hr h
    | seq x1 x2 => exact leaf _ k Q ds e a w hN hR hP hr h
    | cond c x1 x2 => exact leaf _ k Q ds e a w hN hR hP hr h
    | block id b => exact leaf _ k Q ds e a w hN hR hP hr h
    | loop b => exact leaf _ k Q ds e a w hN hR hP hr h
    | exit id => exact leaf _ k Q ds e a w hN hR hP hr h
    | scope b => exact leaf _ k Q ds e a w hN hR hP hr h
    | label l => exact leaf _ k Q ds e a w hN hR hP hr h
    | goto l => exact leaf _ k Q ds e a w hN hR hP hr h
    | ret => exact leaf _ k Q ds e a w hN hR hP hr h
    | refuse s => exact leaf _ k Q ds e a w hN hR hP hr h
  | rangeFunc g ps asg body => exact fun k Q ds e a w hN hR hP hr h => range g ps asg body k Q ds e a w hN hR hP hr h
  | skip => exact fun k Q ds e a w hN hR hP hr h => leaf _ k Q ds e a w hN hR hP hr h
  | region id ops draw => exact fun k Q ds e a w hN hR hP hr h => leaf _ k Q ds e a w hN hR hP hr h
  | cond c x y _ _ => exact fun k Q ds e a w hN hR hP hr h => leaf _ k Q ds e a w hN hR hP hr h
  | loop b _ => exact fun k Q ds e a w hN hR hP hr h => leaf _ k Q ds e a w hN hR hP hr h
  | exit id => exact fun k Q ds e a w hN hR hP hr h => leaf _ k Q ds e a w hN hR hP hr h
  | scope b _ => exact fun k Q ds e a w hN hR hP hr h => leaf _ k Q ds e a w hN hR hP hr h
  | label l => exact fun k Q ds e a w hN hR hP hr h => leaf _ k Q ds e a w hN hR hP hr h
  | goto l => exact fun k Q ds e a w hN hR hP hr h => leaf _ k Q ds e a w hN hR hP hr h
  | ret => exact fun k Q ds e a w hN hR hP hr h => leaf _ k Q ds e a w hN hR hP hr h
  | refuse s => exact fun k Q ds e a w hN hR hP hr h => leaf _ k Q ds e a w hN hR hP hr h

theorem calls_of_cevT (hm : P.follows .mixedOrders = true) {f : FuncId} {fn : Func} (hf : P.funcs[f]? = some fn) {an : Ann} {args : List Value} {K : Value → WP} {w : World} (h : cevFT P an fn args Kp K w) :
    Calls P f args.toArray w fun
      | .returned v, w' => K v w'
      | .panicked ch, w' => Kp ch w'
      | .outgrown, _ => False := by
  unfold cevFT at h
  cases hb : fn.body with
  | none => rw [hb] at h; exact h.elim
  | some c =>
    rw [hb] at h
    refine (callsIn_wide (n := 0)).1 (callsIn_of_wp_marks hf hb trivial ?_ rfl)
    have hr : Rep (args.length + (fn.ntmps - args.length)) (marks []) (env0 args) { tmps := args.toArray ++ Array.replicate (fn.ntmps - args.toArray.size) undef, defers := [] } := by
      refine ⟨rfl, by simp, fun i hi => ?_⟩
      rw [env0_eq, List.getD_eq_getElem?_getD, Array.getElem?_append]
      by_cases hl : i < args.length
      · simp [hl]
      · rw [if_neg (by simpa using hl), Array.getElem?_eq_getElem (by simp; omega)]
        simp only [List.getElem?_eq_none (Nat.le_of_not_lt hl), Array.getElem_replicate, Option.getD_none]
    have ret0 : ∀ (ds : List Nat) (e : Env) (a : Act) (w : World), Rep (args.length + (fn.ntmps - args.length)) (marks ds) e a → takeS ds (retL P (args.length + (fn.ntmps - args.length)) fn.results.toList e [] K) w → LeavesInM Fence.wide 0 P fn a.tmps (fun
      | .returned v, w' => K v w'
      | .panicked ch, w' => Kp ch w'
      | .outgrown, _ => False) a.defers .returning w := by
      intro ds e a w hr h
      rw [hr.defers]
      refine leavesM (by simp) (fun w' hw' => ?_) ds w h
      obtain ⟨v, h1, h2⟩ := results_run hr hw'
      exact ⟨v, h1, h2⟩
    refine cevC_sound hm an c _ _ [] _ _ w ret0 ret0 (fun ds ch a w hd h => ?_) hr h
    show LeavesInM Fence.wide 0 P fn a.tmps _ a.defers (.panicking ch) w
    rw [hd]
    exact leavesM (fn := fn) (tmps := a.tmps) (R := fun
      | .returned v, w' => K v w'
      | .panicked ch, w' => Kp ch w'
      | .outgrown, _ => False) (u := .panicking ch) (S := Kp ch) (by simp) (fun w' hw' => hw') ds w h
end Go.Proofs.Ytehfblkpbadikaa.Sh
