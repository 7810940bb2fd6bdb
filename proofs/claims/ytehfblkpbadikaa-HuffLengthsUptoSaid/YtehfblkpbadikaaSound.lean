/- The shape suffices: whatever 'cev' asks of a code, the model's run of that code gives. No conditions. -/
import Derived.Test.YtehfblkpbadikaaShape
import Derived.Tactics
namespace Go.Proofs.Ytehfblkpbadikaa.Sh
open Go

variable {P : Program} {n : Nat} {D : List Deferred} {Kp : List PanicEntry → WP} {R : Option Nat}

/-! ### no fence, but for the round -/
def FW (R : Option Nat) : Fence := { Fence.wide with round := R }
theorem roomFW (m : Nat) : (FW R).room m := fun _ h => by simp [FW, Fence.wide] at h
theorem callsIn_FW {m : Nat} {f : FuncId} {args : Array Value} {w : World} {Q : Ending → World → Prop} (h : Calls P f args w Q) : CallsIn (FW R) m P f args w Q :=
  ⟨trivial, fun cs _ => let ⟨e, w', fr, r, s, x⟩ := h cs; ⟨e, w', fr, r, comesIn_wide.2 s, x⟩⟩
theorem roundIn_FW {m : Nat} {l : Nat} {f : FuncId} {tmps : Array Value} {assign body : Code} {w : World} {Q : Ending → World → Prop} (h : RoundIn Fence.wide 0 P l f tmps assign body w Q) : RoundIn (FW R) m P l f tmps assign body w Q :=
  ⟨trivial, fun c cs _ => h.2 c cs (room_wide _)⟩
def okD (R : Option Nat) (o : Oper) : Prop := R = none ∨ ∀ c, o.op ≠ .defer c
theorem semAt_okD {o : Oper} (h : okD R o) (ρ : Operand → Value) : o.semAt R ρ = execOp ρ o := by
  rcases h with rfl | h
  · rfl
  · exact Oper.semAt_eq _ _ _ h
theorem okD_of {o : Oper} (h : opDf? o = false) : okD R o := .inr fun c hc => by simp [opDf?, hc] at h
theorem okD_reg {id : Nat} {ops : Array Oper} {b : Bool} (h : R = none ∨ noDf (.region id ops b) = true) : ∀ o ∈ ops.toList, okD R o := fun o ho => by
  rcases h with h | h
  · exact .inl h
  · refine okD_of ?_
    have := List.all_eq_true.1 h o ho
    simpa using this

/-! ### environments -/
structure Rep (n : Nat) (D : List Deferred) (e : Env) (a : Act) : Prop where
  defers : a.defers = D
  size : a.tmps.size = n
  at_ : ∀ i, i < n → a.tmps[i]? = some (e i)

theorem Rep.getD {n : Nat} {D : List Deferred} {e : Env} {a : Act} (h : Rep n D e a) (t : Nat) : a.tmps.getD t undef = ev n e (.tmp t) := by
  rw [Array.getD_eq_getD_getElem?]
  by_cases hl : t < n
  · have hb : Nat.blt t n = true := by simpa using hl
    simp only [ev, hb, h.at_ t hl, Option.getD_some]
  · have hb : Nat.blt t n = false := by
      cases h : Nat.blt t n with
      | false => rfl
      | true => exact absurd (by simpa using h) hl
    simp only [ev, hb]
    rw [Array.getElem?_eq_none (by rw [h.size]; omega)]; rfl

theorem Rep.eval {n : Nat} {D : List Deferred} {e : Env} {a : Act} (h : Rep n D e a) : a.eval = ev n e := by
  funext x
  cases x with
  | tmp t => exact h.getD t
  | _ => rfl

theorem setE_eq (e : Env) (d : Nat) (v : Value) (i : Nat) : setE e d v i = if i = d then v else e i := by
  unfold setE
  cases h : Nat.beq i d with
  | true => rw [if_pos (Nat.eq_of_beq_eq_true h)]
  | false => rw [if_neg (Nat.ne_of_beq_eq_false h)]

theorem Rep.put {n : Nat} {D : List Deferred} {e : Env} {a : Act} (h : Rep n D e a) (d : Option Tmp) (v : Value) : Rep n D (setD e d v) (a.put d v) := by
  cases d with
  | none => exact h
  | some d =>
    refine ⟨h.defers, by simp [Act.put, h.size], fun i hi => ?_⟩
    simp only [Act.put, setD, setE_eq, Array.getElem?_setIfInBounds]
    by_cases hid : d = i
    · subst hid; simp [h.size, hi]
    · rw [if_neg hid, if_neg (fun c => hid c.symm)]; exact h.at_ i hi

structure Agree (M : List Nat) (e e' : Env) : Prop where
  same : ∀ i, i ∉ M → e' i = e i

theorem Agree.refl (M : List Nat) (e : Env) : Agree M e e := ⟨fun _ _ => rfl⟩
theorem Agree.trans {M M' N : List Nat} {e e' e'' : Env} (h : Agree M e e') (h' : Agree M' e' e'') (s : ∀ i ∈ M, i ∈ N) (s' : ∀ i ∈ M', i ∈ N) : Agree N e e'' :=
  ⟨fun i hi => (h'.same i (fun m => hi (s' i m))).trans (h.same i (fun m => hi (s i m)))⟩
theorem Agree.mono {M N : List Nat} {e e' : Env} (h : Agree M e e') (s : ∀ i ∈ M, i ∈ N) : Agree N e e' := ⟨fun i hi => h.same i fun m => hi (s i m)⟩
theorem Agree.set (e : Env) (d : Option Tmp) (v : Value) (M : List Nat) (hd : ∀ t, d = some t → t ∈ M) : Agree M e (setD e d v) := by
  cases d with
  | none => exact .refl _ _
  | some t =>
    refine ⟨fun i hi => ?_⟩
    simp only [setD, setE_eq]
    rw [if_neg]
    rintro rfl
    exact hi (hd _ rfl)

/-! ### what stands behind -/
/-- how an activation is left by a panic: what is not written holds -/
structure PanAt (n : Nat) (D : List Deferred) (M : List Nat) (e : Env) (a : Act) : Prop where
  defers : a.defers = D
  size : a.tmps.size = n
  at_ : ∀ i, i < n → i ∉ M → a.tmps[i]? = some (e i)
theorem Rep.pan {M : List Nat} {e e' : Env} {a : Act} (h : Rep n D e' a) (ha : Agree M e e') : PanAt n D M e a := ⟨h.defers, h.size, fun i hi hm => by rw [h.at_ i hi, ha.same i hm]⟩
theorem PanAt.grow {M N : List Nat} {e e₁ : Env} {a : Act} (h : PanAt n D M e₁ a) (ha : Agree N e e₁) (hs : ∀ i ∈ M, i ∈ N) : PanAt n D N e a := ⟨h.defers, h.size, fun i hi hm => by rw [h.at_ i hi (fun c => hm (hs i c)), ha.same i hm]⟩
theorem PanAt.unput {M : List Nat} {e : Env} {a : Act} {d : Option Tmp} {v : Value} (h : PanAt n D M e (a.put d v)) (hd : ∀ t, d = some t → t ∈ M) : PanAt n D M e a := by
  cases d with
  | none => exact h
  | some d =>
    refine ⟨h.defers, by simpa [Act.put] using h.size, fun i hi hm => ?_⟩
    have := h.at_ i hi hm
    have hne : d ≠ i := fun c => hm (c ▸ hd d rfl)
    simpa [Act.put, Array.getElem?_setIfInBounds_ne hne] using this
def QOf (n : Nat) (D : List Deferred) (Kp : List PanicEntry → WP) (K : KT) (M : List Nat) (e : Env) : Exit → Act → World → Prop
  | .panic ch, a, w => PanAt n D M e a ∧ Kp ch w
  | .normal, a, w => ∃ e', Rep n D e' a ∧ Agree M e e' ∧ K .normal e' w
  | .exit id, a, w => ∃ e', Rep n D e' a ∧ Agree M e e' ∧ K (.exit id) e' w
  | .ret, a, w => ∃ e', Rep n D e' a ∧ Agree M e e' ∧ K .ret e' w
  | .goto l, a, w => ∃ e', Rep n D e' a ∧ Agree M e e' ∧ K (.goto l) e' w
  | .outgrown, _, _ => False

theorem lm {α β : Type} (f : α → β) (a : Array α) : (List.map f a.toList).toArray = a.map f := by rw [← Array.toList_map]

theorem execL_eq (e : Env) (o : Oper) : execL n e o = execOp (ev n e) o := by
  unfold execL
  split
  · rename_i h; simp only [execOp, h, lm]
  · rename_i h; simp only [execOp, h, lm]
  · rename_i h; simp only [execOp, h, lm]
  · rename_i c h
    split
    · rename_i hc; simp only [execOp, h, resolve, hc, lm]
    all_goals first
      | rfl
      | (rename_i hc; simp only [execOp, h, resolve, hc, lm, pure_bind, invoke, builtin])
  · rfl

theorem upon_opN {s : Sem Next} {k : Value → WP} {w : World} {o : Oper} {e : Env} {a : Act} {next : Act → World → Prop} {Q : Exit → Act → World → Prop} (hr : Rep n D e a)
    (ho : execOp (ev n e) o = s) (hd : okD R o) (h : opN P s Kp k w) (hn : ∀ v w' a', k v w' → Rep n D (setD e o.dst v) a' → next a' w')
    (hp : ∀ ch w', Kp ch w' → Q (.panic ch) a w') : o.wpIn (FW R) 0 P a w next Q := by
  refine ⟨fun _ _ => trivial, ?_⟩
  rw [show (FW R).round = R from rfl, semAt_okD hd, hr.eval, ho]
  replace h := h.out
  generalize s.run P w = r at h
  cases r with
  | ok n w' =>
    cases n <;> simp only at h <;> simp only [Oper.uponIn]
    case value v => exact hn _ _ _ h (hr.put _ _)
    case skip => exact hn _ _ _ h (hr.put _ _)
    case enter f args =>
      refine ⟨fun c => by simp [FW, Fence.wide] at c, callsIn_FW (Calls.mono h fun en w'' he => ?_)⟩
      cases en with
      | returned v => exact hn _ _ _ he (hr.put _ _)
      | panicked ch => exact hp _ _ he
      | outgrown => exact he.elim
    case round l f tmps assign body =>
      refine ⟨fun c => by simp [FW, Fence.wide] at c, roundIn_FW (RoundIn.mono h fun en w'' he => ?_)⟩
      cases en with
      | returned v => exact hn _ _ _ he (hr.put _ _)
      | panicked ch => exact hp _ _ he
      | outgrown => exact he.elim
  | halt x w' =>
    cases x <;> simp only at h <;> simp only [Oper.uponIn]
    case panic v => exact hp _ _ h

theorem opN_of_stepO {k : Value → WP} {w : World} {o : Oper} {e : Env} (h : stepO P n e o Kp k w) : opN P (execOp (ev n e) o) Kp k w := by
  rw [← execL_eq]
  unfold stepO at h
  cases hop : o.op <;> rw [hop] at h <;> first
    | exact h
    | exact ⟨by simp only [execL, execOp, hop]; exact h⟩

theorem upon_stepO {k : Value → WP} {w : World} {o : Oper} {e : Env} {a : Act} {next : Act → World → Prop} {Q : Exit → Act → World → Prop} (hr : Rep n D e a)
    (hd : okD R o) (h : stepO P n e o Kp k w) (hn : ∀ v w' a', k v w' → Rep n D (setD e o.dst v) a' → next a' w')
    (hp : ∀ ch w', Kp ch w' → Q (.panic ch) a w') : o.wpIn (FW R) 0 P a w next Q := upon_opN hr rfl hd (opN_of_stepO h) hn hp

theorem stS_of_stepS {k : Value → WP} {w : World} {o : Oper} {e : Env} (h : stepS P n e o k w) : stS P (execOp (ev n e) o) k w := by
  rw [← execL_eq]
  unfold stepS at h
  cases hop : o.op <;> rw [hop] at h <;> first
    | exact h
    | exact ⟨⟨_, by simp only [execL, execOp, hop]; rfl, h⟩⟩

theorem wanted_none {o : Oper} {y : Nat → Option Bool} (h : o.guard = none) : Region.wanted o y = true := by simp [Region.wanted, h]

theorem yielded_gval (ops : Array Oper) {e : Env} {a : Act} (hr : Rep n D e a) (j : Nat) (want : Bool) : (yielded ops a.tmps j == some want) = true ↔ gval n ops e j = .bool want := by
  unfold yielded gval
  cases h : (ops[j]?).bind (·.dst) with
  | none => simp [undef]
  | some t =>
    simp only [Option.bind_some]
    have hg := hr.getD t
    rw [Array.getD_eq_getD_getElem?] at hg
    rw [← hg]
    cases a.tmps[t]? with
    | none => simp [undef]
    | some v => cases v <;> simp

/-- a guard, asked -/
theorem gdS_cases {ops : Array Oper} {e : Env} {a : Act} (hr : Rep n D e a) {o : Oper} {j : Nat} {want : Bool} {A B : WP} {w : World} (hg : o.guard = some (j, want)) (h : gdS (gval n ops e j) want A B w) :
    (Region.wanted o (yielded ops a.tmps) = true ∧ A w) ∨ (Region.wanted o (yielded ops a.tmps) = false ∧ B w) := by
  have hy := yielded_gval ops hr j want
  simp only [Region.wanted, hg]
  unfold gdS at h
  by_cases hv : gval n ops e j = .bool want
  · rw [hv] at h
    simp only [if_true] at h
    exact .inl ⟨hy.2 hv, h⟩
  · refine .inr ⟨by simpa using fun c => hv (hy.1 (by simpa using c)), ?_⟩
    split at h
    · rename_i b hb
      rw [if_neg (fun c => hv (by rw [hb, c]))] at h
      exact h
    · exact h

theorem gdO_cases {ops : Array Oper} {e : Env} {a : Act} (hr : Rep n D e a) {o : Oper} {body : (Value → WP) → WP} {k : Value → WP} {w : World} (h : gdO n ops e o body k w) :
    (Region.wanted o (yielded ops a.tmps) = true ∧ body k w) ∨ (Region.wanted o (yielded ops a.tmps) = false ∧ k undef w) := by
  unfold gdO at h
  cases hg : o.guard with
  | none => rw [hg] at h; exact .inl ⟨wanted_none hg, h⟩
  | some g => obtain ⟨j, want⟩ := g; rw [hg] at h; exact gdS_cases hr hg h.out

theorem gdOD_cases {ops : Array Oper} {e : Env} {a : Act} (hr : Rep n D e a) {o : Oper} {body : (WP → Value → WP) → WP} {k : WP → Value → WP} {w : World} (h : gdOD n ops e o body k w) :
    (Region.wanted o (yielded ops a.tmps) = true ∧ body k w) ∨ (Region.wanted o (yielded ops a.tmps) = false ∧ k (fun _ => True) undef w) := by
  unfold gdOD at h
  cases hg : o.guard with
  | none => rw [hg] at h; exact .inl ⟨wanted_none hg, h⟩
  | some g => obtain ⟨j, want⟩ := g; rw [hg] at h; exact gdS_cases hr hg h.out

theorem evOps_sound {ops : Array Oper} {K : Env → WP} {Q : Exit → Act → World → Prop} (M : List Nat) (e₀ : Env)
    (hn : ∀ e a w, Rep n D e a → Agree M e₀ e → K e w → Q .normal a w) (hp : ∀ ch e a w, Rep n D e a → Agree M e₀ e → Kp ch w → Q (.panic ch) a w) :
    ∀ (l : List Oper) (e : Env) (a : Act) (w : World), (∀ o ∈ l, okD R o) → (∀ o ∈ l, ∀ t, o.dst = some t → t ∈ M) → Rep n D e a → Agree M e₀ e → evOps P n ops Kp K l e w → wpListIn (FW R) 0 P ops Q l a w
  | [], e, a, w, _, _, hr, ha, h => hn e a w hr ha h
  | o :: l, e, a, w, hD, hM, hr, ha, h => by
    unfold evOps at h
    unfold wpListIn
    have hd : ∀ t, o.dst = some t → t ∈ M := hM o (by simp)
    have next : ∀ v w' a', evOps P n ops Kp K l (setD e o.dst v) w' → Rep n D (setD e o.dst v) a' → wpListIn (FW R) 0 P ops Q l a' w' := fun v w' a' hv hr' =>
      evOps_sound M e₀ hn hp l _ a' w' (fun x hx => hD x (by simp [hx])) (fun x hx => hM x (by simp [hx])) hr' (ha.trans (.set e o.dst v M hd) (fun _ h => h) (fun _ h => h)) hv
    rcases gdO_cases hr h with ⟨hw, h⟩ | ⟨hw, h⟩
    · rw [if_pos hw]
      exact upon_stepO hr (hD o (by simp)) h next (fun ch w' => hp ch e _ w' hr ha)
    · rw [if_neg (by simp [hw])]
      exact ⟨fun _ _ => trivial, next _ _ _ h (hr.put _ _)⟩

/-! ### updates -/
theorem setAll_at (f : Nat → Value) (is : List Nat) : ∀ (e : Env) (i : Nat), setAll e is (is.map f) i = if i ∈ is then f i else e i := by
  induction is with
  | nil => intro e i; simp [setAll]
  | cons j is ih =>
    intro e i
    simp only [setAll, List.map_cons, List.headD_cons, List.tail_cons, ih, List.mem_cons, setE_eq]
    by_cases h1 : i ∈ is
    · rw [if_pos h1, if_pos (.inr h1)]
    · rw [if_neg h1]
      by_cases hji : i = j
      · rw [if_pos hji, if_pos (.inl hji), hji]
      · rw [if_neg hji, if_neg]
        rintro (h | h)
        · exact hji h
        · exact h1 h

theorem upd_of_agree {M dead live : List Nat} {e e' : Env} (h : Agree M e e') (hM : ∀ i ∈ M, i ∈ live ∨ i ∈ dead) : upd e dead (gets e' dead) live (gets e' live) = e' := by
  funext i
  unfold upd gets
  rw [setAll_at, setAll_at]
  by_cases h1 : i ∈ live
  · rw [if_pos h1]
  · rw [if_neg h1]
    by_cases h2 : i ∈ dead
    · rw [if_pos h2]
    · rw [if_neg h2]
      exact (h.same i (fun m => (hM i m).elim h1 h2)).symm

theorem mem_deadOf {c : Code} {live : List Nat} {i : Nat} : i ∈ deadOf c live ↔ i ∈ wr c ∧ i ∉ live := by
  simp [deadOf]

theorem allVL_gets {f : List Value → Prop} (e : Env) : ∀ (live : List Nat), allVL live.length f → f (gets e live)
  | [], h => h
  | i :: l, h => by
    have := allVL_gets (f := fun vs => f (e i :: vs)) e l (h _)
    exact this

/-! ### loops by a measure that stands in no slot -/
theorem wpIn_loop_ghost {c : Code} {Q : Exit → Act → World → Prop} {a : Act} {w : World} (I : Nat → Act → World → Prop) (h₀ : ∃ m, I m a w)
    (round : ∀ m a w, I m a w → c.wpIn (FW R) 0 P (Exit.then (fun a' w' => ∃ m', m' < m ∧ I m' a' w') Q) a w) : (Code.loop c).wpIn (FW R) 0 P Q a w := by
  have least : ∀ (a : Act) (w : World), (∃ m, I m a w) → ∃ m, I m a w ∧ ∀ m', I m' a w → m ≤ m' := by
    intro a w ⟨m, hm⟩
    induction m using Nat.strongRecOn with
    | _ m ih =>
      by_cases h : ∃ m', m' < m ∧ I m' a w
      · obtain ⟨m', hlt, hm'⟩ := h; exact ih m' hlt hm'
      · refine ⟨m, hm, fun m' hm' => ?_⟩
        rcases Nat.lt_or_ge m' m with hlt | hge
        · exact absurd ⟨m', hlt, hm'⟩ h
        · exact hge
  let μ : Act → World → Nat := fun a w => open Classical in if h : ∃ m, I m a w then Classical.choose (least a w h) else 0
  have hμ : ∀ a w, (∃ m, I m a w) → I (μ a w) a w ∧ ∀ m', I m' a w → μ a w ≤ m' := by
    intro a w h
    have e : μ a w = Classical.choose (least a w h) := dif_pos h
    rw [e]
    exact Classical.choose_spec (least a w h)
  refine wpIn_loop (fun a w => ∃ m, I m a w) μ h₀ fun a w h => ?_
  refine wpIn_mono (round _ a w (hμ a w h).1) fun ex a' w' hq => ?_
  cases ex with
  | normal =>
    obtain ⟨m', hlt, hm'⟩ := hq
    exact ⟨⟨m', hm'⟩, Nat.lt_of_le_of_lt ((hμ a' w' ⟨m', hm'⟩).2 m' hm') hlt⟩
  | _ => exact hq
end Go.Proofs.Ytehfblkpbadikaa.Sh
