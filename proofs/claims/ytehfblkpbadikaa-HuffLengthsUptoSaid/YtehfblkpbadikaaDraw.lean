/- A statement whose order Go leaves open: one walk in one order suffices for every order, as 'drawEv' asks it. No conditions. -/
import Derived.Test.YtehfblkpbadikaaSound
namespace Go.Proofs.Ytehfblkpbadikaa.Sh
open Go

variable {P : Program} {n : Nat} {R : Option Nat} {D : List Deferred} {Kp : List PanicEntry → WP} {ops : Array Oper} {Q : Exit → Act → World → Prop}

def Closed (ops : Array Oper) (E : Array Bool) : Prop :=
  ∀ x o, ops[x]? = some o → E.getD x false = true → ∀ e ∈ o.after, Region.binds .any e = true → E.getD e.on false = true

theorem depT_succ {n k i : Nat} (h : depT ops (n + 1) k i = true) :
    ∃ o, ops[k]? = some o ∧ ∃ e ∈ o.after, Region.binds .any e = true ∧ (e.on = i ∨ depT ops n e.on i = true) := by
  unfold depT at h
  cases ho : ops[k]? with
  | none => rw [ho] at h; cases h
  | some o =>
    rw [ho] at h
    obtain ⟨e, he, hb⟩ := List.any_eq_true.1 h
    simp only [Bool.and_eq_true, Bool.or_eq_true, beq_iff_eq] at hb
    exact ⟨o, rfl, e, by simpa using he, hb.1, hb.2⟩

theorem depT_closed {E : Array Bool} (hc : Closed ops E) : ∀ n k i, E.getD k false = true → depT ops n k i = true → E.getD i false = true
  | 0, _, _, _, h => by simp [depT] at h
  | n + 1, k, i, hk, h => by
    obtain ⟨o, ho, e, he, hb, h⟩ := depT_succ h
    have hE := hc k o ho hk e he hb
    rcases h with h | h
    · rw [← h]; exact hE
    · exact depT_closed hc n e.on i hE h

theorem getD_tf {E : Array Bool} {i : Nat} (h : E.getD i true = false) : E.getD i false = false := by
  rcases Nat.lt_or_ge i E.size with h' | h'
  · simp [h'] at h ⊢; exact h
  · simp [Array.getElem?_eq_none h'] at h

theorem dep_ready {E : Array Bool} (hc : Closed ops E) {n i j : Nat} (hj : j ∈ Region.ready .any ops E) (hi : E.getD i true = false) : depT ops n j i = false := by
  cases n with
  | zero => rfl
  | succ n =>
    cases h : depT ops (n + 1) j i with
    | false => rfl
    | true =>
      obtain ⟨o, ho, e, he, hb, h⟩ := depT_succ h
      obtain ⟨_, o', ho', hall⟩ := mem_ready.1 hj
      obtain rfl : o = o' := Option.some.inj (ho.symm.trans ho')
      have hE := hall e he hb
      have hf := getD_tf hi
      rcases h with h | h
      · rw [h, hf] at hE; cases hE
      · rw [depT_closed hc n _ _ hE h] at hf; cases hf

theorem Closed.set {E : Array Bool} (hc : Closed ops E) {j : Nat} (hj : j ∈ Region.ready .any ops E) : Closed ops (E.setIfInBounds j true) := by
  intro x o ho hx e he hb
  obtain ⟨_, o', ho', hall⟩ := mem_ready.1 hj
  by_cases hxj : j = x
  · subst hxj
    obtain rfl : o = o' := Option.some.inj (ho.symm.trans ho')
    exact getD_set_true (hall e he hb)
  · rw [getD_set_ne false hxj] at hx
    exact getD_set_true (hc x o ho hx e he hb)

/-- all orders from here; each operation leaves the world, or keeps what is pending and does not precede it -/
def anyC (R : Option Nat) (P : Program) (ops : Array Oper) (Q : Exit → Act → World → Prop) (pend : List (Nat × WP)) : Nat → Array Bool → Act → World → Prop
  | 0, E, a, w => Region.ready .any ops E = [] ∧ Q .normal a w
  | f + 1, E, a, w => (Region.ready .any ops E = [] → Q .normal a w) ∧ ∀ j ∈ Region.ready .any ops E,
      wpOpIn (FW R) 0 P ops Q j (fun a' w' => (w' = w ∨ ∀ p ∈ pend, depT ops ops.size j p.1 = false → p.2 w') ∧ anyC R P ops Q pend f (E.setIfInBounds j true) a' w') a w

theorem anyC_any (pend : List (Nat × WP)) : ∀ (f : Nat) (E : Array Bool) (a : Act) (w : World), anyC R P ops Q pend f E a w → wpAnyIn (FW R) 0 P .any ops Q f E a w
  | 0, _, _, _, h => h
  | f + 1, _, _, _, h => ⟨h.1, fun j hj => wpOpIn_mono (fun _ _ k => anyC_any pend f _ _ _ k.2) (h.2 j hj)⟩

theorem anyC_drop {p : Nat × WP} {pend : List (Nat × WP)} : ∀ (f : Nat) (E : Array Bool) (a : Act) (w : World), anyC R P ops Q (p :: pend) f E a w → anyC R P ops Q pend f E a w
  | 0, _, _, _, h => h
  | f + 1, _, _, _, h => ⟨h.1, fun j hj => wpOpIn_mono (fun _ _ k => ⟨k.1.imp id fun c q hq => c q (by simp [hq]), anyC_drop f _ _ _ k.2⟩) (h.2 j hj)⟩

/-- what an operation yields in every world of a class -/
def YD (P : Program) (ops : Array Oper) (C : WP) (o : Oper) (v : Value) (a : Act) : Prop :=
  (Region.wanted o (yielded ops a.tmps) = true ∧ ∀ w, C w → (execOp a.eval o).run P w = .ok (.value v) w) ∨ (Region.wanted o (yielded ops a.tmps) = false ∧ v = undef)

theorem YD.same {C : WP} {o : Oper} {v : Value} {a a' : Act} (h : YD P ops C o v a) (he : execOp a'.eval o = execOp a.eval o)
    (hw : Region.wanted o (yielded ops a'.tmps) = Region.wanted o (yielded ops a.tmps)) : YD P ops C o v a' := by
  unfold YD at *; rw [he, hw]; exact h

theorem YD.op {C : WP} {i : Nat} {o : Oper} {v : Value} {a : Act} {w : World} (hi : ops[i]? = some o) (hd : okD R o) (h : YD P ops C o v a) (hw : C w) {K : Act → World → Prop} (hk : K (a.put o.dst v) w) : wpOpIn (FW R) 0 P ops Q i K a w := by
  unfold wpOpIn
  simp only [hi]
  rcases h with ⟨h1, h2⟩ | ⟨h1, rfl⟩
  · rw [if_pos h1]; refine ⟨fun _ _ => trivial, ?_⟩; rw [show (FW R).round = R from rfl, semAt_okD hd, h2 w hw]; exact hk
  · rw [if_neg (by simp [h1])]; exact ⟨fun _ _ => trivial, hk⟩

/-- an operation apart from another: the other's value may as well stand already -/
theorem opPut {C : WP} {j : Nat} {oi oj : Oper} {v : Value} (hj : ops[j]? = some oj) (hd : okD R oj) (hap : oi.apart ops oj = true)
    (hsi : ∀ cs b, oi.op ≠ .select cs b) (hsj : ∀ cs b, oj.op ≠ .select cs b) (hQ : ∀ c a w, Q (.panic c) (a.put oi.dst v) w → Q (.panic c) a w)
    {K : Act → World → Prop} {a : Act} {w : World} (hy : YD P ops C oi v a) (h : wpOpIn (FW R) 0 P ops Q j K (a.put oi.dst v) w) :
    wpOpIn (FW R) 0 P ops Q j (fun a' w' => YD P ops C oi v a' ∧ K (a'.put oi.dst v) w') a w := by
  obtain ⟨h1, h2, h3⟩ := Oper.apart_spec hap
  have keep : ∀ (a : Act), YD P ops C oi v a → ∀ u, YD P ops C oi v (a.put oj.dst u) := fun a hy u =>
    hy.same (execOp_put oi hsi a oj.dst u h3) (wanted_put oi a oj.dst u h3)
  unfold wpOpIn at *
  simp only [hj] at *
  rw [wanted_put oj a oi.dst v h1] at h
  by_cases hw : Region.wanted oj (yielded ops a.tmps) = true
  · rw [if_pos hw] at h ⊢
    refine ⟨fun _ _ => trivial, ?_⟩
    have h := h.2
    rw [show (FW R).round = R from rfl, semAt_okD hd] at h ⊢
    rw [execOp_put oj hsj a oi.dst v h1] at h
    cases hr : (execOp a.eval oj).run P w with
    | ok n w' =>
      rw [hr] at h
      cases n <;> simp only [Oper.uponIn] at h ⊢
      case value u => exact ⟨keep a hy u, by rw [← Act.put_comm a v u h2]; exact h⟩
      case skip => exact ⟨keep a hy _, by rw [← Act.put_comm a v undef h2]; exact h⟩
      case defer d =>
        refine ⟨keep { a with defers := d :: a.defers } (hy.same rfl rfl) _, ?_⟩
        rw [← Act.put_comm _ v undef h2, ← Act.put_defers]
        exact h
      case enter f args =>
        refine ⟨h.1, CallsIn.mono h.2 fun e w'' he => ?_⟩
        cases e with
        | returned u => exact ⟨keep a hy u, by rw [← Act.put_comm a v u h2]; exact he⟩
        | panicked c => exact hQ _ _ _ he
        | outgrown => exact he
      case row row args => exact ⟨h.1, RowsIn.mono h.2 fun u w'' he => ⟨keep a hy u, by rw [← Act.put_comm a v u h2]; exact he⟩⟩
      case round l f tmps assign body =>
        refine ⟨h.1, RoundIn.mono h.2 fun e w'' he => ?_⟩
        cases e with
        | returned u => exact ⟨keep a hy u, by rw [← Act.put_comm a v u h2]; exact he⟩
        | panicked c => exact hQ _ _ _ he
        | outgrown => exact he
    | halt x w' =>
      rw [hr] at h
      cases x <;> simp only [Oper.uponIn] at h ⊢
      case panic u => exact hQ _ _ _ h
  · rw [if_neg hw] at h ⊢
    exact ⟨fun _ _ => trivial, keep a hy _, by rw [← Act.put_comm a v undef h2]; exact h.2⟩

theorem first_D {C : WP} {i : Nat} {oi : Oper} {v : Value} {pend : List (Nat × WP)} (hD : ∀ (j : Nat) o, ops[j]? = some o → okD R o) (hi : ops[i]? = some oi) (hsel : ∀ (j : Nat) (o : Oper) cs b, ops[j]? = some o → o.op ≠ .select cs b)
    (hQ : ∀ c a w, Q (.panic c) (a.put oi.dst v) w → Q (.panic c) a w) :
    ∀ (f : Nat) (E : Array Bool) (a : Act) (w : World), Closed ops E →
      (∀ j oj, ops[j]? = some oj → j ≠ i → E.getD j true = false → (∀ e ∈ oj.after, Region.binds .any e = true → e.on ≠ i) → oi.apart ops oj = true) →
      i ∈ Region.ready .any ops E → YD P ops C oi v a → C w →
      anyC R P ops Q ((i, C) :: pend) f (E.setIfInBounds i true) (a.put oi.dst v) w → anyC R P ops Q pend (f + 1) E a w := by
  intro f
  induction f with
  | zero =>
    intro E a w hc _ hr hy hw H
    refine ⟨fun h => (by rw [h] at hr; cases hr), fun j hj => ?_⟩
    by_cases hji : j = i
    · subst hji; exact hy.op hi (hD _ _ hi) hw ⟨.inl rfl, anyC_drop 0 _ _ _ H⟩
    · have := ready_mono hj hji
      rw [H.1] at this
      cases this
  | succ f ih =>
    intro E a w hc hfree hr hy hw H
    refine ⟨fun h => (by rw [h] at hr; cases hr), fun j hj => ?_⟩
    by_cases hji : j = i
    · subst hji; exact hy.op hi (hD _ _ hi) hw ⟨.inl rfl, anyC_drop _ _ _ _ H⟩
    · have h1 := H.2 j (ready_mono hj hji)
      have hiun := (mem_ready.1 hr).1
      have hdep : depT ops ops.size j i = false := dep_ready hc hj hiun
      obtain ⟨hjun, oj, hoj, hall⟩ := mem_ready.1 hj
      have hnot : ∀ e ∈ oj.after, Region.binds .any e = true → e.on ≠ i := fun e he hb heq => by
        have h1 := hall e he hb
        rw [heq, getD_tf hiun] at h1
        cases h1
      have h2 := opPut hoj (hD _ _ hoj) (hfree j oj hoj hji hjun hnot) (fun cs b => hsel i oi cs b hi) (fun cs b => hsel j oj cs b hoj) hQ hy h1
      have hfree' : ∀ k ok, ops[k]? = some ok → k ≠ i → (E.setIfInBounds j true).getD k true = false →
          (∀ e ∈ ok.after, Region.binds .any e = true → e.on ≠ i) → oi.apart ops ok = true := fun k ok hk hki hun hno => by
        refine hfree k ok hk hki ?_ hno
        by_cases hjk : j = k
        · subst hjk; exact hjun
        · rw [getD_set_ne true hjk] at hun; exact hun
      refine wpOpIn_mono (fun a' w' ⟨hy', hk, h3⟩ => ⟨hk.imp id fun c p hp => c p (by simp [hp]), ?_⟩) h2
      refine ih (E.setIfInBounds j true) a' w' (hc.set hj) hfree' (ready_mono hr (Ne.symm hji)) hy' ?_ ?_
      · rcases hk with rfl | hk
        · exact hw
        · exact hk (i, C) (by simp) hdep
      · rw [Array.setIfInBounds_comm _ _ hji]; exact h3

theorem obl_spec {S : WP} {w : World} : ∀ {l : List (Nat × WP)}, obl l S w → (∀ p ∈ l, p.2 w) ∧ S w
  | [], h => ⟨by simp, h⟩
  | (n, C) :: r, h => ⟨by
      intro p hp
      rcases List.mem_cons.1 hp with rfl | hp
      · exact h.1
      · exact (obl_spec h.2).1 p hp, (obl_spec h.2).2⟩

theorem draw_sound {K : Env → WP} (M : List Nat) (e₀ : Env) (hD : ∀ (j : Nat) o, ops[j]? = some o → okD R o) (hM : ∀ (j : Nat) o t, ops[j]? = some o → o.dst = some t → t ∈ M) (hsel : Region.noSelect ops = true)
    (hn : ∀ e a w, Rep n D e a → Agree M e₀ e → K e w → Q .normal a w) (hp : ∀ ch e a w, Rep n D e a → Agree M e₀ e → Kp ch w → Q (.panic ch) a w)
    (hQ : ∀ c (a : Act) d v w, (∀ t, d = some t → t ∈ M) → Q (.panic c) (a.put d v) w → Q (.panic c) a w) :
    ∀ (r : List (Nat × Nat)) (E : Array Bool) (pend pend' : List (Nat × WP)) (e : Env) (a : Act) (w : World), Rep n D e a → okFrom ops r E = true → Closed ops E → Agree M e₀ e →
      (∀ p ∈ pend', p ∈ pend ∨ (∀ w, p.2 w) ∨ ∀ q ∈ r, q.2 = 0 → depT ops ops.size q.1 p.1 = true) →
      drawEv P n ops Kp K r pend e w → anyC R P ops Q pend' r.length E a w
  | [], E, pend, pend', e, a, w, hr', hok, hc, ha, hpd, h => ⟨by simpa [okFrom] using hok, hn e a w hr' ha h⟩
  | (k, md) :: r, E, pend, pend', e, a, w, hr', hok, hc, ha, hpd, h => by
    have hpd' : ∀ p ∈ pend', p ∈ pend ∨ (∀ w, p.2 w) ∨ ∀ q ∈ r, q.2 = 0 → depT ops ops.size q.1 p.1 = true := fun p hp => by
      rcases hpd p hp with h | h | h
      · exact .inl h
      · exact .inr (.inl h)
      · exact .inr (.inr fun q hq => h q (by simp [hq]))
    simp only [drawEv] at h
    cases ho : ops[k]? with
    | none => rw [ho] at h; exact h.elim
    | some o =>
      rw [ho] at h
      simp only at h
      simp only [okFrom, Bool.and_eq_true] at hok
      obtain ⟨hok1, hok2⟩ := hok
      have step : ∀ v, Agree M e₀ (setD e o.dst v) := fun v => ha.trans (.set e o.dst v M (hM k o · ho)) (fun _ h => h) (fun _ h => h)
      match md, h, hok1, hpd with
      | 0, h, hok1, hpd =>
        have hr : Region.ready .any ops E = [k] := by simpa using hok1
        have hk : k ∈ Region.ready .any ops E := by rw [hr]; simp
        refine ⟨fun h0 => (by rw [hr] at h0; cases h0), fun j hj => ?_⟩
        rw [hr, List.mem_singleton] at hj
        subst hj
        unfold wpOpIn
        simp only [ho]
        rcases gdO_cases hr' h with ⟨hw, h⟩ | ⟨hw, h⟩
        · rw [if_pos hw]
          refine upon_stepO hr' (hD _ _ ho) h (fun v w' a' hv hra => ?_) (fun ch w' hch => hp ch e _ w' hr' ha hch)
          obtain ⟨h1, h2⟩ := obl_spec hv
          refine ⟨.inr fun p hp hd => ?_, draw_sound M e₀ hD hM hsel hn hp hQ r _ pend pend' _ a' w' hra hok2 (hc.set hk) (step v) hpd' h2⟩
          rcases hpd p hp with h | h | h
          · exact h1 p (by simp [h, hd])
          · exact h w'
          · rw [h (j, 0) (by simp) rfl] at hd; cases hd
        · rw [if_neg (by simp [hw])]
          exact ⟨fun _ _ => trivial, .inl trivial, draw_sound M e₀ hD hM hsel hn hp hQ r _ pend pend' _ _ w (hr'.put _ _) hok2 (hc.set hk) (step undef) hpd' (obl_spec h).2⟩
      | 1, h, hok1, hpd =>
        simp only [Bool.and_eq_true, List.contains_eq_mem, decide_eq_true_eq, bne_self_eq_false, Bool.false_or, List.all_eq_true, Bool.or_eq_true, bne_iff_ne] at hok1
        obtain ⟨⟨hk, hf⟩, hall⟩ := hok1
        have dep : ∀ q ∈ r, q.2 = 0 → depT ops ops.size q.1 k = true := fun q hq h0 => (hall q hq).resolve_left (by simp [h0])
        rcases gdO_cases hr' h with ⟨hw, h⟩ | ⟨hw, h⟩
        · obtain ⟨v, hv, h⟩ := (stS_of_stepS h).out
          refine first_D (hD := hD) (C := fun w' => w' = w) (v := v) ho (Region.noSelect_spec hsel) (fun c a w => hQ c a _ _ w (fun t ht => hM k o t ho ht)) r.length E _ w hc (Region.free_spec ho hf) hk (.inl ⟨hw, by rintro w' rfl; rw [hr'.eval]; exact hv⟩) rfl ?_
          refine draw_sound M e₀ hD hM hsel hn hp hQ r _ pend _ _ _ w (hr'.put _ _) hok2 (hc.set hk) (step v) (fun p hp => ?_) h
          rcases List.mem_cons.1 hp with rfl | hp
          · exact .inr (.inr dep)
          · exact hpd' p hp
        · refine first_D (hD := hD) (C := fun w' => w' = w) (v := undef) ho (Region.noSelect_spec hsel) (fun c a w => hQ c a _ _ w (fun t ht => hM k o t ho ht)) r.length E _ w hc (Region.free_spec ho hf) hk (.inr ⟨hw, rfl⟩) rfl ?_
          refine draw_sound M e₀ hD hM hsel hn hp hQ r _ pend _ _ _ w (hr'.put _ _) hok2 (hc.set hk) (step undef) (fun p hp => ?_) h
          rcases List.mem_cons.1 hp with rfl | hp
          · exact .inr (.inr dep)
          · exact hpd' p hp
      | 2, h, hok1, hpd =>
        simp only [Bool.and_eq_true, List.contains_eq_mem, decide_eq_true_eq] at hok1
        obtain ⟨⟨hk, hf⟩, _⟩ := hok1
        have mv : ∀ x, (∀ w', (execOp (ev n e) o).run P w' = .ok (.value (ev n e x)) w') → gdO n ops e o (fun c => c (ev n e x)) (fun v => drawEv P n ops Kp K r pend (setD e o.dst v)) w → anyC R P ops Q pend' (r.length + 1) E a w := by
          intro x hx h
          rcases gdO_cases hr' h with ⟨hw, h⟩ | ⟨hw, h⟩
          · refine first_D (hD := hD) (C := fun _ => True) (v := ev n e x) ho (Region.noSelect_spec hsel) (fun c a w => hQ c a _ _ w (fun t ht => hM k o t ho ht)) r.length E _ w hc (Region.free_spec ho hf) hk (.inl ⟨hw, fun w' _ => by rw [hr'.eval]; exact hx w'⟩) trivial ?_
            refine draw_sound M e₀ hD hM hsel hn hp hQ r _ pend _ _ _ w (hr'.put _ _) hok2 (hc.set hk) (step _) (fun p hp => ?_) h
            rcases List.mem_cons.1 hp with rfl | hp
            · exact .inr (.inl fun _ => trivial)
            · exact hpd' p hp
          · refine first_D (hD := hD) (C := fun _ => True) (v := undef) ho (Region.noSelect_spec hsel) (fun c a w => hQ c a _ _ w (fun t ht => hM k o t ho ht)) r.length E _ w hc (Region.free_spec ho hf) hk (.inr ⟨hw, rfl⟩) trivial ?_
            refine draw_sound M e₀ hD hM hsel hn hp hQ r _ pend _ _ _ w (hr'.put _ _) hok2 (hc.set hk) (step undef) (fun p hp => ?_) h
            rcases List.mem_cons.1 hp with rfl | hp
            · exact .inr (.inl fun _ => trivial)
            · exact hpd' p hp
        cases hop : o.op <;> rw [hop] at h <;> first
          | exact h.elim
          | exact mv _ (fun w' => by unfold execOp; simp only [hop]; rfl) h
      | md + 3, h, hok1, hpd =>
        simp only [Bool.and_eq_true, List.contains_eq_mem, decide_eq_true_eq] at hok1
        obtain ⟨⟨hk, hf⟩, _⟩ := hok1
        rcases gdOD_cases hr' h with ⟨hw, ⟨C, v, hC, hv, h⟩⟩ | ⟨hw, h⟩
        · refine first_D (hD := hD) (C := C) (v := v) ho (Region.noSelect_spec hsel) (fun c a w => hQ c a _ _ w (fun t ht => hM k o t ho ht)) r.length E _ w hc (Region.free_spec ho hf) hk (.inl ⟨hw, fun w' hw' => by rw [hr'.eval, ← execL_eq]; exact hv w' hw'⟩) hC ?_
          refine draw_sound M e₀ hD hM hsel hn hp hQ r _ _ _ _ _ w (hr'.put _ _) hok2 (hc.set hk) (step v) (fun p hp => ?_) h
          rcases List.mem_cons.1 hp with rfl | hp
          · exact .inl (by simp)
          · exact (hpd' p hp).imp (fun h => by simp [h]) id
        · refine first_D (hD := hD) (C := fun _ => True) (v := undef) ho (Region.noSelect_spec hsel) (fun c a w => hQ c a _ _ w (fun t ht => hM k o t ho ht)) r.length E _ w hc (Region.free_spec ho hf) hk (.inr ⟨hw, rfl⟩) trivial ?_
          refine draw_sound M e₀ hD hM hsel hn hp hQ r _ _ _ _ _ w (hr'.put _ _) hok2 (hc.set hk) (step undef) (fun p hp => ?_) h
          rcases List.mem_cons.1 hp with rfl | hp
          · exact .inl (by simp)
          · exact (hpd' p hp).imp (fun h => by simp [h]) id
end Go.Proofs.Ytehfblkpbadikaa.Sh
