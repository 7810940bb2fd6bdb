/- The shape suffices for whole codes and for calls. No conditions. -/
import Derived.Test.YtehfblkpbadikaaDraw
namespace Go.Proofs.Ytehfblkpbadikaa.Sh
open Go

variable {P : Program} {n : Nat} {R : Option Nat} {D : List Deferred} {Kp : List PanicEntry → WP}

theorem QOf.grow {K : KT} {M N : List Nat} {e e₁ : Env} {ex : Exit} {a : Act} {w : World} (ha : Agree N e e₁) (hs : ∀ i ∈ M, i ∈ N) (h : QOf n D Kp K M e₁ ex a w) : QOf n D Kp K N e ex a w := by
  cases ex with
  | panic ch => exact ⟨h.1.grow ha hs, h.2⟩
  | outgrown => exact h
  | _ => obtain ⟨e', h1, h2, h3⟩ := h; exact ⟨e', h1, ha.trans h2 (fun _ h => h) hs, h3⟩

theorem QOf.mono {K : KT} {M N : List Nat} {e : Env} {ex : Exit} {a : Act} {w : World} (hs : ∀ i ∈ M, i ∈ N) (h : QOf n D Kp K M e ex a w) : QOf n D Kp K N e ex a w := h.grow (.refl _ _) hs

theorem act_put_defers (a : Act) (d : Option Tmp) (v : Value) : (a.put d v).defers = a.defers := by cases d <;> rfl

theorem dead_live {c : Code} {live : List Nat} : ∀ i ∈ wr c, i ∈ live ∨ i ∈ deadOf c live := fun i hi => by
  by_cases h : i ∈ live
  · exact .inl h
  · exact .inr (mem_deadOf.2 ⟨hi, h⟩)

theorem cut_use {m : Nat} {body : VF m WP → WP} {rest : List Value → List Value → WP} {w : World} (h : cutG m body rest w) :
    ∃ J : VF m WP, (∀ (e' : Env) (live dead : List Nat), live.length = m → ∀ w', vapp m J (gets e' live) w' → rest (gets e' dead) (gets e' live) w') ∧ body J w := by
  obtain ⟨J, h1, h2⟩ := h
  exact ⟨J, fun e' live dead hl w' hv => by subst hl; exact allVL_gets e' live (h1 (gets e' dead)) w' hv, h2⟩

theorem cev_sound (hm : P.follows .mixedOrders = true) (an : Ann) : ∀ (c : Code), (R = none ∨ noDf c = true) → ∀ (K : KT) (e : Env) (a : Act) (w : World), Rep n D e a → cev P n an Kp c K e w → c.wpIn (FW R) 0 P (QOf n D Kp K (wr c) e) a w := by
  intro c
  induction c with
  | skip => exact fun _ K e a w hr h => wpIn_skip ⟨e, hr, .refl _ _, h⟩
  | region id ops draw =>
    intro hnd K e a w hr h
    cases draw with
    | false =>
      refine wpIn_region_list (evOps_sound (n := n) (wr (.region id ops false)) e (fun e' a' w' hr' ha hk => ⟨e', hr', ha, hk⟩) (fun ch e' a' w' hr' ha hk => ⟨hr'.pan ha, hk⟩) _ e a w (okD_reg hnd) (fun o ho t ht => ?_) hr (.refl _ _) h)
      exact List.mem_filterMap.2 ⟨o, ho, ht⟩
    | true =>
      simp only [cev] at h
      cases hl : look id an.drs with
      | none => rw [hl] at h; exact h.elim
      | some r =>
        rw [hl] at h
        simp only at h
        cases hok : okDraw ops r with
        | false => rw [hok] at h; exact h.elim
        | true =>
          rw [hok] at h
          simp only [okDraw, Bool.and_eq_true, beq_iff_eq] at hok
          have hany := draw_sound (n := n) (Q := QOf n D Kp K (wr (.region id ops true)) e) (wr (.region id ops true)) e (R := R) (fun j o ho => okD_reg hnd o (by have := Array.mem_of_getElem? ho; simpa using this)) (fun j o t ho ht => List.mem_filterMap.2 ⟨o, by have := Array.mem_of_getElem? ho; simpa using this, ht⟩) hok.1.1 (fun e' a' w' hr' ha hk => ⟨e', hr', ha, hk⟩) (fun ch e' a w' hr' ha hk => ⟨hr'.pan ha, hk⟩) (fun c a d v w' hd hq => ⟨hq.1.unput hd, hq.2⟩) r _ [] [] e a _ hr hok.2 (fun x o ho hx => (by rcases Nat.lt_or_ge x ops.size with h' | h' <;> simp [h'] at hx)) (.refl _ _) (by simp) h
          rw [hok.1.2] at hany
          exact wpIn_region_any hm (anyC_any [] _ _ _ _ hany)
  | seq x y ihx ihy =>
    intro hnd K e a w hr h
    have hx0 : R = none ∨ noDf x = true := hnd.imp id fun h => by simp only [noDf, Bool.and_eq_true] at h; exact h.1
    have hy0 : R = none ∨ noDf y = true := hnd.imp id fun h => by simp only [noDf, Bool.and_eq_true] at h; exact h.2
    have fin : ∀ (K' : KT) (k : Env → WP), K' = kSeq K k → (∀ e' w', Agree (wr x) e e' → k e' w' → cev P n an Kp y K e' w') → cev P n an Kp x K' e w → (Code.seq x y).wpIn (FW R) 0 P (QOf n D Kp K (wr (.seq x y)) e) a w := by
      rintro K' k rfl hk hx
      refine wpIn_seq (wpIn_mono (ihx hx0 _ e a w hr hx) fun ex a' w' hq => ?_)
      cases ex with
      | normal =>
        obtain ⟨e', hr', ha, hq⟩ := hq
        exact wpIn_mono (ihy hy0 K e' a' w' hr' (hk e' w' ha hq)) fun ex a w'' hq => hq.grow (ha.mono fun i hi => by simp [wr, hi]) (fun i hi => by simp [wr, hi])
      | panic ch => exact ⟨hq.1.grow (.refl _ _) (fun i hi => by simp [wr, hi]), hq.2⟩
      | outgrown => exact hq
      | _ => obtain ⟨e', h1, h2, h3⟩ := hq; exact ⟨e', h1, h2.mono fun i hi => by simp [wr, hi], h3⟩
    simp only [cev] at h
    split at h
    · exact fin _ _ rfl (fun e' w' _ hk => hk) h
    · rename_i live _
      obtain ⟨J, h1, h2⟩ := cut_use h
      refine fin _ _ rfl (fun e' w' ha hk => ?_) h2
      have := h1 e' live (deadOf x live) rfl w' hk
      rwa [upd_of_agree ha dead_live] at this
  | cond c x y ihx ihy =>
    intro hnd K e a w hr h
    have hx0 : R = none ∨ noDf x = true := hnd.imp id fun h => by simp only [noDf, Bool.and_eq_true] at h; exact h.1
    have hy0 : R = none ∨ noDf y = true := hnd.imp id fun h => by simp only [noDf, Bool.and_eq_true] at h; exact h.2
    replace h := condS.out h
    split at h
    · rename_i hv
      exact wpIn_cond_true (by rw [hr.eval]; exact hv) (wpIn_mono (ihx hx0 K e a w hr h) fun ex a w' hq => hq.mono fun i hi => by simp [wr, hi])
    · rename_i hv
      exact wpIn_cond_false (by rw [hr.eval]; exact hv) (wpIn_mono (ihy hy0 K e a w hr h) fun ex a w' hq => hq.mono fun i hi => by simp [wr, hi])
    · exact h.elim
  | block id b ih =>
    intro hnd K e a w hr h
    have fin : ∀ (k : Env → WP), (∀ e' w', Agree (wr b) e e' → k e' w' → K .normal e' w') → cev P n an Kp b (kBlk K id k) e w → (Code.block id b).wpIn (FW R) 0 P (QOf n D Kp K (wr (.block id b)) e) a w := by
      intro k hk hb
      refine wpIn_block (wpIn_mono (ih hnd _ e a w hr hb) fun ex a w' hq => ?_)
      cases ex with
      | normal => obtain ⟨e', h1, h2, h3⟩ := hq; exact ⟨e', h1, h2, hk e' w' h2 h3⟩
      | exit id' =>
        obtain ⟨e', h1, h2, h3⟩ := hq
        simp only [Exit.inBlock]
        simp only [kBlk] at h3
        by_cases hid : id' = id
        · rw [if_pos hid] at h3 ⊢; exact ⟨e', h1, h2, hk e' w' h2 h3⟩
        · rw [if_neg hid] at h3 ⊢; exact ⟨e', h1, h2, h3⟩
      | panic ch => exact hq
      | outgrown => exact hq
      | _ => obtain ⟨e', h1, h2, h3⟩ := hq; exact ⟨e', h1, h2, h3⟩
    simp only [cev] at h
    cases hl : look id an.blks with
    | none => rw [hl] at h; exact fin _ (fun e' w' _ hk => hk) h
    | some live =>
      rw [hl] at h
      obtain ⟨J, h1, h2⟩ := cut_use h
      refine fin _ (fun e' w' ha hk => ?_) h2
      have := h1 e' live (deadOf b live) rfl w' hk
      rwa [upd_of_agree ha dead_live] at this
  | loop b ih =>
    intro hnd K e a w hr h
    simp only [cev] at h
    cases hl : look (firstId b) an.loops with
    | none => rw [hl] at h; exact h.elim
    | some live =>
      rw [hl] at h
      obtain ⟨I, h0, h1⟩ := h
      refine wpIn_loop_ghost (fun m a w => ∃ e', Rep n D e' a ∧ Agree (wr b) e e' ∧ vapp live.length (I m) (gets e' live) w) ?_ ?_
      · obtain ⟨m, hm⟩ := h0; exact ⟨m, e, hr, .refl _ _, hm⟩
      · rintro m a' w' ⟨e', hr', ha, hv⟩
        have hb := allVL_gets e' live (h1 m (gets e' (deadOf b live))) w' hv
        simp only at hb
        rw [upd_of_agree ha dead_live] at hb
        refine wpIn_mono (ih hnd _ e' a' w' hr' hb) fun ex a w'' hq => ?_
        cases ex with
        | normal =>
          obtain ⟨e3, hr3, h2, m', hlt, h3⟩ := hq
          exact ⟨m', hlt, e3, hr3, ha.trans h2 (fun _ h => h) (fun _ h => h), h3⟩
        | panic ch => exact ⟨hq.1.grow ha (fun _ h => h), hq.2⟩
        | outgrown => exact hq
        | _ => obtain ⟨e3, h1, h2, h3⟩ := hq; exact ⟨e3, h1, ha.trans h2 (fun _ h => h) (fun _ h => h), h3⟩
  | rangeFunc => exact fun _ K e a w hr h => h.elim
  | exit id => exact fun _ K e a w hr h => wpIn_exit ⟨e, hr, .refl _ _, h⟩
  | scope b ih =>
    intro hnd K e a w hr h
    obtain rfl : R = none := hnd.resolve_right (by simp [noDf])
    refine wpIn_wide.2 (wp_scope_straight ((wpIn_wide (n := 0)).1 (wpIn_mono (ih (.inl rfl) _ e a w hr h) fun ex a w' hq => ?_)))
    cases ex with
    | goto l => obtain ⟨e', h1, h2, h3⟩ := hq; exact h3
    | _ => exact hq
  | label l => exact fun _ K e a w hr h => wpIn_label ⟨e, hr, .refl _ _, h⟩
  | goto l => exact fun _ K e a w hr h => h.elim
  | ret => exact fun _ K e a w hr h => wpIn_ret ⟨e, hr, .refl _ _, h⟩
  | refuse s => exact fun _ K e a w hr h => h.elim

theorem cev_sound0 (hm : P.follows .mixedOrders = true) (an : Ann) (c : Code) (K : KT) (e : Env) (a : Act) (w : World) (hr : Rep n D e a) (h : cev P n an Kp c K e w) : c.wp P (QOf n D Kp K (wr c) e) a w :=
  wpIn_wide.1 (cev_sound (R := none) hm an c (.inl rfl) K e a w hr h)

/-! ### results, calls -/
def tupV : List Value → Value
  | [v] => v
  | vs => .tuple vs.toArray

def retL (P : Program) (n : Nat) : List ResultVar → Env → List Value → (Value → WP) → WP
  | [], _, acc, K => K (tupV acc)
  | .tmp t :: r, e, acc, K => retL P n r e (acc ++ [ev n e (.tmp t)]) K
  | .cell a t :: r, e, acc, K => stS P (do pure (.value (← do loadVar t (← asAddr (ev n e (.tmp a)))))) fun v => retL P n r e (acc ++ [v]) K

def resVal (n : Nat) (e : Env) : ResultVar → Sem Value
  | .tmp t => pure (ev n e (.tmp t))
  | .cell a t => do loadVar t (← asAddr (ev n e (.tmp a)))

theorem retL_sound {e : Env} {K : Value → WP} {w : World} : ∀ (rs : List ResultVar) (acc : List Value), retL P n rs e acc K w →
    ∃ vs, (rs.mapM (resVal n e)).run P w = .ok vs w ∧ K (tupV (acc ++ vs)) w
  | [], acc, h => ⟨[], rfl, by simpa [retL] using h⟩
  | .tmp t :: r, acc, h => by
    obtain ⟨vs, h1, h2⟩ := retL_sound r _ h
    exact ⟨ev n e (.tmp t) :: vs, by simp [List.mapM_cons, resVal, h1], by simpa using h2⟩
  | .cell a t :: r, acc, h => by
    obtain ⟨v, hv, h⟩ := h.out
    obtain ⟨vs, h1, h2⟩ := retL_sound r _ h
    refine ⟨v :: vs, ?_, by simpa using h2⟩
    have hr : (resVal n e (.cell a t)).run P w = .ok v w := by
      simp only [Sem.run_bind] at hv
      simp only [resVal, Sem.run_bind]
      generalize (asAddr (ev n e (.tmp a))).run P w = r1 at hv
      cases r1 with
      | ok x w1 =>
        simp only [Result.andThen_ok] at hv ⊢
        generalize (loadVar t x).run P w1 = r2 at hv
        cases r2 with
        | ok y w2 => simp at hv ⊢; exact hv
        | halt y w2 => simp at hv
      | halt x w1 => simp at hv
    simp [List.mapM_cons, hr, h1]

theorem results_run {fn : Func} {e : Env} {a : Act} (hr : Rep n D e a) {K : Value → WP} {w : World} (h : retL P n fn.results.toList e [] K w) : ∃ v, (results fn a.tmps).run P w = .ok v w ∧ K v w := by
  obtain ⟨vs, h1, h2⟩ := retL_sound _ _ h
  refine ⟨tupV vs, ?_, by simpa using h2⟩
  have hf : (fun (x : ResultVar) => (match x with
      | .tmp t => pure (a.tmps.getD t undef)
      | .cell c t => do loadVar t (← asAddr (a.tmps.getD c undef)) : Sem Value)) = resVal n e := by
    funext x; cases x <;> simp only [resVal, hr.getD]
  have hs : results fn a.tmps = (do
      let vs ← fn.results.mapM (resVal n e)
      pure (if h : vs.size = 1 then vs[0] else .tuple vs)) := by
    unfold results; rw [← hf]; rfl
  rw [hs, Array.mapM_eq_mapM_toList]
  simp only [Sem.run_bind, Sem.run_map, h1, Result.andThen_ok, Sem.run_pure]
  congr 1
  match vs with
  | [] => rfl
  | [v] => rfl
  | v :: u :: r => simp [tupV]

def kFun (P : Program) (n : Nat) (rs : List ResultVar) (K : Value → WP) : KT
  | .normal, e => retL P n rs e [] K
  | .ret, e => retL P n rs e [] K
  | _, _ => fun _ => False

def env0 : List Value → Env
  | [], _ => undef
  | v :: _, 0 => v
  | _ :: vs, i + 1 => env0 vs i

def cevF (P : Program) (an : Ann) (fn : Func) (args : List Value) (Kp : List PanicEntry → WP) (K : Value → WP) : WP :=
  match fn.body with
  | some c => cev P (args.length + (fn.ntmps - args.length)) an Kp c (kFun P (args.length + (fn.ntmps - args.length)) fn.results.toList K) (env0 args)
  | none => fun _ => False

theorem env0_eq : ∀ (l : List Value) (i : Nat), env0 l i = l.getD i undef
  | [], _ => rfl
  | v :: vs, 0 => rfl
  | v :: vs, i + 1 => by simp only [env0, env0_eq vs i, List.getD_cons_succ]

theorem calls_of_cev (hm : P.follows .mixedOrders = true) {f : FuncId} {fn : Func} (hf : P.funcs[f]? = some fn) {an : Ann} {args : List Value} {K : Value → WP} {w : World} (h : cevF P an fn args Kp K w) :
    Calls P f args.toArray w fun
      | .returned v, w' => K v w'
      | .panicked ch, w' => Kp ch w'
      | .outgrown, _ => False := by
  unfold cevF at h
  cases hb : fn.body with
  | none => rw [hb] at h; exact h.elim
  | some c =>
    rw [hb] at h
    refine calls_of_wp hf hb ?_
    have hr : Rep (args.length + (fn.ntmps - args.length)) [] (env0 args) { tmps := args.toArray ++ Array.replicate (fn.ntmps - args.toArray.size) undef, defers := [] } := by
      refine ⟨rfl, by simp, fun i hi => ?_⟩
      rw [env0_eq, List.getD_eq_getElem?_getD, Array.getElem?_append]
      by_cases hl : i < args.length
      · simp [hl]
      · rw [if_neg (by simpa using hl), Array.getElem?_eq_getElem (by simp; omega)]
        simp only [List.getElem?_eq_none (Nat.le_of_not_lt hl), Array.getElem_replicate, Option.getD_none]
    refine wp_mono (cev_sound0 (D := []) hm an c _ _ _ w hr h) fun ex a w' hq => ?_
    cases ex with
    | normal =>
      obtain ⟨e', hr', _, hk⟩ := hq
      obtain ⟨v, h1, h2⟩ := results_run hr' hk
      exact ⟨hr'.defers, v, h1, h2⟩
    | ret =>
      obtain ⟨e', hr', _, hk⟩ := hq
      obtain ⟨v, h1, h2⟩ := results_run hr' hk
      exact ⟨hr'.defers, v, h1, h2⟩
    | panic ch => exact ⟨hq.1.defers, hq.2⟩
    | exit id => obtain ⟨_, _, _, hk⟩ := hq; exact hk.elim
    | goto l => obtain ⟨_, _, _, hk⟩ := hq; exact hk.elim
    | outgrown => exact hq.elim
end Go.Proofs.Ytehfblkpbadikaa.Sh
