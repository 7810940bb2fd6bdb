/- How a walk carries what stands in memory: one lemma an operation. No conditions. -/
import Derived.Test.YtehfblkpbadikaaSep
import Derived.Deep.AppendSrc
import Derived.Laws.AppendOwn
namespace Go.Proofs.Ytehfblkpbadikaa.Sl
open Go Go.RowKit Go.Proofs.Ytehfblkpbadikaa.Sh
set_option linter.unusedVariables false

/-! ### worlds -/
theorem all_cons {A : HP} {L : List HP} {W : World} {h1 h2 h : Frag} (ha : A W h1) (hl : all L W h2) (d : ∀ i, h1 i = none ∨ h2 i = none)
    (s1 : ∀ i o, h1 i = some o → h i = some o) (s2 : ∀ i o, h2 i = some o → h i = some o) : all (A :: L) W h := ⟨h1, h2, ha, hl, d, s1, s2⟩

theorem sat.start (W : World) : sat W [] W := ⟨Below.refl _ _, fun _ => none, trivial, fun _ _ c => by cases c⟩

theorem sat.keep {W : World} {L : List HP} {w w' : World} (H : sat W L w) (hb : Below w.heap.size w w') : sat W L w' := by
  obtain ⟨h, a, b⟩ := H.heap
  refine ⟨H.base.trans (hb.mono H.base.size), h, a, fun i o hi => ?_⟩
  obtain ⟨b1, b2⟩ := b i o hi
  have hlt : i < w.heap.size := by
    rcases Nat.lt_or_ge i w.heap.size with c | c
    · exact c
    · rw [Array.getElem?_eq_none c] at b2; cases b2
  exact ⟨b1, (hb.block i hlt).trans b2⟩

theorem sat.drew {W : World} {L : List HP} {w : World} (H : sat W L w) : sat W L w.drew := H.keep (Below.refl _ _).drew

theorem sat.pt_ {W : World} {L : List HP} {w : World} {g : Nat} {o : Obj} (H : sat W (pt g o :: L) w) : w.heap[g]? = some o ∧ W.heap.size ≤ g := by
  obtain ⟨h, ⟨h1, h2, ha, _, _, s1, _⟩, b⟩ := H.heap
  have := b g o (s1 g o ha)
  exact ⟨this.2, this.1⟩

theorem sat.fst {W : World} {L : List HP} {A : HP} {w : World} (H : sat W (A :: L) w) : ∃ h, A W h ∧ ∀ i o, h i = some o → W.heap.size ≤ i ∧ w.heap[i]? = some o := by
  obtain ⟨h, ⟨h1, h2, ha, _, _, s1, _⟩, b⟩ := H.heap
  exact ⟨h1, ha, fun i o c => b i o (s1 i o c)⟩

/-- one block turned into another, or a new one laid, what the rest says kept -/
theorem sat.change {W : World} {L : List HP} {A : HP} {w w' : World} (H : sat W (A :: L) w) (hos : w'.os = w.os) (htape : w'.tape = w.tape) (hout : w'.output = w.output) (hsz : w.heap.size ≤ w'.heap.size)
    {B : HP} (hB : ∀ h, A W h → (∀ i o, h i = some o → W.heap.size ≤ i ∧ w.heap[i]? = some o) → ∃ h' : Frag, B W h' ∧ (∀ i o, h' i = some o → W.heap.size ≤ i ∧ w'.heap[i]? = some o) ∧ (∀ i, h' i ≠ none → h i ≠ none ∨ w.heap.size ≤ i) ∧
      (∀ i, i < w.heap.size → h i = none → w'.heap[i]? = w.heap[i]?) ∧ (∀ i, h i ≠ none → W.heap.size ≤ i)) : sat W (B :: L) w' := by
  obtain ⟨h, ⟨h1, h2, ha, hl, d, s1, s2⟩, b⟩ := H.heap
  obtain ⟨h', hb, b', n', k', q'⟩ := hB h1 ha (fun i o c => b i o (s1 i o c))
  have lt2 : ∀ i o, h2 i = some o → i < w.heap.size := fun i o c => by
    rcases Nat.lt_or_ge i w.heap.size with e | e
    · exact e
    · have := (b i o (s2 i o c)).2; rw [Array.getElem?_eq_none e] at this; cases this
  have dj : ∀ i, h' i = none ∨ h2 i = none := fun i => by
    cases c : h2 i with
    | none => exact .inr rfl
    | some o =>
      left
      cases c' : h' i with
      | none => rfl
      | some o' =>
        rcases n' i (by rw [c']; simp) with e | e
        · rcases d i with e' | e'
          · exact absurd e' e
          · rw [c] at e'; cases e'
        · exact absurd (lt2 i o c) (by omega)
  refine ⟨H.base.trans ⟨hos, htape, hout, hsz, fun k hk => ?_⟩, fun i => match h' i with | some o => some o | none => h2 i, ⟨h', h2, hb, hl, dj, ?_, ?_⟩, ?_⟩
  · refine k' k (Nat.lt_of_lt_of_le hk H.base.size) ?_
    cases c : h1 k with
    | none => rfl
    | some o => exact absurd (q' k (by rw [c]; simp)) (by omega)
  · intro i o c; simp only [c]
  · intro i o c
    have : h' i = none := by
      rcases dj i with e | e
      · exact e
      · rw [c] at e; cases e
    simp only [this, c]
  · intro i o c
    cases c1 : h' i with
    | some o' => simp only [c1] at c; rw [← c]; exact b' i o' c1
    | none =>
      simp only [c1] at c
      obtain ⟨e1, e2⟩ := b i o (s2 i o c)
      refine ⟨e1, ?_⟩
      rw [k' i (lt2 i o c) ?_]
      · exact e2
      · rcases d i with e | e
        · exact e
        · rw [c] at e; cases e

theorem sat.alloc {W : World} {L : List HP} {w : World} (H : sat W L w) (o : Obj) : sat W (pt w.heap.size o :: L) (w.alloc o) := by
  have H' : sat W (pu True :: L) w := H.map fun _ => star_pu trivial
  refine H'.change (w' := w.alloc o) rfl rfl rfl (by simp) fun h _ hh => ⟨fun i => if i = w.heap.size then some o else none, by simp [pt], fun i o' c => ?_, fun i c => ?_, fun i hi _ => Below.heap_alloc w o i hi, fun i c => ?_⟩
  · by_cases e : i = w.heap.size
    · subst e; simp at c; subst c; exact ⟨H.base.size, Array.getElem?_push_size⟩
    · simp [e] at c
  · by_cases e : i = w.heap.size
    · exact .inr (by omega)
    · simp [e] at c
  · cases e : h i with
    | none => exact absurd e c
    | some o' => exact (hh i o' e).1

/-- a block that is owned is turned -/
theorem sat.turn {W : World} {L : List HP} {w w' : World} {g : Nat} {o o' : Obj} (H : sat W (pt g o :: L) w) (hos : w'.os = w.os) (htape : w'.tape = w.tape) (hout : w'.output = w.output)
    (hsz : w'.heap.size = w.heap.size) (hg : w'.heap[g]? = some o') (hr : ∀ i, i ≠ g → w'.heap[i]? = w.heap[i]?) : sat W (pt g o' :: L) w' := by
  have hge := H.pt_.2
  obtain ⟨h, ⟨h1, h2, ha, hl, d, s1, s2⟩, b⟩ := H.heap
  have H1 : sat W ((fun (_ : World) (k : Frag) => k g = some o ∧ ∀ i, i ≠ g → k i = none) :: L) w :=
    ⟨H.base, h, ⟨fun i => if i = g then some o else none, h2, ⟨by simp, fun i hi => by simp [hi]⟩, hl, fun i => (by
      by_cases e : i = g
      · subst e
        right
        rcases d i with c | c
        · have : h1 i = some o := ha
          rw [this] at c; cases c
        · exact c
      · exact .inl (by simp [e])), fun i o'' c => (by
      by_cases e : i = g
      · subst e; simp at c; subst c; exact s1 i o ha
      · simp [e] at c), s2⟩, b⟩
  refine H1.change hos htape hout (by omega) fun h hh hb => ⟨fun i => if i = g then some o' else none, by simp [pt], fun i o'' c => ?_, fun i c => ?_, fun i _ c => ?_, fun i c => ?_⟩
  · by_cases e : i = g
    · subst e; simp at c; subst c; exact ⟨hge, hg⟩
    · simp [e] at c
  · by_cases e : i = g
    · subst e; left; rw [hh.1]; simp
    · simp [e] at c
  · refine hr i ?_
    rintro rfl
    rw [hh.1] at c; cases c
  · by_cases e : i = g
    · subst e; exact hge
    · exact absurd (hh.2 i e) c

theorem sat.setCell {W : World} {L : List HP} {w : World} {g o : Nat} {cs : Array Value} {T : TypeId} {fz : Nat × Nat} (H : sat W (pt g (.cells cs T fz) :: L) w) (v : Value) :
    sat W (pt g (.cells (cs.setIfInBounds o v) T fz) :: L) (w.setCell ⟨g, o, none⟩ v) := by
  have hg := H.pt_.1
  refine H.turn rfl rfl rfl (by simp) ?_ ?_
  · simp [World.setCell, Array.getElem?_modify, hg]
  · intro i hi
    exact Below.heap_setCell w ⟨g, o, none⟩ v i hi

theorem sat.cell {W : World} {L : List HP} {w : World} {g o : Nat} {cs : Array Value} {T : TypeId} {fz : Nat × Nat} (H : sat W (pt g (.cells cs T fz) :: L) w) : w.cell? ⟨g, o, none⟩ = cs[o]? := by
  simp [World.cell?, H.pt_.1]
theorem sat.free {W : World} {L : List HP} {w : World} {g o : Nat} {cs : Array Value} {T : TypeId} (H : sat W (pt g (.cells cs T (0, 0)) :: L) w) : w.frozen? ⟨g, o, none⟩ = false := by
  simp [World.frozen?, H.pt_.1]

/-! ### what a walk owes -/
def Ent (W : World) (L : List HP) (S : WP) : Prop := ∀ w, sat W L w → S w

variable {P : Program} {W : World} {L L' L'' : List HP} {Kp : PK} {k : Value → WP} {S : WP}

theorem e_imp {M : List HP} (i : Imp W L M) (h : Ent W M S) : Ent W L S := fun w hw => h w (i.sat hw)
theorem e_pick {A : HP} (p : Pick L A L') (h : Ent W (A :: L') S) : Ent W L S := fun w hw => h w (hw.pick p)
theorem e_pu {φ : Prop} (p : Pick L (pu φ) L') (h : φ → Ent W L' S) : Ent W L S := fun w hw => by
  have hw' := hw.pick p
  obtain ⟨_, ⟨_, _, hp, _⟩, _⟩ := hw'.heap
  exact h hp w hw'.drop
theorem e_ex {α : Type} {A : α → HP} (p : Pick L (ex A) L') (h : ∀ x, Ent W (A x :: L') S) : Ent W L S := fun w hw => by
  have hw' := hw.pick p
  obtain ⟨f, ⟨h1, h2, ⟨x, ha⟩, r⟩, b⟩ := hw'.heap
  exact h x w ⟨hw'.base, f, ⟨h1, h2, ha, r⟩, b⟩
theorem e_all {M : List HP} (p : Pick L (all M) L') (h : Ent W (M ++ L') S) : Ent W L S := fun w hw => h w (sat.map (L := Sl.all M :: L') (fun _ H => all_append' H) (hw.pick p))
theorem e_conv {A B : HP} (p : Pick L A L') (e : ∀ h, A W h → B W h) (h : Ent W (B :: L') S) : Ent W L S := fun w hw => h w (sat.map (L := A :: L') (fun _ ⟨h1, h2, ha, r⟩ => ⟨h1, h2, e h1 ha, r⟩) (hw.pick p))
theorem e_drS (h : Ent W L S) : Ent W L (drS S) := fun w hw => h _ (show sat W L w.drew from hw.drew)
theorem e_obl {A : List HP} (i : Imp W L A) (h : Ent W L S) : Ent W L (fun w => sat W A w ∧ S w) := fun w hw => ⟨i.sat hw, h w hw⟩
theorem e_oblT (h : Ent W L S) : Ent W L (fun w => True ∧ S w) := fun w hw => ⟨trivial, h w hw⟩

/-- an operation that yields a value and leaves the world -/
def RunV (P : Program) (W : World) (A : List HP) (s : Sem Next) (v : Value) : Prop := ∀ w, sat W A w → s.run P w = .ok (.value v) w

theorem e_opN {A : List HP} {s : Sem Next} {v : Value} (hr : RunV P W A s v) (i : Imp W L A) (h : Ent W L (k v)) : Ent W L (opN P s Kp k) := fun w hw =>
  ⟨by rw [hr w (i.sat hw)]; exact h w hw⟩
theorem e_stS {A : List HP} {s : Sem Next} {v : Value} (hr : RunV P W A s v) (i : Imp W L A) (h : Ent W L (k v)) : Ent W L (stS P s k) := fun w hw => ⟨v, hr w (i.sat hw), h w hw⟩
theorem e_stD {A : List HP} {s : Sem Next} {v : Value} {kd : WP → Value → WP} (hr : RunV P W A s v) (i : Imp W L A) (h : Ent W L (kd (sat W A) v)) : Ent W L (stD P s kd) := fun w hw =>
  ⟨sat W A, v, i.sat hw, fun w' hw' => hr w' hw', h w hw⟩

theorem e_condT {A B : WP} (h : Ent W L A) : Ent W L (condS (.bool true) A B) := fun w hw => ⟨h w hw⟩
theorem e_condF {A B : WP} (h : Ent W L B) : Ent W L (condS (.bool false) A B) := fun w hw => ⟨h w hw⟩
theorem e_gdT {b : Bool} {body : (Value → WP) → WP} (h : Ent W L (body k)) : Ent W L (gdK (.bool b) b body k) := fun w hw => ⟨by show (if b = b then body k w else k undef w); rw [if_pos rfl]; exact h w hw⟩
theorem e_gdF1 {body : (Value → WP) → WP} (h : Ent W L (k undef)) : Ent W L (gdK (.bool true) false body k) := fun w hw => ⟨h w hw⟩
theorem e_gdF2 {body : (Value → WP) → WP} (h : Ent W L (k undef)) : Ent W L (gdK (.bool false) true body k) := fun w hw => ⟨h w hw⟩
theorem e_gdU {want : Bool} {body : (Value → WP) → WP} (h : Ent W L (k undef)) : Ent W L (gdK undef want body k) := fun w hw => ⟨h w hw⟩
theorem e_gdDT {b : Bool} {kd : WP → Value → WP} {body : (WP → Value → WP) → WP} (h : Ent W L (body kd)) : Ent W L (gdD (.bool b) b body kd) := fun w hw => ⟨by show (if b = b then body kd w else kd (fun _ => True) undef w); rw [if_pos rfl]; exact h w hw⟩
theorem e_gdDF1 {kd : WP → Value → WP} {body : (WP → Value → WP) → WP} (h : Ent W L (kd (fun _ => True) undef)) : Ent W L (gdD (.bool true) false body kd) := fun w hw => ⟨h w hw⟩
theorem e_gdDF2 {kd : WP → Value → WP} {body : (WP → Value → WP) → WP} (h : Ent W L (kd (fun _ => True) undef)) : Ent W L (gdD (.bool false) true body kd) := fun w hw => ⟨h w hw⟩
theorem e_gdDU {want : Bool} {kd : WP → Value → WP} {body : (WP → Value → WP) → WP} (h : Ent W L (kd (fun _ => True) undef)) : Ent W L (gdD undef want body kd) := fun w hw => ⟨h w hw⟩

/-! ### calls -/
structure Cn {α : Type} (P : Program) (f : FuncId) (args : List Value) (W : World) (A : List HP) (r : α → Value) (B : α → List HP) : Prop where
  call : ∀ (a : Array Value) (w : World), (callFunc f a).run P w = .ok (.enter f a) w
  run : ∀ (F : List HP) (w : World), sat W (A ++ F) w → Calls P f args.toArray w (fun e w' => ∃ x, e = .returned (r x) ∧ sat W (B x ++ F) w')

def noP : PK := fun _ _ => False

theorem Cn.of {α : Type} {f : FuncId} {args : List Value} {A : List HP} {r : α → Value} {B : α → List HP} {shape : PK → (Value → WP) → WP}
    (hc : ∀ (a : Array Value) (w : World), (callFunc f a).run P w = .ok (.enter f a) w)
    (hs : ∀ {Kp : PK} {K : Value → WP} {w : World}, shape Kp K w → Calls P f args.toArray w (after Kp K))
    (h : ∀ F, Ent W (A ++ F) (shape noP fun v w' => ∃ x, v = r x ∧ sat W (B x ++ F) w')) : Cn P f args W A r B :=
  ⟨hc, fun F w hw => (hs (h F w hw)).mono fun e w' he => by
    cases e with
    | returned v => obtain ⟨x, rfl, h2⟩ := he; exact ⟨x, rfl, h2⟩
    | panicked ch => exact he.elim
    | outgrown => exact he.elim⟩

theorem run_sCall {f : FuncId} {args : List Value} (hc : ∀ (a : Array Value) (w : World), (callFunc f a).run P w = .ok (.enter f a) w) (w : World) :
    (sCall (fn f) args).run P w = .ok (.enter f args.toArray) w := by
  unfold sCall fn Deferred.ofValue
  simp [invoke, hc]

/-- a call: what it needs is picked, the rest stands by -/
inductive Picks : List HP → List HP → List HP → Prop
  | nil {L : List HP} : Picks L [] L
  | cons {L L' F A : List HP} {a : HP} (p : Pick L a L') (h : Picks L' A F) : Picks L (a :: A) F
theorem Picks.sat {A F : List HP} (p : Picks L A F) {w : World} (h : Sl.sat W L w) : Sl.sat W (A ++ F) w := by
  have : ∀ h, Sl.all L W h → Sl.all (A ++ F) W h := by
    clear h w
    induction p with
    | nil => exact fun _ h => h
    | cons p _ ih => exact fun h H => star_mono ih (p.all H)
  exact h.map this

theorem e_call {α : Type} {f : FuncId} {args : List Value} {A F : List HP} {r : α → Value} {B : α → List HP} (hf : Cn P f args W A r B) (p : Picks L A F)
    (h : ∀ x, Ent W (B x ++ F) (k (r x))) : Ent W L (opN P (sCall (fn f) args) Kp k) := fun w hw => by
  refine ⟨?_⟩
  rw [run_sCall hf.call]
  refine (hf.run F w (p.sat hw)).mono fun e w' ⟨x, he, hs⟩ => ?_
  subst he
  exact h x w' hs

theorem e_ret {α : Type} {r : α → Value} {M : α → List HP} {v : Value} (x : α) (hv : v = r x) (i : Imp W L (M x)) : Ent W L (fun w' => ∃ x, v = r x ∧ sat W (M x) w') := fun w hw => ⟨x, hv, i.sat hw⟩

theorem e_retT {α : Type} {M : α → List HP} (x : α) (i : Imp W L (M x)) : Ent W L (fun w' => ∃ x : α, True ∧ sat W (M x) w') := fun w hw => ⟨x, trivial, i.sat hw⟩

/-! ### loops, cuts: by number of slots -/
theorem e_loop0 {body : (Nat → WP) → Nat → List Value → WP} (J : Nat → List HP) (m : Nat) (i : Imp W L (J m)) (h : ∀ m ds, Ent W (J m) (body (fun m w => sat W (J m) w) m ds)) : Ent W L (loop0 body) := fun w hw =>
  ⟨fun m w => sat W (J m) w, ⟨m, i.sat hw⟩, fun m ds w' hw' => h m ds w' hw'⟩
theorem e_loop1 {body : (Nat → Value → WP) → Nat → List Value → Value → WP} {a : Value} (J : Nat → Value → List HP) (m : Nat) (i : Imp W L (J m a)) (h : ∀ m ds x, Ent W (J m x) (body (fun m x w => sat W (J m x) w) m ds x)) : Ent W L (loop1 body a) := fun w hw =>
  ⟨fun m x w => sat W (J m x) w, ⟨m, i.sat hw⟩, fun m ds x w' hw' => h m ds x w' hw'⟩
theorem e_loop2 {body : (Nat → Value → Value → WP) → Nat → List Value → Value → Value → WP} {a b : Value} (J : Nat → Value → Value → List HP) (m : Nat) (i : Imp W L (J m a b)) (h : ∀ m ds x y, Ent W (J m x y) (body (fun m x y w => sat W (J m x y) w) m ds x y)) : Ent W L (loop2 body a b) := fun w hw =>
  ⟨fun m x y w => sat W (J m x y) w, ⟨m, i.sat hw⟩, fun m ds x y w' hw' => h m ds x y w' hw'⟩
theorem e_loop3 {body : (Nat → Value → Value → Value → WP) → Nat → List Value → Value → Value → Value → WP} {a b c : Value} (J : Nat → Value → Value → Value → List HP) (m : Nat) (i : Imp W L (J m a b c)) (h : ∀ m ds x y z, Ent W (J m x y z) (body (fun m x y z w => sat W (J m x y z) w) m ds x y z)) : Ent W L (loop3 body a b c) := fun w hw =>
  ⟨fun m x y z w => sat W (J m x y z) w, ⟨m, i.sat hw⟩, fun m ds x y z w' hw' => h m ds x y z w' hw'⟩
theorem e_loop4 {body : (Nat → Value → Value → Value → Value → WP) → Nat → List Value → Value → Value → Value → Value → WP} {a b c d : Value} (J : Nat → Value → Value → Value → Value → List HP) (m : Nat) (i : Imp W L (J m a b c d)) (h : ∀ m ds x y z u, Ent W (J m x y z u) (body (fun m x y z u w => sat W (J m x y z u) w) m ds x y z u)) : Ent W L (loop4 body a b c d) := fun w hw =>
  ⟨fun m x y z u w => sat W (J m x y z u) w, ⟨m, i.sat hw⟩, fun m ds x y z u w' hw' => h m ds x y z u w' hw'⟩
theorem e_next0 {J : Nat → List HP} {m : Nat} (m' : Nat) (hm : m' < m) (i : Imp W L (J m')) : Ent W L (next0 (fun m w => sat W (J m) w) m) := fun w hw => ⟨m', hm, i.sat hw⟩
theorem e_next1 {J : Nat → Value → List HP} {m : Nat} {a : Value} (m' : Nat) (hm : m' < m) (i : Imp W L (J m' a)) : Ent W L (next1 (fun m x w => sat W (J m x) w) m a) := fun w hw => ⟨m', hm, i.sat hw⟩
theorem e_next2 {J : Nat → Value → Value → List HP} {m : Nat} {a b : Value} (m' : Nat) (hm : m' < m) (i : Imp W L (J m' a b)) : Ent W L (next2 (fun m x y w => sat W (J m x y) w) m a b) := fun w hw => ⟨m', hm, i.sat hw⟩
theorem e_next3 {J : Nat → Value → Value → Value → List HP} {m : Nat} {a b c : Value} (m' : Nat) (hm : m' < m) (i : Imp W L (J m' a b c)) : Ent W L (next3 (fun m x y z w => sat W (J m x y z) w) m a b c) := fun w hw => ⟨m', hm, i.sat hw⟩
theorem e_next4 {J : Nat → Value → Value → Value → Value → List HP} {m : Nat} {a b c d : Value} (m' : Nat) (hm : m' < m) (i : Imp W L (J m' a b c d)) : Ent W L (next4 (fun m x y z u w => sat W (J m x y z u) w) m a b c d) := fun w hw => ⟨m', hm, i.sat hw⟩
/-- a cut, the rest walked once for what J says -/
theorem e_cut0 {body : WP → WP} {rest : List Value → WP} (J : List HP) (hr : ∀ ds, Ent W J (rest ds)) (hb : Ent W L (body fun w => sat W J w)) : Ent W L (cut0 body rest) := fun w hw => ⟨fun w => sat W J w, fun ds w' hw' => hr ds w' hw', hb w hw⟩
theorem e_cut1 {body : (Value → WP) → WP} {rest : List Value → Value → WP} (J : Value → List HP) (hr : ∀ ds x, Ent W (J x) (rest ds x)) (hb : Ent W L (body fun x w => sat W (J x) w)) : Ent W L (cut1 body rest) := fun w hw => ⟨fun x w => sat W (J x) w, fun ds x w' hw' => hr ds x w' hw', hb w hw⟩
theorem e_cut2 {body : (Value → Value → WP) → WP} {rest : List Value → Value → Value → WP} (J : Value → Value → List HP) (hr : ∀ ds x y, Ent W (J x y) (rest ds x y)) (hb : Ent W L (body fun x y w => sat W (J x y) w)) : Ent W L (cut2 body rest) := fun w hw => ⟨fun x y w => sat W (J x y) w, fun ds x y w' hw' => hr ds x y w' hw', hb w hw⟩
/-- a cut that is none: the rest walked on each way -/
theorem e_cut0d {body : WP → WP} {rest : List Value → WP} (hb : Ent W L (body fun w => ∀ ds, rest ds w)) : Ent W L (cut0 body rest) := fun w hw => ⟨fun w => ∀ ds, rest ds w, fun ds w' hw' => hw' ds, hb w hw⟩
theorem e_cut1d {body : (Value → WP) → WP} {rest : List Value → Value → WP} (hb : Ent W L (body fun x w => ∀ ds, rest ds x w)) : Ent W L (cut1 body rest) := fun w hw => ⟨fun x w => ∀ ds, rest ds x w, fun ds x w' hw' => hw' ds, hb w hw⟩
theorem e_cut2d {body : (Value → Value → WP) → WP} {rest : List Value → Value → Value → WP} (hb : Ent W L (body fun x y w => ∀ ds, rest ds x y w)) : Ent W L (cut2 body rest) := fun w hw => ⟨fun x y w => ∀ ds, rest ds x y w, fun ds x y w' hw' => hw' ds, hb w hw⟩
theorem e_allds {R : List Value → WP} (h : ∀ ds, Ent W L (R ds)) : Ent W L (fun w => ∀ ds, R ds w) := fun w hw ds => h ds w hw
theorem e_sat {M : List HP} (i : Imp W L M) : Ent W L (fun w => sat W M w) := fun w hw => i.sat hw
end Go.Proofs.Ytehfblkpbadikaa.Sl
