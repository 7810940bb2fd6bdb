/- What stands in memory that a call made itself: small assertions, held apart, and how a walk carries them. W: the world in which all began; below its size nothing turns. No conditions. -/
import Derived.Test.YtehfblkpbadikaaComb
import Derived.Below
namespace Go.Proofs.Ytehfblkpbadikaa.Sl
open Go Go.RowKit Go.Proofs.Ytehfblkpbadikaa.Sh

abbrev Frag := Nat → Option Obj
abbrev HP := World → Frag → Prop

def pt (g : Nat) (o : Obj) : HP := fun _ h => h g = some o
def pu (φ : Prop) : HP := fun _ _ => φ
def ex {α : Type} (A : α → HP) : HP := fun W h => ∃ x, A x W h
def star (A B : HP) : HP := fun W h => ∃ h1 h2 : Frag, A W h1 ∧ B W h2 ∧ (∀ i, h1 i = none ∨ h2 i = none) ∧ (∀ i o, h1 i = some o → h i = some o) ∧ (∀ i o, h2 i = some o → h i = some o)
def all : List HP → HP
  | [] => fun _ _ => True
  | A :: l => star A (all l)

structure sat (W : World) (L : List HP) (w : World) : Prop where
  base : Below W.heap.size W w
  heap : ∃ h : Frag, all L W h ∧ ∀ i o, h i = some o → W.heap.size ≤ i ∧ w.heap[i]? = some o

theorem star_swap {A B C : HP} {W : World} {h : Frag} (H : star A (star B C) W h) : star B (star A C) W h := by
  obtain ⟨h1, h2, ha, ⟨h21, h22, hb, hc, d2, s21, s22⟩, d1, s1, s2⟩ := H
  refine ⟨h21, fun i => match h1 i with | some o => some o | none => h22 i, hb, ⟨h1, h22, ha, hc, ?_, ?_, ?_⟩, ?_, ?_, ?_⟩
  · intro i
    rcases d1 i with h | h
    · exact .inl h
    · right
      cases h' : h22 i with
      | none => rfl
      | some o => rw [s22 i o h'] at h; cases h
  · intro i o hi; simp only [hi]
  · intro i o hi
    have : h1 i = none := by
      rcases d1 i with h | h
      · exact h
      · rw [s22 i o hi] at h; cases h
    simp only [this, hi]
  · intro i
    cases h21i : h21 i with
    | none => exact .inl rfl
    | some o =>
      right
      have h1i : h1 i = none := by
        rcases d1 i with h | h
        · exact h
        · rw [s21 i o h21i] at h; cases h
      have h22i : h22 i = none := by
        rcases d2 i with h | h
        · rw [h21i] at h; cases h
        · exact h
      simp only [h1i, h22i]
  · intro i o hi; exact s2 i o (s21 i o hi)
  · intro i o hi
    cases h1i : h1 i with
    | some o' => simp only [h1i] at hi; rw [← hi]; exact s1 i o' h1i
    | none => simp only [h1i] at hi; exact s2 i o (s22 i o hi)

theorem star_mono {A B B' : HP} {W : World} {h : Frag} (f : ∀ h, B W h → B' W h) (H : star A B W h) : star A B' W h := by
  obtain ⟨h1, h2, ha, hb, r⟩ := H
  exact ⟨h1, h2, ha, f h2 hb, r⟩

inductive Pick : List HP → HP → List HP → Prop
  | here {A : HP} {l : List HP} : Pick (A :: l) A l
  | there {A B : HP} {l l' : List HP} (h : Pick l A l') : Pick (B :: l) A (B :: l')

theorem Pick.all {L L' : List HP} {A : HP} (p : Pick L A L') : ∀ {W : World} {h : Frag}, all L W h → all (A :: L') W h := by
  induction p with
  | here => intro W h H; exact H
  | there p ih => intro W h H; exact star_swap (star_mono (fun h => ih) H)
theorem Pick.back {L L' : List HP} {A : HP} (p : Pick L A L') : ∀ {W : World} {h : Frag}, Sl.all (A :: L') W h → Sl.all L W h := by
  induction p with
  | here => intro W h H; exact H
  | there p ih => intro W h H; exact star_mono (fun h => ih) (star_swap H)

theorem sat.map {W : World} {L M : List HP} {w : World} (f : ∀ h, all L W h → all M W h) (H : sat W L w) : sat W M w :=
  ⟨H.base, let ⟨h, a, b⟩ := H.heap; ⟨h, f h a, b⟩⟩
theorem sat.pick {W : World} {L L' : List HP} {A : HP} {w : World} (p : Pick L A L') (H : sat W L w) : sat W (A :: L') w := H.map fun _ => p.all
theorem sat.back {W : World} {L L' : List HP} {A : HP} {w : World} (p : Pick L A L') (H : sat W (A :: L') w) : sat W L w := H.map fun _ => p.back

theorem all_drop {A : HP} {l : List HP} {W : World} {h : Frag} (H : all (A :: l) W h) : ∃ h', all l W h' ∧ ∀ i o, h' i = some o → h i = some o := by
  obtain ⟨h1, h2, _, hb, _, _, s2⟩ := H
  exact ⟨h2, hb, s2⟩
theorem sat.drop {W : World} {L : List HP} {A : HP} {w : World} (H : sat W (A :: L) w) : sat W L w := by
  obtain ⟨h, a, b⟩ := H.heap
  obtain ⟨h', a', s⟩ := all_drop a
  exact ⟨H.base, h', a', fun i o hi => b i o (s i o hi)⟩

/-- all that is owed follows from what there is -/
inductive Imp (W : World) : List HP → List HP → Prop
  | refl {F : List HP} : Imp W F F
  | nil {F : List HP} : Imp W F []
  | drop {A : HP} {L M : List HP} (h : Imp W L M) : Imp W (A :: L) M
  | pick {A : HP} {L L' M : List HP} (p : Pick L A L') (h : Imp W L' M) : Imp W L (A :: M)
  | ex {α : Type} {A : α → HP} {L M : List HP} (x : α) (h : Imp W L (A x :: M)) : Imp W L (ex A :: M)
  | pu {φ : Prop} {L M : List HP} (hp : φ) (h : Imp W L M) : Imp W L (pu φ :: M)
  | all {L N M : List HP} (h : Imp W L (N ++ M)) : Imp W L (Sl.all N :: M)
  | conv {A B : HP} {L M : List HP} (e : ∀ h, B W h → A W h) (h : Imp W L (B :: M)) : Imp W L (A :: M)
  | convL {A B : HP} {L L' M : List HP} (p : Pick L A L') (e : ∀ h, A W h → B W h) (h : Imp W (B :: L') M) : Imp W L M

theorem star_pu {φ : Prop} {B : HP} {W : World} {h : Frag} (hp : φ) (H : B W h) : star (pu φ) B W h :=
  ⟨fun _ => none, h, hp, H, fun _ => .inl rfl, fun _ _ c => (by cases c), fun _ _ c => c⟩
theorem star_ex {α : Type} {A : α → HP} {B : HP} {W : World} {h : Frag} (x : α) (H : star (A x) B W h) : star (ex A) B W h := by
  obtain ⟨h1, h2, ha, r⟩ := H
  exact ⟨h1, h2, ⟨x, ha⟩, r⟩
theorem star_assoc' {A B C : HP} {W : World} {h : Frag} (H : star A (star B C) W h) : star (star A B) C W h := by
  obtain ⟨h1, h2, ha, ⟨h21, h22, hb, hc, d2, s21, s22⟩, d1, s1, s2⟩ := star_swap H
  -- h1: B, h21: A, h22: C
  refine ⟨fun i => match h1 i with | some o => some o | none => h21 i, h22, ⟨h21, h1, hb, ha, ?_, ?_, ?_⟩, hc, ?_, ?_, ?_⟩
  · intro i
    rcases d1 i with h | h
    · exact .inr h
    · left
      cases h' : h21 i with
      | none => rfl
      | some o => rw [s21 i o h'] at h; cases h
  · intro i o hi
    have : h1 i = none := by
      rcases d1 i with h | h
      · exact h
      · rw [s21 i o hi] at h; cases h
    simp only [this, hi]
  · intro i o hi; simp only [hi]
  · intro i
    cases h22i : h22 i with
    | none => exact .inr rfl
    | some o =>
      left
      have h1i : h1 i = none := by
        rcases d1 i with h | h
        · exact h
        · rw [s22 i o h22i] at h; cases h
      have h21i : h21 i = none := by
        rcases d2 i with h | h
        · exact h
        · rw [h22i] at h; cases h
      simp only [h1i, h21i]
  · intro i o hi
    cases h1i : h1 i with
    | some o' => simp only [h1i] at hi; rw [← hi]; exact s1 i o' h1i
    | none => simp only [h1i] at hi; exact s2 i o (s21 i o hi)
  · intro i o hi; exact s2 i o (s22 i o hi)
theorem all_append {N M : List HP} {W : World} : ∀ {h : Frag}, all (N ++ M) W h → star (all N) (all M) W h := by
  induction N with
  | nil => intro h H; exact ⟨fun _ => none, h, trivial, H, fun _ => .inl rfl, fun _ _ c => (by cases c), fun _ _ c => c⟩
  | cons A N ih => intro h H; exact star_assoc' (star_mono (fun h => ih) H)
theorem all_append' {N M : List HP} {W : World} : ∀ {h : Frag}, star (all N) (all M) W h → all (N ++ M) W h := by
  induction N with
  | nil =>
    intro h H
    -- the left part is nothing: grow the right one
    obtain ⟨h1, h2, _, hb, _, _, s2⟩ := H
    revert hb s2
    induction M generalizing h h2 with
    | nil => intro _ _; trivial
    | cons B M ih =>
      intro hb s2
      obtain ⟨k1, k2, b1, b2, d, t1, t2⟩ := hb
      exact ⟨k1, k2, b1, b2, d, fun i o c => s2 i o (t1 i o c), fun i o c => s2 i o (t2 i o c)⟩
  | cons A N ih =>
    intro h H
    have e : star A (star (all N) (all M)) W h := by
      obtain ⟨h1, h2, ⟨k1, k2, ha, hn, dk, t1, t2⟩, hm, d, s1, s2⟩ := H
      refine ⟨k1, fun i => match k2 i with | some o => some o | none => h2 i, ha, ⟨k2, h2, hn, hm, ?_, ?_, ?_⟩, ?_, ?_, ?_⟩
      · intro i
        rcases d i with c | c
        · left
          cases c' : k2 i with
          | none => rfl
          | some o => rw [t2 i o c'] at c; cases c
        · exact .inr c
      · intro i o c; simp only [c]
      · intro i o c
        have : k2 i = none := by
          rcases d i with c' | c'
          · cases c'' : k2 i with
            | none => rfl
            | some o => rw [t2 i o c''] at c'; cases c'
          · rw [c] at c'; cases c'
        simp only [this, c]
      · intro i
        cases c : k1 i with
        | none => exact .inl rfl
        | some o =>
          right
          have c2 : k2 i = none := by
            rcases dk i with c' | c'
            · rw [c] at c'; cases c'
            · exact c'
          have c3 : h2 i = none := by
            rcases d i with c' | c'
            · rw [t1 i o c] at c'; cases c'
            · exact c'
          simp only [c2, c3]
      · intro i o c; exact s1 i o (t1 i o c)
      · intro i o c
        cases c2 : k2 i with
        | some o' => simp only [c2] at c; rw [← c]; exact s1 i o' (t2 i o' c2)
        | none => simp only [c2] at c; exact s2 i o c
    exact star_mono (fun h => ih) e

theorem all_up : ∀ {L : List HP} {W : World} {h h' : Frag}, all L W h → (∀ i o, h i = some o → h' i = some o) → all L W h'
  | [], _, _, _, _, _ => trivial
  | _ :: _, _, _, _, ⟨h1, h2, ha, hb, d, s1, s2⟩, s => ⟨h1, h2, ha, hb, d, fun i o c => s i o (s1 i o c), fun i o c => s i o (s2 i o c)⟩

theorem Imp.all' {W : World} {L M : List HP} (H : Imp W L M) : ∀ h, Sl.all L W h → Sl.all M W h := by
  induction H with
  | refl => exact fun _ h => h
  | nil => exact fun _ _ => trivial
  | drop _ ih =>
    intro h H
    obtain ⟨h', a, s⟩ := all_drop H
    exact all_up (ih h' a) s
  | pick p _ ih => exact fun h H => star_mono ih (p.all H)
  | ex x _ ih => exact fun h H => star_ex x (ih h H)
  | pu hp _ ih => exact fun h H => star_pu hp (ih h H)
  | all _ ih => exact fun h H => all_append (ih h H)
  | conv e _ ih => exact fun h H => (by obtain ⟨h1, h2, ha, r⟩ := ih h H; exact ⟨h1, h2, e h1 ha, r⟩)
  | convL p e _ ih => exact fun h H => ih h (by obtain ⟨h1, h2, ha, r⟩ := p.all H; exact ⟨h1, h2, e h1 ha, r⟩)

theorem Imp.sat {W : World} {L M : List HP} (H : Imp W L M) {w : World} (h : Sl.sat W L w) : Sl.sat W M w := h.map H.all'
end Go.Proofs.Ytehfblkpbadikaa.Sl
