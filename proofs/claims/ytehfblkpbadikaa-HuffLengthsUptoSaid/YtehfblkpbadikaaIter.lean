/- Ranges over functions, and calls of what a function value holds: the rules of a walk. No conditions but those that each names. -/
import Derived.Test.YtehfblkpbadikaaPanic
set_option linter.unusedVariables false
namespace Go.Proofs.Ytehfblkpbadikaa.Sl
open Go Go.RowKit Go.Proofs.Ytehfblkpbadikaa.Sh
variable {P : Program} {W : World} {L L' : List HP} {Kp : PK} {k : Value → WP}
/-- a call of a closure: what it captured comes behind its arguments -/
theorem run_sCallC {f : FuncId} {cap : Array Value} {args : List Value} (hc : ∀ (a : Array Value) (w : World), (callFunc f a).run P w = .ok (.enter f a) w) (w : World) :
    (sCall (.func (.func f) #[] cap) args).run P w = .ok (.enter f (args.toArray ++ cap)) w := by
  unfold sCall Deferred.ofValue
  simp [invoke, hc]
theorem e_callC {α : Type} {f : FuncId} {args cap : List Value} {A F : List HP} {r : α → Value} {B : α → List HP} (hf : Cn P f (args ++ cap) W A r B) (p : Picks L A F)
    (h : ∀ x, Ent W (B x ++ F) (k (r x))) : Ent W L (opN P (sCall (.func (.func f) #[] cap.toArray) args) Kp k) := fun w hw => by
  refine ⟨?_⟩
  rw [run_sCallC hf.call, show args.toArray ++ cap.toArray = (args ++ cap).toArray by simp]
  refine (hf.run F w (p.sat hw)).mono fun e w' ⟨x, he, hs⟩ => ?_
  subst he
  exact h x w' hs
/-- a loop's yield, from round to round: what is handed in, what holds between -/
def YieldC (P : Program) (l : Nat) (xs : List (List Value)) (I : Nat → HP) (Ix : HP) (W : World) : Prop :=
  ∀ i (hi : i < xs.length) (F : List HP) (w : World), sat W (I i :: F) w → YieldP P l xs[i] w fun e w' =>
    (e = .returned (.bool true) ∧ sat W (I (i + 1) :: F) w') ∨ (e = .returned (.bool false) ∧ sat W (Ix :: F) w')
def yv (l : Nat) : Value := .func (.yield l) #[] #[]
instance {l : Nat} : OC (yv l) := ⟨rfl⟩
theorem e_yield {l : Nat} {xs : List (List Value)} {I : Nat → HP} {Ix : HP} {args : List Value} (hy : YieldC P l xs I Ix W) (i : Nat) (hi : xs[i]? = some args) (p : Pick L (I i) L')
    (ht : Ent W (I (i + 1) :: L') (k (.bool true))) (hf : Ent W (Ix :: L') (k (.bool false))) : Ent W L (opN P (sCall (yv l) args) Kp k) := fun w hw => by
  have hlt : i < xs.length := by
    rcases Nat.lt_or_ge i xs.length with c | c
    · exact c
    · rw [List.getElem?_eq_none c] at hi; cases hi
  have he : xs[i] = args := by rw [List.getElem?_eq_getElem hlt] at hi; exact Option.some.inj hi
  obtain ⟨fn, tmps, assign, body, hr, hR⟩ := hy i hlt L' w (hw.pick p)
  rw [he] at hr
  refine ⟨?_⟩
  have : (sCall (yv l) args).run P w = .ok (.round l fn tmps assign body) w := by
    unfold sCall yv Deferred.ofValue
    simp [invoke, hr]
  rw [this]
  refine hR.mono fun e w' he => ?_
  rcases he with ⟨rfl, hs⟩ | ⟨rfl, hs⟩
  · exact ht w' hs
  · exact hf w' hs
theorem sat.putO {w : World} {g : Nat} {o o' : Obj} (H : sat W (pt g o :: L) w) : sat W (pt g o' :: L) (w.putObj g o') := by
  have hg := H.pt_.1
  have hlt : g < w.heap.size := (Array.getElem?_eq_some_iff.1 hg).1
  exact H.turn rfl rfl rfl (by simp) (World.putObj_heap_same hlt) (fun i hi => World.putObj_heap_other hi)
theorem e_tk {d : Nat} {S : WP} (p : Pick L (pt d (.deferred (some []))) L') (h : Ent W L' S) : Ent W L (tkS d S) := fun w hw => by
  have hw' := hw.pick p
  exact ⟨hw'.pt_.1, h _ (hw'.putO (o' := .deferred none)).drop⟩
theorem e_rf {fv : Value} {f : FuncId} {cap : List Value} {np : Nat} {rnd : VF np ((WP → WP) → WP → WP → WP)} {Kn Kj : Nat → WP} {Kq : Nat → PK} (xs : List (List Value)) (I : Nat → HP) (Ix : HP) (hf : fv = .func (.func f) #[] cap.toArray)
    (hxs : ∀ x ∈ xs, x.length = np) (hi : Imp W L [I 0])
    (hit : ∀ (l : Nat) (T T' : HP), YieldC P l xs (fun i => all [T, I i]) (all [T', Ix]) W → Cn P f (yv l :: cap) W [all [T, I 0]] (fun _ : Bool => .tuple #[]) (fun b => [if b then all [T, I xs.length] else all [T', Ix]]))
    (hbody : ∀ i (hi : i < xs.length) (F : List HP) (T0 T1 : HP) (B : WP → WP) (N J : WP), (∀ L L' S, Pick L T0 L' → Ent W (T1 :: L') S → Ent W L (B S)) → (∀ L, Imp W L (T1 :: I (i + 1) :: F) → Ent W L N) → (∀ L, Imp W L (T1 :: Ix :: F) → Ent W L J) →
      Ent W (T0 :: I i :: F) (vapp np rnd xs[i] B N J))
    (hn : ∀ d, Ent W [pt d (.deferred (some [])), I xs.length] (Kn d)) (hj : ∀ d, Ent W [pt d (.deferred (some [])), Ix] (Kj d)) : Ent W L (rfS P fv np rnd Kn Kj Kq) := fun w hw => by
  have hcall := (hit 0 (pu False) (pu False) (fun i hi F w hs => (by obtain ⟨h, ⟨h1, h2, ⟨h3, h4, hp, _⟩, _⟩, _⟩ := hs.heap; exact hp.elim))).call
  refine ⟨f, cap.toArray, hf, hcall, fun rec hrec => ?_⟩
  obtain ⟨l, hl⟩ : ∃ l, l = w.heap.size + 1 := ⟨_, rfl⟩
  have h0 : sat W [all [all [pt l (.loop (rec .ready none)), pt w.heap.size (.deferred (some []))], I 0]] ((w.alloc (.deferred (some []))).alloc (.loop (rec .ready none))) := by
    have := ((hi.sat hw).alloc (.deferred (some []))).alloc (.loop (rec .ready none))
    rw [World.size_alloc, ← hl] at this
    exact (Imp.all (N := [_, _]) (Imp.all (N := [_, _]) .refl)).sat this
  rw [← hl] at hrec ⊢
  have hy : YieldC P l xs (fun i => all [all [pt l (.loop (rec .ready none)), pt w.heap.size (.deferred (some []))], I i]) (all [all [pt l (.loop (rec .done (some .ret))), pt w.heap.size (.deferred (some []))], Ix]) W := by
    intro i hi F w' hs
    have hs1 : sat W (pt l (.loop (rec .ready none)) :: pt w.heap.size (.deferred (some [])) :: I i :: F) w' :=
      hs.map fun h H => all_append' (N := [_, _]) (M := I i :: F) (by
        have := all_append' (N := [_, _]) (M := F) H
        exact this)
    refine hrec xs[i] w' _ (hxs _ (List.getElem_mem hi)) hs1.pt_.1 ?_
    refine hbody i hi F (all [pt l (.loop (rec .ready none)), pt w.heap.size (.deferred (some []))]) (all [pt l (.loop (rec .busy none)), pt w.heap.size (.deferred (some []))]) _ _ _ ?_ ?_ ?_ w' ?_
    · intro L1 L2 S p hS w1 hw1
      have h1 : sat W (pt l (.loop (rec .ready none)) :: pt w.heap.size (.deferred (some [])) :: L2) w1 := sat.map (L := all [pt l (.loop (rec .ready none)), pt w.heap.size (.deferred (some []))] :: L2) (fun h H => all_append' (N := [_, _]) H) (hw1.pick p)
      refine ⟨h1.pt_.1, hS _ ?_⟩
      exact (Imp.all (N := [_, _]) .refl).sat (h1.putO (o' := .loop (rec .busy none)))
    · intro L1 i1 w1 hw1
      have h1 : sat W (pt l (.loop (rec .busy none)) :: pt w.heap.size (.deferred (some [])) :: I (i + 1) :: F) w1 := sat.map (L := all [pt l (.loop (rec .busy none)), pt w.heap.size (.deferred (some []))] :: I (i + 1) :: F) (fun h H => all_append' (N := [_, _]) H) (i1.sat hw1)
      refine ⟨h1.pt_.1, .inl ⟨rfl, ?_⟩⟩
      exact (Imp.all (N := [_, _]) (Imp.all (N := [_, _]) .refl)).sat (h1.putO (o' := .loop (rec .ready none)))
    · intro L1 i1 w1 hw1
      have h1 : sat W (pt l (.loop (rec .busy none)) :: pt w.heap.size (.deferred (some [])) :: Ix :: F) w1 := sat.map (L := all [pt l (.loop (rec .busy none)), pt w.heap.size (.deferred (some []))] :: Ix :: F) (fun h H => all_append' (N := [_, _]) H) (i1.sat hw1)
      refine ⟨h1.pt_.1, .inr ⟨rfl, ?_⟩⟩
      exact (Imp.all (N := [_, _]) (Imp.all (N := [_, _]) .refl)).sat (h1.putO (o' := .loop (rec .done (some .ret))))
    · exact (Imp.all (N := [_, _]) .refl).sat hs1
  have hc := (hit l _ _ hy).run [] _ (by simpa using h0)
  rw [show (yv l :: cap).toArray = #[.func (.yield l) #[] #[]] ++ cap.toArray by simp [yv]] at hc
  refine hc.mono fun e w' he => ?_
  obtain ⟨b, rfl, hs⟩ := he
  cases b with
  | true =>
    left
    have h1 : sat W (pt l (.loop (rec .ready none)) :: [pt w.heap.size (.deferred (some [])), I xs.length]) w' :=
      hs.map fun h H => all_append' (N := [_, _]) (M := [I xs.length]) (by
        have := all_append' (N := [_, _]) (M := []) H
        exact this)
    exact ⟨h1.pt_.1, hn _ _ (h1.putO (o' := .loop (rec .exhausted none))).drop⟩
  | false =>
    right
    have h1 : sat W (pt l (.loop (rec .done (some .ret))) :: [pt w.heap.size (.deferred (some [])), Ix]) w' :=
      hs.map fun h H => all_append' (N := [_, _]) (M := [Ix]) (by
        have := all_append' (N := [_, _]) (M := []) H
        exact this)
    exact ⟨h1.pt_.1, hj _ _ (h1.putO (o' := .loop (rec .exhausted (some .ret)))).drop⟩
theorem e_swap {M : List HP} {S : WP} (h : Ent W (M ++ L) S) : Ent W (L ++ M) S := fun w hw => by
  refine h w (hw.map fun f H => all_append' ?_)
  obtain ⟨h1, h2, ha, hb, d, s1, s2⟩ := all_append H
  exact ⟨h2, h1, hb, ha, fun i => (d i).symm, s2, s1⟩
/-- what stands by is laid out again -/
theorem e_rest {M F : List HP} {S : WP} (i : Imp W L (M ++ [all F])) (h : Ent W (M ++ F) S) : Ent W L S := by
  refine e_imp i (e_swap (L := M) (M := [all F]) ?_)
  refine e_all (M := F) (L' := M) .here (e_swap h)
end Go.Proofs.Ytehfblkpbadikaa.Sl
