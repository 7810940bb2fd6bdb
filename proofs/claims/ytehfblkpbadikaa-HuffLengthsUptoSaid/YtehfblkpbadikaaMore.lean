/- Slices of many-celled elements: made of parts, looked up. No conditions but those that each names. -/
import Derived.Test.YtehfblkpbadikaaOld
set_option linter.unusedVariables false
namespace Go.Proofs.Ytehfblkpbadikaa.Sl
open Go Go.Proofs.Ytehfblkpbadikaa.Sh
variable {P : Program} {W : World} {L L' : List HP} {Kp : PK} {k : Value → WP}
theorem fold_put (o : Nat) : ∀ (us pre zs : List Value) (m : Nat), pre.length = o + m → us.length ≤ zs.length →
    (us.zipIdx m).foldl (fun (cs : Array Value) (x : Value × Nat) => cs.setIfInBounds (o + x.2) x.1) (pre ++ zs).toArray = (pre ++ us ++ zs.drop us.length).toArray
  | [], pre, zs, m, _, _ => by simp
  | u :: us, pre, [], m, _, h => by simp at h
  | u :: us, pre, z :: zs, m, hp, h => by
    have ih := fold_put o us (pre ++ [u]) zs (m + 1) (by simp; omega) (by simpa using h)
    have e : ((pre ++ z :: zs).toArray).setIfInBounds (o + m) u = (pre ++ [u] ++ zs).toArray := by
      rw [← hp]; simp
    rw [List.zipIdx_cons, List.foldl_cons]
    simp only
    rw [e, ih]; simp
theorem fill_runS (s : Nat) : ∀ (vs pre zs : List Value) (m : Nat), pre.length = m * s → zs.length = vs.length * s → (∀ v ∈ vs, v.cells.size = s) →
    Instr.fill (fun i => some (i * s, s)) (pre ++ zs).toArray ((vs.zipIdx m).map fun x => (x.2, x.1)) = some (pre ++ vs.flatMap fun v => v.cells.toList).toArray
  | [], pre, zs, m, _, hz, _ => by
    have : zs = [] := List.eq_nil_of_length_eq_zero (by simpa using hz)
    subst this; simp [Instr.fill]
  | v :: vs, pre, zs, m, hp, hz, ho => by
    have hv := ho v (by simp)
    have hz' : zs.length = vs.length * s + s := by rw [hz, List.length_cons, Nat.add_mul, Nat.one_mul]
    have ih := fill_runS s vs (pre ++ v.cells.toList) (zs.drop s) (m + 1) (by rw [List.length_append, hp, Array.length_toList, hv, Nat.add_mul, Nat.one_mul]) (by rw [List.length_drop, hz']; omega) (fun u hu => ho u (by simp [hu]))
    simp only [List.zipIdx_cons, List.map_cons, Instr.fill, hv]
    rw [if_neg (by simp [hp, hz'])]
    have h2 : Array.foldl (fun cs (x : Value × Nat) => cs.setIfInBounds (m * s + x.2) x.1) (pre ++ zs).toArray v.cells.zipIdx = (pre ++ v.cells.toList ++ zs.drop s).toArray := by
      have := fold_put (m * s) v.cells.toList pre zs 0 (by simpa using hp) (by rw [Array.length_toList, hv]; omega)
      rw [Array.length_toList, hv] at this
      rw [← this]
      have e2 : v.cells.zipIdx.toList = v.cells.toList.zipIdx := by simp
      rw [← e2, Array.foldl_toList]
    rw [h2, ih]; simp
theorem e_bslS {t e : TypeId} {s b n : Nat} {parts : List (Nat × Value)} {vs : List Value} [ht : SlT P t e s b] (hn : vs.length = n) (h1 : 0 < n) (hp : parts = vs.zipIdx.map fun x => (x.2, x.1)) (ho : ∀ v ∈ vs, v.cells.size = s) (hm : n * s ≤ 16777216)
    (h : ∀ g, Ent W (pt g (.cells (vs.flatMap fun v => v.cells.toList).toArray e) :: L) (k (.slice (some ⟨g, 0, none⟩) n n))) : Ent W L (opN P (sBuildSl t n parts) Kp k) := fun w hw => by
  refine ⟨?_⟩
  obtain ⟨i, z, hi, hz, hs, hb, hzs⟩ := ht.info
  have : (sBuildSl t n parts).run P w = .ok (.value (.slice (some ⟨w.heap.size, 0, none⟩) n n)) (w.alloc (.cells (vs.flatMap fun v => v.cells.toList).toArray e)) := by
    have hm' : ¬ (2 ^ 24 < n * s) := by omega
    have hf : ∀ zs : Array Value, zs.size = n * s → Instr.fill (fun i => some (i * s, s)) zs parts = some (vs.flatMap fun v => v.cells.toList).toArray := fun zs hz => by
      have := fill_runS s vs [] zs.toList 0 (by simp) (by simp [hz, hn]) ho
      simpa [hp] using this
    by_cases h0 : n * s = 0
    · simp [sBuildSl, Instr.buildSlice, run_underlying ht.ut, sizeOf_run hi, hs, zeroValue, typeInfo, hi, hz, newRow, h0]
      have := hf ((Array.range 0).map fun _ => (default : Value)) (by simp [h0])
      rw [this]
      simp
    · simp [sBuildSl, Instr.buildSlice, run_underlying ht.ut, sizeOf_run hi, hs, hm', zeroValue, typeInfo, hi, hz, newRow, h0]
      have := hf ((Array.range (n * s)).map fun j => z.cells[j % z.cells.size]!) (by simp)
      rw [this]
      simp
  rw [this]
  exact h _ _ (hw.alloc _)
theorem flat_len {α : Type} {f : α → List Value} {s : Nat} (hf : ∀ x, (f x).length = s) : ∀ l : List α, (l.flatMap f).length = l.length * s
  | [] => by simp
  | x :: l => by rw [List.flatMap_cons, List.length_append, hf, flat_len hf l, List.length_cons, Nat.add_mul, Nat.one_mul, Nat.add_comm]
theorem flat_get {α : Type} {f : α → List Value} {s : Nat} (hf : ∀ x, (f x).length = s) : ∀ (l : List α) (i j : Nat) (hi : i < l.length) (hj : j < s), (l.flatMap f)[i * s + j]? = (f l[i])[j]?
  | x :: l, 0, j, _, hj => by
    rw [List.flatMap_cons, Nat.zero_mul, Nat.zero_add, List.getElem?_append_left (by rw [hf]; exact hj)]; rfl
  | x :: l, i + 1, j, hi, hj => by
    rw [List.flatMap_cons, List.getElem?_append_right (by rw [hf, Nat.add_mul]; omega), hf, show (i + 1) * s + j - s = i * s + j by rw [Nat.add_mul]; omega, flat_get hf l i j (by simpa using hi) hj]; rfl
end Go.Proofs.Ytehfblkpbadikaa.Sl
