/- Slices that are made: of parts, of zeros. No conditions but those that each names. -/
import Derived.Test.YtehfblkpbadikaaClose
set_option linter.unusedVariables false
namespace Go.Proofs.Ytehfblkpbadikaa.Sl
open Go Go.Proofs.Ytehfblkpbadikaa.Sh
variable {P : Program} {W : World} {L L' : List HP} {Kp : PK} {k : Value → WP}
theorem fill_run : ∀ (vs pre zs : List Value), zs.length = vs.length → (∀ v ∈ vs, v.cells = #[v]) →
    Instr.fill (fun i => some (i * 1, 1)) (pre ++ zs).toArray ((vs.zipIdx pre.length).map fun x => (x.2, x.1)) = some (pre ++ vs).toArray
  | [], pre, zs, hz, _ => by
    have : zs = [] := List.eq_nil_of_length_eq_zero (by simpa using hz)
    subst this; simp [Instr.fill]
  | v :: vs, pre, [], hz, _ => by simp at hz
  | v :: vs, pre, z :: zs, hz, ho => by
    have hv := ho v (by simp)
    have ih := fill_run vs (pre ++ [v]) zs (by simpa using hz) (fun u hu => ho u (by simp [hu]))
    simp only [List.zipIdx_cons, List.map_cons, Instr.fill, hv]
    rw [if_neg (by simp)]
    have h2 : Array.foldl (fun cs (x : Value × Nat) => cs.setIfInBounds (pre.length * 1 + x.2) x.1) (pre ++ z :: zs).toArray (#[v] : Array Value).zipIdx = (pre ++ [v] ++ zs).toArray := by
      simp
    have h3 : (pre ++ [v]).length = pre.length + 1 := by simp
    rw [h3] at ih
    rw [h2, ih]; simp
theorem e_bslN {t e : TypeId} {b n : Nat} {parts : List (Nat × Value)} {vs : List Value} [ht : SlT P t e 1 b] (hn : vs.length = n) (hp : parts = vs.zipIdx.map fun x => (x.2, x.1)) (ho : ∀ v ∈ vs, v.cells = #[v]) (hm : n ≤ 16777216)
    (h : ∀ g, Ent W (pt g (.cells vs.toArray e) :: L) (k (.slice (some ⟨g, 0, none⟩) n n))) : Ent W L (opN P (sBuildSl t n parts) Kp k) := fun w hw => by
  refine ⟨?_⟩
  obtain ⟨i, z, hi, hz, hs, hb, hzs⟩ := ht.info
  have : (sBuildSl t n parts).run P w = .ok (.value (.slice (some ⟨w.heap.size, 0, none⟩) n n)) (w.alloc (.cells vs.toArray e)) := by
    have hm' : ¬ (2 ^ 24 < n) := by omega
    have hf : ∀ zs : List Value, zs.length = vs.length → Instr.fill (fun i => some (i * 1, 1)) zs.toArray parts = some vs.toArray := fun zs hz => by
      have := fill_run vs [] zs hz ho
      simpa [hp] using this
    by_cases h0 : n = 0
    · have : vs = [] := List.eq_nil_of_length_eq_zero (by omega)
      subst this; subst h0
      simp [sBuildSl, Instr.buildSlice, run_underlying ht.ut, sizeOf_run hi, hs, hp, newRow, Instr.fill]
      have e0 : (Array.range 0).map (fun _ => (default : Value)) = #[] := Array.eq_empty_of_size_eq_zero (by simp)
      rw [e0]
    · have hf' := hf ((List.range n).map fun j => z.cells[j % z.cells.size]!) (by simp [hn])
      have e1 : ((Array.range n).map fun j => z.cells[j % z.cells.size]!) = ((List.range n).map fun j => z.cells[j % z.cells.size]!).toArray := by
        apply Array.ext'
        simp [Array.toList_range]
      rw [← e1] at hf'
      simp only [Nat.mul_one] at hf'
      simp [sBuildSl, Instr.buildSlice, run_underlying ht.ut, sizeOf_run hi, hs, h0, hm', zeroValue, typeInfo, hi, hz, newRow, hf']
  rw [this]
  exact h _ _ (hw.alloc _)
theorem e_mksl {t e : TypeId} {b : Nat} {z : Value} {q r : IntKind} {l c : Int} (n m : Nat) [ht : SlT P t e 1 b] [hz : ZeroT P e z] [hc : OC z] (hl : l = (n : Int)) (hcm : c = (m : Int)) (h1 : n ≤ m) (h2 : b * m ≤ 281474976710656) (h3 : m ≤ maxLen)
    (h : ∀ g, Ent W (Sl 1 e (some ⟨g, 0, none⟩) m n (List.replicate n z) :: L) (k (.slice (some ⟨g, 0, none⟩) n m))) : Ent W L (opN P (sMkSl t (.int q l) (.int r c)) Kp k) := fun w hw => by
  refine ⟨?_⟩
  obtain ⟨i, z', hi, hz', hs, hb, hzs⟩ := ht.info
  have e0 : z' = z := by
    have := hz.run w
    simp [zeroValue, typeInfo, hi, hz'] at this
    exact this
  subst e0
  subst hl; subst hcm
  have hcz : z'.cells = #[z'] := cells_one hc.one
  have hbm : (i.bytes : Int) * (m : Int) ≤ 281474976710656 := by
    rw [hb]
    obtain ⟨X, hX⟩ : ∃ X, X = b * m := ⟨_, rfl⟩
    have h4 : (X : Int) ≤ 281474976710656 := by omega
    rw [hX, Int.natCast_mul] at h4
    exact h4
  have hr := run_make (P := P) (w := w) t e i z' ht.ut hi hz' q r n m (by omega) (by omega) hbm (by unfold maxLen at h3; omega)
  simp only [Int.toNat_natCast, hs, Nat.mul_one] at hr
  have e1 : madeCells z'.cells m = (List.replicate n z' ++ List.replicate (m - n) z').toArray := by
    rw [hcz, List.replicate_append_replicate]
    apply Array.ext'
    simp [madeCells, Array.toList_range, Nat.mod_one]
    rw [show n + (m - n) = m by omega]
    apply List.ext_getElem <;> simp
  have : (sMkSl t (.int q n) (.int r m)).run P w = .ok (.value (.slice (some ⟨w.heap.size, 0, none⟩) n m)) (w.alloc (.cells (List.replicate n z' ++ List.replicate (m - n) z').toArray e)) := by
    simp [sMkSl, hr, e1]
  rw [this]
  refine h _ _ ?_
  have := hw.alloc (.cells (List.replicate n z' ++ List.replicate (m - n) z').toArray e)
  refine Imp.sat (L := pt w.heap.size (.cells (List.replicate n z' ++ List.replicate (m - n) z').toArray e) :: L) ?_ this
  exact .conv (B := pt w.heap.size (.cells (List.replicate n z' ++ List.replicate (m - n) z').toArray e)) (fun f hf => ⟨by simp, h1, h3, .inr ⟨_, List.replicate (m - n) z', rfl, by simp, hf⟩⟩) (.pick .here .refl)
end Go.Proofs.Ytehfblkpbadikaa.Sl
