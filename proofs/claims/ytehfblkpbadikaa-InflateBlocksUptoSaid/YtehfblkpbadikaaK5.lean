/- What came in: slices of what is read, as lists of what it means. Conditions: what each names. (17 texts made one; each says below what it is.) -/
import Derived.Test.YtehfblkpbadikaaK4
import Derived.ChangeArms
import Derived.Test.YtehfblkpbadikaaRows
import Derived.Test.YtehfblkpbadikaaK2
import Derived.Test.YtehfblkpbadikaaK1
import Derived.Laws.StructEq
set_option linter.unusedVariables false
set_option linter.unusedSimpArgs false
set_option linter.unusedSectionVars false
/-! What came in: slices of what is read, as lists of what it means. Conditions: what each names. -/
namespace Go.Proofs.Ytehfblkpbadikaa.Sl
open Go Go.RowKit Go.Proofs.Ytehfblkpbadikaa.Sh
variable {P : Program} {W : World} {L L' : List HP} {Kp : PK} {k : Value → WP} {H : Type} {enc : TypeId × Value → H}
theorem spot_none {w : World} {a : Addr} {v : Value} (h : w.cell? a = some v) : a.spot = none ∧ a.block < w.heap.size := by
  unfold World.cell? at h
  split at h
  · rename_i c _ _ e
    refine ⟨?_, (Array.getElem?_eq_some_iff.1 e).1⟩
    cases hs : a.spot with
    | none => rfl
    | some x => rw [hs] at h; simp at h
  · cases h
/-- the n elements (s cells each) from address a on mean xs, in the world where all began -/
structure Old {α : Type} (W : World) (s : Nat) (rd : α → List Value → Prop) (a : Option Addr) (n : Nat) (xs : List α) : Prop where
  len : xs.length = n
  at_ : 0 < n → ∃ g o, a = some ⟨g, o, none⟩ ∧ g < W.heap.size ∧ ∀ (i : Nat) (h : i < xs.length), ∃ cs : List Value, cs.length = s ∧ rd xs[i] cs ∧ ∀ (j : Nat) (v : Value), cs[j]? = some v → W.cell? ⟨g, o + (i * s + j), none⟩ = some v
theorem v_ldOld {t : TypeId} {g o : Nat} {v : Value} [ht : OneT P t] (hg : g < W.heap.size) (hv : W.cell? ⟨g, o, none⟩ = some v) : RunV P W [] (sLoad t (.pointer (some ⟨g, o, none⟩))) v := by
  have H : RdB W (pu True) (some ⟨g, o, none⟩) 1 [v] := rd_old rfl hg (fun j u hu => by
    match j, hu with
    | 0, hu => simp at hu; subst hu; exact hv)
  have := v_ldRd (P := P) (t := t) (j := 0) H rfl
  exact fun w hw => this w (Imp.sat (.pu trivial .refl) hw)
theorem choose_list {α : Type} {n : Nat} {R : Nat → α → Prop} (h : ∀ i, i < n → ∃ a, R i a) : ∃ xs : List α, xs.length = n ∧ ∀ (i : Nat) (hi : i < xs.length), R i xs[i] := by
  induction n with
  | zero => exact ⟨[], rfl, fun i hi => by simp at hi⟩
  | succ n ih =>
    obtain ⟨xs, h1, h2⟩ := ih fun i hi => h i (by omega)
    obtain ⟨a, ha⟩ := h n (by omega)
    refine ⟨xs ++ [a], by simp [h1], fun i hi => ?_⟩
    by_cases c : i < xs.length
    · rw [List.getElem_append_left c]; exact h2 i c
    · have : i = n := by simp at hi; omega
      subst this
      rw [List.getElem_append_right (by omega)]
      simpa [h1] using ha
theorem bulk_cons (d : DataW H) (r : List (DataW H)) : Rows.uptoBulkAll (d :: r) = Rows.uptoBulk d + Rows.uptoBulkAll r := by simp [Rows.uptoBulkAll]
theorem bulk_sum {α : Type} {m : α → Nat} : ∀ (xs : List α) (ds : List (DataW H)), xs.length = ds.length → (∀ (i : Nat) (h1 : i < xs.length) (h2 : i < ds.length), m xs[i] ≤ Rows.uptoBulk ds[i]) → (xs.map m).sum ≤ Rows.uptoBulkAll ds
  | [], [], _, _ => by simp
  | x :: xs, d :: ds, hl, h => by
    have h0 := h 0 (by simp) (by simp)
    have ih := bulk_sum xs ds (by simpa using hl) (fun i h1 h2 => h (i + 1) (by simp; omega) (by simp; omega))
    rw [bulk_cons, List.map_cons, List.sum_cons]
    simp only [List.getElem_cons_zero] at h0
    omega
theorem open_old {α : Type} {rd : α → List Value → Prop} {m : α → Nat} {t e : TypeId} {s fuel : Nat} {sp : Nat → Bool} {held : Bool} {cs : List Value} {x : DataW H × List MemPlace} (ht : P.underlying t = some (.slice e)) (hc : P.cellsOf e = s) (hs : 0 < s)
    (op : ∀ (n : Nat) (cs : List Value) (x : DataW H × List MemPlace), DataW.trod enc P W 0 sp held n e cs = some x → ∃ a, rd a cs ∧ m a ≤ Rows.uptoBulk x.1) (h : DataW.trod enc P W 0 sp held fuel t cs = some x) :
    ∃ (a : Option Addr) (n cap : Nat) (xs : List α), cs = [.slice a n cap] ∧ n ≤ cap ∧ cap ≤ maxLen ∧ (a = none → n = 0 ∧ cap = 0) ∧ Old W s rd a n xs ∧ (xs.map m).sum + 1 ≤ Rows.uptoBulk x.1 := by
  rcases DataW.trod_slice ht h with ⟨rfl, rfl⟩ | ⟨a, len, cap, elems, rest, n, rfl, rfl, rfl, hb, hl, hm, he, hel, _, _⟩
  · exact ⟨none, 0, 0, [], rfl, Nat.le_refl _, by unfold maxLen; omega, fun _ => ⟨rfl, rfl⟩, ⟨rfl, fun c => by omega⟩, by simp [Rows.uptoBulk]⟩
  · have cell0 : ∀ i, i < len → ∃ ds : List Value, ds.length = s ∧ (∃ y, rd y ds ∧ ∀ h : i < elems.length, m y ≤ Rows.uptoBulk elems[i].1) ∧ ∀ j, j < s → W.cell? ((a.add (i * s)).add j) = ds[j]? := fun i hi => by
      have h1 := hel i hi
      rw [List.getElem?_eq_getElem (by omega), Option.bind_eq_some_iff] at h1
      obtain ⟨ds, h2, h3⟩ := h1
      unfold World.cells? at h2
      rw [if_pos (Nat.zero_le _), hc] at h2
      obtain ⟨y, hy, hm2⟩ := op _ _ _ h3
      exact ⟨ds, by simpa using mapM_some_length h2, ⟨y, hy, fun _ => hm2⟩, fun j hj => mapM_some_get h2 j j (by simp [hj])⟩
    by_cases hz : len = 0
    · subst hz
      exact ⟨some a, 0, cap, [], rfl, hl, hm, (fun c => by cases c), ⟨rfl, fun c => by omega⟩, by simp [Rows.uptoBulk]⟩
    obtain ⟨d0, hd0, _, hg0⟩ := cell0 0 (by omega)
    have h0 := hg0 0 hs
    have ea : (a.add (0 * s)).add 0 = a := by unfold Addr.add; simp
    rw [ea, List.getElem?_eq_getElem (by omega)] at h0
    obtain ⟨s1, s2⟩ := spot_none h0
    obtain ⟨g, o, sp'⟩ := a
    obtain rfl : sp' = none := s1
    have key : ∀ i, i < len → ∃ y : α, (∀ h : i < elems.length, m y ≤ Rows.uptoBulk elems[i].1) ∧ ∃ ds : List Value, ds.length = s ∧ rd y ds ∧ ∀ (j : Nat) (v : Value), ds[j]? = some v → W.cell? ⟨g, o + (i * s + j), none⟩ = some v := fun i hi => by
      obtain ⟨ds, hlen, ⟨y, hy, hyb⟩, hget⟩ := cell0 i hi
      refine ⟨y, hyb, ds, hlen, hy, fun j v hv => ?_⟩
      have hj : j < s := by
        rcases Nat.lt_or_ge j ds.length with c | c
        · omega
        · rw [List.getElem?_eq_none c] at hv; cases hv
      have := hget j hj
      rw [addr_add, addr_add, hv, Nat.add_assoc] at this
      exact this
    obtain ⟨xs, h1, h2⟩ := choose_list key
    refine ⟨some ⟨g, o, none⟩, len, cap, xs, rfl, hl, hm, (fun c => by cases c), ⟨h1, fun hn => ⟨g, o, rfl, s2, fun i hi => (h2 i hi).2⟩⟩, ?_⟩
    have := bulk_sum (m := m) xs (elems.map (·.1)) (by simp; omega) (fun i e1 e2 => by simpa using (h2 i e1).1 (by simpa using e2))
    simp only [Rows.uptoBulk]
    omega
theorem sum_ones {α : Type} : ∀ l : List α, (l.map fun _ => 1).sum = l.length
  | [] => rfl
  | x :: l => by simp [sum_ones l]; omega
def rdU (c : UInt8) (cs : List Value) : Prop := cs = [B c]
theorem Old.bytes {a : Option Addr} {n : Nat} {b : List UInt8} {A : HP} (h : Old W 1 rdU a n b) : RdB W A a n (b.map B) := by
  refine ⟨by rw [List.length_map]; exact h.len, fun hn => ?_⟩
  obtain ⟨g, o, rfl, hg, hc⟩ := h.at_ hn
  refine ⟨g, o, rfl, fun w L hw j v hv => ?_⟩
  rw [List.getElem?_map] at hv
  have hj : j < b.length := by
    rcases Nat.lt_or_ge j b.length with c | c
    · exact c
    · rw [List.getElem?_eq_none c] at hv; cases hv
  obtain ⟨cs, h1, h2, h3⟩ := hc j hj
  rw [h2] at h3
  have := h3 0 (B b[j]) rfl
  rw [List.getElem?_eq_getElem hj] at hv
  have hv' : B b[j] = v := Option.some.inj hv
  rw [hw.base.cell (p := ⟨g, o + j, none⟩) hg, ← hv']
  simpa using this
theorem open_u8 {e : TypeId} {sp : Nat → Bool} {held : Bool} (he : P.underlying e = some (.int .u8)) : ∀ (n : Nat) (cs : List Value) (x : DataW H × List MemPlace), DataW.trod enc P W 0 sp held n e cs = some x → ∃ a, rdU a cs ∧ 1 ≤ Rows.uptoBulk x.1 := fun n cs x h => by
  obtain ⟨m, rfl, rfl, hw⟩ := DataW.trod_int he h
  have hm : 0 ≤ m ∧ m ≤ 255 := by simpa [Lit.wf, IntKind.min, IntKind.max, IntKind.signed, IntKind.bits] using hw
  refine ⟨UInt8.ofNat m.toNat, ?_, by simp [Rows.uptoBulk]⟩
  unfold rdU B
  rw [UInt8.toNat_ofNat', Nat.mod_eq_of_lt (by omega), Int.toNat_of_nonneg hm.1]
theorem open_bytes {t e : TypeId} {fuel : Nat} {sp : Nat → Bool} {held : Bool} {cs : List Value} {x : DataW H × List MemPlace} (ht : P.underlying t = some (.slice e)) (hc : P.cellsOf e = 1) (he : P.underlying e = some (.int .u8)) (h : DataW.trod enc P W 0 sp held fuel t cs = some x) :
    ∃ (a : Option Addr) (cap : Nat) (b : List UInt8), cs = [.slice a b.length cap] ∧ b.length ≤ cap ∧ cap ≤ maxLen ∧ (a = none → b.length = 0) ∧ (∀ A, RdB W A a b.length (b.map B)) ∧ b.length + 1 ≤ Rows.uptoBulk x.1 := by
  obtain ⟨a, n, cap, b, rfl, h1, h2, h3, h4, h5⟩ := open_old (m := fun _ => 1) ht hc (by omega) (open_u8 (enc := enc) he) h
  have hl := h4.len
  subst hl
  exact ⟨a, cap, b, rfl, h1, h2, fun c => (h3 c).1, fun A => h4.bytes, by rwa [sum_ones] at h5⟩
theorem v_ldOldA {t : TypeId} {n g o : Nat} {cs : List Value} [ht : AggT P t n] (hn : cs.length = n) (hg : g < W.heap.size) (hc : ∀ (j : Nat) (v : Value), cs[j]? = some v → W.cell? ⟨g, o + j, none⟩ = some v) : RunV P W [] (sLoad t (.pointer (some ⟨g, o, none⟩))) (.agg cs.toArray) := fun w hw => by
  have h : (loadCells ⟨g, o, none⟩ n).run P w = .ok cs.toArray w := by
    subst hn
    exact run_loadCells_list (P := P) w ⟨g, o, none⟩ cs (fun j v hv => by
      rw [addr_add, hw.base.cell (p := ⟨g, o + j, none⟩) hg]; exact hc j v hv)
  simp [sLoad, Instr.loadAt, Instr.sureAddr, loadVar, ht.agg, ht.size, h]
theorem open_slice {t e : TypeId} {v : Value} {d : DataW H} {ps : List MemPlace} {r : Reach} {b0 : Nat} {sp : Nat → Bool} {held : Bool} (ht : P.underlying t = some (.slice e)) (hval : Value.okWide P W r b0 t v) (hd : DataW.Trod enc P W 0 sp held t v d ps) :
    ∃ fuel, DataW.trod enc P W 0 sp held fuel t [v] = some (d, ps) := by
  obtain ⟨a, n, c, rfl⟩ := WideShapes.okWide_slice ht hval
  obtain ⟨fuel, hf⟩ := hd
  exact ⟨fuel, hf⟩
theorem four {cs : List Value} (h : cs.length = 4) : ∃ a b c d, cs = [a, b, c, d] := by
  match cs, h with
  | [a, b, c, d], _ => exact ⟨a, b, c, d, rfl⟩
end Go.Proofs.Ytehfblkpbadikaa.Sl
/-! Slices of many-celled elements: made of parts, looked up. No conditions but those that each names. -/
namespace Go.Proofs.Ytehfblkpbadikaa.Sl
open Go Go.Proofs.Ytehfblkpbadikaa.Sh
variable {P : Program} {W : World} {L L' : List HP} {Kp : PK} {k : Value → WP}
theorem fold_put (o : Nat) : ∀ (us pre zs : List Value) (m : Nat), pre.length = o + m → us.length ≤ zs.length →
    (us.zipIdx m).foldl (fun (cs : Array Value) (x : Value × Nat) => cs.setIfInBounds (o + x.2) x.1) (pre ++ zs).toArray = (pre ++ us ++ zs.drop us.length).toArray
  | [], pre, zs, m, _, _ => by simp
  | u :: us, pre, [], m, _, h => by simp at h
  | u :: us, pre, z :: zs, m, hp, h => by
    have ih := fold_put o us (pre ++ [u]) zs (m + 1) (by simp; omega) (by simpa using h)
    have e : ((pre ++ z :: zs).toArray).setIfInBounds (o + m) u = (pre ++ [u] ++ zs).toArray := by
      rw [← hp]; simp
    rw [List.zipIdx_cons, List.foldl_cons]
    simp only
    rw [e, ih]; simp
theorem fill_runS (s : Nat) : ∀ (vs pre zs : List Value) (m : Nat), pre.length = m * s → zs.length = vs.length * s → (∀ v ∈ vs, v.cells.size = s) →
    Instr.fill (fun i => some (i * s, s)) (pre ++ zs).toArray ((vs.zipIdx m).map fun x => (x.2, x.1)) = some (pre ++ vs.flatMap fun v => v.cells.toList).toArray
  | [], pre, zs, m, _, hz, _ => by
    have : zs = [] := List.eq_nil_of_length_eq_zero (by simpa using hz)
    subst this; simp [Instr.fill]
  | v :: vs, pre, zs, m, hp, hz, ho => by
    have hv := ho v (by simp)
    have hz' : zs.length = vs.length * s + s := by rw [hz, List.length_cons, Nat.add_mul, Nat.one_mul]
    have ih := fill_runS s vs (pre ++ v.cells.toList) (zs.drop s) (m + 1) (by rw [List.length_append, hp, Array.length_toList, hv, Nat.add_mul, Nat.one_mul]) (by rw [List.length_drop, hz']; omega) (fun u hu => ho u (by simp [hu]))
    simp only [List.zipIdx_cons, List.map_cons, Instr.fill, hv]
    rw [if_neg (by simp [hp, hz'])]
    have h2 : Array.foldl (fun cs (x : Value × Nat) => cs.setIfInBounds (m * s + x.2) x.1) (pre ++ zs).toArray v.cells.zipIdx = (pre ++ v.cells.toList ++ zs.drop s).toArray := by
      have := fold_put (m * s) v.cells.toList pre zs 0 (by simpa using hp) (by rw [Array.length_toList, hv]; omega)
      rw [Array.length_toList, hv] at this
      rw [← this]
      have e2 : v.cells.zipIdx.toList = v.cells.toList.zipIdx := by simp
      rw [← e2, Array.foldl_toList]
    rw [h2, ih]; simp
theorem e_bslS {t e : TypeId} {s b n : Nat} {parts : List (Nat × Value)} {vs : List Value} [ht : SlT P t e s b] (hn : vs.length = n) (h1 : 0 < n) (hp : parts = vs.zipIdx.map fun x => (x.2, x.1)) (ho : ∀ v ∈ vs, v.cells.size = s) (hm : n * s ≤ 16777216)
    (h : ∀ g, Ent W (pt g (.cells (vs.flatMap fun v => v.cells.toList).toArray e) :: L) (k (.slice (some ⟨g, 0, none⟩) n n))) : Ent W L (opN P (sBuildSl t n parts) Kp k) := fun w hw => by
  refine ⟨?_⟩
  obtain ⟨i, z, hi, hz, hs, hb, hzs⟩ := ht.info
  have : (sBuildSl t n parts).run P w = .ok (.value (.slice (some ⟨w.heap.size, 0, none⟩) n n)) (w.alloc (.cells (vs.flatMap fun v => v.cells.toList).toArray e)) := by
    have hm' : ¬ (2 ^ 24 < n * s) := by omega
    have hf : ∀ zs : Array Value, zs.size = n * s → Instr.fill (fun i => some (i * s, s)) zs parts = some (vs.flatMap fun v => v.cells.toList).toArray := fun zs hz => by
      have := fill_runS s vs [] zs.toList 0 (by simp) (by simp [hz, hn]) ho
      simpa [hp] using this
    by_cases h0 : n * s = 0
    · simp [sBuildSl, Instr.buildSlice, run_underlying ht.ut, sizeOf_run hi, hs, zeroValue, typeInfo, hi, hz, newRow, h0]
      have := hf ((Array.range 0).map fun _ => (default : Value)) (by simp [h0])
      rw [this]
      simp
    · simp [sBuildSl, Instr.buildSlice, run_underlying ht.ut, sizeOf_run hi, hs, hm', zeroValue, typeInfo, hi, hz, newRow, h0]
      have := hf ((Array.range (n * s)).map fun j => z.cells[j % z.cells.size]!) (by simp)
      rw [this]
      simp
  rw [this]
  exact h _ _ (hw.alloc _)
theorem flat_len {α : Type} {f : α → List Value} {s : Nat} (hf : ∀ x, (f x).length = s) : ∀ l : List α, (l.flatMap f).length = l.length * s
  | [] => by simp
  | x :: l => by rw [List.flatMap_cons, List.length_append, hf, flat_len hf l, List.length_cons, Nat.add_mul, Nat.one_mul, Nat.add_comm]
theorem flat_get {α : Type} {f : α → List Value} {s : Nat} (hf : ∀ x, (f x).length = s) : ∀ (l : List α) (i j : Nat) (hi : i < l.length) (hj : j < s), (l.flatMap f)[i * s + j]? = (f l[i])[j]?
  | x :: l, 0, j, _, hj => by
    rw [List.flatMap_cons, Nat.zero_mul, Nat.zero_add, List.getElem?_append_left (by rw [hf]; exact hj)]; rfl
  | x :: l, i + 1, j, hi, hj => by
    rw [List.flatMap_cons, List.getElem?_append_right (by rw [hf, Nat.add_mul]; omega), hf, show (i + 1) * s + j - s = i * s + j by rw [Nat.add_mul]; omega, flat_get hf l i j (by simpa using hi) hj]; rfl
end Go.Proofs.Ytehfblkpbadikaa.Sl
/-! Lists of numbers, small arrays of numbers. No conditions but those that each names. -/
namespace Go.Proofs.Ytehfblkpbadikaa.Sl
open Go Go.RowKit Go.Proofs.Ytehfblkpbadikaa.Sh
variable {P : Program} {W : World} {L L' : List HP} {Kp : PK} {k : Value → WP} {H : Type} {enc : TypeId × Value → H}
/-- a number as the model holds it -/
def I (n : Int) : Value := .int .i64 n
instance {n : Int} : OC (I n) := ⟨rfl⟩
theorem I_one {l : List Int} : ∀ u ∈ l.map I, u.oneCell' = true := by
  intro u hu; obtain ⟨c, _, rfl⟩ := List.mem_map.1 hu; rfl
theorem I_get {l : List Int} {j : Nat} (h : j < l.length) : (l.map I)[j]? = some (I l[j]) := by simp [h]
/-- an array of n numbers -/
def An (n : Nat) (f : Nat → Int) : Array Value := ((List.range n).map fun j => I (f j)).toArray
theorem An_size (n : Nat) (f : Nat → Int) : (An n f).size = n := by simp [An]
theorem An_get {n j : Nat} {f : Nat → Int} (h : j < n) : (An n f)[j]? = some (I (f j)) := by simp [An, h]
theorem An_congr {n : Nat} {f g : Nat → Int} (h : ∀ j, j < n → f j = g j) : An n f = An n g := by
  unfold An
  congr 1
  exact List.map_congr_left fun j hj => by rw [h j (List.mem_range.1 hj)]
theorem An_set {n j : Nat} {f : Nat → Int} {v : Int} : (An n f).setIfInBounds j (I v) = An n fun i => if i = j then v else f i := by
  apply Array.ext_getElem?
  intro i
  rw [Array.getElem?_setIfInBounds, An_size]
  by_cases c : j = i
  · subst c
    rw [if_pos rfl]
    by_cases h : j < n
    · rw [if_pos h, An_get h]; simp
    · rw [if_neg h, Array.getElem?_eq_none (by rw [An_size]; omega)]
  · rw [if_neg c]
    by_cases h : i < n
    · rw [An_get h, An_get h, if_neg (fun e => c e.symm)]
    · rw [Array.getElem?_eq_none (by rw [An_size]; omega), Array.getElem?_eq_none (by rw [An_size]; omega)]
theorem v_slA {t e : TypeId} {s len : Nat} {g l : Nat} {q : IntKind} {i : Int} [ht : ArrT P t len e s] (hi : i = (l : Int)) (hl : l < len) : RunV P W [] (sSl t (.pointer (some ⟨g, 0, none⟩)) (some (.int q i)) none none) (.slice (some ⟨g, l * s, none⟩) (len - l) (len - l)) := fun w _ => by
  have hne : len ≠ l := by omega
  simp [sSl, Instr.sliceAt, Instr.sliceBounds, ht.ut, ht.size, run_bound l hi (Nat.le_of_lt hl), Instr.sureAddr, hne, Addr.add]
  intro h; exact h.symm
theorem rd_cut {A : HP} {g m n l : Nat} {f : Nat → Int} (h : RdB W A (some ⟨g, 0, none⟩) n ((List.range n).map fun j => I (f j))) (hl : l + m = n) : RdB W A (some ⟨g, l * 1, none⟩) m ((List.range m).map fun j => I (f (l + j))) := by
  have := h.cut (cap := n + 1) (l := l) (h := n) (by omega) (by omega) (by omega)
  rw [if_neg (by omega)] at this
  have e : (Option.map (fun x : Addr => x.add (l * 1)) (some ⟨g, 0, none⟩)) = some ⟨g, l * 1, none⟩ := by simp [addr_add]
  rw [e, show n - l = m by omega] at this
  have e2 : List.take m (List.drop l ((List.range n).map fun j => I (f j))) = (List.range m).map fun j => I (f (l + j)) := by
    apply List.ext_getElem?
    intro j
    rw [List.getElem?_take]
    by_cases c : j < m
    · rw [if_pos c, List.getElem?_drop, List.getElem?_map, List.getElem?_map, List.getElem?_range (by omega), List.getElem?_range c]; rfl
    · rw [if_neg c, List.getElem?_eq_none (by simp; omega)]
  rw [e2] at this
  exact this
def rdI (c : Int) (cs : List Value) : Prop := cs = [I c]
theorem Old.ints {a : Option Addr} {n : Nat} {b : List Int} {A : HP} (h : Old W 1 rdI a n b) : RdB W A a n (b.map I) := by
  refine ⟨by rw [List.length_map]; exact h.len, fun hn => ?_⟩
  obtain ⟨g, o, rfl, hg, hc⟩ := h.at_ hn
  refine ⟨g, o, rfl, fun w L hw j v hv => ?_⟩
  rw [List.getElem?_map] at hv
  have hj : j < b.length := by
    rcases Nat.lt_or_ge j b.length with c | c
    · exact c
    · rw [List.getElem?_eq_none c] at hv; cases hv
  obtain ⟨cs, h1, h2, h3⟩ := hc j hj
  rw [h2] at h3
  have := h3 0 (I b[j]) rfl
  rw [List.getElem?_eq_getElem hj] at hv
  have hv' : I b[j] = v := Option.some.inj hv
  rw [hw.base.cell (p := ⟨g, o + j, none⟩) hg, ← hv']
  simpa using this
theorem open_i64 {e : TypeId} {sp : Nat → Bool} {held : Bool} (he : P.underlying e = some (.int .i64)) : ∀ (n : Nat) (cs : List Value) (x : DataW H × List MemPlace), DataW.trod enc P W 0 sp held n e cs = some x → ∃ a, (rdI a cs ∧ -9223372036854775808 ≤ a ∧ a ≤ 9223372036854775807) ∧ 1 ≤ Rows.uptoBulk x.1 := fun n cs x h => by
  obtain ⟨m, rfl, rfl, hw⟩ := DataW.trod_int he h
  have hm : -9223372036854775808 ≤ m ∧ m ≤ 9223372036854775807 := by simpa [Lit.wf, IntKind.min, IntKind.max, IntKind.signed, IntKind.bits] using hw
  exact ⟨m, ⟨rfl, hm⟩, by simp [Rows.uptoBulk]⟩
theorem open_ints {t e : TypeId} {v : Value} {d : DataW H} {ps : List MemPlace} {r : Reach} {b0 : Nat} {sp : Nat → Bool} {held : Bool} (ht : P.underlying t = some (.slice e)) (hc : P.cellsOf e = 1) (he : P.underlying e = some (.int .i64)) (hval : Value.okWide P W r b0 t v) (hd : DataW.Trod enc P W 0 sp held t v d ps) :
    ∃ (a : Option Addr) (cap : Nat) (b : List Int), v = .slice a b.length cap ∧ (a = none → b.length = 0) ∧ (∀ A, RdB W A a b.length (b.map I)) ∧ (∀ x ∈ b, -9223372036854775808 ≤ x ∧ x ≤ 9223372036854775807) ∧ b.length ≤ Rows.uptoBulk d := by
  obtain ⟨fuel, hf⟩ := open_slice (e := e) ht hval hd
  obtain ⟨a, n, cap, b, e1, h1, h2, h3, h4, h5⟩ := open_old (rd := fun (x : Int) cs => rdI x cs ∧ -9223372036854775808 ≤ x ∧ x ≤ 9223372036854775807) (m := fun _ => 1) ht hc (by omega) (open_i64 (enc := enc) he) hf
  have hl := h4.len
  subst hl
  have h6 : Old W 1 rdI a b.length b := ⟨rfl, fun c => let ⟨g, o, q1, q2, q3⟩ := h4.at_ c; ⟨g, o, q1, q2, fun i hi => let ⟨cs, z1, z2, z3⟩ := q3 i hi; ⟨cs, z1, z2.1, z3⟩⟩⟩
  refine ⟨a, cap, b, by injection e1, fun c => (h3 c).1, fun A => h6.ints, fun x hx => ?_, by rw [sum_ones] at h5; simp at h5; omega⟩
  obtain ⟨i, hi, rfl⟩ := List.mem_iff_getElem.1 hx
  obtain ⟨g, o, q1, q2, q3⟩ := h4.at_ (by omega)
  obtain ⟨cs, z1, z2, z3⟩ := q3 i hi
  exact z2.2
end Go.Proofs.Ytehfblkpbadikaa.Sl
/-! Prefix codes by their lengths: plain mathematics. No conditions but those that each names; no program in sight. -/
namespace Go.Proofs.Ytehfblkpbadikaa.HM
/-- how many have length j -/
def cnt : List Int → Nat → Nat
  | [], _ => 0
  | x :: l, j => (if x = (j : Int) then 1 else 0) + cnt l j
theorem cnt_append (j : Nat) : ∀ l m : List Int, cnt (l ++ m) j = cnt l j + cnt m j
  | [], m => by simp [cnt]
  | x :: l, m => by simp [cnt, cnt_append j l m]; omega
theorem cnt_le (j : Nat) : ∀ l : List Int, cnt l j ≤ l.length
  | [] => by simp [cnt]
  | x :: l => by have := cnt_le j l; simp [cnt]; split <;> omega
theorem cnt_take_succ {l : List Int} {i : Nat} (h : i < l.length) (j : Nat) : cnt (l.take (i + 1)) j = cnt (l.take i) j + if l[i] = (j : Int) then 1 else 0 := by
  rw [List.take_succ_eq_append_getElem h, cnt_append]; simp [cnt]
theorem cnt_take_le {l : List Int} {j : Nat} : ∀ {a b : Nat}, a ≤ b → cnt (l.take a) j ≤ cnt (l.take b) j := fun {a b} h => by
  have e : l.take b = l.take a ++ (l.take b).drop a := by
    have := (List.take_append_drop a (l.take b)).symm
    rwa [List.take_take, Nat.min_eq_left h] at this
  rw [e, cnt_append]; omega
theorem cnt_take_all (l : List Int) (i j : Nat) : cnt (l.take i) j ≤ cnt l j := by
  have e := (List.take_append_drop i l).symm
  have : cnt l j = cnt (l.take i) j + cnt (l.drop i) j := by rw [← cnt_append, ← e]
  omega
def room (l : List Int) : Nat → Int
  | 0 => 1
  | k + 1 => 2 * room l k - cnt l (k + 1)
/-- the first code of a length -/
def nx (l : List Int) : Nat → Nat
  | 0 => 0
  | 1 => 0
  | k + 2 => 2 * (nx l (k + 1) + cnt l (k + 1))
def inL (l : List Int) : Prop := ∀ x ∈ l, 0 ≤ x ∧ x ≤ 15
structure okL (l : List Int) : Prop where
  len : l.length ≤ 320
  ins : inL l
  room : 0 ≤ room l 15
instance (l : List Int) : Decidable (inL l) := by unfold inL; infer_instance
instance (l : List Int) : Decidable (okL l) := decidable_of_iff (l.length ≤ 320 ∧ inL l ∧ 0 ≤ HM.room l 15) ⟨fun ⟨a, b, c⟩ => ⟨a, b, c⟩, fun ⟨a, b, c⟩ => ⟨a, b, c⟩⟩
theorem nx_room (l : List Int) : ∀ k, ((nx l (k + 1) + cnt l (k + 1) : Nat) : Int) = 2 ^ (k + 1) - room l (k + 1)
  | 0 => by simp [nx, room]; omega
  | k + 1 => by
    have ih := nx_room l k
    have e : (2 : Int) ^ (k + 1 + 1) = 2 * 2 ^ (k + 1) := by rw [Int.pow_succ]; omega
    rw [e]
    simp only [nx, room] at *
    push_cast at *
    omega
theorem room_neg {l : List Int} {k : Nat} (h : room l k < 0) : ∀ m, room l (k + m) < 0
  | 0 => h
  | m + 1 => by have := room_neg h m; rw [← Nat.add_assoc]; simp only [room]; omega
theorem room_nonneg {l : List Int} {n k : Nat} (h : 0 ≤ room l n) (hk : k ≤ n) : 0 ≤ room l k := by
  rcases Int.lt_or_le (room l k) 0 with c | c
  · have := room_neg c (n - k)
    rw [show k + (n - k) = n by omega] at this; omega
  · exact c
theorem room_le (l : List Int) : ∀ k, room l k ≤ 2 ^ k
  | 0 => by simp [room]
  | k + 1 => by have := room_le l k; have e : (2 : Int) ^ (k + 1) = 2 * 2 ^ k := by rw [Int.pow_succ]; omega
                simp only [room]; omega
theorem okL.fit {l : List Int} (h : okL l) {k : Nat} (hk : k + 1 ≤ 15) : nx l (k + 1) + cnt l (k + 1) ≤ 2 ^ (k + 1) := by
  have h1 := nx_room l k
  have h2 := room_nonneg h.room hk
  have h3 : ((nx l (k + 1) + cnt l (k + 1) : Nat) : Int) ≤ ((2 ^ (k + 1) : Nat) : Int) := by push_cast at *; omega
  exact Int.ofNat_le.1 h3
theorem nx_step (l : List Int) {n : Nat} (h : 1 ≤ n) : nx l (n + 1) = 2 * (nx l n + cnt l n) := by
  obtain ⟨k, rfl⟩ : ∃ k, n = k + 1 := ⟨n - 1, by omega⟩
  rfl
/-- the code that is given next at a length -/
def cur (l : List Int) (n i : Nat) : Nat := nx l n + cnt (l.take i) n
theorem cur_succ {l : List Int} {n i : Nat} (h : i < l.length) : cur l n (i + 1) = cur l n i + if l[i] = (n : Int) then 1 else 0 := by
  unfold cur; rw [cnt_take_succ h]; omega
theorem cur_next {l : List Int} {n : Nat} (h : 1 ≤ n) : cur l (n + 1) 0 = 2 * cur l n l.length := by
  unfold cur; rw [nx_step l h]; simp [cnt]
theorem okL.cur_lt {l : List Int} (h : okL l) {n i : Nat} (h1 : 1 ≤ n) (h2 : n ≤ 15) : cur l n i ≤ 2 ^ n := by
  obtain ⟨k, rfl⟩ : ∃ k, n = k + 1 := ⟨n - 1, by omega⟩
  have := h.fit h2
  have := cnt_take_all l i (k + 1)
  unfold cur; omega
theorem okL.cur_lt' {l : List Int} (h : okL l) {n i : Nat} (hi : i < l.length) (hn : l[i] = (n : Int)) (h1 : 1 ≤ n) (h2 : n ≤ 15) : cur l n i < 2 ^ n := by
  have := h.cur_lt (i := i + 1) h1 h2
  rw [cur_succ hi, if_pos hn] at this; omega
def codeAt (l : List Int) (i : Nat) : Nat := match l[i]? with
  | some x => if 0 < x then cur l x.toNat i else 0
  | none => 0
def codes (l : List Int) : List Int := (List.range l.length).map fun i => (codeAt l i : Int)
theorem length_codes (l : List Int) : (codes l).length = l.length := by simp [codes]
theorem codeAt_pos {l : List Int} {i n : Nat} (h : i < l.length) (hn : l[i] = (n : Int)) (h1 : 1 ≤ n) : codeAt l i = cur l n i := by
  unfold codeAt
  rw [List.getElem?_eq_getElem h]
  simp only
  rw [if_pos (by omega), hn, Int.toNat_natCast]
theorem codeAt_zero {l : List Int} {i : Nat} (h : i < l.length) (hn : l[i] ≤ 0) : codeAt l i = 0 := by
  unfold codeAt
  rw [List.getElem?_eq_getElem h]
  simp only
  rw [if_neg (by omega)]
/-- what the document weighs -/
def wk : List Int → Nat → Nat
  | [], _ => 0
  | x :: l, k => (if 0 < x ∧ x ≤ k then 2 ^ (k - x.toNat) else 0) + wk l k
theorem wk_succ (k : Nat) : ∀ l : List Int, wk l (k + 1) = 2 * wk l k + cnt l (k + 1)
  | [] => by simp [wk, cnt]
  | x :: l => by
    have ih := wk_succ k l
    simp only [wk, cnt, ih]
    by_cases h : 0 < x ∧ x ≤ k
    · rw [if_pos h, if_pos ⟨h.1, by omega⟩, if_neg (by omega), show k + 1 - x.toNat = (k - x.toNat) + 1 by omega, Nat.pow_succ]; omega
    · rw [if_neg h]
      by_cases h2 : x = ((k + 1 : Nat) : Int)
      · rw [if_pos (by omega), if_pos h2, show k + 1 - x.toNat = 0 by omega]; omega
      · rw [if_neg (by omega), if_neg h2]; omega
theorem wk_zero : ∀ l : List Int, wk l 0 = 0
  | [] => rfl
  | x :: l => by simp only [wk, wk_zero l]; rw [if_neg (by omega)]
theorem room_wk (l : List Int) : ∀ k, room l k = 2 ^ k - wk l k
  | 0 => by simp [room, wk_zero]
  | k + 1 => by
    have ih := room_wk l k
    have e : (2 : Int) ^ (k + 1) = 2 * 2 ^ k := by rw [Int.pow_succ]; omega
    rw [wk_succ, room, ih, e]; push_cast; omega
theorem okL_iff {l : List Int} : okL l ↔ l.length ≤ 320 ∧ inL l ∧ wk l 15 ≤ 32768 := by
  have := room_wk l 15
  have e : (2 : Int) ^ 15 = 32768 := by decide
  rw [e] at this
  exact ⟨fun h => ⟨h.len, h.ins, by have := h.room; omega⟩, fun ⟨a, b, c⟩ => ⟨a, b, by omega⟩⟩
theorem room0_iff {l : List Int} : room l 15 = 0 ↔ wk l 15 = 32768 := by
  have := room_wk l 15
  have e : (2 : Int) ^ 15 = 32768 := by decide
  rw [e] at this
  omega
/-! ### codes are apart -/
theorem nx_up {l : List Int} {a : Nat} (ha : 1 ≤ a) : ∀ d, (nx l a + cnt l a) * 2 ^ (d + 1) ≤ nx l (a + (d + 1))
  | 0 => by rw [nx_step l ha]; omega
  | d + 1 => by
    have ih := nx_up (l := l) ha d
    rw [show a + (d + 1 + 1) = (a + (d + 1)) + 1 by omega, nx_step l (by omega), Nat.pow_succ]
    have : (nx l a + cnt l a) * (2 ^ (d + 1) * 2) = 2 * ((nx l a + cnt l a) * 2 ^ (d + 1)) := by rw [← Nat.mul_assoc, Nat.mul_comm]
    rw [this]; omega
/-- no code is another one's beginning -/
theorem apart {l : List Int} {i k a b : Nat} (hi : i < l.length) (hk : k < l.length) (hne : i ≠ k) (ha : l[i] = (a : Int)) (hb : l[k] = (b : Int)) (h1 : 1 ≤ a) (hab : a ≤ b) : codeAt l k / 2 ^ (b - a) ≠ codeAt l i := by
  rw [codeAt_pos hi ha h1, codeAt_pos hk hb (by omega)]
  have c1 : cur l a i < nx l a + cnt l a := by
    have := cnt_take_all l (i + 1) a
    rw [cnt_take_succ hi, if_pos ha] at this
    unfold cur; omega
  rcases Nat.lt_or_ge a b with h | h
  · obtain ⟨d, rfl⟩ : ∃ d, b = a + (d + 1) := ⟨b - a - 1, by omega⟩
    have := nx_up (l := l) h1 d
    rw [show a + (d + 1) - a = d + 1 by omega]
    have c2 : nx l a + cnt l a ≤ cur l (a + (d + 1)) k / 2 ^ (d + 1) := (Nat.le_div_iff_mul_le (Nat.two_pow_pos _)).2 (Nat.le_trans this (by unfold cur; omega))
    omega
  · obtain rfl : a = b := by omega
    rw [Nat.sub_self, Nat.pow_zero, Nat.div_one]
    unfold cur
    rcases Nat.lt_or_gt_of_ne hne with c | c
    · have := cnt_take_le (l := l) (j := a) (show i + 1 ≤ k by omega)
      rw [cnt_take_succ hi, if_pos ha] at this; omega
    · have := cnt_take_le (l := l) (j := a) (show k + 1 ≤ i by omega)
      rw [cnt_take_succ hk, if_pos hb] at this; omega
end Go.Proofs.Ytehfblkpbadikaa.HM
/-! The counts of lengths and the codes, the program's. No conditions but those that each names. -/
namespace Go.Proofs.Ytehfblkpbadikaa.HF
open Go Go.Proofs Go.Proofs.Ytehfblkpbadikaa.Sh Go.Proofs.Ytehfblkpbadikaa.Sl Go.Proofs.Ytehfblkpbadikaa.T Go.Proofs.Ytehfblkpbadikaa.HM
def A16 (f : Nat → Int) : Array Value := An 16 f
theorem z16 : (#[.int .i64 0, .int .i64 0, .int .i64 0, .int .i64 0, .int .i64 0, .int .i64 0, .int .i64 0, .int .i64 0, .int .i64 0, .int .i64 0, .int .i64 0, .int .i64 0, .int .i64 0, .int .i64 0, .int .i64 0, .int .i64 0] : Array Value) = A16 fun _ => 0 := by rfl
theorem one16 {f : Nat → Int} : ∀ u ∈ (A16 f).toList, u.oneCell' = true := by
  intro u hu
  simp only [A16, An] at hu
  obtain ⟨j, _, rfl⟩ := List.mem_map.1 hu
  rfl
theorem counts {W : World} {a : Option Addr} {cap : Nat} {l : List Int} {A : HP} (hr : RdB W A a l.length (l.map I)) (hl : l.length ≤ 4611686018427387904) :
    Cn Try.prog 50 [.slice a l.length cap] W [A] (fun f : Nat → Int => .tuple #[.agg (A16 f), .bool (decide (okL l))]) (fun f => [pu ((okL l → ∀ j, j < 16 → f j = cnt l j) ∧ ∀ j, 0 ≤ f j ∧ f j ≤ 320), A]) := by
  (refine S.huff_counts_cn fun F => ?_; unfold S.huff_counts; simp only [List.cons_append, List.nil_append])
  (((with_reducible refine e_newA fun g => ?_))); (((with_reducible refine e_opN v_len Imp.nil ?_)))
  rw [z16]
  have fin : ∀ (f : Nat → Int) (b : Bool), b = decide (okL l) → (okL l → ∀ j, j < 16 → f j = cnt l j) → (∀ j, 0 ≤ f j ∧ f j ≤ 320) → Ent W (pt g (.cells (A16 f) 97 (0, 0)) :: A :: F) (opN Try.prog (sStore 97 (.pointer (some ⟨g, 0, none⟩)) (.agg (A16 f))) noP fun _ =>
      (stS Try.prog (sRes 97 (.pointer (some ⟨g, 0, none⟩))) fun r0 => fun w => ∃ x : Nat → Int, (.tuple #[r0, (.bool b)] : Value) = .tuple #[.agg (A16 x), .bool (decide (okL l))] ∧ sat W ([pu ((okL l → ∀ j, j < 16 → x j = cnt l j) ∧ ∀ j, 0 ≤ x j ∧ x j ≤ 320), A] ++ F) w)) := by
    intro f b hb h1 h2
    refine e_stAgg .here (An_size 16 f) (An_size 16 f) one16 ?_
    refine e_stS (v_resA (An_size 16 f)) (.pick .here .nil) ?_
    subst hb
    refine e_ret f rfl ?_
    exact .pu ⟨h1, h2⟩ (.drop .refl)
  (refine e_ask v_gtr Imp.nil (fun h => ?_) (fun h => ?_))
  · ((with_reducible refine e_condT ?_)); (((with_reducible refine' e_opN (v_ldAgg ?hn) ?hi ?_); (case hi => (repeat (first | exact Imp.refl | exact Imp.nil | (apply Imp.pick; (focus ((repeat constructor); done))) | refine Imp.drop ?_))); (case hn => rfl)))
    refine fin _ _ (by rw [decide_eq_false (fun c => by have := c.len; omega)]) (fun c => by have := c.len; omega) (fun j => by omega)
  refine e_condF ?_
  (((with_reducible refine e_opN v_len Imp.nil ?_)))
  have hlen : l.length ≤ 320 := by omega
  refine e_loop1 (fun m y => [ex fun i : Nat => all [pu (m + i = l.length ∧ y = .int .i64 (i : Int) ∧ ∀ k (hk : k < l.length), k < i → 0 ≤ l[k] ∧ l[k] ≤ 15), pt g (.cells (A16 fun j => (cnt (l.take i) j : Int)) 97 (0, 0)), A]] ++ F) l.length ?_ ?_
  · refine Imp.ex 0 (.all ?_)
    (try simp only [List.cons_append, List.nil_append, -eq_self])
    exact .pu ⟨by omega, rfl, fun k hk h => by omega⟩ .refl
  intro m ds y
  (try simp only [List.cons_append, List.nil_append, -eq_self])
  refine e_ex Pick.here fun i => e_all Pick.here ?_
  (try simp only [List.cons_append, List.nil_append, -eq_self])
  refine e_pu Pick.here fun hi => ?_
  obtain ⟨hmi, rfl, hin⟩ := hi
  have hb320 : ∀ j, (0 : Int) ≤ (cnt (l.take i) j : Int) ∧ (cnt (l.take i) j : Int) ≤ 320 := fun j => by
    have := cnt_le j (l.take i)
    rw [List.length_take] at this; omega
  (refine e_ask v_lss Imp.nil (fun h => ?_) (fun h => ?_))
  · have hil : i < l.length := by omega
    obtain ⟨ga, oa, rfl, _⟩ := hr.at_ (by omega)
    refine e_condT ?_
    refine e_opN (v_ia1 i (by rfl) hil) Imp.nil ?_
    refine e_opN (v_ldRd hr (I_get hil)) (.pick (.there .here) .nil) ?_
    (refine e_ask v_lss Imp.nil (fun h => ?_) (fun h => ?_))
    · ((with_reducible refine e_gdF1 ?_)); ((with_reducible refine e_gdF1 ?_)); (((with_reducible refine e_opN v_pickT Imp.nil ?_))); ((with_reducible refine e_condT ?_)); (((with_reducible refine' e_opN (v_ldAgg ?hn) ?hi ?_); (case hi => (repeat (first | exact Imp.refl | exact Imp.nil | (apply Imp.pick; (focus ((repeat constructor); done))) | refine Imp.drop ?_))); (case hn => rfl)))
      exact fin _ _ (by rw [decide_eq_false (fun c => by have := c.ins l[i] (List.getElem_mem hil); omega)]) (fun c => by have := c.ins l[i] (List.getElem_mem hil); omega) hb320
    have h0 := h
    ((with_reducible refine e_gdT ?_)); ((with_reducible refine e_gdT ?_))
    (refine e_ask v_gtr Imp.nil (fun h => ?_) (fun h => ?_))
    · (((with_reducible refine e_opN v_pickF Imp.nil ?_))); ((with_reducible refine e_condT ?_)); (((with_reducible refine' e_opN (v_ldAgg ?hn) ?hi ?_); (case hi => (repeat (first | exact Imp.refl | exact Imp.nil | (apply Imp.pick; (focus ((repeat constructor); done))) | refine Imp.drop ?_))); (case hn => rfl)))
      exact fin _ _ (by rw [decide_eq_false (fun c => by have := c.ins l[i] (List.getElem_mem hil); omega)]) (fun c => by have := c.ins l[i] (List.getElem_mem hil); omega) hb320
    have h1 := h
    obtain ⟨x, hx⟩ := Int.eq_ofNat_of_zero_le (show 0 ≤ l[i] by omega)
    have hx15 : x < 16 := by omega
    (((with_reducible refine e_opN v_pickF Imp.nil ?_))); ((with_reducible refine e_condF ?_))
    refine e_opN (v_iaA x hx hx15) Imp.nil ?_
    rw [Nat.zero_add, Nat.mul_one]
    refine e_opN (v_ld (An_get hx15)) (.pick .here .nil) ?_
    refine e_opN (v_add (by have := hb320 x; omega) (by have := hb320 x; omega)) Imp.nil ?_
    refine e_opN (v_iaA x hx hx15) Imp.nil ?_
    rw [Nat.zero_add, Nat.mul_one]
    refine e_st .here (by rw [A16, An_size]; exact hx15) ?_
    (((with_reducible refine e_opN (v_add ?h1 ?h2) Imp.nil ?_); (case h1 => omega); (case h2 => omega)))
    refine e_next1 (m - 1) (by omega) (.ex (i + 1) (.all ?_))
    (try simp only [List.cons_append, List.nil_append, -eq_self])
    refine .pu ⟨by omega, by norm_cast, fun k hk hki => ?_⟩ ?_
    · by_cases c : k = i
      · subst c; omega
      · exact hin k hk (by omega)
    · have e : (A16 fun j => (cnt (l.take i) j : Int)).setIfInBounds x (.int .i64 ((cnt (l.take i) x : Int) + 1)) = A16 fun j => (cnt (l.take (i + 1)) j : Int) := by
        refine An_set.trans (An_congr fun j hj => ?_)
        rw [cnt_take_succ hil]
        by_cases c : j = x
        · subst c; rw [if_pos rfl, if_pos hx]; push_cast; rfl
        · rw [if_neg c, if_neg (by omega)]; simp
      rw [e]
      (repeat (first | exact Imp.refl | exact Imp.nil | (apply Imp.pick; (focus ((repeat constructor); done))) | refine Imp.drop ?_))
  · have hie : i = l.length := by omega
    subst hie
    rw [List.take_length]
    rw [List.take_length] at hb320
    have hins : inL l := fun x hx => by
      obtain ⟨k, hk, rfl⟩ := List.mem_iff_getElem.1 hx
      exact hin k hk (by omega)
    refine e_condF ?_
    refine e_opN (v_slA (l := 1) (by rfl) (by omega)) Imp.nil ?_
    (((with_reducible refine e_opN v_len Imp.nil ?_)))
    have hrd : RdB W (pt g (.cells (A16 fun j => (cnt l j : Int)) 97 (0, 0))) (some ⟨g, 1 * 1, none⟩) 15 ((List.range 15).map fun j => I (cnt l (1 + j))) := rd_cut (n := 16) (f := fun j => (cnt l j : Int)) (rd_pt (by simp)) (by omega)
    refine e_loop2 (fun m x y => [all [pu (∃ i : Nat, m + i = 15 ∧ i ≤ 15 ∧ y = .int .i64 (i : Int) ∧ x = .int .i64 (room l i) ∧ ∀ k, k ≤ i → 0 ≤ room l k), pt g (.cells (A16 fun j => (cnt l j : Int)) 97 (0, 0)), A]] ++ F) 15 ?_ ?_
    · refine Imp.all ?_
      (try simp only [List.cons_append, List.nil_append, -eq_self])
      exact .pu ⟨0, by omega, by omega, rfl, rfl, fun k hk => by rw [show k = 0 by omega]; simp [room]⟩ .refl
    intro m ds x y
    (try simp only [List.cons_append, List.nil_append, -eq_self])
    refine e_all Pick.here ?_
    (try simp only [List.cons_append, List.nil_append, -eq_self])
    refine e_pu Pick.here fun hi => ?_
    obtain ⟨i, hmi, hi15, rfl, rfl, hrm⟩ := hi
    have hr0 := hrm i (Nat.le_refl _)
    have hr1 := room_le l i
    have h2i : (2 : Int) ^ i ≤ 32768 := by
      have h1 : (2 : Nat) ^ i ≤ 32768 := Nat.le_trans (Nat.pow_le_pow_right (by omega) hi15) (by decide)
      have h2 : ((2 ^ i : Nat) : Int) = 2 ^ i := Int.natCast_pow 2 i
      omega
    (refine e_ask v_lss Imp.nil (fun h => ?_) (fun h => ?_))
    · have hi14 : i < 15 := by omega
      refine e_condT ?_
      refine e_opN (v_ia1 i (by rfl) (by omega)) Imp.nil ?_
      refine e_opN (v_ldRd hrd (v := I (cnt l (1 + i))) (by rw [List.getElem?_map, List.getElem?_range hi14]; rfl)) (.pick .here .nil) ?_
      have hc := hb320 (1 + i)
      (((with_reducible refine e_opN (v_mul ?h1 ?h2) Imp.nil ?_); (case h1 => omega); (case h2 => omega))); (((with_reducible refine e_opN (v_sub ?h1 ?h2) Imp.nil ?_); (case h1 => omega); (case h2 => omega)))
      have hroom : 2 * room l i - (cnt l (1 + i) : Int) = room l (i + 1) := by rw [room, Nat.add_comm 1 i]
      rw [hroom]
      (refine e_ask v_lss Imp.nil (fun h => ?_) (fun h => ?_))
      · ((with_reducible refine e_condT ?_)); (((with_reducible refine' e_opN (v_ldAgg ?hn) ?hi ?_); (case hi => (repeat (first | exact Imp.refl | exact Imp.nil | (apply Imp.pick; (focus ((repeat constructor); done))) | refine Imp.drop ?_))); (case hn => rfl)))
        exact fin _ _ (by rw [decide_eq_false (fun c => by have := room_nonneg c.room (show i + 1 ≤ 15 by omega); omega)]) (fun _ j _ => rfl) hb320
      · refine e_condF ?_
        (((with_reducible refine e_opN (v_add ?h1 ?h2) Imp.nil ?_); (case h1 => omega); (case h2 => omega)))
        refine e_next2 (m - 1) (by omega) (.all ?_)
        (try simp only [List.cons_append, List.nil_append, -eq_self])
        refine .pu ⟨i + 1, by omega, by omega, by norm_cast, rfl, fun k hk => ?_⟩ .refl
        by_cases c : k = i + 1
        · subst c; omega
        · exact hrm k (by omega)
    · have hie : i = 15 := by omega
      subst hie
      ((with_reducible refine e_condF ?_)); (((with_reducible refine' e_opN (v_ldAgg ?hn) ?hi ?_); (case hi => (repeat (first | exact Imp.refl | exact Imp.nil | (apply Imp.pick; (focus ((repeat constructor); done))) | refine Imp.drop ?_))); (case hn => rfl)))
      exact fin _ _ (by rw [decide_eq_true ⟨hlen, hins, hr0⟩]) (fun _ j _ => rfl) hb320
end Go.Proofs.Ytehfblkpbadikaa.HF
/-! The codes of lengths, the program's; whether they leave nothing. No conditions but those that each names. -/
namespace Go.Proofs.Ytehfblkpbadikaa.HF
open Go Go.Proofs Go.Proofs.Ytehfblkpbadikaa.Sh Go.Proofs.Ytehfblkpbadikaa.Sl Go.Proofs.Ytehfblkpbadikaa.T Go.Proofs.Ytehfblkpbadikaa.HM
/-- n numbers, by their places -/
def Ln (n : Nat) (f : Nat → Int) : List Value := (List.range n).map fun j => I (f j)
theorem Ln_len (n : Nat) (f : Nat → Int) : (Ln n f).length = n := by simp [Ln]
theorem Ln_get {n j : Nat} {f : Nat → Int} (h : j < n) : (Ln n f)[j]? = some (I (f j)) := by simp [Ln, h]
theorem Ln_ext {n : Nat} {f : Nat → Int} {m : List Value} (hm : m.length = n) (h : ∀ j, j < n → m[j]? = some (I (f j))) : Ln n f = m := by
  apply List.ext_getElem?
  intro j
  by_cases c : j < n
  · rw [Ln_get c, h j c]
  · rw [List.getElem?_eq_none (by rw [Ln_len]; omega), List.getElem?_eq_none (by omega)]
theorem Ln_congr {n : Nat} {f g : Nat → Int} (h : ∀ j, j < n → f j = g j) : Ln n f = Ln n g := Ln_ext (Ln_len n g) fun j hj => by rw [Ln_get hj, h j hj]
theorem Ln_set {n j : Nat} {f : Nat → Int} {v : Int} : (Ln n f).set j (I v) = Ln n fun i => if i = j then v else f i := by
  refine (Ln_ext (by simp [Ln_len]) fun i hi => ?_).symm
  rw [List.getElem?_set, Ln_len]
  by_cases c : j = i
  · subst c; simp [hi]
  · rw [if_neg c, Ln_get hi, if_neg (fun e => c e.symm)]
theorem Ln_zero (n : Nat) : List.replicate n (.int .i64 0) = Ln n fun _ => 0 := (Ln_ext (by simp) fun j hj => by rw [List.getElem?_replicate, if_pos hj]; rfl).symm
def cdR (l : List Int) : Int := if okL l then 0 else 30
def cdL (l : List Int) : List Int := if okL l then codes l else []
theorem Ln_codes (l : List Int) : Ln l.length (fun k => if k < l.length then (codeAt l k : Int) else 0) = (codes l).map I := Ln_ext (by rw [List.length_map, length_codes]) fun j hj => by
  rw [if_pos hj, List.getElem?_map, codes, List.getElem?_map, List.getElem?_range hj]; rfl
theorem pow15 {i : Nat} (h : i ≤ 15) : (2 : Nat) ^ i ≤ 32768 := Nat.le_trans (Nat.pow_le_pow_right (by omega) h) (by decide)
theorem nx_small {l : List Int} (h : okL l) {k : Nat} (hk : k ≤ 15) : nx l k ≤ 32768 := by
  match k, hk with
  | 0, _ => simp [nx]
  | k + 1, hk => have := h.fit hk; have := pow15 hk; omega
theorem codes_ {W : World} {a : Option Addr} {cap : Nat} {l : List Int} {A : HP} (hr : RdB W A a l.length (l.map I)) (hl : l.length ≤ 4611686018427387904) :
    Cn Try.prog 20 [.slice a l.length cap] W [A] (fun q : Option Addr × Nat => .tuple #[.slice q.1 (cdL l).length q.2, .int .i64 (cdR l)]) (fun q => [Sl 1 3 q.1 q.2 (cdL l).length ((cdL l).map I), A]) := by
  (refine S.huff_Codes_cn fun F => ?_; unfold S.huff_Codes; simp only [List.cons_append, List.nil_append])
  (refine' e_call (counts hr hl) ?hp fun _ => ?_; (case hp => (repeat (first | exact Picks.nil | (apply Picks.cons; (focus (repeat constructor)))))); (try simp only [List.cons_append, List.nil_append, Bool.not_true, Bool.not_false]))
  rename_i f
  refine e_pu Pick.here fun hf => ?_
  obtain ⟨hf1, hf2⟩ := hf
  refine e_opN (v_ext (v := .agg (A16 f)) rfl) Imp.nil ?_
  refine e_opN (v_ext (v := .bool (decide (okL l))) rfl) Imp.nil ?_
  refine e_newA fun g => ?_
  refine e_stAgg .here (by rfl) (An_size 16 f) one16 ?_
  by_cases hok : ¬ okL l
  · rw [decide_eq_false hok]
    have hR : cdR l = 30 := by simp [cdR, hok]
    have hB : cdL l = [] := by simp [cdL, hok]
    rw [hR, hB]
    (((with_reducible refine e_opN v_notF Imp.nil ?_))); ((with_reducible refine e_condT ?_))
    (first | refine e_ret ((none, 0)) rfl ?_ | refine e_retT ((none, 0)) ?_)
    refine imp_nil ?_
    (repeat (first | exact Imp.refl | exact Imp.nil | (apply Imp.pick; (focus ((repeat constructor); done))) | refine Imp.drop ?_))
  have hok := Decidable.not_not.1 hok
  rw [decide_eq_true hok]
  have hR : cdR l = 0 := by simp [cdR, hok]
  have hB : cdL l = codes l := by simp [cdL, hok]
  have hlen := hok.len
  have hcl := length_codes l
  rw [hR, hB]
  have hf := hf1 hok
  refine e_opN v_not Imp.nil ?_
  refine e_condF ?_
  refine e_opN (v_iaA 0 (by rfl) (by omega)) Imp.nil ?_
  refine e_st .here (by rw [A16, An_size]; omega) ?_
  rw [show (A16 f).setIfInBounds (0 + 0 * 1) (.int .i64 0) = A16 (fun j => if j = 0 then 0 else (cnt l j : Int)) from An_set.trans (An_congr fun j hj => by
    by_cases c : j = 0
    · rw [if_pos c, if_pos c]
    · rw [if_neg c, if_neg c, hf j hj])]
  refine e_newA fun g2 => ?_
  rw [z16]
  refine e_loop1 (fun m y => [ex fun i : Nat => all [pu (m + i = 16 ∧ 1 ≤ i ∧ y = .int .i64 (i : Int)), pt g2 (.cells (A16 fun j => if j < i then (nx l j : Int) else 0) 97 (0, 0)), pt g (.cells (A16 fun j => if j = 0 then 0 else (cnt l j : Int)) 97 (0, 0)), A]] ++ F) 15 ?_ ?_
  · refine Imp.ex 1 (.all ?_)
    (try simp only [List.cons_append, List.nil_append, -eq_self])
    refine .pu ⟨by omega, by omega, rfl⟩ ?_
    rw [show A16 (fun j => if j < 1 then (nx l j : Int) else 0) = A16 (fun _ => 0) from An_congr fun j hj => by
      by_cases c : j < 1
      · rw [if_pos c, show j = 0 by omega]; simp [nx]
      · rw [if_neg c]]
    (repeat (first | exact Imp.refl | exact Imp.nil | (apply Imp.pick; (focus ((repeat constructor); done))) | refine Imp.drop ?_))
  · intro m ds y
    (try simp only [List.cons_append, List.nil_append, -eq_self])
    refine e_ex Pick.here fun i => e_all Pick.here ?_
    (try simp only [List.cons_append, List.nil_append, -eq_self])
    refine e_pu Pick.here fun hi => ?_
    obtain ⟨hmi, hi1, rfl⟩ := hi
    (refine e_ask v_leq Imp.nil (fun h => ?_) (fun h => ?_))
    · have hi15 : i ≤ 15 := by omega
      obtain ⟨k, rfl⟩ : ∃ k, i = k + 1 := ⟨i - 1, by omega⟩
      have hk1 := nx_small hok (show k ≤ 15 by omega)
      have hk2 := nx_small hok hi15
      have hk3 := cnt_le k l
      ((with_reducible refine e_condT ?_)); ((with_reducible refine e_drS ?_)); (((with_reducible refine e_stS (v_sub ?h1 ?h2) Imp.nil ?_); (case h1 => omega); (case h2 => omega)))
      refine e_stS (v_iaA k (by omega) (by omega)) Imp.nil ?_
      refine e_stS (v_ld (v := I (nx l k)) (by rw [Nat.zero_add, Nat.mul_one, A16, An_get (by omega), if_pos (by omega)])) (.pick .here .nil) ?_
      (((with_reducible refine e_stS (v_sub ?h1 ?h2) Imp.nil ?_); (case h1 => omega); (case h2 => omega)))
      refine e_stS (v_iaA k (by omega) (by omega)) Imp.nil ?_
      refine e_stS (v_ld (v := I (if k = 0 then 0 else (cnt l k : Int))) (by rw [Nat.zero_add, Nat.mul_one, A16, An_get (by omega)])) (.pick (.there .here) .nil) ?_
      have hs : ((nx l k : Int) + (if k = 0 then 0 else (cnt l k : Int))) * 2 = (nx l (k + 1) : Int) := by
        match k with
        | 0 => simp [nx]
        | k + 1 => rw [if_neg (by omega), nx]; push_cast; omega
      obtain ⟨c, hc⟩ : ∃ c, c = (if k = 0 then 0 else (cnt l k : Int)) := ⟨_, rfl⟩
      rw [← hc] at hs ⊢
      refine e_stS (v_add (by omega) (by omega)) Imp.nil ?_
      refine e_stS (v_shl (by omega)) Imp.nil ?_
      rw [show ((nx l k : Int) + c) * 2 ^ (min ((1 : Int)).toNat IntKind.i64.bits) = (nx l (k + 1) : Int) by rw [← hs]; rfl, w64 (by omega) (by omega)]
      refine e_stS (v_iaA (k + 1) (by norm_cast) (by omega)) Imp.nil ?_
      refine e_st .here (by rw [A16, An_size]; omega) ?_
      rw [show (A16 fun j => if j < k + 1 then (nx l j : Int) else 0).setIfInBounds (0 + (k + 1) * 1) (.int .i64 (nx l (k + 1) : Int)) = A16 (fun j => if j < k + 1 + 1 then (nx l j : Int) else 0) from by
        rw [Nat.zero_add, Nat.mul_one]
        refine An_set.trans (An_congr fun j hj => ?_)
        by_cases e : j = k + 1
        · subst e; rw [if_pos rfl, if_pos (by omega)]
        · rw [if_neg e]
          by_cases e2 : j < k + 1
          · rw [if_pos e2, if_pos (by omega)]
          · rw [if_neg e2, if_neg (by omega)]]
      (((with_reducible refine e_opN (v_add ?h1 ?h2) Imp.nil ?_); (case h1 => omega); (case h2 => omega)))
      refine e_next1 (m - 1) (by omega) (.ex (k + 1 + 1) (.all ?_))
      (try simp only [List.cons_append, List.nil_append, -eq_self])
      exact .pu ⟨by omega, by omega, by norm_cast⟩ .refl
    · have : i = 16 := by omega
      subst this
      ((with_reducible refine e_condF ?_)); (((with_reducible refine e_opN v_len Imp.nil ?_)))
      refine e_mksl l.length l.length (by rfl) (by rfl) (by omega) (by omega) (by unfold maxLen; omega) fun g3 => ?_
      rw [Ln_zero]
      (((with_reducible refine e_opN v_len Imp.nil ?_)))
      refine e_loop1 (fun m y => [ex fun i : Nat => all [pu (m + i = l.length ∧ y = .int .i64 (i : Int)), Sl 1 3 (some ⟨g3, 0, none⟩) l.length l.length (Ln l.length fun k => if k < i then (codeAt l k : Int) else 0), pt g2 (.cells (A16 fun j => if j = 0 then 0 else (cur l j i : Int)) 97 (0, 0)), A]] ++ F) l.length ?_ ?_
      · refine Imp.ex 0 (.all ?_)
        (try simp only [List.cons_append, List.nil_append, -eq_self])
        refine .pu ⟨by omega, rfl⟩ ?_
        rw [show A16 (fun j => if j = 0 then 0 else (cur l j 0 : Int)) = A16 (fun j => if j < 16 then (nx l j : Int) else 0) from An_congr fun j hj => by
          rw [if_pos hj]
          by_cases c : j = 0
          · rw [if_pos c, c]; simp [nx]
          · rw [if_neg c]; simp [cur, cnt]]
        (repeat (first | exact Imp.refl | exact Imp.nil | (apply Imp.pick; (focus ((repeat constructor); done))) | refine Imp.drop ?_))
      · intro m ds y
        (try simp only [List.cons_append, List.nil_append, -eq_self])
        refine e_ex Pick.here fun i => e_all Pick.here ?_
        (try simp only [List.cons_append, List.nil_append, -eq_self])
        refine e_pu Pick.here fun hi => ?_
        obtain ⟨hmi, rfl⟩ := hi
        (refine e_ask v_lss Imp.nil (fun h => ?_) (fun h => ?_))
        · have hil : i < l.length := by omega
          obtain ⟨ga, oa, rfl, _⟩ := hr.at_ (by omega)
          refine e_condT ?_
          refine e_opN (v_ia1 i (by rfl) hil) Imp.nil ?_
          refine e_opN (v_ldRd hr (I_get hil)) (.pick (.there (.there .here)) .nil) ?_
          have hin := hok.ins l[i] (List.getElem_mem hil)
          (refine e_ask v_gtr Imp.nil (fun h => ?_) (fun h => ?_))
          · obtain ⟨x, hx⟩ := Int.eq_ofNat_of_zero_le (show 0 ≤ l[i] by omega)
            have hx15 : x < 16 := by omega
            have hcu := hok.cur_lt' hil hx (by omega) (by omega)
            have h15 := pow15 (show x ≤ 15 by omega)
            ((with_reducible refine e_condT ?_))
            refine e_opN (v_iaA x hx hx15) Imp.nil ?_
            refine e_opN (v_ld (v := I (cur l x i)) (by rw [Nat.zero_add, Nat.mul_one, A16, An_get hx15, if_neg (by omega)])) (.pick (.there .here) .nil) ?_
            refine e_opN (v_ia1 i (by rfl) hil) Imp.nil ?_
            refine e_stSl .here (by rw [Ln_len]; omega) ?_
            rw [show (Ln l.length fun k => if k < i then (codeAt l k : Int) else 0).set (0 + i) (I (cur l x i)) = Ln l.length (fun k => if k < i + 1 then (codeAt l k : Int) else 0) from by
              rw [Nat.zero_add]
              refine Ln_set.trans (Ln_congr fun j hj => ?_)
              by_cases e : j = i
              · subst e; rw [if_pos rfl, if_pos (by omega), codeAt_pos hil hx (by omega)]
              · rw [if_neg e]
                by_cases e2 : j < i
                · rw [if_pos e2, if_pos (by omega)]
                · rw [if_neg e2, if_neg (by omega)]]
            refine e_opN (v_iaA x hx hx15) Imp.nil ?_
            refine e_opN (v_ld (v := I (cur l x i)) (by rw [Nat.zero_add, Nat.mul_one, A16, An_get hx15, if_neg (by omega)])) (.pick (.there .here) .nil) ?_
            refine e_opN (v_add (by omega) (by omega)) Imp.nil ?_
            refine e_opN (v_iaA x hx hx15) Imp.nil ?_
            refine e_st (.there .here) (by rw [A16, An_size]; omega) ?_
            rw [show (A16 fun j => if j = 0 then 0 else (cur l j i : Int)).setIfInBounds (0 + x * 1) (.int .i64 ((cur l x i : Int) + 1)) = A16 (fun j => if j = 0 then 0 else (cur l j (i + 1) : Int)) from by
              rw [Nat.zero_add, Nat.mul_one]
              refine An_set.trans (An_congr fun j hj => ?_)
              rw [cur_succ hil]
              by_cases e : j = x
              · subst e; rw [if_pos rfl, if_neg (by omega), if_pos hx]; push_cast; rfl
              · rw [if_neg e, if_neg (show ¬ l[i] = (j : Int) by omega)]; simp]
            (((with_reducible refine e_opN (v_add ?h1 ?h2) Imp.nil ?_); (case h1 => omega); (case h2 => omega)))
            refine e_next1 (m - 1) (by omega) (.ex (i + 1) (.all ?_))
            (try simp only [List.cons_append, List.nil_append, -eq_self])
            refine .pu ⟨by omega, by norm_cast⟩ ?_
            (repeat (first | exact Imp.refl | exact Imp.nil | (apply Imp.pick; (focus ((repeat constructor); done))) | refine Imp.drop ?_))
          · ((with_reducible refine e_condF ?_)); (((with_reducible refine e_opN (v_add ?h1 ?h2) Imp.nil ?_); (case h1 => omega); (case h2 => omega)))
            refine e_next1 (m - 1) (by omega) (.ex (i + 1) (.all ?_))
            (try simp only [List.cons_append, List.nil_append, -eq_self])
            refine .pu ⟨by omega, by norm_cast⟩ ?_
            rw [show (Ln l.length fun k => if k < i + 1 then (codeAt l k : Int) else 0) = Ln l.length (fun k => if k < i then (codeAt l k : Int) else 0) from Ln_congr fun j hj => by
              by_cases e : j = i
              · subst e; rw [if_pos (by omega), if_neg (by omega), codeAt_zero hil (by omega)]; rfl
              · by_cases e2 : j < i
                · rw [if_pos e2, if_pos (by omega)]
                · rw [if_neg e2, if_neg (by omega)]]
            rw [show A16 (fun j => if j = 0 then 0 else (cur l j (i + 1) : Int)) = A16 (fun j => if j = 0 then 0 else (cur l j i : Int)) from An_congr fun j hj => by
              by_cases e : j = 0
              · rw [if_pos e, if_pos e]
              · rw [if_neg e, if_neg e, cur_succ hil, if_neg (by omega)]; simp]
            (repeat (first | exact Imp.refl | exact Imp.nil | (apply Imp.pick; (focus ((repeat constructor); done))) | refine Imp.drop ?_))
        · have : i = l.length := by omega
          subst this
          refine e_condF ?_
          rw [Ln_codes]
          refine e_ret (some ⟨g3, 0, none⟩, l.length) (by rw [hcl]) ?_
          rw [hcl]
          (repeat (first | exact Imp.refl | exact Imp.nil | (apply Imp.pick; (focus ((repeat constructor); done))) | refine Imp.drop ?_))
end Go.Proofs.Ytehfblkpbadikaa.HF
/-! Whether lengths leave nothing; what the document weighs. No conditions but those that each names. -/
namespace Go.Proofs.Ytehfblkpbadikaa.HF
open Go Go.Proofs Go.Proofs.Ytehfblkpbadikaa.Sh Go.Proofs.Ytehfblkpbadikaa.Sl Go.Proofs.Ytehfblkpbadikaa.T Go.Proofs.Ytehfblkpbadikaa.HM
def rm (f : Nat → Int) : Nat → Int
  | 0 => 1
  | k + 1 => 2 * rm f k - f (k + 1)
theorem rm_room {l : List Int} {f : Nat → Int} (h : ∀ j, j < 16 → f j = cnt l j) : ∀ k, k ≤ 15 → rm f k = room l k
  | 0, _ => rfl
  | k + 1, hk => by rw [rm, room, rm_room h k (by omega), h (k + 1) (by omega)]
theorem rm_bound {f : Nat → Int} (h : ∀ j, 0 ≤ f j ∧ f j ≤ 320) : ∀ k, rm f k ≤ (2 ^ k : Nat) ∧ -(320 * ((2 ^ k : Nat) : Int)) ≤ rm f k - 320
  | 0 => by simp [rm]
  | k + 1 => by
    have ih := rm_bound h k
    have hf := h (k + 1)
    have e : (2 : Nat) ^ (k + 1) = 2 * 2 ^ k := by rw [Nat.pow_succ]; omega
    rw [e, rm]
    push_cast
    push_cast at ih
    omega
def fullB (l : List Int) : Bool := decide (okL l) && decide (wk l 15 = 32768)
theorem full {W : World} {a : Option Addr} {cap : Nat} {l : List Int} {A : HP} (hr : RdB W A a l.length (l.map I)) (hl : l.length ≤ 4611686018427387904) :
    Cn Try.prog 22 [.slice a l.length cap] W [A] (fun _ : Unit => .bool (fullB l)) (fun _ => [A]) := by
  (refine S.huff_Full_cn fun F => ?_; unfold S.huff_Full; simp only [List.cons_append, List.nil_append])
  (refine' e_call (counts hr hl) ?hp fun _ => ?_; (case hp => (repeat (first | exact Picks.nil | (apply Picks.cons; (focus (repeat constructor)))))); (try simp only [List.cons_append, List.nil_append, Bool.not_true, Bool.not_false]))
  rename_i f
  refine e_pu Pick.here fun hf => ?_
  obtain ⟨hf1, hf2⟩ := hf
  refine e_opN (v_ext (v := .agg (A16 f)) rfl) Imp.nil ?_
  refine e_opN (v_ext (v := .bool (decide (okL l))) rfl) Imp.nil ?_
  refine e_newA fun g => ?_
  refine e_stAgg .here (by rfl) (An_size 16 f) one16 ?_
  refine e_opN (v_slA (l := 1) (by rfl) (by omega)) Imp.nil ?_
  (((with_reducible refine e_opN v_len Imp.nil ?_)))
  have hrd : RdB W (pt g (.cells (A16 f) 97 (0, 0))) (some ⟨g, 1 * 1, none⟩) 15 ((List.range 15).map fun j => I (f (1 + j))) := rd_cut (n := 16) (f := f) (rd_pt (by simp)) (by omega)
  refine e_loop2 (fun m x y => [all [pu (∃ i : Nat, m + i = 15 ∧ i ≤ 15 ∧ y = .int .i64 (i : Int) ∧ x = .int .i64 (rm f i)), pt g (.cells (A16 f) 97 (0, 0)), A]] ++ F) 15 ?_ ?_
  · refine Imp.all ?_
    (try simp only [List.cons_append, List.nil_append, -eq_self])
    exact .pu ⟨0, by omega, by omega, rfl, rfl⟩ .refl
  intro m ds x y
  (try simp only [List.cons_append, List.nil_append, -eq_self])
  refine e_all Pick.here ?_
  (try simp only [List.cons_append, List.nil_append, -eq_self])
  refine e_pu Pick.here fun hi => ?_
  obtain ⟨i, hmi, hi15, rfl, rfl⟩ := hi
  have hb := rm_bound hf2 i
  have h15 := pow15 hi15
  (refine e_ask v_lss Imp.nil (fun h => ?_) (fun h => ?_))
  · have hi14 : i < 15 := by omega
    refine e_condT ?_
    refine e_opN (v_ia1 i (by rfl) (by omega)) Imp.nil ?_
    refine e_opN (v_ldRd hrd (v := I (f (1 + i))) (by rw [List.getElem?_map, List.getElem?_range hi14]; rfl)) (.pick .here .nil) ?_
    have hc := hf2 (1 + i)
    (((with_reducible refine e_opN (v_mul ?h1 ?h2) Imp.nil ?_); (case h1 => omega); (case h2 => omega))); (((with_reducible refine e_opN (v_sub ?h1 ?h2) Imp.nil ?_); (case h1 => omega); (case h2 => omega))); (((with_reducible refine e_opN (v_add ?h1 ?h2) Imp.nil ?_); (case h1 => omega); (case h2 => omega)))
    refine e_next2 (m - 1) (by omega) (.all ?_)
    (try simp only [List.cons_append, List.nil_append, -eq_self])
    exact .pu ⟨i + 1, by omega, by omega, by norm_cast, by rw [rm, Nat.add_comm 1 i]⟩ .refl
  · have hie : i = 15 := by omega
    subst hie
    refine e_condF ?_
    by_cases hok : okL l
    · have hrr := rm_room (hf1 hok) 15 (by omega)
      rw [decide_eq_true hok]
      ((with_reducible refine e_gdT ?_)); ((with_reducible refine e_gdT ?_))
      refine e_opN v_eql Imp.nil ?_
      rw [show decide (rm f 15 = 0) = fullB l by unfold fullB; rw [decide_eq_true hok, Bool.true_and]; exact decide_eq_decide.2 (by rw [hrr]; exact room0_iff)]
      (((with_reducible refine e_opN v_pickT Imp.nil ?_)))
      (first | refine e_ret (()) rfl ?_ | refine e_retT (()) ?_)
      (repeat (first | exact Imp.refl | exact Imp.nil | (apply Imp.pick; (focus ((repeat constructor); done))) | refine Imp.drop ?_))
    · rw [decide_eq_false hok]
      ((with_reducible refine e_gdF2 ?_)); ((with_reducible refine e_gdF2 ?_)); (((with_reducible refine e_opN v_pickF Imp.nil ?_)))
      rw [show fullB l = false by unfold fullB; rw [decide_eq_false hok, Bool.false_and]]
      (first | refine e_ret (()) rfl ?_ | refine e_retT (()) ?_)
      (repeat (first | exact Imp.refl | exact Imp.nil | (apply Imp.pick; (focus ((repeat constructor); done))) | refine Imp.drop ?_))
def wsm (l : List Int) : Int := if inL l then (wk l 15 : Int) else 0
theorem wk_append (k : Nat) : ∀ l m : List Int, wk (l ++ m) k = wk l k + wk m k
  | [], m => by simp [wk]
  | x :: l, m => by simp only [List.cons_append, wk, wk_append k l m]; omega
theorem wk_le : ∀ l : List Int, wk l 15 ≤ 16384 * l.length
  | [] => by simp [wk]
  | x :: l => by
    have := wk_le l
    simp only [wk, List.length_cons]
    split
    · rename_i h
      have h2 : 2 ^ (15 - x.toNat) ≤ 2 ^ 14 := Nat.pow_le_pow_right (by omega) (by omega)
      have e : (2 : Nat) ^ 14 = 16384 := by decide
      omega
    · omega
theorem wk_take {l : List Int} {i : Nat} (h : i < l.length) (hp : 0 < l[i] ∧ l[i] ≤ 15) : wk (l.take (i + 1)) 15 = wk (l.take i) 15 + 2 ^ (15 - l[i].toNat) := by
  rw [List.take_succ_eq_append_getElem h, wk_append]
  simp only [wk]
  rw [if_pos ⟨hp.1, by omega⟩]; omega
theorem wk_take0 {l : List Int} {i : Nat} (h : i < l.length) (hp : ¬ 0 < l[i]) : wk (l.take (i + 1)) 15 = wk (l.take i) 15 := by
  rw [List.take_succ_eq_append_getElem h, wk_append]
  simp only [wk]
  rw [if_neg (by omega)]; omega
theorem wrapu64' {n : Int} (h0 : 0 ≤ n) (h : n < 18446744073709551616) : IntKind.u64.wrap n = n := by
  obtain ⟨N, rfl⟩ := Int.eq_ofNat_of_zero_le h0
  simp only [IntKind.wrap, IntKind.bits, IntKind.signed]
  simp; omega
theorem shl64 {a : Int} {k : Nat} (hk : k ≤ 32) (h0 : 0 ≤ a) (h : a ≤ 65536) : IntKind.i64.wrap (a * 2 ^ (min ((k : Int)).toNat IntKind.i64.bits)) = a * ((2 ^ k : Nat) : Int) := by
  have h2 : (2 : Nat) ^ k ≤ 2 ^ 32 := Nat.pow_le_pow_right (by omega) hk
  have e : (2 : Nat) ^ 32 = 4294967296 := by decide
  rw [show min ((k : Int)).toNat IntKind.i64.bits = k by simp only [IntKind.bits, Int.toNat_natCast]; omega, show (2 : Int) ^ k = ((2 ^ k : Nat) : Int) from (Int.natCast_pow 2 k).symm]
  obtain ⟨E, hE⟩ : ∃ E : Nat, E = 2 ^ k := ⟨_, rfl⟩
  rw [← hE] at h2 ⊢
  have h3 : a * (E : Int) ≤ 65536 * 4294967296 := Int.mul_le_mul h (by omega) (by omega) (by omega)
  have h4 : 0 ≤ a * (E : Int) := Int.mul_nonneg h0 (by omega)
  exact w64 (by omega) (by omega)
theorem weight {W : World} {a : Option Addr} {cap : Nat} {l : List Int} {A : HP} (hr : RdB W A a l.length (l.map I)) (hl : l.length ≤ 1099511627776) :
    Cn Try.prog 51 [.slice a l.length cap] W [A] (fun _ : Unit => .tuple #[.int .i64 (wsm l), .bool (decide (okL l))]) (fun _ => [A]) := by
  (refine S.ref03_weight_cn fun F => ?_; unfold S.ref03_weight; simp only [List.cons_append, List.nil_append])
  refine e_loop2 (fun m x y => [all [pu (∃ i : Nat, m + i = l.length ∧ y = .int .i64 (i : Int) ∧ x = .int .i64 (wk (l.take i) 15 : Int) ∧ ∀ k (hk : k < l.length), k < i → 0 ≤ l[k] ∧ l[k] ≤ 15), A]] ++ F) l.length ?_ ?_
  · refine Imp.all ?_
    (try simp only [List.cons_append, List.nil_append, -eq_self])
    exact .pu ⟨0, by omega, rfl, rfl, fun k hk h => by omega⟩ .refl
  intro m ds x y
  (try simp only [List.cons_append, List.nil_append, -eq_self])
  refine e_all Pick.here ?_
  (try simp only [List.cons_append, List.nil_append, -eq_self])
  refine e_pu Pick.here fun hi => ?_
  obtain ⟨i, hmi, rfl, rfl, hin⟩ := hi
  have hwl := wk_le (l.take i)
  rw [List.length_take] at hwl
  (((with_reducible refine e_opN v_len Imp.nil ?_)))
  (refine e_ask v_lss Imp.nil (fun h => ?_) (fun h => ?_))
  · have hil : i < l.length := by omega
    obtain ⟨ga, oa, rfl, _⟩ := hr.at_ (by omega)
    have bad : ¬ (0 ≤ l[i] ∧ l[i] ≤ 15) → ¬ inL l := fun hn c => hn (c l[i] (List.getElem_mem hil))
    refine e_condT ?_
    refine e_opN (v_ia1 i (by rfl) hil) Imp.nil ?_
    refine e_opN (v_ldRd hr (I_get hil)) (.pick .here .nil) ?_
    (refine e_ask v_lss Imp.nil (fun h => ?_) (fun h => ?_))
    · have hb := bad (by omega)
      rw [show wsm l = 0 from if_neg hb, decide_eq_false (fun c => hb c.ins)]
      ((with_reducible refine e_gdF1 ?_)); ((with_reducible refine e_gdF1 ?_)); ((with_reducible refine e_gdF1 ?_)); ((with_reducible refine e_gdF1 ?_)); ((with_reducible refine e_gdF1 ?_)); (((with_reducible refine e_opN v_pickT Imp.nil ?_))); ((with_reducible refine e_condT ?_))
      (first | refine e_ret (()) rfl ?_ | refine e_retT (()) ?_)
      (repeat (first | exact Imp.refl | exact Imp.nil | (apply Imp.pick; (focus ((repeat constructor); done))) | refine Imp.drop ?_))
    have h0 := h
    ((with_reducible refine e_gdT ?_)); ((with_reducible refine e_gdT ?_)); ((with_reducible refine e_gdT ?_))
    refine e_opN (v_ia1 i (by rfl) hil) Imp.nil ?_
    ((with_reducible refine e_gdT ?_))
    refine e_opN (v_ldRd hr (I_get hil)) (.pick .here .nil) ?_
    ((with_reducible refine e_gdT ?_))
    (refine e_ask v_gtr Imp.nil (fun h => ?_) (fun h => ?_))
    · have hb := bad (by omega)
      rw [show wsm l = 0 from if_neg hb, decide_eq_false (fun c => hb c.ins)]
      (((with_reducible refine e_opN v_pickF Imp.nil ?_))); ((with_reducible refine e_condT ?_))
      (first | refine e_ret (()) rfl ?_ | refine e_retT (()) ?_)
      (repeat (first | exact Imp.refl | exact Imp.nil | (apply Imp.pick; (focus ((repeat constructor); done))) | refine Imp.drop ?_))
    have h1 := h
    (((with_reducible refine e_opN v_pickF Imp.nil ?_))); ((with_reducible refine e_condF ?_))
    refine e_opN (v_ia1 i (by rfl) hil) Imp.nil ?_
    refine e_opN (v_ldRd hr (I_get hil)) (.pick .here .nil) ?_
    have hin' : ∀ k (hk : k < l.length), k < i + 1 → 0 ≤ l[k] ∧ l[k] ≤ 15 := fun k hk hki => by
      by_cases c : k = i
      · subst c; omega
      · exact hin k hk (by omega)
    (refine e_ask v_gtr Imp.nil (fun h => ?_) (fun h => ?_))
    · refine e_condT ?_
      refine e_opN (v_ia1 i (by rfl) hil) Imp.nil ?_
      refine e_opN (v_ldRd hr (I_get hil)) (.pick .here .nil) ?_
      refine e_opN (v_sub (by omega) (by omega)) Imp.nil ?_
      refine e_opN v_conv Imp.nil ?_
      obtain ⟨x, hx⟩ := Int.eq_ofNat_of_zero_le (show 0 ≤ l[i] by omega)
      rw [wrapu64' (by omega) (by omega), show (15 : Int) - l[i] = ((15 - x : Nat) : Int) by omega]
      refine e_opN (v_shl (by omega)) Imp.nil ?_
      rw [shl64 (by omega) (by omega) (by omega), Int.one_mul]
      have h15 := pow15 (show 15 - x ≤ 15 by omega)
      obtain ⟨E, hE⟩ : ∃ E : Nat, E = 2 ^ (15 - x) := ⟨_, rfl⟩
      rw [← hE] at h15 ⊢
      refine e_opN (v_add (by omega) (by omega)) Imp.nil ?_
      (((with_reducible refine e_opN (v_add ?h1 ?h2) Imp.nil ?_); (case h1 => omega); (case h2 => omega)))
      refine e_next2 (m - 1) (by omega) (.all ?_)
      (try simp only [List.cons_append, List.nil_append, -eq_self])
      refine .pu ⟨i + 1, by omega, by norm_cast, ?_, hin'⟩ .refl
      rw [wk_take hil (by omega), hx, Int.toNat_natCast, ← hE]; push_cast; rfl
    · ((with_reducible refine e_condF ?_)); (((with_reducible refine e_opN (v_add ?h1 ?h2) Imp.nil ?_); (case h1 => omega); (case h2 => omega)))
      refine e_next2 (m - 1) (by omega) (.all ?_)
      (try simp only [List.cons_append, List.nil_append, -eq_self])
      refine .pu ⟨i + 1, by omega, by norm_cast, ?_, hin'⟩ .refl
      rw [wk_take0 hil h]
  · have hie : i = l.length := by omega
    subst hie
    rw [List.take_length]
    rw [List.take_length] at hwl
    have hins : inL l := fun x hx => by
      obtain ⟨k, hk, rfl⟩ := List.mem_iff_getElem.1 hx
      exact hin k hk (by omega)
    rw [show wsm l = (wk l 15 : Int) from if_pos hins]
    refine e_condF ?_
    (((with_reducible refine e_opN v_len Imp.nil ?_)))
    (refine e_ask v_leq Imp.nil (fun h => ?_) (fun h => ?_))
    · ((with_reducible refine e_gdT ?_)); ((with_reducible refine e_gdT ?_))
      refine e_opN v_leq Imp.nil ?_
      rw [show decide ((wk l 15 : Int) ≤ 32768) = decide (okL l) from decide_eq_decide.2 ⟨fun c => okL_iff.2 ⟨by omega, hins, by omega⟩, fun c => by have := (okL_iff.1 c).2.2; omega⟩]
      (((with_reducible refine e_opN v_pickT Imp.nil ?_)))
      (first | refine e_ret (()) rfl ?_ | refine e_retT (()) ?_)
      (repeat (first | exact Imp.refl | exact Imp.nil | (apply Imp.pick; (focus ((repeat constructor); done))) | refine Imp.drop ?_))
    · ((with_reducible refine e_gdF2 ?_)); ((with_reducible refine e_gdF2 ?_)); (((with_reducible refine e_opN v_pickF Imp.nil ?_)))
      rw [decide_eq_false (fun c : okL l => by have := c.len; omega)]
      (first | refine e_ret (()) rfl ?_ | refine e_retT (()) ?_)
      (repeat (first | exact Imp.refl | exact Imp.nil | (apply Imp.pick; (focus ((repeat constructor); done))) | refine Imp.drop ?_))
theorem refFull {W : World} {a : Option Addr} {cap : Nat} {l : List Int} {A : HP} (hr : RdB W A a l.length (l.map I)) (hl : l.length ≤ 1099511627776) :
    Cn Try.prog 23 [.slice a l.length cap] W [A] (fun _ : Unit => .bool (fullB l)) (fun _ => [A]) := by
  (refine S.ref03_Full_cn fun F => ?_; unfold S.ref03_Full; simp only [List.cons_append, List.nil_append])
  (refine' e_call (weight hr hl) ?hp fun _ => ?_; (case hp => (repeat (first | exact Picks.nil | (apply Picks.cons; (focus (repeat constructor)))))); (try simp only [List.cons_append, List.nil_append, Bool.not_true, Bool.not_false]))
  refine e_opN (v_ext (v := .int .i64 (wsm l)) rfl) Imp.nil ?_
  refine e_opN (v_ext (v := .bool (decide (okL l))) rfl) Imp.nil ?_
  by_cases hok : okL l
  · rw [decide_eq_true hok]
    ((with_reducible refine e_gdT ?_)); ((with_reducible refine e_gdT ?_))
    refine e_opN v_eql Imp.nil ?_
    rw [show decide (wsm l = 32768) = fullB l by unfold fullB wsm; rw [decide_eq_true hok, Bool.true_and, if_pos hok.ins]; exact decide_eq_decide.2 (by omega)]
    (((with_reducible refine e_opN v_pickT Imp.nil ?_)))
    (first | refine e_ret (()) rfl ?_ | refine e_retT (()) ?_)
    (repeat (first | exact Imp.refl | exact Imp.nil | (apply Imp.pick; (focus ((repeat constructor); done))) | refine Imp.drop ?_))
  · rw [decide_eq_false hok]
    ((with_reducible refine e_gdF2 ?_)); ((with_reducible refine e_gdF2 ?_)); (((with_reducible refine e_opN v_pickF Imp.nil ?_)))
    rw [show fullB l = false by unfold fullB; rw [decide_eq_false hok, Bool.false_and]]
    (first | refine e_ret (()) rfl ?_ | refine e_retT (()) ?_)
    (repeat (first | exact Imp.refl | exact Imp.nil | (apply Imp.pick; (focus ((repeat constructor); done))) | refine Imp.drop ?_))
theorem num {W : World} {n : Int} : Cn Try.prog 18 [.int .i64 n] W [] (fun _ : Unit => .int .i64 n) (fun _ => []) := by
  (refine S.law03_num_cn fun F => ?_; unfold S.law03_num; simp only [List.cons_append, List.nil_append])
  (first | refine e_ret (()) rfl ?_ | refine e_retT (()) ?_)
  exact .refl
theorem sameInts {W : World} {a b : Option Addr} {c1 c2 : Nat} {x y : List Int} {A B : HP} (hx : RdB W A a x.length (x.map I)) (hy : RdB W B b y.length (y.map I)) (hl : x.length ≤ 4611686018427387904) :
    Cn Try.prog 17 [.slice a x.length c1, .slice b y.length c2] W [A, B] (fun _ : Unit => .bool (decide (x = y))) (fun _ => [A, B]) := by
  (refine S.law03_SameInts_cn fun F => ?_; unfold S.law03_SameInts; simp only [List.cons_append, List.nil_append])
  (((with_reducible refine e_opN v_len Imp.nil ?_))); (((with_reducible refine e_opN v_len Imp.nil ?_)))
  (refine e_ask v_neq Imp.nil (fun h => ?_) (fun h => ?_))
  · rw [decide_eq_false (fun c => by subst c; exact h rfl)]
    ((with_reducible refine e_condT ?_))
    (first | refine e_ret (()) rfl ?_ | refine e_retT (()) ?_)
    (repeat (first | exact Imp.refl | exact Imp.nil | (apply Imp.pick; (focus ((repeat constructor); done))) | refine Imp.drop ?_))
  have hlen : x.length = y.length := by omega
  ((with_reducible refine e_condF ?_))
  refine e_loop1 (fun m z => [all [pu (∃ i : Nat, m + i = x.length ∧ z = .int .i64 (i : Int) ∧ x.take i = y.take i), A, B]] ++ F) x.length ?_ ?_
  · refine Imp.all ?_
    (try simp only [List.cons_append, List.nil_append, -eq_self])
    exact .pu ⟨0, by omega, rfl, rfl⟩ .refl
  intro m ds z
  (try simp only [List.cons_append, List.nil_append, -eq_self])
  refine e_all Pick.here ?_
  (try simp only [List.cons_append, List.nil_append, -eq_self])
  refine e_pu Pick.here fun hi => ?_
  obtain ⟨i, hmi, rfl, he⟩ := hi
  (((with_reducible refine e_opN v_len Imp.nil ?_)))
  (refine e_ask v_lss Imp.nil (fun h => ?_) (fun h => ?_))
  · have hix : i < x.length := by omega
    have hiy : i < y.length := by omega
    obtain ⟨ga, oa, rfl, _⟩ := hx.at_ (by omega)
    obtain ⟨gb, ob, rfl, _⟩ := hy.at_ (by omega)
    ((with_reducible refine e_condT ?_)); ((with_reducible refine e_drS ?_))
    refine e_stS (v_ia1 i (by rfl) hix) Imp.nil ?_
    refine e_stS (v_ldRd hx (I_get hix)) (.pick .here .nil) ?_
    refine e_stS (v_ia1 i (by rfl) hiy) Imp.nil ?_
    refine e_stS (v_ldRd hy (I_get hiy)) (.pick (.there .here) .nil) ?_
    refine e_askS v_neq Imp.nil (fun h => ?_) (fun h => ?_)
    · rw [decide_eq_false (fun c => by subst c; exact h rfl)]
      ((with_reducible refine e_condT ?_))
      (first | refine e_ret (()) rfl ?_ | refine e_retT (()) ?_)
      (repeat (first | exact Imp.refl | exact Imp.nil | (apply Imp.pick; (focus ((repeat constructor); done))) | refine Imp.drop ?_))
    · ((with_reducible refine e_condF ?_)); (((with_reducible refine e_opN (v_add ?h1 ?h2) Imp.nil ?_); (case h1 => omega); (case h2 => omega)))
      refine e_next1 (m - 1) (by omega) (.all ?_)
      (try simp only [List.cons_append, List.nil_append, -eq_self])
      refine .pu ⟨i + 1, by omega, by norm_cast, ?_⟩ .refl
      rw [List.take_succ_eq_append_getElem hix, List.take_succ_eq_append_getElem hiy, he, Decidable.not_not.1 h]
  · have hie : i = x.length := by omega
    subst hie
    rw [List.take_length, hlen, List.take_length] at he
    rw [decide_eq_true he]
    ((with_reducible refine e_condF ?_))
    (first | refine e_ret (()) rfl ?_ | refine e_retT (()) ?_)
    (repeat (first | exact Imp.refl | exact Imp.nil | (apply Imp.pick; (focus ((repeat constructor); done))) | refine Imp.drop ?_))
end Go.Proofs.Ytehfblkpbadikaa.HF
/-! The document's codes of lengths. No conditions but those that each names. -/
namespace Go.Proofs.Ytehfblkpbadikaa.HF
open Go Go.Proofs Go.Proofs.Ytehfblkpbadikaa.Sh Go.Proofs.Ytehfblkpbadikaa.Sl Go.Proofs.Ytehfblkpbadikaa.T Go.Proofs.Ytehfblkpbadikaa.HM
/-- what is given so far -/
def dn (l : List Int) (n i k : Nat) : Int := match l[k]? with
  | some x => if 0 < x ∧ (x < n ∨ x = n ∧ k < i) then (codeAt l k : Int) else 0
  | none => 0
theorem dn_at {l : List Int} {n i k : Nat} (h : k < l.length) : dn l n i k = if 0 < l[k] ∧ (l[k] < n ∨ l[k] = n ∧ k < i) then (codeAt l k : Int) else 0 := by
  unfold dn; rw [List.getElem?_eq_getElem h]
theorem dn_skip {l : List Int} {n i k : Nat} (hi : i < l.length) (hne : l[i] ≠ (n : Int)) (h : k < l.length) : dn l n (i + 1) k = dn l n i k := by
  rw [dn_at h, dn_at h]
  by_cases c : k = i
  · subst c
    by_cases d : 0 < l[k] ∧ l[k] < n
    · rw [if_pos ⟨d.1, .inl d.2⟩, if_pos ⟨d.1, .inl d.2⟩]
    · rw [if_neg (by omega), if_neg (by omega)]
  · by_cases d : 0 < l[k] ∧ (l[k] < n ∨ l[k] = n ∧ k < i)
    · rw [if_pos d, if_pos (by omega)]
    · rw [if_neg d, if_neg (by omega)]
theorem dn_put {l : List Int} {n i k : Nat} (hi : i < l.length) (hn : 1 ≤ n) (he : l[i] = (n : Int)) (h : k < l.length) : dn l n (i + 1) k = if k = i then (codeAt l i : Int) else dn l n i k := by
  rw [dn_at h, dn_at h]
  by_cases c : k = i
  · subst c
    rw [if_pos rfl, if_pos (by omega)]
  · rw [if_neg c]
    by_cases d : 0 < l[k] ∧ (l[k] < n ∨ l[k] = n ∧ k < i)
    · rw [if_pos d, if_pos (by omega)]
    · rw [if_neg d, if_neg (by omega)]
theorem dn_next {l : List Int} {n k : Nat} (h : k < l.length) : dn l n l.length k = dn l (n + 1) 0 k := by
  rw [dn_at h, dn_at h]
  by_cases d : 0 < l[k] ∧ (l[k] < n ∨ l[k] = n ∧ k < l.length)
  · rw [if_pos d, if_pos (by omega)]
  · rw [if_neg d, if_neg (by omega)]
theorem dn_first {l : List Int} {k : Nat} : dn l 1 0 k = 0 := by
  unfold dn
  split
  · rw [if_neg (by omega)]
  · rfl
theorem dn_last {l : List Int} {k : Nat} (hin : inL l) (h : k < l.length) : dn l 16 0 k = codeAt l k := by
  have := hin l[k] (List.getElem_mem h)
  rw [dn_at h]
  by_cases d : 0 < l[k]
  · rw [if_pos (by omega)]
  · rw [if_neg (by omega), codeAt_zero h (by omega)]; rfl
/-- how the document counts on -/
def St (l : List Int) (n i : Nat) (code last : Int) : Prop := (last = 0 ∧ code = 0 ∧ cur l n i = 0) ∨ ∃ c p : Nat, code = c ∧ last = p ∧ 1 ≤ p ∧ p ≤ n ∧ (c + 1) * 2 ^ (n - p) = cur l n i
theorem refCodes {W : World} {a : Option Addr} {cap : Nat} {l : List Int} {A : HP} (hr : RdB W A a l.length (l.map I)) (hl : l.length ≤ 1099511627776) :
    Cn Try.prog 21 [.slice a l.length cap] W [A] (fun q : Option Addr × Nat => .tuple #[.slice q.1 (cdL l).length q.2, .int .i64 (cdR l)]) (fun q => [Sl 1 3 q.1 q.2 (cdL l).length ((cdL l).map I), A]) := by
  (refine S.ref03_Codes_cn fun F => ?_; unfold S.ref03_Codes; simp only [List.cons_append, List.nil_append])
  (refine' e_call (weight hr hl) ?hp fun _ => ?_; (case hp => (repeat (first | exact Picks.nil | (apply Picks.cons; (focus (repeat constructor)))))); (try simp only [List.cons_append, List.nil_append, Bool.not_true, Bool.not_false]))
  refine e_opN (v_ext (v := .int .i64 (wsm l)) rfl) Imp.nil ?_
  refine e_opN (v_ext (v := .bool (decide (okL l))) rfl) Imp.nil ?_
  by_cases hok : ¬ okL l
  · rw [decide_eq_false hok]
    have hR : cdR l = 30 := by simp [cdR, hok]
    have hB : cdL l = [] := by simp [cdL, hok]
    rw [hR, hB]
    (((with_reducible refine e_opN v_notF Imp.nil ?_))); ((with_reducible refine e_condT ?_))
    (first | refine e_ret ((none, 0)) rfl ?_ | refine e_retT ((none, 0)) ?_)
    refine imp_nil ?_
    (repeat (first | exact Imp.refl | exact Imp.nil | (apply Imp.pick; (focus ((repeat constructor); done))) | refine Imp.drop ?_))
  have hok := Decidable.not_not.1 hok
  rw [decide_eq_true hok]
  have hR : cdR l = 0 := by simp [cdR, hok]
  have hB : cdL l = codes l := by simp [cdL, hok]
  have hlen := hok.len
  have hcl := length_codes l
  rw [hR, hB]
  (((with_reducible refine e_opN v_notT Imp.nil ?_))); ((with_reducible refine e_condF ?_)); (((with_reducible refine e_opN v_len Imp.nil ?_)))
  refine e_mksl l.length l.length (by rfl) (by rfl) (by omega) (by omega) (by unfold maxLen; omega) fun g3 => ?_
  rw [Ln_zero]
  refine e_loop3 (fun m x y z => [ex fun n : Nat => all [pu (m + n = 16 ∧ 1 ≤ n ∧ z = .int .i64 (n : Int) ∧ ∃ c p : Int, x = .int .i64 c ∧ y = .int .i64 p ∧ St l n 0 c p), Sl 1 3 (some ⟨g3, 0, none⟩) l.length l.length (Ln l.length (dn l n 0)), A]] ++ F) 15 ?_ ?_
  · refine Imp.ex 1 (.all ?_)
    (try simp only [List.cons_append, List.nil_append, -eq_self])
    refine .pu ⟨by omega, by omega, rfl, 0, 0, rfl, rfl, .inl ⟨rfl, rfl, by simp [cur, nx, cnt]⟩⟩ ?_
    rw [Ln_congr (fun j _ => dn_first (l := l) (k := j))]
    (repeat (first | exact Imp.refl | exact Imp.nil | (apply Imp.pick; (focus ((repeat constructor); done))) | refine Imp.drop ?_))
  intro m ds x y z
  (try simp only [List.cons_append, List.nil_append, -eq_self])
  refine e_ex Pick.here fun n => e_all Pick.here ?_
  (try simp only [List.cons_append, List.nil_append, -eq_self])
  refine e_pu Pick.here fun hi => ?_
  obtain ⟨hmn, hn1, rfl, c, p, rfl, rfl, hst⟩ := hi
  (refine e_ask v_leq Imp.nil (fun h => ?_) (fun h => ?_))
  · have hn15 : n ≤ 15 := by omega
    refine e_condT ?_
    refine e_loop3 (fun m2 x y z => [ex fun i : Nat => all [pu (m2 + i = l.length ∧ z = .int .i64 (i : Int) ∧ ∃ c p : Int, x = .int .i64 c ∧ y = .int .i64 p ∧ St l n i c p), Sl 1 3 (some ⟨g3, 0, none⟩) l.length l.length (Ln l.length (dn l n i)), A]] ++ F) l.length ?_ ?_
    · refine Imp.ex 0 (.all ?_)
      (try simp only [List.cons_append, List.nil_append, -eq_self])
      exact .pu ⟨by omega, rfl, c, p, rfl, rfl, hst⟩ .refl
    clear hst
    intro m2 ds x y z
    (try simp only [List.cons_append, List.nil_append, -eq_self])
    refine e_ex Pick.here fun i => e_all Pick.here ?_
    (try simp only [List.cons_append, List.nil_append, -eq_self])
    refine e_pu Pick.here fun hi => ?_
    obtain ⟨hmi, rfl, c, p, rfl, rfl, hst⟩ := hi
    have h15 := pow15 hn15
    (((with_reducible refine e_opN v_len Imp.nil ?_)))
    (refine e_ask v_lss Imp.nil (fun h => ?_) (fun h => ?_))
    · have hil : i < l.length := by omega
      obtain ⟨ga, oa, rfl, _⟩ := hr.at_ (by omega)
      refine e_condT ?_
      refine e_opN (v_ia1 i (by rfl) hil) Imp.nil ?_
      refine e_opN (v_ldRd hr (I_get hil)) (.pick (.there .here) .nil) ?_
      (refine e_ask v_neq Imp.nil (fun h => ?_) (fun h => ?_))
      · ((with_reducible refine e_condT ?_)); (((with_reducible refine e_opN (v_add ?h1 ?h2) Imp.nil ?_); (case h1 => omega); (case h2 => omega)))
        refine e_next3 (m2 - 1) (by omega) (.ex (i + 1) (.all ?_))
        (try simp only [List.cons_append, List.nil_append, -eq_self])
        refine .pu ⟨by omega, by norm_cast, c, p, rfl, rfl, ?_⟩ ?_
        · unfold St at hst ⊢
          rw [cur_succ hil, if_neg h]; exact hst
        · rw [Ln_congr (fun j hj => dn_skip hil h hj)]
          (repeat (first | exact Imp.refl | exact Imp.nil | (apply Imp.pick; (focus ((repeat constructor); done))) | refine Imp.drop ?_))
      · have hln : l[i] = (n : Int) := Decidable.not_not.1 h
        have hcu := hok.cur_lt' hil hln hn1 hn15
        have hca := codeAt_pos hil hln hn1
        refine e_condF ?_
        refine e_cut1 (fun z => pu (z = .int .i64 (codeAt l i : Int)) :: Sl 1 3 (some ⟨g3, 0, none⟩) l.length l.length (Ln l.length (dn l n i)) :: A :: F) ?_ ?_
        · intro ds z
          refine e_pu Pick.here fun hz => ?_
          subst hz
          refine e_opN (v_ia1 i (by rfl) hil) Imp.nil ?_
          refine e_stSl .here (by rw [Ln_len]; omega) ?_
          rw [show (Ln l.length (dn l n i)).set (0 + i) (.int .i64 (codeAt l i : Int)) = Ln l.length (dn l n (i + 1)) from by
            rw [Nat.zero_add]
            exact Ln_set.trans (Ln_congr fun j hj => (dn_put hil hn1 hln hj).symm)]
          (((with_reducible refine e_opN (v_add ?h1 ?h2) Imp.nil ?_); (case h1 => omega); (case h2 => omega)))
          refine e_next3 (m2 - 1) (by omega) (.ex (i + 1) (.all ?_))
          (try simp only [List.cons_append, List.nil_append, -eq_self])
          refine .pu ⟨by omega, by norm_cast, (codeAt l i : Int), (n : Int), rfl, rfl, .inr ⟨codeAt l i, n, rfl, rfl, hn1, by omega, ?_⟩⟩ .refl
          rw [cur_succ hil, if_pos hln, hca, Nat.sub_self]; omega
        · rcases hst with ⟨rfl, rfl, hc0⟩ | ⟨c', p', rfl, rfl, hp1, hpn, hcur⟩
          · refine e_opN v_gtr Imp.nil ?_
            rw [decide_eq_false (by omega)]
            ((with_reducible refine e_condF ?_))
            refine e_sat (.pu ?_ .refl)
            rw [hca, hc0]; rfl
          · have hle : c' + 1 ≤ (c' + 1) * 2 ^ (n - p') := Nat.le_mul_of_pos_right _ (Nat.two_pow_pos _)
            refine e_opN v_gtr Imp.nil ?_
            rw [decide_eq_true (by omega)]
            ((with_reducible refine e_condT ?_)); (((with_reducible refine e_opN (v_add ?h1 ?h2) Imp.nil ?_); (case h1 => omega); (case h2 => omega))); (((with_reducible refine e_opN (v_sub ?h1 ?h2) Imp.nil ?_); (case h1 => omega); (case h2 => omega)))
            refine e_opN v_conv Imp.nil ?_
            rw [wrapu64' (by omega) (by omega), show (n : Int) - (p' : Int) = ((n - p' : Nat) : Int) by omega]
            refine e_opN (v_shl (by omega)) Imp.nil ?_
            rw [shl64 (by omega) (by omega) (by omega)]
            refine e_sat (.pu ?_ .refl)
            rw [hca, ← hcur]; push_cast; rfl
    · have hie : i = l.length := by omega
      subst hie
      ((with_reducible refine e_condF ?_)); (((with_reducible refine e_opN (v_add ?h1 ?h2) Imp.nil ?_); (case h1 => omega); (case h2 => omega)))
      refine e_next3 (m - 1) (by omega) (.ex (n + 1) (.all ?_))
      (try simp only [List.cons_append, List.nil_append, -eq_self])
      refine .pu ⟨by omega, by omega, by norm_cast, c, p, rfl, rfl, ?_⟩ ?_
      · unfold St at hst ⊢
        rw [cur_next hn1]
        rcases hst with ⟨h1, h2, h3⟩ | ⟨c', p', h1, h2, h3, h4, h5⟩
        · exact .inl ⟨h1, h2, by omega⟩
        · refine .inr ⟨c', p', h1, h2, h3, by omega, ?_⟩
          rw [← h5, show n + 1 - p' = (n - p') + 1 by omega, Nat.pow_succ, ← Nat.mul_assoc, Nat.mul_comm]
      · rw [Ln_congr (fun j hj => (dn_next (l := l) (n := n) hj).symm)]
        (repeat (first | exact Imp.refl | exact Imp.nil | (apply Imp.pick; (focus ((repeat constructor); done))) | refine Imp.drop ?_))
  · have hne : n = 16 := by omega
    subst hne
    refine e_condF ?_
    rw [show Ln l.length (dn l 16 0) = (codes l).map I from (Ln_congr fun j hj => by rw [dn_last hok.ins hj, if_pos hj]).trans (Ln_codes l)]
    refine e_ret (some ⟨g3, 0, none⟩, l.length) (by rw [hcl]) ?_
    rw [hcl]
    (repeat (first | exact Imp.refl | exact Imp.nil | (apply Imp.pick; (focus ((repeat constructor); done))) | refine Imp.drop ?_))
end Go.Proofs.Ytehfblkpbadikaa.HF
/-! Maps as functions; keys that are numbers; delete. No conditions but those that each names. -/
namespace Go.Proofs.Ytehfblkpbadikaa.Sl
open Go Go.RowKit Go.Proofs.Ytehfblkpbadikaa.Sh
variable {P : Program} {W : World} {L L' : List HP} {Kp : PK} {k : Value → WP}
def encI (n : Int) : Value := .int .i64 n
theorem keyI {kt : TypeId} (hk : P.underlying kt = some (.int .i64)) : KeyLaw P kt encI where
  check := fun b k w => MapKept.run_checkKey (n := 9999) (d := .int .i64) hk (by simp [MapKept.IsKey, encI]) b
  eq := fun k k' w => by
    unfold encI Op.equal Op.maxDepth
    have := run_equalIn_int (P := P) w 9999 kt .i64 .i64 k k' hk
    rw [this]
    by_cases h : k = k' <;> simp [h]
  now := ⟨.int .i64, hk, fun k k' => .inr (by
    by_cases h : k = k' <;> simp [Instr.sameNow, encI, h])⟩
  same := fun k => by simp [Instr.sameBits, encI]
variable {κ : Type} [DecidableEq κ] {enc : κ → Value} {t kt : TypeId}
/-- the map without a key -/
def delM (q : κ) (m : List (κ × Value)) : List (κ × Value) := match fnd q m 0 with
  | some (i, _) => m.eraseIdx i
  | none => m
theorem fnd_get (q : κ) : ∀ (m : List (κ × Value)) (i j : Nat) (v : Value), fnd q m i = some (j, v) → i ≤ j ∧ m[j - i]? = some (q, v)
  | [], i, j, v, h => by simp [fnd] at h
  | p :: m, i, j, v, h => by
    unfold fnd at h
    by_cases c : q = p.1
    · rw [if_pos c] at h
      simp at h
      obtain ⟨rfl, rfl⟩ := h
      simp [c]
    · rw [if_neg c] at h
      obtain ⟨h1, h2⟩ := fnd_get q m (i + 1) j v h
      refine ⟨by omega, ?_⟩
      rw [show j - i = (j - (i + 1)) + 1 by omega]; simpa using h2
theorem fnd_none (q : κ) : ∀ (m : List (κ × Value)) (i : Nat), fnd q m i = none ↔ q ∉ m.map (·.1)
  | [], i => by simp [fnd]
  | p :: m, i => by
    unfold fnd
    by_cases c : q = p.1
    · rw [if_pos c]; simp [c]
    · rw [if_neg c, fnd_none q m (i + 1)]; simp [c]
theorem fnd_shift (q : κ) : ∀ (m : List (κ × Value)) (i j : Nat), (fnd q m i).map (·.2) = (fnd q m j).map (·.2)
  | [], i, j => rfl
  | p :: m, i, j => by
    unfold fnd
    split
    · rfl
    · exact fnd_shift q m (i + 1) (j + 1)
theorem getM_cons (q : κ) (p : κ × Value) (m : List (κ × Value)) : getM q (p :: m) = if q = p.1 then some p.2 else getM q m := by
  unfold getM
  rw [fnd]
  split
  · rfl
  · exact fnd_shift q m 1 0
theorem getM_none {q : κ} {m : List (κ × Value)} : getM q m = none ↔ q ∉ m.map (·.1) := by
  unfold getM
  rw [Option.map_eq_none_iff, fnd_none]
theorem delM_cons (q : κ) (p : κ × Value) (m : List (κ × Value)) : delM q (p :: m) = if q = p.1 then m else p :: delM q m := by
  unfold delM
  rw [fnd]
  by_cases c : q = p.1
  · simp [c]
  · rw [if_neg c, if_neg c]
    have key : ∀ (m : List (κ × Value)) (i : Nat), (match fnd q m (i + 1) with | some (j, _) => (p :: m).eraseIdx (j - i) | none => p :: m) = p :: (match fnd q m i with | some (j, _) => m.eraseIdx (j - i) | none => m) := by
      intro m
      have sh : ∀ (m : List (κ × Value)) (i : Nat), fnd q m (i + 1) = (fnd q m i).map fun x => (x.1 + 1, x.2) := by
        intro m
        induction m with
        | nil => intro i; rfl
        | cons p m ih =>
          intro i
          unfold fnd
          split
          · rfl
          · exact ih (i + 1)
      intro i
      rw [sh]
      cases hf : fnd q m i with
      | none => rfl
      | some x =>
        obtain ⟨j, v⟩ := x
        have := (fnd_get q m i j v hf).1
        simp only [Option.map_some]
        rw [show j + 1 - i = (j - i) + 1 by omega]; rfl
    have := key m 0
    simpa using this
theorem delM_keys (q : κ) : ∀ m : List (κ × Value), ((delM q m).map (·.1)).Sublist (m.map (·.1))
  | [] => by simp [delM, fnd]
  | p :: m => by
    rw [delM_cons]
    split
    · rw [List.map_cons]; exact List.sublist_cons_self _ _
    · rw [List.map_cons, List.map_cons]; exact (delM_keys q m).cons_cons _
theorem getM_delM (q q' : κ) : ∀ m : List (κ × Value), (m.map (·.1)).Nodup → getM q' (delM q m) = if q' = q then none else getM q' m
  | [], _ => by simp [delM, fnd, getM]
  | p :: m, h => by
    rw [List.map_cons, List.nodup_cons] at h
    have ih := getM_delM q q' m h.2
    rw [delM_cons]
    by_cases c : q = p.1
    · rw [if_pos c, getM_cons]
      by_cases d : q' = q
      · rw [if_pos d, d, c]
        exact getM_none.2 h.1
      · rw [if_neg d, if_neg (by rw [← c]; exact d)]
    · rw [if_neg c, getM_cons, getM_cons, ih]
      by_cases d : q' = p.1
      · rw [if_pos d, if_neg (by rw [d]; exact fun e => c e.symm), if_pos d]
      · rw [if_neg d, if_neg d]
theorem setM_keys (q : κ) (v : Value) : ∀ m : List (κ × Value), (m.map (·.1)).Nodup → ((setM q v m).map (·.1)).Nodup ∧ ∀ x, x ∈ (setM q v m).map (·.1) → x = q ∨ x ∈ m.map (·.1)
  | [], _ => by simp [setM]
  | p :: m, h => by
    rw [List.map_cons, List.nodup_cons] at h
    have ih := setM_keys q v m h.2
    unfold setM
    by_cases c : q = p.1
    · rw [if_pos c]
      refine ⟨by rw [List.map_cons, List.nodup_cons]; exact h, fun x hx => .inr hx⟩
    · rw [if_neg c]
      refine ⟨?_, fun x hx => ?_⟩
      · rw [List.map_cons, List.nodup_cons]
        refine ⟨fun hx => ?_, ih.1⟩
        rcases ih.2 _ hx with e | e
        · exact c e.symm
        · exact h.1 e
      · rw [List.map_cons, List.mem_cons] at hx
        rcases hx with e | e
        · exact .inr (by rw [List.map_cons, e]; exact List.mem_cons_self ..)
        · rcases ih.2 _ e with e | e
          · exact .inl e
          · exact .inr (by rw [List.map_cons]; exact List.mem_cons_of_mem _ e)
theorem map_erase {α β : Type} (f : α → β) : ∀ (l : List α) (i : Nat), (l.eraseIdx i).map f = (l.map f).eraseIdx i
  | [], _ => by simp
  | x :: l, 0 => by simp
  | x :: l, i + 1 => by simp [map_erase f l i]
theorem Ents.del {es : Array MapEntry} {c i : Nat} {m : List (κ × Value)} (h : Ents enc es c m) : Ents enc (es.eraseIdxIfInBounds i) c (m.eraseIdx i) := by
  have e0 : (es.eraseIdxIfInBounds i).toList = es.toList.eraseIdx i := by
    unfold Array.eraseIdxIfInBounds
    split
    · simp
    · rw [List.eraseIdx_of_length_le]; simpa using Nat.le_of_not_lt ‹_›
  refine ⟨?_, ?_, ?_⟩
  · rw [e0, map_erase, map_erase, h.kvs]
  · intro e he
    rw [e0] at he
    exact h.born e (List.mem_of_mem_eraseIdx he)
  · rw [e0, map_erase]
    exact h.nodup.sublist (List.eraseIdx_sublist _ _)
theorem e_mapdel {e ty : TypeId} {g : Nat} {m : List (κ × Value)} {q : κ} {kt' : TypeId} [ht : MapT P t kt e] (K : KeyLaw P kt enc) (p : Pick L (MapIs g enc m) L') (h : Ent W (MapIs g enc (delM q m) :: L') (k (.tuple #[]))) : Ent W L (opN P (sDel #[t, kt'] ty [.map (some g), enc q]) Kp k) := fun w hw => by
  obtain ⟨es, c, he, hp⟩ := map_row (hw.pick p)
  have hg := hp.pt_.1
  have hf := findKey_run K q w he.kvs
  refine ⟨?_⟩
  cases hq : fnd q m 0 with
  | none =>
    have : (sDel #[t, kt'] ty [.map (some g), enc q]).run P w = .ok (.value (.tuple #[])) { w with heap := w.heap.setIfInBounds g (.map es c) } := by
      simp [sDel, Builtin.delete_, run_underlying ht.ut, MapKept.run_getObj_map hg, K.check, hf, hq, Result.andThen, MapKept.run_setObj_map _ hg]
    rw [this]
    refine h _ (map_back ?_ (hp.putObj _))
    rw [show delM q m = m by simp [delM, hq]]; exact he
  | some r =>
    obtain ⟨i, u⟩ := r
    have : (sDel #[t, kt'] ty [.map (some g), enc q]).run P w = .ok (.value (.tuple #[])) { w with heap := w.heap.setIfInBounds g (.map (es.eraseIdxIfInBounds i) c) } := by
      simp [sDel, Builtin.delete_, run_underlying ht.ut, MapKept.run_getObj_map hg, K.check, hf, hq, Result.andThen, MapKept.run_setObj_map _ hg]
    rw [this]
    refine h _ (map_back ?_ (hp.putObj _))
    rw [show delM q m = m.eraseIdx i by simp [delM, hq]]; exact he.del
/-- the map at g holds what f says -/
def MapFn (g : Nat) (enc : κ → Value) (f : κ → Option Value) : HP := ex fun m => all [pu ((m.map (·.1)).Nodup ∧ ∀ q, getM q m = f q), MapIs g enc m]
def updM (f : κ → Option Value) (q : κ) (v : Option Value) : κ → Option Value := fun x => if x = q then v else f x
theorem e_mf {g : Nat} {f : κ → Option Value} {S : WP} (p : Pick L (MapFn g enc f) L') (h : ∀ m, (m.map (·.1)).Nodup → (∀ q, getM q m = f q) → Ent W (MapIs g enc m :: L') S) : Ent W L S := by
  refine e_ex p fun m => e_all .here ?_
  refine e_pu .here fun hm => h m hm.1 hm.2
theorem imp_mf {g : Nat} {f : κ → Option Value} {M : List HP} {m : List (κ × Value)} (p : Pick L (MapIs g enc m) L') (h1 : (m.map (·.1)).Nodup) (h2 : ∀ q, getM q m = f q) (h : Imp W L' M) : Imp W L (MapFn g enc f :: M) :=
  .ex m (.all (.pu ⟨h1, h2⟩ (.pick p h)))
theorem e_lookF {e : TypeId} {z : Value} {g : Nat} {f : κ → Option Value} {q : κ} [ht : MapT P t kt e] [hz : ZeroT P e z] (K : KeyLaw P kt enc) (p : Pick L (MapFn g enc f) L') (h : Ent W (MapFn g enc f :: L') (k ((f q).getD z))) : Ent W L (opN P (sLook t (.map (some g)) (enc q) false) Kp k) :=
  e_mf p fun m h1 h2 => e_opN (v_look K) (.pick .here .nil) (e_imp (imp_mf .here h1 h2 .refl) (by rw [h2]; exact h))
theorem e_lookFOk {e : TypeId} {z : Value} {g : Nat} {f : κ → Option Value} {q : κ} [ht : MapT P t kt e] [hz : ZeroT P e z] (K : KeyLaw P kt enc) (p : Pick L (MapFn g enc f) L') (h : Ent W (MapFn g enc f :: L') (k (.tuple #[(f q).getD z, .bool (f q).isSome]))) : Ent W L (opN P (sLook t (.map (some g)) (enc q) true) Kp k) :=
  e_mf p fun m h1 h2 => e_opN (v_lookOk K) (.pick .here .nil) (e_imp (imp_mf .here h1 h2 .refl) (by rw [h2]; exact h))
theorem e_setF {e : TypeId} {g : Nat} {f : κ → Option Value} {q : κ} {v : Value} [ht : MapT P t kt e] (K : KeyLaw P kt enc) (p : Pick L (MapFn g enc f) L') (h : Ent W (MapFn g enc (updM f q (some v)) :: L') (k undef)) : Ent W L (opN P (sMapSet t (.map (some g)) (enc q) v) Kp k) :=
  e_mf p fun m h1 h2 => e_mapset K .here (e_imp (imp_mf .here (setM_keys q v m h1).1 (fun x => by rw [getM_setM, h2]; rfl) .refl) h)
theorem e_delF {e ty : TypeId} {g : Nat} {f : κ → Option Value} {q : κ} {kt' : TypeId} [ht : MapT P t kt e] (K : KeyLaw P kt enc) (p : Pick L (MapFn g enc f) L') (h : Ent W (MapFn g enc (updM f q none) :: L') (k (.tuple #[]))) : Ent W L (opN P (sDel #[t, kt'] ty [.map (some g), enc q]) Kp k) :=
  e_mf p fun m h1 h2 => e_mapdel K .here (e_imp (imp_mf .here (h1.sublist (delM_keys q m)) (fun x => by rw [getM_delM q x m h1, h2]; rfl) .refl) h)
theorem e_mkF {e : TypeId} (enc : κ → Value) [ht : MapT P t kt e] (h : ∀ g, Ent W (MapFn g enc (fun _ => none) :: L) (k (.map (some g)))) : Ent W L (opN P (sMkMap t none) Kp k) :=
  e_mkmap enc fun g => e_imp (imp_mf .here (by simp) (fun q => by simp [getM, fnd]) .refl) (h g)
theorem v_eqMap {P : Program} {W : World} {t kt e : TypeId} {ox oy : Operand} {g : Nat} [ht : MapT P t kt e] : RunV P W [] (sEq .eql t ox oy (.map (some g)) (.map none)) (.bool false) := fun w _ => by
  have h : (Op.equal t (.map (some g)) (.map none)).run P w = .ok false w := by
    unfold Op.equal Op.maxDepth Op.equalIn
    simp only [Sem.run_bind, run_underlying ht.ut, Result.andThen_ok]
    rfl
  simp [sEq, sv, eqGuard, binOp, h, Result.andThen]
theorem v_eqMap0 {P : Program} {W : World} {t kt e : TypeId} {ox oy : Operand} [ht : MapT P t kt e] : RunV P W [] (sEq .eql t ox oy (.map none) (.map none)) (.bool true) := fun w _ => by
  have h : (Op.equal t (.map none) (.map none)).run P w = .ok true w := by
    unfold Op.equal Op.maxDepth Op.equalIn
    simp only [Sem.run_bind, run_underlying ht.ut, Result.andThen_ok]
    rfl
  simp [sEq, sv, eqGuard, binOp, h, Result.andThen]
end Go.Proofs.Ytehfblkpbadikaa.Sl
/-! Decoders, the program's and the document's. No conditions but those that each names. -/
namespace Go.Proofs.Ytehfblkpbadikaa.HF
open Go Go.Proofs Go.RowKit Go.Proofs.Ytehfblkpbadikaa.Sh Go.Proofs.Ytehfblkpbadikaa.Sl Go.Proofs.Ytehfblkpbadikaa.T Go.Proofs.Ytehfblkpbadikaa.HM Go.Proofs.Ytehfblkpbadikaa.B Go.Proofs.Ytehfblkpbadikaa.M
def encC (p : Int × Int) : Value := .agg #[.int .i64 p.1, .int .i64 p.2]
theorem keyC : KeyLaw Try.prog 109 encC where
  check := fun b k w => by
    unfold encC Instr.checkKey
    simp only [Sem.run_bind, Try.runUnderlying109, Result.andThen_ok]
    have hk : ∀ (v : Int) (w : World), (Instr.checkKey b 9999 3 (.int .i64 v)).run Try.prog w = .ok () w := fun v w => MapKept.run_checkKey (n := 9998) (d := .int .i64) (by kernel_rfl) (by simp [MapKept.IsKey]) b
    simp [part, Try.isAgg3, hk, Result.andThen]
  eq := fun k k' w => by
    have hs : Try.prog.stoodInHeld 109 = false := by kernel_rfl
    unfold encC Op.equal Op.maxDepth Op.equalIn
    have hp : (program).run Try.prog w = .ok Try.prog w := rfl
    simp only [Sem.run_bind, Try.runUnderlying109, Result.andThen_ok, hp, hs]
    have he : ∀ (a b : Int) (w : World), (Op.equalIn 9999 3 (.int .i64 a) (.int .i64 b)).run Try.prog w = .ok (a == b) w := fun a b w => run_equalIn_int w 9998 3 .i64 .i64 a b (by kernel_rfl)
    obtain ⟨k1, k2⟩ := k
    obtain ⟨l1, l2⟩ := k'
    simp [part, Try.isAgg3, he, Result.andThen]
    by_cases h1 : k1 = l1
    · subst h1
      by_cases h2 : k2 = l2
      · subst h2
        simp [Try.isAgg3, he, Result.andThen]
      · simp [Try.isAgg3, he, Result.andThen, h2]
    · simp [h1, Result.andThen]
  now := ⟨.struct (Try.prog.fieldsOf 109), by kernel_rfl, fun k k' => .inl rfl⟩
  same := fun k => by
    unfold encC Instr.sameBits
    simp [Instr.sameBits]
/-- the first symbol of a length with a code -/
def fL (l : List Int) (n c : Int) : Nat → Option Nat
  | 0 => none
  | k + 1 => match fL l n c k with
    | some j => some j
    | none => if 0 < n ∧ l[k]? = some n ∧ (codeAt l k : Int) = c then some k else none
theorem fL_up {l : List Int} {n c : Int} {k j : Nat} (h : fL l n c k = some j) : ∀ m, fL l n c (k + m) = some j
  | 0 => h
  | m + 1 => by rw [← Nat.add_assoc, fL, fL_up h m]
theorem fL_sound {l : List Int} {n c : Int} : ∀ {k j : Nat}, fL l n c k = some j → j < k ∧ 0 < n ∧ l[j]? = some n ∧ (codeAt l j : Int) = c
  | 0, j, h => by cases h
  | k + 1, j, h => by
    unfold fL at h
    cases hk : fL l n c k with
    | some i =>
      rw [hk] at h
      have := Option.some.inj h
      subst this
      obtain ⟨h1, h2⟩ := fL_sound hk
      exact ⟨by omega, h2⟩
    | none =>
      rw [hk] at h
      simp only at h
      by_cases hc : 0 < n ∧ l[k]? = some n ∧ (codeAt l k : Int) = c
      · rw [if_pos hc] at h
        have := Option.some.inj h
        subst this
        exact ⟨by omega, hc⟩
      · rw [if_neg hc] at h; cases h
theorem fL_none {l : List Int} {n c : Int} : ∀ {k : Nat}, fL l n c k = none → ∀ j, j < k → ¬ (0 < n ∧ l[j]? = some n ∧ (codeAt l j : Int) = c)
  | 0, h, j, hj => by omega
  | k + 1, h, j, hj => by
    unfold fL at h
    cases hk : fL l n c k with
    | some i => rw [hk] at h; cases h
    | none =>
      rw [hk] at h
      simp only at h
      by_cases c1 : j = k
      · subst c1
        intro hc
        rw [if_pos hc] at h; cases h
      · exact fL_none hk j (by omega)
/-- codes are apart, as the search sees them -/
theorem fL_apart {l : List Int} (hin : inL l) {k : Nat} (hk : k < l.length) (hp : 0 < l[k]) : fL l l[k] (codeAt l k) k = none := by
  cases h : fL l l[k] (codeAt l k) k with
  | none => rfl
  | some j =>
    obtain ⟨h1, h2, h3, h4⟩ := fL_sound h
    obtain ⟨n, hn⟩ := Int.eq_ofNat_of_zero_le (show 0 ≤ l[k] by omega)
    have hj : j < l.length := by omega
    rw [List.getElem?_eq_getElem hj] at h3
    have h3 := Option.some.inj h3
    have := apart hj hk (by omega) (h3.trans hn) hn (by omega) (Nat.le_refl n)
    rw [Nat.sub_self, Nat.pow_zero, Nat.div_one] at this
    exact absurd (by exact_mod_cast h4.symm) this
def pos (l : List Int) : Prop := ∃ x ∈ l, 0 < x
instance (l : List Int) : Decidable (pos l) := by unfold pos; infer_instance
theorem wk_pos {l : List Int} (h : inL l) : 0 < wk l 15 ↔ pos l := by
  induction l with
  | nil => exact ⟨fun c => by simp [wk] at c, fun ⟨x, hx, _⟩ => by cases hx⟩
  | cons x l ih =>
    have ih := ih (fun y hy => h y (List.mem_cons_of_mem _ hy))
    have hx := h x List.mem_cons_self
    simp only [wk]
    by_cases c : 0 < x
    · rw [if_pos ⟨c, by omega⟩]
      have := Nat.two_pow_pos (15 - x.toNat)
      exact ⟨fun _ => ⟨x, List.mem_cons_self, c⟩, fun _ => by omega⟩
    · rw [if_neg (by omega), Nat.zero_add, ih]
      constructor
      · rintro ⟨y, hy, h2⟩; exact ⟨y, List.mem_cons_of_mem _ hy, h2⟩
      · rintro ⟨y, hy, h2⟩
        rcases List.mem_cons.1 hy with rfl | hy
        · exact absurd h2 c
        · exact ⟨y, hy, h2⟩
structure DecOK (l : List Int) (i : Nat) (m : List ((Int × Int) × Value)) : Prop where
  get : ∀ n c, getM (n, c) m = (fL l n c i).map fun j : Nat => Value.int .i64 (j : Int)
  emp : m = [] ↔ ¬ ∃ k, k < i ∧ ∃ x, l[k]? = some x ∧ 0 < x
/-- the program's decoder at p -/
def IsDec (p : Nat) (l : List Int) : HP := ex fun g : Nat => ex fun m : List ((Int × Int) × Value) => all [pt p (.cells #[.map (some g)] 82), MapIs g encC m, pu (DecOK l l.length m)]
/-- the document's -/
def IsDoc (p : Nat) (l : List Int) : HP := ex fun q : (Option Addr × Nat) × (Option Addr × Nat) => all [pt p (.cells #[.slice q.1.1 l.length q.1.2, .slice q.2.1 l.length q.2.2, .bool (decide (pos l))] 111), Sl 1 3 q.1.1 q.1.2 l.length (l.map I), Sl 1 3 q.2.1 q.2.2 l.length ((codes l).map I)]
section
variable {W : World} {A : HP} {a : Option Addr} {cap : Nat} {l : List Int}
theorem newDec (hr : RdB W A a l.length (l.map I)) (hok : okL l) :
    Cn Try.prog 35 [.slice a l.length cap] W [A] (fun p : Nat => .tuple #[.pointer (some ⟨p, 0, none⟩), .int .i64 0]) (fun p => [IsDec p l, A]) := by
  (refine S.huff_NewDecoder_cn fun F => ?_; unfold S.huff_NewDecoder; simp only [List.cons_append, List.nil_append])
  have hlen := hok.len
  have hR : cdR l = 0 := by simp [cdR, hok]
  have hB : cdL l = codes l := by simp [cdL, hok]
  have hcl := length_codes l
  (refine' e_call (codes_ hr (by omega)) ?hp fun _ => ?_; (case hp => (repeat (first | exact Picks.nil | (apply Picks.cons; (focus (repeat constructor)))))); (try simp only [List.cons_append, List.nil_append, Bool.not_true, Bool.not_false]))
  rename_i q
  obtain ⟨qa, qc⟩ := q
  rw [hR, hB, hcl]
  (try dsimp only)
  (((with_reducible refine' e_opN (v_extN ?hc) Imp.nil ?_); (case hc => (repeat (first | exact Nth.here | apply Nth.there))))); (((with_reducible refine' e_opN (v_extN ?hc) Imp.nil ?_); (case hc => (repeat (first | exact Nth.here | apply Nth.there)))))
  refine e_opN v_neq Imp.nil ?_
  rw [decide_eq_false (by omega)]
  ((with_reducible refine e_condF ?_))
  refine e_mkmap encC fun gm => ?_
  (((with_reducible refine e_opN v_rv Imp.nil ?_))); (((with_reducible refine e_boxA fun g => ?_))); (((with_reducible refine e_opN v_len Imp.nil ?_)))
  refine e_slfacts (.there (.there .here)) fun f1 f2 f3 f4 => ?_
  refine e_loop1 (fun m y => [ex fun i : Nat => ex fun mp : List ((Int × Int) × Value) => all [pu (m + i = l.length ∧ y = .int .i64 (i : Int) ∧ DecOK l i mp), MapIs gm encC mp, pt g (.cells #[.map (some gm)] 82), Sl 1 3 qa qc l.length ((codes l).map I), A]] ++ F) l.length ?_ ?_
  · refine .ex 0 (.ex [] (.all ?_))
    (try simp only [List.cons_append, List.nil_append, -eq_self])
    refine .pu ⟨by omega, rfl, fun n c => rfl, ⟨fun _ ⟨k, hk, _⟩ => by omega, fun _ => rfl⟩⟩ ?_
    exact .pick (by (repeat constructor)) (.pick (by (repeat constructor)) (.pick (by (repeat constructor)) (.pick (by (repeat constructor)) .refl)))
  intro m ds y
  (try simp only [List.cons_append, List.nil_append, -eq_self])
  refine e_ex Pick.here fun i => e_ex Pick.here fun mp => e_all Pick.here ?_
  (try simp only [List.cons_append, List.nil_append, -eq_self])
  refine e_pu Pick.here fun hi => ?_
  obtain ⟨hmi, rfl, hdec⟩ := hi
  (refine e_ask v_lss Imp.nil (fun h => ?_) (fun h => ?_))
  · have hil : i < l.length := by omega
    obtain ⟨ga, oa, rfl, _⟩ := hr.at_ (by omega)
    obtain ⟨gq, rfl⟩ := f4 (by omega)
    refine e_condT ?_
    refine e_opN (v_ia1 i (by rfl) hil) Imp.nil ?_
    refine e_opN (v_ldRd hr (I_get hil)) (.pick (by (repeat constructor)) .nil) ?_
    have hli : l[i]? = some l[i] := List.getElem?_eq_getElem hil
    (refine e_ask v_gtr Imp.nil (fun h => ?_) (fun h => ?_))
    · have hap := fL_apart hok.ins hil h
      have gi : ((codes l).map I)[0 + i]? = some (I (codeAt l i)) := by rw [Nat.zero_add, List.getElem?_map, codes, List.getElem?_map, List.getElem?_range hil]; rfl
      ((with_reducible refine e_condT ?_)); ((with_reducible refine e_drS ?_)); (((with_reducible refine e_stS v_nil Imp.nil ?_))); (((with_reducible refine e_stS v_fa0 Imp.nil ?_))); (((with_reducible refine' e_stS (v_ldN ?hc) ?hi ?_); (case hi => (repeat (first | exact Imp.refl | exact Imp.nil | (apply Imp.pick; (focus ((repeat constructor); done))) | refine Imp.drop ?_))); (case hc => (repeat (first | exact Nth.here | apply Nth.there)))))
      refine e_stS (v_ia1 i (by rfl) hil) Imp.nil ?_
      refine e_stS (v_ldSl gi) (.pick (by (repeat constructor)) .nil) ?_
      (((with_reducible refine e_stS v_rv Imp.nil ?_)))
      refine e_mapset (q := (l[i], (codeAt l i : Int))) keyC (by (repeat constructor)) ?_
      (((with_reducible refine e_opN (v_add ?h1 ?h2) Imp.nil ?_); (case h1 => omega); (case h2 => omega)))
      refine e_next1 (m - 1) (by omega) (.ex (i + 1) (.ex (setM (l[i], (codeAt l i : Int)) (.int .i64 (i : Int)) mp) (.all ?_)))
      (try simp only [List.cons_append, List.nil_append, -eq_self])
      refine .pu ⟨by omega, by norm_cast, fun n c => ?_, ⟨fun c => ?_, fun c => absurd ⟨i, by omega, l[i], hli, h⟩ c⟩⟩ ?_
      · rw [getM_setM, fL]
        by_cases e : (n, c) = (l[i], (codeAt l i : Int))
        · injection e with e1 e2
          subst e1; subst e2
          rw [if_pos rfl, hap]
          simp only
          rw [if_pos ⟨h, hli, by first | trivial | rfl⟩]; rfl
        · rw [if_neg e, hdec.get]
          cases hf : fL l n c i with
          | some j => rfl
          | none =>
            simp only
            rw [if_neg (fun d => e (by
              have d2 := d.2.1
              rw [hli] at d2
              rw [← Option.some.inj d2, ← d.2.2]))]
      · exfalso
        have : ∀ m : List ((Int × Int) × Value), setM (l[i], (codeAt l i : Int)) (.int .i64 (i : Int)) m ≠ [] := fun m => by
          cases m with
          | nil => simp [setM]
          | cons p m => unfold setM; split <;> simp
        exact this mp c
      · exact .pick (by (repeat constructor)) (.pick (by (repeat constructor)) (.pick (by (repeat constructor)) (.pick (by (repeat constructor)) .refl)))
    · ((with_reducible refine e_condF ?_)); (((with_reducible refine e_opN (v_add ?h1 ?h2) Imp.nil ?_); (case h1 => omega); (case h2 => omega)))
      refine e_next1 (m - 1) (by omega) (.ex (i + 1) (.ex mp (.all ?_)))
      (try simp only [List.cons_append, List.nil_append, -eq_self])
      refine .pu ⟨by omega, by norm_cast, fun n c => ?_, ?_⟩ ?_
      · rw [hdec.get, fL]
        cases hf : fL l n c i with
        | some j => rfl
        | none =>
          simp only
          rw [if_neg (fun d => by
            have d2 := d.2.1
            rw [hli] at d2
            have := Option.some.inj d2
            omega)]
      · rw [hdec.emp]
        constructor
        · rintro hn ⟨k, hk, x, hx, hx0⟩
          by_cases c : k = i
          · subst c
            rw [hli] at hx
            have := Option.some.inj hx
            omega
          · exact hn ⟨k, by omega, x, hx, hx0⟩
        · rintro hn ⟨k, hk, x, hx, hx0⟩
          exact hn ⟨k, by omega, x, hx, hx0⟩
      · exact .pick (by (repeat constructor)) (.pick (by (repeat constructor)) (.pick (by (repeat constructor)) (.pick (by (repeat constructor)) .refl)))
  · have hie : i = l.length := by omega
    subst hie
    ((with_reducible refine e_condF ?_))
    refine e_ret g rfl ?_
    refine .ex gm (.ex mp (.all ?_))
    (try simp only [List.cons_append, List.nil_append, -eq_self])
    exact .pick (by (repeat constructor)) (.pick (by (repeat constructor)) (.pu hdec (by (repeat (first | exact Imp.refl | exact Imp.nil | (apply Imp.pick; (focus ((repeat constructor); done))) | refine Imp.drop ?_)))))
theorem newDec0 (hr : RdB W A a l.length (l.map I)) (hl : l.length ≤ 4611686018427387904) (hok : ¬ okL l) :
    Cn Try.prog 35 [.slice a l.length cap] W [A] (fun _ : Unit => .tuple #[.pointer none, .int .i64 30]) (fun _ => [A]) := by
  (refine S.huff_NewDecoder_cn fun F => ?_; unfold S.huff_NewDecoder; simp only [List.cons_append, List.nil_append])
  have hR : cdR l = 30 := by simp [cdR, hok]
  (refine' e_call (codes_ hr hl) ?hp fun _ => ?_; (case hp => (repeat (first | exact Picks.nil | (apply Picks.cons; (focus (repeat constructor)))))); (try simp only [List.cons_append, List.nil_append, Bool.not_true, Bool.not_false]))
  rename_i q
  obtain ⟨qa, qc⟩ := q
  rw [hR]
  (try dsimp only)
  (((with_reducible refine' e_opN (v_extN ?hc) Imp.nil ?_); (case hc => (repeat (first | exact Nth.here | apply Nth.there))))); (((with_reducible refine' e_opN (v_extN ?hc) Imp.nil ?_); (case hc => (repeat (first | exact Nth.here | apply Nth.there)))))
  refine e_opN v_neq Imp.nil ?_
  rw [decide_eq_true (by omega)]
  ((with_reducible refine e_condT ?_))
  (first | refine e_ret (()) rfl ?_ | refine e_retT (()) ?_)
  (repeat (first | exact Imp.refl | exact Imp.nil | (apply Imp.pick; (focus ((repeat constructor); done))) | refine Imp.drop ?_))
theorem newDoc0 (hr : RdB W A a l.length (l.map I)) (hl : l.length ≤ 1099511627776) (hok : ¬ okL l) :
    Cn Try.prog 36 [.slice a l.length cap] W [A] (fun _ : Unit => .tuple #[.pointer none, .int .i64 30]) (fun _ => [A]) := by
  (refine S.ref03_NewDecoder_cn fun F => ?_; unfold S.ref03_NewDecoder; simp only [List.cons_append, List.nil_append])
  have hR : cdR l = 30 := by simp [cdR, hok]
  (refine' e_call (refCodes hr hl) ?hp fun _ => ?_; (case hp => (repeat (first | exact Picks.nil | (apply Picks.cons; (focus (repeat constructor)))))); (try simp only [List.cons_append, List.nil_append, Bool.not_true, Bool.not_false]))
  rename_i q
  obtain ⟨qa, qc⟩ := q
  rw [hR]
  (try dsimp only)
  (((with_reducible refine' e_opN (v_extN ?hc) Imp.nil ?_); (case hc => (repeat (first | exact Nth.here | apply Nth.there))))); (((with_reducible refine' e_opN (v_extN ?hc) Imp.nil ?_); (case hc => (repeat (first | exact Nth.here | apply Nth.there)))))
  refine e_opN v_neq Imp.nil ?_
  rw [decide_eq_true (by omega)]
  ((with_reducible refine e_condT ?_))
  (first | refine e_ret (()) rfl ?_ | refine e_retT (()) ?_)
  (repeat (first | exact Imp.refl | exact Imp.nil | (apply Imp.pick; (focus ((repeat constructor); done))) | refine Imp.drop ?_))
theorem newDoc (hr : RdB W A a l.length (l.map I)) (hok : okL l) :
    Cn Try.prog 36 [.slice a l.length cap] W [A] (fun p : Nat => .tuple #[.pointer (some ⟨p, 0, none⟩), .int .i64 0]) (fun p => [IsDoc p l, A]) := by
  (refine S.ref03_NewDecoder_cn fun F => ?_; unfold S.ref03_NewDecoder; simp only [List.cons_append, List.nil_append])
  have hlen := hok.len
  have hR : cdR l = 0 := by simp [cdR, hok]
  have hB : cdL l = codes l := by simp [cdL, hok]
  have hcl := length_codes l
  (refine' e_call (refCodes hr (by omega)) ?hp fun _ => ?_; (case hp => (repeat (first | exact Picks.nil | (apply Picks.cons; (focus (repeat constructor)))))); (try simp only [List.cons_append, List.nil_append, Bool.not_true, Bool.not_false]))
  rename_i q
  obtain ⟨qa, qc⟩ := q
  rw [hR, hB, hcl]
  (try dsimp only)
  refine e_opN (v_ext (v := .slice qa l.length qc) rfl) Imp.nil ?_
  refine e_opN (v_ext (v := .int .i64 0) rfl) Imp.nil ?_
  refine e_opN v_neq Imp.nil ?_
  rw [decide_eq_false (by omega)]
  ((with_reducible refine e_condF ?_))
  (refine' e_call (weight hr (by omega)) ?hp fun _ => ?_; (case hp => (repeat (first | exact Picks.nil | (apply Picks.cons; (focus (repeat constructor)))))); (try simp only [List.cons_append, List.nil_append, Bool.not_true, Bool.not_false]))
  refine e_opN (v_ext (v := .int .i64 (wsm l)) rfl) Imp.nil ?_
  refine e_opN (v_ext (v := .bool (decide (okL l))) rfl) Imp.nil ?_
  refine e_bslN (vs := []) rfl rfl (by simp) (by omega) fun g0 => ?_
  refine e_own (s := 1) (n := 0) .here (by rfl) (by unfold maxLen; omega) ?_
  refine e_app (m := l.length) (news := l.map I) .here (src_rd (A := A) (e' := 3) (by kernel_rfl) (by (repeat constructor)) hr (fun c => RdB.none hr c) I_one) (by omega) (by omega) fun a' c' => ?_
  rw [Nat.zero_add, List.nil_append]
  refine e_opN v_gtr Imp.nil ?_
  rw [show decide (0 < wsm l) = decide (pos l) from decide_eq_decide.2 (by rw [wsm, if_pos hok.ins, ← wk_pos hok.ins]; omega)]
  (((with_reducible refine e_opN v_rv Imp.nil ?_))); (((with_reducible refine e_boxA fun g => ?_)))
  refine e_ret g rfl ?_
  refine .ex ((a', c'), (qa, qc)) (.all ?_)
  (try simp only [List.cons_append, List.nil_append, -eq_self])
  exact .pick (by (repeat constructor)) (.pick (by (repeat constructor)) (.pick (by (repeat constructor)) (by (repeat (first | exact Imp.refl | exact Imp.nil | (apply Imp.pick; (focus ((repeat constructor); done))) | refine Imp.drop ?_)))))
end
end Go.Proofs.Ytehfblkpbadikaa.HF
/-! The first pieces of inflate: what panics, what takes. No conditions but those that each names. -/
namespace Go.Proofs.Ytehfblkpbadikaa.IF
open Go Go.Proofs Go.RowKit Go.Proofs.Ytehfblkpbadikaa.Sh Go.Proofs.Ytehfblkpbadikaa.Sl Go.Proofs.Ytehfblkpbadikaa.T Go.Proofs.Ytehfblkpbadikaa.HM Go.Proofs.Ytehfblkpbadikaa.HF Go.Proofs.Ytehfblkpbadikaa.B Go.Proofs.Ytehfblkpbadikaa.M
abbrev If (φ : Prop) := { _u : Unit // φ }
def yes {φ : Prop} (h : φ) : If φ := ⟨(), h⟩
/-- the panic of an error's number -/
def pn (e : Int) : List PanicEntry := pe (.iface 23 (.int .i64 e))
theorem must {W : World} {e : Int} : CnP Try.prog 86 [.int .i64 e] W [] (fun _ : If (e = 0) => .tuple #[]) (fun _ => []) (fun _ : If (e ≠ 0) => pn e) (fun _ => []) := by
  (refine S.inflate_must_cnP fun F => ?_; unfold S.inflate_must; simp only [List.cons_append, List.nil_append, -eq_self])
  (refine e_ask v_neq Imp.nil (fun h => ?_) (fun h => ?_))
  · refine e_condT ?_
    refine e_opN v_mkI Imp.nil ?_
    refine e_panic ?_
    exact e_pan (yes (h)) rfl .refl
  · refine e_condF ?_
    (first | refine e_ret (yes (Decidable.not_not.1 h)) rfl ?_ | refine e_retT (yes (Decidable.not_not.1 h)) ?_)
    exact .refl
theorem demand {W : World} {b : Bool} {e : Int} : CnP Try.prog 83 [.bool b, .int .i64 e] W [] (fun _ : If (b = true) => .tuple #[]) (fun _ => []) (fun _ : If (b = false) => pn e) (fun _ => []) := by
  (refine S.inflate_demand_cnP fun F => ?_; unfold S.inflate_demand; simp only [List.cons_append, List.nil_append, -eq_self])
  cases b with
  | true =>
    (((with_reducible refine e_opN v_notT Imp.nil ?_))); ((with_reducible refine e_condF ?_))
    (first | refine e_ret (yes (rfl)) rfl ?_ | refine e_retT (yes (rfl)) ?_)
    exact .refl
  | false =>
    (((with_reducible refine e_opN v_notF Imp.nil ?_))); ((with_reducible refine e_condT ?_))
    refine e_opN v_mkI Imp.nil ?_
    refine e_panic ?_
    exact e_pan (yes (rfl)) rfl .refl
/-- a stream at p: its bytes, bits taken, what came out, the most that may -/
def IsS (p : Nat) (b : List UInt8) (at_ : Nat) (out : List UInt8) (most : Int) : HP := ex fun q : Nat × (Option Addr × Nat) => all [pt p (.cells #[.pointer (some ⟨q.1, 0, none⟩), .slice q.2.1 out.length q.2.2, .int .i64 most] 126), IsR q.1 b at_, Sl 1 5 q.2.1 q.2.2 out.length (out.map Sl.B)]
theorem stake {W : World} {p at_ : Nat} {b out : List UInt8} {most k : Int} : CnP Try.prog 71 [.pointer (some ⟨p, 0, none⟩), .int .i64 k] W [IsS p b at_ out most]
    (fun _ : If (takR b at_ k = 0) => .int .i64 (takN b at_ k : Int)) (fun _ => [IsS p b (takAt b at_ k) out most]) (fun _ : If (takR b at_ k ≠ 0) => pn (takR b at_ k)) (fun _ => []) := by
  (refine S.inflate_stream_take_cnP fun F => ?_; unfold S.inflate_stream_take; simp only [List.cons_append, List.nil_append, -eq_self])
  refine e_ex Pick.here fun q => e_all Pick.here ?_
  obtain ⟨r, qa, qc⟩ := q
  (try simp only [List.cons_append, List.nil_append, -eq_self])
  (((with_reducible refine e_opN v_nil Imp.nil ?_))); (((with_reducible refine e_opN v_fa0 Imp.nil ?_))); (((with_reducible refine' e_opN (v_ldN ?hc) ?hi ?_); (case hi => (repeat (first | exact Imp.refl | exact Imp.nil | (apply Imp.pick; (focus ((repeat constructor); done))) | refine Imp.drop ?_))); (case hc => (repeat (first | exact Nth.here | apply Nth.there)))))
  (refine' e_call (B.take) ?hp fun _ => ?_; (case hp => (repeat (first | exact Picks.nil | (apply Picks.cons; (focus (repeat constructor)))))); (try simp only [List.cons_append, List.nil_append, Bool.not_true, Bool.not_false]))
  (((with_reducible refine' e_opN (v_extN ?hc) Imp.nil ?_); (case hc => (repeat (first | exact Nth.here | apply Nth.there))))); (((with_reducible refine' e_opN (v_extN ?hc) Imp.nil ?_); (case hc => (repeat (first | exact Nth.here | apply Nth.there)))))
  (refine' e_callP (must) ?hp (fun _ => ?_) (fun _ => ?_); (case hp => (repeat (first | exact Picks.nil | (apply Picks.cons; (focus (repeat constructor)))))); (all_goals (try simp only [List.cons_append, List.nil_append, Bool.not_true, Bool.not_false, -eq_self])))
  · rename_i x
    (first | refine e_ret (yes (x.2)) rfl ?_ | refine e_retT (yes (x.2)) ?_)
    refine .ex (r, (qa, qc)) (.all ?_)
    (try simp only [List.cons_append, List.nil_append, -eq_self])
    exact .pick (by (repeat constructor)) (.pick (by (repeat constructor)) (.pick (by (repeat constructor)) (by (repeat (first | exact Imp.refl | exact Imp.nil | (apply Imp.pick; (focus ((repeat constructor); done))) | refine Imp.drop ?_)))))
  · rename_i y
    refine e_pan (yes (y.2)) rfl ?_
    (repeat (first | exact Imp.refl | exact Imp.nil | (apply Imp.pick; (focus ((repeat constructor); done))) | refine Imp.drop ?_))
theorem room {W : World} {p at_ : Nat} {b out : List UInt8} {most n : Int} (h1 : -1099511627776 ≤ most ∧ most ≤ 1099511627776) (h2 : out.length ≤ 1099511627776) : CnP Try.prog 84 [.pointer (some ⟨p, 0, none⟩), .int .i64 n] W [IsS p b at_ out most]
    (fun _ : If (n ≤ most - out.length) => .tuple #[]) (fun _ => [IsS p b at_ out most]) (fun _ : If (¬ n ≤ most - out.length) => pn 6) (fun _ => []) := by
  (refine S.inflate_stream_room_cnP fun F => ?_; unfold S.inflate_stream_room; simp only [List.cons_append, List.nil_append, -eq_self])
  refine e_ex Pick.here fun q => e_all Pick.here ?_
  obtain ⟨r, qa, qc⟩ := q
  (try simp only [List.cons_append, List.nil_append, -eq_self])
  ((with_reducible refine e_drS ?_)); (((with_reducible refine e_stS v_nil Imp.nil ?_))); (((with_reducible refine e_stS v_fa0 Imp.nil ?_))); (((with_reducible refine' e_stS (v_ldN ?hc) ?hi ?_); (case hi => (repeat (first | exact Imp.refl | exact Imp.nil | (apply Imp.pick; (focus ((repeat constructor); done))) | refine Imp.drop ?_))); (case hc => (repeat (first | exact Nth.here | apply Nth.there))))); (((with_reducible refine e_stS v_nil Imp.nil ?_))); (((with_reducible refine e_stS v_fa0 Imp.nil ?_))); (((with_reducible refine' e_stS (v_ldN ?hc) ?hi ?_); (case hi => (repeat (first | exact Imp.refl | exact Imp.nil | (apply Imp.pick; (focus ((repeat constructor); done))) | refine Imp.drop ?_))); (case hc => (repeat (first | exact Nth.here | apply Nth.there))))); (((with_reducible refine e_stS v_len Imp.nil ?_))); (((with_reducible refine e_stS (v_sub ?h1 ?h2) Imp.nil ?_); (case h1 => omega); (case h2 => omega)))
  refine e_stS v_leq Imp.nil ?_
  (refine' e_callP (demand) ?hp (fun _ => ?_) (fun _ => ?_); (case hp => (repeat (first | exact Picks.nil | (apply Picks.cons; (focus (repeat constructor)))))); (all_goals (try simp only [List.cons_append, List.nil_append, Bool.not_true, Bool.not_false, -eq_self])))
  · rename_i x
    (first | refine e_ret (yes (of_decide_eq_true x.2)) rfl ?_ | refine e_retT (yes (of_decide_eq_true x.2)) ?_)
    refine .ex (r, (qa, qc)) (.all ?_)
    (try simp only [List.cons_append, List.nil_append, -eq_self])
    exact .pick (by (repeat constructor)) (.pick (by (repeat constructor)) (.pick (by (repeat constructor)) (by (repeat (first | exact Imp.refl | exact Imp.nil | (apply Imp.pick; (focus ((repeat constructor); done))) | refine Imp.drop ?_)))))
  · rename_i y
    refine e_pan (yes (of_decide_eq_false y.2)) rfl ?_
    (repeat (first | exact Imp.refl | exact Imp.nil | (apply Imp.pick; (focus ((repeat constructor); done))) | refine Imp.drop ?_))
end Go.Proofs.Ytehfblkpbadikaa.IF
/-! A symbol is read: the program's way and the document's. No conditions but those that each names. -/
namespace Go.Proofs.Ytehfblkpbadikaa.HF
open Go Go.Proofs Go.RowKit Go.Proofs.Ytehfblkpbadikaa.Sh Go.Proofs.Ytehfblkpbadikaa.Sl Go.Proofs.Ytehfblkpbadikaa.T Go.Proofs.Ytehfblkpbadikaa.HM Go.Proofs.Ytehfblkpbadikaa.B Go.Proofs.Ytehfblkpbadikaa.M
theorem e_rfact {W : World} {L L' : List HP} {S : WP} {r at_ : Nat} {b : List UInt8} (p : Pick L (IsR r b at_) L') (h : at_ ≤ 8 * b.length → Ent W L S) : Ent W L S := fun w hw => by
  obtain ⟨f, ⟨q, ha⟩, _⟩ := (hw.pick p).fst
  obtain ⟨_, _, _, ⟨_, _, _, ⟨_, _, hp, _⟩, _⟩, _⟩ := ha
  exact h hp.1 w hw
/-- symbol, error, bits taken -/
def dec (l : List Int) (b : List UInt8) : Nat → Nat → Nat → Nat → Int × Int × Nat
  | 0, _, _, at_ => (0, 30, at_)
  | f + 1, n, c, at_ => if takR b at_ 1 = 0 then (match fL l ((n + 1 : Nat) : Int) ((2 * c + takN b at_ 1 : Nat) : Int) l.length with
    | some i => ((i : Int), 0, takAt b at_ 1)
    | none => dec l b f (n + 1) (2 * c + takN b at_ 1) (takAt b at_ 1)) else (0, takR b at_ 1, takAt b at_ 1)
def nxt (l : List Int) (b : List UInt8) (at_ : Nat) : Int × Int × Nat := if pos l then dec l b 15 0 0 at_ else (0, 30, at_)
theorem pos_iff (l : List Int) : (∃ k, k < l.length ∧ ∃ x, l[k]? = some x ∧ 0 < x) ↔ pos l := by
  constructor
  · rintro ⟨k, hk, x, hx, h0⟩
    rw [List.getElem?_eq_getElem hk] at hx
    exact ⟨x, by rw [← Option.some.inj hx]; exact List.getElem_mem hk, h0⟩
  · rintro ⟨x, hx, h0⟩
    obtain ⟨k, hk, rfl⟩ := List.mem_iff_getElem.1 hx
    exact ⟨k, hk, _, List.getElem?_eq_getElem hk, h0⟩
theorem takN1 (b : List UInt8) (at_ : Nat) : ∃ v : Bool, takN b at_ 1 = v.toNat := by
  have h : takN b at_ 1 < 2 := by
    unfold takN
    split
    · exact tak_lt _ _ _
    · omega
  rcases (show takN b at_ 1 = 0 ∨ takN b at_ 1 = 1 by omega) with e | e
  · exact ⟨false, e⟩
  · exact ⟨true, e⟩
theorem next {W : World} {p r at_ : Nat} {l : List Int} {b : List UInt8} :
    Cn Try.prog 39 [.pointer (some ⟨p, 0, none⟩), .pointer (some ⟨r, 0, none⟩)] W [IsDec p l, IsR r b at_] (fun _ : Unit => .tuple #[.int .i64 (nxt l b at_).1, .int .i64 (nxt l b at_).2.1]) (fun _ => [IsDec p l, IsR r b (nxt l b at_).2.2]) := by
  (refine S.huff_Decoder_Next_cn fun F => ?_; unfold S.huff_Decoder_Next; simp only [List.cons_append, List.nil_append])
  refine e_rfact (.there .here) fun hat => ?_
  refine e_ex Pick.here fun gm => e_ex Pick.here fun mp => e_all Pick.here ?_
  (try simp only [List.cons_append, List.nil_append, -eq_self])
  refine e_pu (.there (.there .here)) fun hdec => ?_
  have back : ∀ {at2 : Nat} (s e : Int) (L : List HP), Imp W L (pt p (.cells #[.map (some gm)] 82) :: MapIs gm encC mp :: IsR r b at2 :: F) → nxt l b at_ = (s, e, at2) → Ent W L (fun w => ∃ x : Unit, (.tuple #[.int .i64 s, .int .i64 e] : Value) = .tuple #[.int .i64 (nxt l b at_).1, .int .i64 (nxt l b at_).2.1] ∧ sat W ([IsDec p l, IsR r b (nxt l b at_).2.2] ++ F) w) := by
    intro at2 s e L hi hn
    rw [hn]
    refine e_imp hi ?_
    refine e_ret () rfl ?_
    refine .ex gm (.ex mp (.all ?_))
    (try simp only [List.cons_append, List.nil_append, -eq_self])
    exact .pick .here (.pick .here (.pu hdec .refl))
  (((with_reducible refine e_opN v_eqNil1 Imp.nil ?_))); ((with_reducible refine e_gdT ?_)); ((with_reducible refine e_gdT ?_)); (((with_reducible refine e_opN v_nil Imp.nil ?_))); ((with_reducible refine e_gdT ?_)); (((with_reducible refine e_opN v_fa0 Imp.nil ?_))); ((with_reducible refine e_gdT ?_)); (((with_reducible refine' e_opN (v_ldN ?hc) ?hi ?_); (case hi => (repeat (first | exact Imp.refl | exact Imp.nil | (apply Imp.pick; (focus ((repeat constructor); done))) | refine Imp.drop ?_))); (case hc => (repeat (first | exact Nth.here | apply Nth.there))))); ((with_reducible refine e_gdT ?_))
  refine e_opN v_eqMap Imp.nil ?_
  (((with_reducible refine e_opN v_pickF Imp.nil ?_))); ((with_reducible refine e_condF ?_))
  (refine' e_call (take) ?hp fun _ => ?_; (case hp => (repeat (first | exact Picks.nil | (apply Picks.cons; (focus (repeat constructor)))))); (try simp only [List.cons_append, List.nil_append, Bool.not_true, Bool.not_false]))
  have h00 : takR b at_ 0 = 0 := by unfold takR; rw [if_neg (by omega), if_neg (by omega)]
  rw [h00, show takAt b at_ 0 = at_ by unfold takAt; rw [if_pos h00]; simp]
  (((with_reducible refine' e_opN (v_extN ?hc) Imp.nil ?_); (case hc => (repeat (first | exact Nth.here | apply Nth.there))))); (((with_reducible refine' e_opN (v_extN ?hc) Imp.nil ?_); (case hc => (repeat (first | exact Nth.here | apply Nth.there)))))
  refine e_opN v_neq Imp.nil ?_
  rw [decide_eq_false (by omega)]
  ((with_reducible refine e_condF ?_)); (((with_reducible refine e_opN v_nil Imp.nil ?_))); (((with_reducible refine e_opN v_fa0 Imp.nil ?_))); (((with_reducible refine' e_opN (v_ldN ?hc) ?hi ?_); (case hi => (repeat (first | exact Imp.refl | exact Imp.nil | (apply Imp.pick; (focus ((repeat constructor); done))) | refine Imp.drop ?_))); (case hc => (repeat (first | exact Nth.here | apply Nth.there)))))
  refine e_opN v_lenM (.pick (by (repeat constructor)) .nil) ?_
  have hemp := hdec.emp
  rw [pos_iff] at hemp
  (refine e_ask v_eql Imp.nil (fun h => ?_) (fun h => ?_))
  · have hm0 : mp = [] := List.eq_nil_of_length_eq_zero (by omega)
    have hnp := hemp.1 hm0
    ((with_reducible refine e_condT ?_))
    exact back 0 30 _ (by (repeat (first | exact Imp.refl | exact Imp.nil | (apply Imp.pick; (focus ((repeat constructor); done))) | refine Imp.drop ?_))) (by unfold nxt; rw [if_neg hnp])
  have hp : pos l := by
    refine Decidable.byContradiction fun c => h ?_
    rw [hemp.2 c]; rfl
  have hn0 : nxt l b at_ = dec l b 15 0 0 at_ := by unfold nxt; rw [if_pos hp]
  ((with_reducible refine e_condF ?_)); (((with_reducible refine e_opN v_rv Imp.nil ?_))); (((with_reducible refine e_newA fun g => ?_))); (((with_reducible refine' e_stAgg ?hp ?hn ?hv ?h1 ?_); (case hp => (repeat constructor)); (case hn => rfl); (case hv => rfl); (case h1 => simp [Value.oneCell'])))
  rename_i gx
  refine e_loop1 (fun m y => [ex fun n : Nat => ex fun c : Nat => ex fun at2 : Nat => all [pu (m + n = 15 ∧ y = .int .i64 (n : Int) ∧ c < 2 ^ n ∧ nxt l b at_ = dec l b m n c at2), pt g (.cells #[.int .i64 (n : Int), .int .i64 (c : Int)] 109 (0, 0)), pt p (.cells #[.map (some gm)] 82), MapIs gm encC mp, IsR r b at2]] ++ F) 15 ?_ ?_
  · refine .ex 0 (.ex 0 (.ex at_ (.all ?_)))
    (try simp only [List.cons_append, List.nil_append, -eq_self])
    refine .pu ⟨by omega, rfl, by omega, hn0⟩ ?_
    exact .pick (by (repeat constructor)) (.pick (by (repeat constructor)) (.pick (by (repeat constructor)) (.pick (by (repeat constructor)) .refl)))
  intro m ds y
  (try simp only [List.cons_append, List.nil_append, -eq_self])
  refine e_ex Pick.here fun n => e_ex Pick.here fun c => e_ex Pick.here fun at2 => e_all Pick.here ?_
  (try simp only [List.cons_append, List.nil_append, -eq_self])
  refine e_pu Pick.here fun hi => ?_
  obtain ⟨hmn, rfl, hc, hd⟩ := hi
  (refine e_ask v_lss Imp.nil (fun h => ?_) (fun h => ?_))
  · have hn15 : n < 15 := by omega
    obtain ⟨m, rfl⟩ : ∃ m', m = m' + 1 := ⟨m - 1, by omega⟩
    have hc15 := pow15 (show n ≤ 15 by omega)
    ((with_reducible refine e_condT ?_))
    (refine' e_call (take) ?hp fun _ => ?_; (case hp => (repeat (first | exact Picks.nil | (apply Picks.cons; (focus (repeat constructor)))))); (try simp only [List.cons_append, List.nil_append, Bool.not_true, Bool.not_false]))
    obtain ⟨tb, htb⟩ := takN1 b at2
    have htl := Bool.toNat_le tb
    rw [dec] at hd
    by_cases hR : takR b at2 1 = 0
    · rw [if_pos hR] at hd
      rw [hR, htb]
      rw [htb] at hd
      (((with_reducible refine' e_opN (v_extN ?hc) Imp.nil ?_); (case hc => (repeat (first | exact Nth.here | apply Nth.there))))); (((with_reducible refine' e_opN (v_extN ?hc) Imp.nil ?_); (case hc => (repeat (first | exact Nth.here | apply Nth.there)))))
      refine e_opN v_neq Imp.nil ?_
      rw [decide_eq_false (by omega)]
      ((with_reducible refine e_condF ?_)); (((with_reducible refine e_opN v_fa0 Imp.nil ?_))); (((with_reducible refine' e_opN (v_ldN ?hc) ?hi ?_); (case hi => (repeat (first | exact Imp.refl | exact Imp.nil | (apply Imp.pick; (focus ((repeat constructor); done))) | refine Imp.drop ?_))); (case hc => (repeat (first | exact Nth.here | apply Nth.there))))); (((with_reducible refine e_opN (v_add ?h1 ?h2) Imp.nil ?_); (case h1 => omega); (case h2 => omega))); (((with_reducible refine e_opN v_fa0 Imp.nil ?_))); (((with_reducible refine' e_stN ?hp ?ho ?_); (case hp => (repeat constructor)); (case ho => (repeat (first | exact Put.here | apply Put.there))))); (((with_reducible refine e_opN v_fa0 Imp.nil ?_))); (((with_reducible refine' e_opN (v_ldN ?hc) ?hi ?_); (case hi => (repeat (first | exact Imp.refl | exact Imp.nil | (apply Imp.pick; (focus ((repeat constructor); done))) | refine Imp.drop ?_))); (case hc => (repeat (first | exact Nth.here | apply Nth.there)))))
      refine e_opN (v_shl (by omega)) Imp.nil ?_
      rw [show (c : Int) * 2 ^ (min ((1 : Int)).toNat IntKind.i64.bits) = ((c * 2 : Nat) : Int) by norm_cast, w64 (by omega) (by omega)]
      refine e_opN v_or Imp.nil ?_
      rw [or_two (by omega)]
      (((with_reducible refine e_opN v_fa0 Imp.nil ?_))); (((with_reducible refine' e_stN ?hp ?ho ?_); (case hp => (repeat constructor)); (case ho => (repeat (first | exact Put.here | apply Put.there))))); ((with_reducible refine e_drS ?_)); (((with_reducible refine e_stS v_nil Imp.nil ?_))); (((with_reducible refine e_stS v_fa0 Imp.nil ?_))); (((with_reducible refine' e_stS (v_ldN ?hc) ?hi ?_); (case hi => (repeat (first | exact Imp.refl | exact Imp.nil | (apply Imp.pick; (focus ((repeat constructor); done))) | refine Imp.drop ?_))); (case hc => (repeat (first | exact Nth.here | apply Nth.there))))); (((with_reducible refine' e_stS (v_ldAgg ?hn) ?hi ?_); (case hi => (repeat (first | exact Imp.refl | exact Imp.nil | (apply Imp.pick; (focus ((repeat constructor); done))) | refine Imp.drop ?_))); (case hn => rfl)))
      refine e_stS (v_lookOk (q := (((n : Int) + 1), ((2 * c + tb.toNat : Nat) : Int))) keyC) (.pick (by (repeat constructor)) .nil) ?_
      have hg := hdec.get ((n : Int) + 1) ((2 * c + tb.toNat : Nat) : Int)
      rw [hg]
      rw [show ((n + 1 : Nat) : Int) = (n : Int) + 1 by norm_cast] at hd
      cases hf : fL l ((n : Int) + 1) ((2 * c + tb.toNat : Nat) : Int) l.length with
      | some i =>
        rw [hf] at hd
        (try simp only [Option.map_some, Option.getD_some, Option.isSome_some])
        refine e_stS (v_ext (v := .int .i64 (i : Int)) rfl) Imp.nil ?_
        refine e_stS (v_ext (v := .bool true) rfl) Imp.nil ?_
        ((with_reducible refine e_condT ?_))
        exact back (i : Int) 0 _ (by (repeat (first | exact Imp.refl | exact Imp.nil | (apply Imp.pick; (focus ((repeat constructor); done))) | refine Imp.drop ?_))) hd
      | none =>
        rw [hf] at hd
        (try simp only [Option.map_none, Option.getD_none, Option.isSome_none])
        refine e_stS (v_ext (v := .int .i64 0) rfl) Imp.nil ?_
        refine e_stS (v_ext (v := .bool false) rfl) Imp.nil ?_
        ((with_reducible refine e_condF ?_)); (((with_reducible refine e_opN (v_add ?h1 ?h2) Imp.nil ?_); (case h1 => omega); (case h2 => omega)))
        refine e_next1 m (by omega) (.ex (n + 1) (.ex (2 * c + tb.toNat) (.ex (takAt b at2 1) (.all ?_))))
        (try simp only [List.cons_append, List.nil_append, -eq_self])
        refine .pu ⟨by omega, by norm_cast, by rw [Nat.pow_succ]; omega, hd⟩ ?_
        rw [show ((n + 1 : Nat) : Int) = (n : Int) + 1 by norm_cast]
        exact .pick (by (repeat constructor)) (.pick (by (repeat constructor)) (.pick (by (repeat constructor)) (.pick (by (repeat constructor)) .refl)))
    · rw [if_neg hR] at hd
      (((with_reducible refine' e_opN (v_extN ?hc) Imp.nil ?_); (case hc => (repeat (first | exact Nth.here | apply Nth.there))))); (((with_reducible refine' e_opN (v_extN ?hc) Imp.nil ?_); (case hc => (repeat (first | exact Nth.here | apply Nth.there)))))
      refine e_opN v_neq Imp.nil ?_
      rw [decide_eq_true hR]
      ((with_reducible refine e_condT ?_))
      exact back 0 (takR b at2 1) _ (by (repeat (first | exact Imp.refl | exact Imp.nil | (apply Imp.pick; (focus ((repeat constructor); done))) | refine Imp.drop ?_))) hd
  · have hm0 : m = 0 := by omega
    subst hm0
    rw [dec] at hd
    ((with_reducible refine e_condF ?_))
    exact back 0 30 _ (by (repeat (first | exact Imp.refl | exact Imp.nil | (apply Imp.pick; (focus ((repeat constructor); done))) | refine Imp.drop ?_))) hd
theorem docNext {W : World} {p r at_ : Nat} {l : List Int} {b : List UInt8} (hl : l.length ≤ 1099511627776) :
    Cn Try.prog 40 [.pointer (some ⟨p, 0, none⟩), .pointer (some ⟨r, 0, none⟩)] W [IsDoc p l, IsQ r b at_] (fun _ : Unit => .tuple #[.int .i64 (nxt l b at_).1, .int .i64 (nxt l b at_).2.1]) (fun _ => [IsDoc p l, IsQ r b (nxt l b at_).2.2]) := by
  (refine S.ref03_Decoder_Next_cn fun F => ?_; unfold S.ref03_Decoder_Next; simp only [List.cons_append, List.nil_append])
  refine e_ex Pick.here fun q => e_all Pick.here ?_
  obtain ⟨⟨qa, qc⟩, ⟨ra, rc⟩⟩ := q
  (try simp only [List.cons_append, List.nil_append, -eq_self])
  have back : ∀ {at2 : Nat} (s e : Int) (L : List HP), Imp W L (pt p (.cells #[.slice qa l.length qc, .slice ra l.length rc, .bool (decide (pos l))] 111) :: Sl 1 3 qa qc l.length (l.map I) :: Sl 1 3 ra rc l.length ((codes l).map I) :: IsQ r b at2 :: F) → nxt l b at_ = (s, e, at2) → Ent W L (fun w => ∃ x : Unit, (.tuple #[.int .i64 s, .int .i64 e] : Value) = .tuple #[.int .i64 (nxt l b at_).1, .int .i64 (nxt l b at_).2.1] ∧ sat W ([IsDoc p l, IsQ r b (nxt l b at_).2.2] ++ F) w) := by
    intro at2 s e L hi hn
    rw [hn]
    refine e_imp hi ?_
    refine e_ret () rfl ?_
    refine .ex ((qa, qc), (ra, rc)) (.all ?_)
    (try simp only [List.cons_append, List.nil_append, -eq_self])
    exact .pick .here (.pick .here (.pick .here .refl))
  refine e_slfacts (.there .here) fun f1 f2 f3 f4 => ?_
  refine e_slfacts (.there (.there .here)) fun g1 g2 g3 g4 => ?_
  by_cases hp : ¬ pos l
  · rw [decide_eq_false hp] at back ⊢
    (((with_reducible refine e_opN v_nil Imp.nil ?_))); (((with_reducible refine e_opN v_fa0 Imp.nil ?_))); (((with_reducible refine' e_opN (v_ldN ?hc) ?hi ?_); (case hi => (repeat (first | exact Imp.refl | exact Imp.nil | (apply Imp.pick; (focus ((repeat constructor); done))) | refine Imp.drop ?_))); (case hc => (repeat (first | exact Nth.here | apply Nth.there))))); (((with_reducible refine e_opN v_notF Imp.nil ?_))); ((with_reducible refine e_condT ?_))
    exact back 0 30 _ (by (repeat (first | exact Imp.refl | exact Imp.nil | (apply Imp.pick; (focus ((repeat constructor); done))) | refine Imp.drop ?_))) (by unfold nxt; rw [if_neg hp])
  have hp := Decidable.not_not.1 hp
  have hn0 : nxt l b at_ = dec l b 15 0 0 at_ := by unfold nxt; rw [if_pos hp]
  rw [decide_eq_true hp] at back ⊢
  (((with_reducible refine e_opN v_nil Imp.nil ?_))); (((with_reducible refine e_opN v_fa0 Imp.nil ?_))); (((with_reducible refine' e_opN (v_ldN ?hc) ?hi ?_); (case hi => (repeat (first | exact Imp.refl | exact Imp.nil | (apply Imp.pick; (focus ((repeat constructor); done))) | refine Imp.drop ?_))); (case hc => (repeat (first | exact Nth.here | apply Nth.there))))); (((with_reducible refine e_opN v_notT Imp.nil ?_))); ((with_reducible refine e_condF ?_))
  refine e_loop2 (fun m x y => [ex fun n : Nat => ex fun c : Nat => ex fun at2 : Nat => all [pu (m + n = 15 ∧ y = .int .i64 ((n + 1 : Nat) : Int) ∧ x = .int .i64 (c : Int) ∧ c < 2 ^ n ∧ nxt l b at_ = dec l b m n c at2), pt p (.cells #[.slice qa l.length qc, .slice ra l.length rc, .bool true] 111), Sl 1 3 qa qc l.length (l.map I), Sl 1 3 ra rc l.length ((codes l).map I), IsQ r b at2]] ++ F) 15 ?_ ?_
  · refine .ex 0 (.ex 0 (.ex at_ (.all ?_)))
    (try simp only [List.cons_append, List.nil_append, -eq_self])
    refine .pu ⟨by omega, rfl, rfl, by omega, hn0⟩ ?_
    exact .pick (by (repeat constructor)) (.pick (by (repeat constructor)) (.pick (by (repeat constructor)) (.pick (by (repeat constructor)) .refl)))
  intro m ds x y
  (try simp only [List.cons_append, List.nil_append, -eq_self])
  refine e_ex Pick.here fun n => e_ex Pick.here fun c => e_ex Pick.here fun at2 => e_all Pick.here ?_
  (try simp only [List.cons_append, List.nil_append, -eq_self])
  refine e_pu Pick.here fun hi => ?_
  obtain ⟨hmn, rfl, rfl, hc, hd⟩ := hi
  (refine e_ask v_leq Imp.nil (fun h => ?_) (fun h => ?_))
  · have hn15 : n < 15 := by omega
    obtain ⟨m, rfl⟩ : ∃ m', m = m' + 1 := ⟨m - 1, by omega⟩
    have hc15 := pow15 (show n ≤ 15 by omega)
    refine e_condT ?_
    (refine' e_call (qtake) ?hp fun _ => ?_; (case hp => (repeat (first | exact Picks.nil | (apply Picks.cons; (focus (repeat constructor)))))); (try simp only [List.cons_append, List.nil_append, Bool.not_true, Bool.not_false]))
    obtain ⟨tb, htb⟩ := takN1 b at2
    have htl := Bool.toNat_le tb
    rw [dec] at hd
    by_cases hR : takR b at2 1 = 0
    · rw [if_pos hR] at hd
      rw [hR, htb]
      rw [htb] at hd
      (((with_reducible refine' e_opN (v_extN ?hc) Imp.nil ?_); (case hc => (repeat (first | exact Nth.here | apply Nth.there))))); (((with_reducible refine' e_opN (v_extN ?hc) Imp.nil ?_); (case hc => (repeat (first | exact Nth.here | apply Nth.there)))))
      refine e_opN v_neq Imp.nil ?_
      rw [decide_eq_false (by omega)]
      ((with_reducible refine e_condF ?_)); (((with_reducible refine e_opN (v_mul ?h1 ?h2) Imp.nil ?_); (case h1 => omega); (case h2 => omega))); (((with_reducible refine e_opN (v_add ?h1 ?h2) Imp.nil ?_); (case h1 => omega); (case h2 => omega)))
      rw [show 2 * (c : Int) + (tb.toNat : Int) = ((2 * c + tb.toNat : Nat) : Int) by norm_cast]
      obtain ⟨C, hC⟩ : ∃ C, C = 2 * c + tb.toNat := ⟨_, rfl⟩
      rw [← hC] at hd ⊢
      refine e_loop1 (fun m2 y => [ex fun i : Nat => all [pu (m2 + i = l.length ∧ y = .int .i64 (i : Int) ∧ fL l ((n + 1 : Nat) : Int) (C : Int) i = none), pt p (.cells #[.slice qa l.length qc, .slice ra l.length rc, .bool true] 111), Sl 1 3 qa qc l.length (l.map I), Sl 1 3 ra rc l.length ((codes l).map I), IsQ r b (takAt b at2 1)]] ++ F) l.length ?_ ?_
      · refine .ex 0 (.all ?_)
        (try simp only [List.cons_append, List.nil_append, -eq_self])
        refine .pu ⟨by omega, rfl, rfl⟩ ?_
        exact .pick (by (repeat constructor)) (.pick (by (repeat constructor)) (.pick (by (repeat constructor)) (.pick (by (repeat constructor)) .refl)))
      intro m2 ds y
      (try simp only [List.cons_append, List.nil_append, -eq_self])
      refine e_ex Pick.here fun i => e_all Pick.here ?_
      (try simp only [List.cons_append, List.nil_append, -eq_self])
      refine e_pu Pick.here fun hi => ?_
      obtain ⟨hmi, rfl, hfn⟩ := hi
      (((with_reducible refine e_opN v_nil Imp.nil ?_))); (((with_reducible refine e_opN v_fa0 Imp.nil ?_))); (((with_reducible refine' e_opN (v_ldN ?hc) ?hi ?_); (case hi => (repeat (first | exact Imp.refl | exact Imp.nil | (apply Imp.pick; (focus ((repeat constructor); done))) | refine Imp.drop ?_))); (case hc => (repeat (first | exact Nth.here | apply Nth.there))))); (((with_reducible refine e_opN v_len Imp.nil ?_)))
      (refine e_ask v_lss Imp.nil (fun h => ?_) (fun h => ?_))
      · have hil : i < l.length := by omega
        obtain ⟨gq, rfl⟩ := f4 (by omega)
        obtain ⟨gr, rfl⟩ := g4 (by omega)
        have gi : ((codes l).map I)[0 + i]? = some (I (codeAt l i)) := by rw [Nat.zero_add, List.getElem?_map, codes, List.getElem?_map, List.getElem?_range hil]; rfl
        have gl : (l.map I)[0 + i]? = some (I l[i]) := by rw [Nat.zero_add]; exact I_get hil
        have hli : l[i]? = some l[i] := List.getElem?_eq_getElem hil
        have nxt1 : ¬ (l[i] = ((n + 1 : Nat) : Int) ∧ (codeAt l i : Int) = C) → Ent W (pt p (.cells #[.slice (some ⟨gq, 0, none⟩) l.length qc, .slice (some ⟨gr, 0, none⟩) l.length rc, .bool true] 111) :: Sl 1 3 (some ⟨gq, 0, none⟩) qc l.length (l.map I) :: Sl 1 3 (some ⟨gr, 0, none⟩) rc l.length ((codes l).map I) :: IsQ r b (takAt b at2 1) :: F) (next1 (fun m2 y w => sat W ([ex fun i : Nat => all [pu (m2 + i = l.length ∧ y = .int .i64 (i : Int) ∧ fL l ((n + 1 : Nat) : Int) (C : Int) i = none), pt p (.cells #[.slice (some ⟨gq, 0, none⟩) l.length qc, .slice (some ⟨gr, 0, none⟩) l.length rc, .bool true] 111), Sl 1 3 (some ⟨gq, 0, none⟩) qc l.length (l.map I), Sl 1 3 (some ⟨gr, 0, none⟩) rc l.length ((codes l).map I), IsQ r b (takAt b at2 1)]] ++ F) w) m2 (.int .i64 ((i : Int) + 1))) := by
          intro hne
          refine e_next1 (m2 - 1) (by omega) (.ex (i + 1) (.all ?_))
          (try simp only [List.cons_append, List.nil_append, -eq_self])
          refine .pu ⟨by omega, by norm_cast, ?_⟩ ?_
          · rw [fL, hfn]
            simp only
            rw [if_neg (fun d => hne ⟨by have d2 := d.2.1; rw [hli] at d2; exact Option.some.inj d2, d.2.2⟩)]
          · exact .pick (by (repeat constructor)) (.pick (by (repeat constructor)) (.pick (by (repeat constructor)) (.pick (by (repeat constructor)) .refl)))
        ((with_reducible refine e_condT ?_)); (((with_reducible refine e_opN v_nil Imp.nil ?_))); (((with_reducible refine e_opN v_fa0 Imp.nil ?_))); (((with_reducible refine' e_opN (v_ldN ?hc) ?hi ?_); (case hi => (repeat (first | exact Imp.refl | exact Imp.nil | (apply Imp.pick; (focus ((repeat constructor); done))) | refine Imp.drop ?_))); (case hc => (repeat (first | exact Nth.here | apply Nth.there)))))
        refine e_opN (v_ia1 i (by rfl) hil) Imp.nil ?_
        refine e_opN (v_ldSl gl) (.pick (by (repeat constructor)) .nil) ?_
        (refine e_ask v_eql Imp.nil (fun h => ?_) (fun h => ?_))
        · have he1 := h
          ((with_reducible refine e_gdT ?_)); ((with_reducible refine e_gdT ?_)); (((with_reducible refine e_opN v_nil Imp.nil ?_))); ((with_reducible refine e_gdT ?_)); (((with_reducible refine e_opN v_fa0 Imp.nil ?_))); ((with_reducible refine e_gdT ?_)); (((with_reducible refine' e_opN (v_ldN ?hc) ?hi ?_); (case hi => (repeat (first | exact Imp.refl | exact Imp.nil | (apply Imp.pick; (focus ((repeat constructor); done))) | refine Imp.drop ?_))); (case hc => (repeat (first | exact Nth.here | apply Nth.there))))); ((with_reducible refine e_gdT ?_)); ((with_reducible refine e_gdT ?_))
          refine e_opN (v_ia1 i (by rfl) hil) Imp.nil ?_
          ((with_reducible refine e_gdT ?_))
          refine e_opN (v_ldSl gi) (.pick (by (repeat constructor)) .nil) ?_
          ((with_reducible refine e_gdT ?_)); ((with_reducible refine e_gdT ?_))
          (refine e_ask v_eql Imp.nil (fun h => ?_) (fun h => ?_))
          · (((with_reducible refine e_opN v_pickT Imp.nil ?_))); ((with_reducible refine e_condT ?_))
            have hfs : fL l ((n + 1 : Nat) : Int) (C : Int) (i + 1) = some i := by
              rw [fL, hfn]
              simp only
              rw [if_pos ⟨by omega, by rw [hli, he1], h⟩]
            have hfe := fL_up hfs (l.length - (i + 1))
            rw [show i + 1 + (l.length - (i + 1)) = l.length by omega] at hfe
            rw [hfe] at hd
            exact back (i : Int) 0 _ (by (repeat (first | exact Imp.refl | exact Imp.nil | (apply Imp.pick; (focus ((repeat constructor); done))) | refine Imp.drop ?_))) hd
          · (((with_reducible refine e_opN v_pickT Imp.nil ?_))); ((with_reducible refine e_condF ?_)); (((with_reducible refine e_opN (v_add ?h1 ?h2) Imp.nil ?_); (case h1 => omega); (case h2 => omega)))
            exact nxt1 (fun c => h c.2)
        · ((with_reducible refine e_gdF2 ?_)); ((with_reducible refine e_gdF2 ?_)); ((with_reducible refine e_gdF2 ?_)); ((with_reducible refine e_gdF2 ?_)); ((with_reducible refine e_gdF2 ?_)); ((with_reducible refine e_gdF2 ?_)); ((with_reducible refine e_gdF2 ?_)); ((with_reducible refine e_gdF2 ?_)); ((with_reducible refine e_gdF2 ?_)); (((with_reducible refine e_opN v_pickF Imp.nil ?_))); ((with_reducible refine e_condF ?_)); (((with_reducible refine e_opN (v_add ?h1 ?h2) Imp.nil ?_); (case h1 => omega); (case h2 => omega)))
          exact nxt1 (fun c => h c.1)
      · have hie : i = l.length := by omega
        subst hie
        rw [hfn] at hd
        ((with_reducible refine e_condF ?_)); (((with_reducible refine e_opN (v_add ?h1 ?h2) Imp.nil ?_); (case h1 => omega); (case h2 => omega)))
        refine e_next2 m (by omega) (.ex (n + 1) (.ex C (.ex (takAt b at2 1) (.all ?_))))
        (try simp only [List.cons_append, List.nil_append, -eq_self])
        refine .pu ⟨by omega, by norm_cast, rfl, by rw [Nat.pow_succ, hC]; omega, hd⟩ ?_
        exact .pick (by (repeat constructor)) (.pick (by (repeat constructor)) (.pick (by (repeat constructor)) (.pick (by (repeat constructor)) .refl)))
    · rw [if_neg hR] at hd
      (((with_reducible refine' e_opN (v_extN ?hc) Imp.nil ?_); (case hc => (repeat (first | exact Nth.here | apply Nth.there))))); (((with_reducible refine' e_opN (v_extN ?hc) Imp.nil ?_); (case hc => (repeat (first | exact Nth.here | apply Nth.there)))))
      refine e_opN v_neq Imp.nil ?_
      rw [decide_eq_true hR]
      ((with_reducible refine e_condT ?_))
      exact back 0 (takR b at2 1) _ (by (repeat (first | exact Imp.refl | exact Imp.nil | (apply Imp.pick; (focus ((repeat constructor); done))) | refine Imp.drop ?_))) hd
  · have hm0 : m = 0 := by omega
    subst hm0
    rw [dec] at hd
    refine e_condF ?_
    exact back 0 30 _ (by (repeat (first | exact Imp.refl | exact Imp.nil | (apply Imp.pick; (focus ((repeat constructor); done))) | refine Imp.drop ?_))) hd
end Go.Proofs.Ytehfblkpbadikaa.HF
/-! A stored block; a decoder, a symbol. No conditions but those that each names. -/
namespace Go.Proofs.Ytehfblkpbadikaa.IF
open Go Go.Proofs Go.RowKit Go.Proofs.Ytehfblkpbadikaa.Sh Go.Proofs.Ytehfblkpbadikaa.Sl Go.Proofs.Ytehfblkpbadikaa.T Go.Proofs.Ytehfblkpbadikaa.HM Go.Proofs.Ytehfblkpbadikaa.HF Go.Proofs.Ytehfblkpbadikaa.B Go.Proofs.Ytehfblkpbadikaa.M
/-- a value that a computation ends with -/
abbrev Ok {α : Type} (m : Except Int α) := { x : α // m = .ok x }
abbrev Er {α : Type} (m : Except Int α) := { e : Int // m = .error e }
/-- a stored block: bits taken, what is out -/
def mStored (b : List UInt8) (most : Int) (at_ : Nat) (out : List UInt8) : Except Int (Nat × List UInt8) :=
  if takR b ((at_ + 7) / 8 * 8) 16 ≠ 0 then .error (takR b ((at_ + 7) / 8 * 8) 16) else
  if takR b (takAt b ((at_ + 7) / 8 * 8) 16) 16 ≠ 0 then .error (takR b (takAt b ((at_ + 7) / 8 * 8) 16) 16) else
  if (takN b (takAt b ((at_ + 7) / 8 * 8) 16) 16 : Int) ≠ 65535 - (takN b ((at_ + 7) / 8 * 8) 16 : Int) then .error 31 else
  if ¬ (takN b ((at_ + 7) / 8 * 8) 16 : Int) ≤ most - out.length then .error 6 else
  if rrR b (takAt b (takAt b ((at_ + 7) / 8 * 8) 16) 16) (takN b ((at_ + 7) / 8 * 8) 16 : Int) ≠ 0 then .error (rrR b (takAt b (takAt b ((at_ + 7) / 8 * 8) 16) 16) (takN b ((at_ + 7) / 8 * 8) 16 : Int)) else
  .ok (rrAt b (takAt b (takAt b ((at_ + 7) / 8 * 8) 16) 16) (takN b ((at_ + 7) / 8 * 8) 16 : Int), out ++ rrB b (takAt b (takAt b ((at_ + 7) / 8 * 8) 16) 16) (takN b ((at_ + 7) / 8 * 8) 16 : Int))
theorem stored {W : World} {p at_ : Nat} {b out : List UInt8} {most : Int} (h1 : -1099511627776 ≤ most ∧ most ≤ 1099511627776) (h2 : out.length ≤ 1099511627776) :
    CnP Try.prog 67 [.pointer (some ⟨p, 0, none⟩)] W [IsS p b at_ out most] (fun _ : Ok (mStored b most at_ out) => .tuple #[]) (fun x => [IsS p b x.1.1 x.1.2 most]) (fun y : Er (mStored b most at_ out) => pn y.1) (fun _ => []) := by
  (refine S.inflate_stream_stored_cnP fun F => ?_; unfold S.inflate_stream_stored; simp only [List.cons_append, List.nil_append, -eq_self])
  refine e_ex Pick.here fun q => e_all Pick.here ?_
  obtain ⟨r, qa, qc⟩ := q
  (try simp only [List.cons_append, List.nil_append, -eq_self])
  (((with_reducible refine e_opN v_nil Imp.nil ?_))); (((with_reducible refine e_opN v_fa0 Imp.nil ?_))); (((with_reducible refine' e_opN (v_ldN ?hc) ?hi ?_); (case hi => (repeat (first | exact Imp.refl | exact Imp.nil | (apply Imp.pick; (focus ((repeat constructor); done))) | refine Imp.drop ?_))); (case hc => (repeat (first | exact Nth.here | apply Nth.there)))))
  (refine' e_call (ralign) ?hp fun _ => ?_; (case hp => (repeat (first | exact Picks.nil | (apply Picks.cons; (focus (repeat constructor)))))); (try simp only [List.cons_append, List.nil_append, Bool.not_true, Bool.not_false]))
  refine e_imp (M := IsS p b ((at_ + 7) / 8 * 8) out most :: F) (.ex (r, (qa, qc)) (.all (.pick (by (repeat constructor)) (.pick (by (repeat constructor)) (.pick (by (repeat constructor)) (by (repeat (first | exact Imp.refl | exact Imp.nil | (apply Imp.pick; (focus ((repeat constructor); done))) | refine Imp.drop ?_)))))))) ?_
  obtain ⟨a1, ha1⟩ : ∃ a1, a1 = (at_ + 7) / 8 * 8 := ⟨_, rfl⟩
  have hM : mStored b most at_ out = mStored b most at_ out := rfl
  conv at hM => rhs; unfold mStored
  rw [← ha1] at hM ⊢
  (refine' e_callP (stake) ?hp (fun _ => ?_) (fun _ => ?_); (case hp => (repeat (first | exact Picks.nil | (apply Picks.cons; (focus (repeat constructor)))))); (all_goals (try simp only [List.cons_append, List.nil_append, Bool.not_true, Bool.not_false, -eq_self])))
  rotate_left
  · rename_i y
    rw [if_pos y.2] at hM
    refine e_pan ⟨_, hM⟩ rfl ?_
    (repeat (first | exact Imp.refl | exact Imp.nil | (apply Imp.pick; (focus ((repeat constructor); done))) | refine Imp.drop ?_))
  rename_i x1
  rw [if_neg (fun c => c x1.2)] at hM
  obtain ⟨n, hn⟩ : ∃ n, n = takN b a1 16 := ⟨_, rfl⟩
  obtain ⟨a2, ha2⟩ : ∃ a2, a2 = takAt b a1 16 := ⟨_, rfl⟩
  rw [← hn, ← ha2] at hM
  (try rw [← hn])
  (try rw [← ha2])
  (refine' e_callP (stake) ?hp (fun _ => ?_) (fun _ => ?_); (case hp => (repeat (first | exact Picks.nil | (apply Picks.cons; (focus (repeat constructor)))))); (all_goals (try simp only [List.cons_append, List.nil_append, Bool.not_true, Bool.not_false, -eq_self])))
  rotate_left
  · rename_i y
    rw [if_pos y.2] at hM
    refine e_pan ⟨_, hM⟩ rfl ?_
    (repeat (first | exact Imp.refl | exact Imp.nil | (apply Imp.pick; (focus ((repeat constructor); done))) | refine Imp.drop ?_))
  rename_i x2
  rw [if_neg (fun c => c x2.2)] at hM
  obtain ⟨m, hm⟩ : ∃ m, m = takN b a2 16 := ⟨_, rfl⟩
  obtain ⟨a3, ha3⟩ : ∃ a3, a3 = takAt b a2 16 := ⟨_, rfl⟩
  rw [← hm, ← ha3] at hM
  (try rw [← hm])
  (try rw [← ha3])
  have hn16 : n < 65536 := by rw [hn]; unfold takN; split; exact tak_lt _ _ _; omega
  (((with_reducible refine e_opN (v_sub ?h1 ?h2) Imp.nil ?_); (case h1 => omega); (case h2 => omega)))
  refine e_opN v_eql Imp.nil ?_
  (refine' e_callP (demand) ?hp (fun _ => ?_) (fun _ => ?_); (case hp => (repeat (first | exact Picks.nil | (apply Picks.cons; (focus (repeat constructor)))))); (all_goals (try simp only [List.cons_append, List.nil_append, Bool.not_true, Bool.not_false, -eq_self])))
  rotate_left
  · rename_i y
    rw [if_pos (of_decide_eq_false y.2)] at hM
    refine e_pan ⟨_, hM⟩ rfl ?_
    (repeat (first | exact Imp.refl | exact Imp.nil | (apply Imp.pick; (focus ((repeat constructor); done))) | refine Imp.drop ?_))
  rename_i x3
  rw [if_neg (fun c => c (of_decide_eq_true x3.2))] at hM
  (refine' e_callP (room h1 h2) ?hp (fun _ => ?_) (fun _ => ?_); (case hp => (repeat (first | exact Picks.nil | (apply Picks.cons; (focus (repeat constructor)))))); (all_goals (try simp only [List.cons_append, List.nil_append, Bool.not_true, Bool.not_false, -eq_self])))
  rotate_left
  · rename_i y
    rw [if_pos y.2] at hM
    refine e_pan ⟨_, hM⟩ rfl ?_
    (repeat (first | exact Imp.refl | exact Imp.nil | (apply Imp.pick; (focus ((repeat constructor); done))) | refine Imp.drop ?_))
  rename_i x4
  rw [if_neg (fun c => c x4.2)] at hM
  refine e_ex Pick.here fun q => e_all Pick.here ?_
  obtain ⟨r, qa, qc⟩ := q
  (try simp only [List.cons_append, List.nil_append, -eq_self])
  (((with_reducible refine e_opN v_nil Imp.nil ?_))); (((with_reducible refine e_opN v_fa0 Imp.nil ?_))); (((with_reducible refine' e_opN (v_ldN ?hc) ?hi ?_); (case hi => (repeat (first | exact Imp.refl | exact Imp.nil | (apply Imp.pick; (focus ((repeat constructor); done))) | refine Imp.drop ?_))); (case hc => (repeat (first | exact Nth.here | apply Nth.there)))))
  (refine' e_call (rraw) ?hp fun _ => ?_; (case hp => (repeat (first | exact Picks.nil | (apply Picks.cons; (focus (repeat constructor)))))); (try simp only [List.cons_append, List.nil_append, Bool.not_true, Bool.not_false]))
  rename_i u
  obtain ⟨ua, uc⟩ := u
  (try dsimp only)
  refine e_opN (v_ext (v := .slice ua (rrB b a3 n).length uc) rfl) Imp.nil ?_
  refine e_opN (v_ext (v := .int .i64 (rrR b a3 n)) rfl) Imp.nil ?_
  (refine' e_callP (must) ?hp (fun _ => ?_) (fun _ => ?_); (case hp => (repeat (first | exact Picks.nil | (apply Picks.cons; (focus (repeat constructor)))))); (all_goals (try simp only [List.cons_append, List.nil_append, Bool.not_true, Bool.not_false, -eq_self])))
  rotate_left
  · rename_i y
    rw [if_pos y.2] at hM
    refine e_pan ⟨_, hM⟩ rfl ?_
    (repeat (first | exact Imp.refl | exact Imp.nil | (apply Imp.pick; (focus ((repeat constructor); done))) | refine Imp.drop ?_))
  rename_i x5
  rw [if_neg (fun c => c x5.2)] at hM
  (((with_reducible refine e_opN v_nil Imp.nil ?_))); (((with_reducible refine e_opN v_fa0 Imp.nil ?_))); (((with_reducible refine' e_opN (v_ldN ?hc) ?hi ?_); (case hi => (repeat (first | exact Imp.refl | exact Imp.nil | (apply Imp.pick; (focus ((repeat constructor); done))) | refine Imp.drop ?_))); (case hc => (repeat (first | exact Nth.here | apply Nth.there)))))
  refine e_slfacts .here fun f1 f2 f3 f4 => ?_
  have hle := rrB_le b a3 n
  have hbl : (rrB b a3 n).length ≤ 65536 := by
    have : (rrB b a3 n).length ≤ n := by unfold rrB; split; (rw [List.length_take]; omega); simp
    omega
  refine e_app (m := (rrB b a3 n).length) (news := (rrB b a3 n).map Sl.B) (by (repeat constructor)) (src_rd (e' := 5) (by kernel_rfl) .here (rd_sl (by simp) f4) (fun c => (by
    rcases Nat.eq_zero_or_pos (rrB b a3 n).length with z | z
    · exact z
    · obtain ⟨_, e⟩ := f4 z; rw [c] at e; cases e)) B_one) (by omega) (by omega) fun a' c' => ?_
  (((with_reducible refine e_opN v_nil Imp.nil ?_))); (((with_reducible refine e_opN v_fa0 Imp.nil ?_))); (((with_reducible refine' e_stN ?hp ?ho ?_); (case hp => (repeat constructor)); (case ho => (repeat (first | exact Put.here | apply Put.there)))))
  (first | refine e_ret ((⟨_, hM⟩ : Ok (mStored b most at_ out))) rfl ?_ | refine e_retT ((⟨_, hM⟩ : Ok (mStored b most at_ out))) ?_)
  refine .ex (r, (a', c')) (.all ?_)
  (try simp only [List.cons_append, List.nil_append, -eq_self])
  rw [List.length_append, List.map_append]
  exact .pick (by (repeat constructor)) (.pick (by (repeat constructor)) (.pick (by (repeat constructor)) (by (repeat (first | exact Imp.refl | exact Imp.nil | (apply Imp.pick; (focus ((repeat constructor); done))) | refine Imp.drop ?_)))))
theorem decoder {W : World} {A : HP} {a : Option Addr} {cap : Nat} {l : List Int} (hr : RdB W A a l.length (l.map I)) (hl : l.length ≤ 4611686018427387904) :
    CnP Try.prog 89 [.slice a l.length cap] W [A] (fun x : { p : Nat // okL l } => .pointer (some ⟨x.1, 0, none⟩)) (fun x => [IsDec x.1 l, A]) (fun _ : If (¬ okL l) => pn 30) (fun _ => [A]) := by
  (refine S.inflate_decoder_cnP fun F => ?_; unfold S.inflate_decoder; simp only [List.cons_append, List.nil_append, -eq_self])
  by_cases hok : okL l
  · (refine' e_call (newDec hr hok) ?hp fun _ => ?_; (case hp => (repeat (first | exact Picks.nil | (apply Picks.cons; (focus (repeat constructor)))))); (try simp only [List.cons_append, List.nil_append, Bool.not_true, Bool.not_false]))
    rename_i p
    refine e_opN (v_ext (v := .pointer (some ⟨p, 0, none⟩)) rfl) Imp.nil ?_
    refine e_opN (v_ext (v := .int .i64 0) rfl) Imp.nil ?_
    (refine' e_callP (must) ?hp (fun _ => ?_) (fun _ => ?_); (case hp => (repeat (first | exact Picks.nil | (apply Picks.cons; (focus (repeat constructor)))))); (all_goals (try simp only [List.cons_append, List.nil_append, Bool.not_true, Bool.not_false, -eq_self])))
    · refine e_ret ⟨p, hok⟩ rfl ?_
      (repeat (first | exact Imp.refl | exact Imp.nil | (apply Imp.pick; (focus ((repeat constructor); done))) | refine Imp.drop ?_))
    · rename_i y
      exact absurd rfl y.2
  · (refine' e_call (newDec0 hr hl hok) ?hp fun _ => ?_; (case hp => (repeat (first | exact Picks.nil | (apply Picks.cons; (focus (repeat constructor)))))); (try simp only [List.cons_append, List.nil_append, Bool.not_true, Bool.not_false]))
    (((with_reducible refine' e_opN (v_extN ?hc) Imp.nil ?_); (case hc => (repeat (first | exact Nth.here | apply Nth.there))))); (((with_reducible refine' e_opN (v_extN ?hc) Imp.nil ?_); (case hc => (repeat (first | exact Nth.here | apply Nth.there)))))
    (refine' e_callP (must) ?hp (fun _ => ?_) (fun _ => ?_); (case hp => (repeat (first | exact Picks.nil | (apply Picks.cons; (focus (repeat constructor)))))); (all_goals (try simp only [List.cons_append, List.nil_append, Bool.not_true, Bool.not_false, -eq_self])))
    · rename_i x
      exact absurd x.2 (by omega)
    · refine e_pan (yes hok) rfl ?_
      (repeat (first | exact Imp.refl | exact Imp.nil | (apply Imp.pick; (focus ((repeat constructor); done))) | refine Imp.drop ?_))
theorem inext {W : World} {p r at_ : Nat} {l : List Int} {b : List UInt8} :
    CnP Try.prog 101 [.pointer (some ⟨p, 0, none⟩), .pointer (some ⟨r, 0, none⟩)] W [IsDec p l, IsR r b at_] (fun _ : If ((nxt l b at_).2.1 = 0) => .int .i64 (nxt l b at_).1) (fun _ => [IsDec p l, IsR r b (nxt l b at_).2.2]) (fun _ : If ((nxt l b at_).2.1 ≠ 0) => pn (nxt l b at_).2.1) (fun _ => []) := by
  (refine S.inflate_next_cnP fun F => ?_; unfold S.inflate_next; simp only [List.cons_append, List.nil_append, -eq_self])
  (refine' e_call (next) ?hp fun _ => ?_; (case hp => (repeat (first | exact Picks.nil | (apply Picks.cons; (focus (repeat constructor)))))); (try simp only [List.cons_append, List.nil_append, Bool.not_true, Bool.not_false]))
  refine e_opN (v_ext (v := .int .i64 (nxt l b at_).1) rfl) Imp.nil ?_
  refine e_opN (v_ext (v := .int .i64 (nxt l b at_).2.1) rfl) Imp.nil ?_
  (refine' e_callP (must) ?hp (fun _ => ?_) (fun _ => ?_); (case hp => (repeat (first | exact Picks.nil | (apply Picks.cons; (focus (repeat constructor)))))); (all_goals (try simp only [List.cons_append, List.nil_append, Bool.not_true, Bool.not_false, -eq_self])))
  · rename_i x
    (first | refine e_ret (yes x.2) rfl ?_ | refine e_retT (yes x.2) ?_)
    (repeat (first | exact Imp.refl | exact Imp.nil | (apply Imp.pick; (focus ((repeat constructor); done))) | refine Imp.drop ?_))
  · rename_i y
    refine e_pan (yes y.2) rfl ?_
    (repeat (first | exact Imp.refl | exact Imp.nil | (apply Imp.pick; (focus ((repeat constructor); done))) | refine Imp.drop ?_))
end Go.Proofs.Ytehfblkpbadikaa.IF
/-! Base lengths and distances; the fixed codes' lengths. No conditions but those that each names. -/
namespace Go.Proofs.Ytehfblkpbadikaa.IF
open Go Go.Proofs Go.RowKit Go.Proofs.Ytehfblkpbadikaa.Sh Go.Proofs.Ytehfblkpbadikaa.Sl Go.Proofs.Ytehfblkpbadikaa.T Go.Proofs.Ytehfblkpbadikaa.HM Go.Proofs.Ytehfblkpbadikaa.HF Go.Proofs.Ytehfblkpbadikaa.B Go.Proofs.Ytehfblkpbadikaa.M
/-- a length's base and extra bits -/
def bL (s : Int) : Int × Int := if s - 257 < 0 ∨ 28 < s - 257 then (0, 0) else if s - 257 = 28 then (258, 0) else if s - 257 < 8 then (s - 257 + 3, 0) else (3 + (4 + (s - 257) % 4) * ((2 ^ ((s - 257) / 4 - 1).toNat : Nat) : Int), (s - 257) / 4 - 1)
/-- a distance's -/
def bD (s : Int) : Int × Int := if s < 0 ∨ 29 < s then (0, 0) else if s < 4 then (s + 1, 0) else (1 + (2 + s % 2) * ((2 ^ (s / 2 - 1).toNat : Nat) : Int), s / 2 - 1)
theorem baseLength {W : World} {s : Int} (h1 : -1099511627776 ≤ s ∧ s ≤ 1099511627776) : Cn Try.prog 102 [.int .i64 s] W [] (fun _ : Unit => .tuple #[.int .i64 (bL s).1, .int .i64 (bL s).2]) (fun _ => []) := by
  (refine S.lz_BaseLength_cn fun F => ?_; unfold S.lz_BaseLength; simp only [List.cons_append, List.nil_append])
  (((with_reducible refine e_opN (v_sub ?h1 ?h2) Imp.nil ?_); (case h1 => omega); (case h2 => omega)))
  (refine e_ask v_lss Imp.nil (fun h => ?_) (fun h => ?_))
  · ((with_reducible refine e_gdF1 ?_)); ((with_reducible refine e_gdF1 ?_)); (((with_reducible refine e_opN v_pickT Imp.nil ?_))); ((with_reducible refine e_condT ?_))
    rw [show bL s = (0, 0) from if_pos (.inl h)]
    (first | refine e_ret (()) rfl ?_ | refine e_retT (()) ?_)
    exact .refl
  have i1 := h
  ((with_reducible refine e_gdT ?_)); ((with_reducible refine e_gdT ?_))
  (refine e_ask v_gtr Imp.nil (fun h => ?_) (fun h => ?_))
  · (((with_reducible refine e_opN v_pickF Imp.nil ?_))); ((with_reducible refine e_condT ?_))
    rw [show bL s = (0, 0) from if_pos (.inr h)]
    (first | refine e_ret (()) rfl ?_ | refine e_retT (()) ?_)
    exact .refl
  have i2 := h
  (((with_reducible refine e_opN v_pickF Imp.nil ?_))); ((with_reducible refine e_condF ?_))
  (refine e_ask v_eql Imp.nil (fun h => ?_) (fun h => ?_))
  · ((with_reducible refine e_condT ?_))
    rw [show bL s = (258, 0) by unfold bL; rw [if_neg (by omega), if_pos h]]
    (first | refine e_ret (()) rfl ?_ | refine e_retT (()) ?_)
    exact .refl
  have i3 := h
  refine e_condF ?_
  (refine e_ask v_lss Imp.nil (fun h => ?_) (fun h => ?_))
  · ((with_reducible refine e_condT ?_)); (((with_reducible refine e_opN (v_add ?h1 ?h2) Imp.nil ?_); (case h1 => omega); (case h2 => omega)))
    rw [show bL s = (s - 257 + 3, 0) by unfold bL; rw [if_neg (by omega), if_neg i3, if_pos h]]
    (first | refine e_ret (()) rfl ?_ | refine e_retT (()) ?_)
    exact .refl
  have i4 := h
  obtain ⟨K, hK⟩ := Int.eq_ofNat_of_zero_le (show 0 ≤ s - 257 by omega)
  have hb : bL s = (3 + (4 + (s - 257) % 4) * ((2 ^ ((s - 257) / 4 - 1).toNat : Nat) : Int), (s - 257) / 4 - 1) := by unfold bL; rw [if_neg (by omega), if_neg i3, if_neg i4]
  rw [hb, hK]
  have e1 : (K : Int) / 4 - 1 = ((K / 4 - 1 : Nat) : Int) := by omega
  ((with_reducible refine e_condF ?_)); (((with_reducible refine e_opN (v_quo ?h1 ?h2 ?h3) Imp.nil ?_); (case h1 => omega); (case h2 => omega); (case h3 => omega))); (((with_reducible refine e_opN (v_sub ?h1 ?h2) Imp.nil ?_); (case h1 => omega); (case h2 => omega))); (((with_reducible refine e_opN (v_rem ?h1 ?h2) Imp.nil ?_); (case h1 => omega); (case h2 => omega))); (((with_reducible refine e_opN (v_add ?h1 ?h2) Imp.nil ?_); (case h1 => omega); (case h2 => omega)))
  refine e_opN v_conv Imp.nil ?_
  rw [wrapu64' (by omega) (by omega), e1]
  refine e_opN (v_shl (by omega)) Imp.nil ?_
  rw [shl64 (by omega) (by omega) (by omega), Int.toNat_natCast]
  have h5 : (2 : Nat) ^ (K / 4 - 1) ≤ 32768 := pow15 (by omega)
  obtain ⟨E, hE⟩ : ∃ E : Nat, E = 2 ^ (K / 4 - 1) := ⟨_, rfl⟩
  rw [← hE] at h5 ⊢
  have h6 : (4 + (K : Int) % 4) * (E : Int) ≤ 8 * 32768 := Int.mul_le_mul (by omega) (by omega) (by omega) (by omega)
  have h7 : 0 ≤ (4 + (K : Int) % 4) * (E : Int) := Int.mul_nonneg (by omega) (by omega)
  refine e_opN (v_add (by omega) (by omega)) Imp.nil ?_
  (first | refine e_ret (()) rfl ?_ | refine e_retT (()) ?_)
  exact .refl
theorem baseDistance {W : World} {s : Int} : Cn Try.prog 103 [.int .i64 s] W [] (fun _ : Unit => .tuple #[.int .i64 (bD s).1, .int .i64 (bD s).2]) (fun _ => []) := by
  (refine S.lz_BaseDistance_cn fun F => ?_; unfold S.lz_BaseDistance; simp only [List.cons_append, List.nil_append])
  (refine e_ask v_lss Imp.nil (fun h => ?_) (fun h => ?_))
  · ((with_reducible refine e_gdF1 ?_)); ((with_reducible refine e_gdF1 ?_)); (((with_reducible refine e_opN v_pickT Imp.nil ?_))); ((with_reducible refine e_condT ?_))
    rw [show bD s = (0, 0) from if_pos (.inl h)]
    (first | refine e_ret (()) rfl ?_ | refine e_retT (()) ?_)
    exact .refl
  have i1 := h
  ((with_reducible refine e_gdT ?_)); ((with_reducible refine e_gdT ?_))
  (refine e_ask v_gtr Imp.nil (fun h => ?_) (fun h => ?_))
  · (((with_reducible refine e_opN v_pickF Imp.nil ?_))); ((with_reducible refine e_condT ?_))
    rw [show bD s = (0, 0) from if_pos (.inr h)]
    (first | refine e_ret (()) rfl ?_ | refine e_retT (()) ?_)
    exact .refl
  have i2 := h
  (((with_reducible refine e_opN v_pickF Imp.nil ?_))); ((with_reducible refine e_condF ?_))
  (refine e_ask v_lss Imp.nil (fun h => ?_) (fun h => ?_))
  · ((with_reducible refine e_condT ?_)); (((with_reducible refine e_opN (v_add ?h1 ?h2) Imp.nil ?_); (case h1 => omega); (case h2 => omega)))
    rw [show bD s = (s + 1, 0) by unfold bD; rw [if_neg (by omega), if_pos h]]
    (first | refine e_ret (()) rfl ?_ | refine e_retT (()) ?_)
    exact .refl
  have i4 := h
  obtain ⟨K, rfl⟩ := Int.eq_ofNat_of_zero_le (show 0 ≤ s by omega)
  have hb : bD K = (1 + (2 + (K : Int) % 2) * ((2 ^ ((K : Int) / 2 - 1).toNat : Nat) : Int), (K : Int) / 2 - 1) := by unfold bD; rw [if_neg (by omega), if_neg i4]
  rw [hb]
  have e1 : (K : Int) / 2 - 1 = ((K / 2 - 1 : Nat) : Int) := by omega
  ((with_reducible refine e_condF ?_)); (((with_reducible refine e_opN (v_quo ?h1 ?h2 ?h3) Imp.nil ?_); (case h1 => omega); (case h2 => omega); (case h3 => omega))); (((with_reducible refine e_opN (v_sub ?h1 ?h2) Imp.nil ?_); (case h1 => omega); (case h2 => omega))); (((with_reducible refine e_opN (v_rem ?h1 ?h2) Imp.nil ?_); (case h1 => omega); (case h2 => omega))); (((with_reducible refine e_opN (v_add ?h1 ?h2) Imp.nil ?_); (case h1 => omega); (case h2 => omega)))
  refine e_opN v_conv Imp.nil ?_
  rw [wrapu64' (by omega) (by omega), e1]
  refine e_opN (v_shl (by omega)) Imp.nil ?_
  rw [shl64 (by omega) (by omega) (by omega), Int.toNat_natCast]
  have h5 : (2 : Nat) ^ (K / 2 - 1) ≤ 32768 := pow15 (by omega)
  obtain ⟨E, hE⟩ : ∃ E : Nat, E = 2 ^ (K / 2 - 1) := ⟨_, rfl⟩
  rw [← hE] at h5 ⊢
  have h6 : (2 + (K : Int) % 2) * (E : Int) ≤ 8 * 32768 := Int.mul_le_mul (by omega) (by omega) (by omega) (by omega)
  have h7 : 0 ≤ (2 + (K : Int) % 2) * (E : Int) := Int.mul_nonneg (by omega) (by omega)
  refine e_opN (v_add (by omega) (by omega)) Imp.nil ?_
  (first | refine e_ret (()) rfl ?_ | refine e_retT (()) ?_)
  exact .refl
theorem fill {W : World} {a : Option Addr} {c k n : Nat} {l : List Int} {v : Int} (hn : l.length = n) (h1 : n ≤ 1048576) (h2 : k ≤ 1048576) : Cn Try.prog 100 [.slice a n c, .int .i64 (k : Int), .int .i64 v] W [Sl 1 3 a c n (l.map I)]
    (fun q : Option Addr × Nat => .slice q.1 (n + k) q.2) (fun q => [Sl 1 3 q.1 q.2 (n + k) ((l ++ List.replicate k v).map I)]) := by
  (refine S.inflate_Fixed_1_cn fun F => ?_; unfold S.inflate_Fixed_1; simp only [List.cons_append, List.nil_append])
  refine e_loop2 (fun m x y => [ex fun i : Nat => ex fun q : Option Addr × Nat => all [pu (m + i = k ∧ y = .int .i64 (i : Int) ∧ x = .slice q.1 (n + i) q.2), Sl 1 3 q.1 q.2 (n + i) ((l ++ List.replicate i v).map I)]] ++ F) k ?_ ?_
  · refine .ex 0 (.ex (a, c) (.all ?_))
    (try simp only [List.cons_append, List.nil_append, -eq_self])
    refine .pu ⟨by omega, rfl, rfl⟩ ?_
    rw [List.replicate_zero, List.append_nil]
    exact .refl
  intro m ds x y
  (try simp only [List.cons_append, List.nil_append, -eq_self])
  refine e_ex Pick.here fun i => e_ex Pick.here fun q => e_all Pick.here ?_
  obtain ⟨qa, qc⟩ := q
  (try simp only [List.cons_append, List.nil_append, -eq_self])
  refine e_pu Pick.here fun hi => ?_
  obtain ⟨hmi, rfl, rfl⟩ := hi
  (try dsimp only)
  (refine e_ask v_lss Imp.nil (fun h => ?_) (fun h => ?_))
  · refine e_condT ?_
    refine e_bsl1 fun g => ?_
    refine e_app (m := 1) (news := [I v]) (by (repeat constructor)) (src_pt (e' := 3) (by kernel_rfl) .here (by rfl) (I_one (l := [v]))) (by omega) (by omega) fun a' c' => ?_
    (((with_reducible refine e_opN (v_add ?h1 ?h2) Imp.nil ?_); (case h1 => omega); (case h2 => omega)))
    refine e_next2 (m - 1) (by omega) (.ex (i + 1) (.ex (a', c') (.all ?_)))
    (try simp only [List.cons_append, List.nil_append, -eq_self])
    refine .pu ⟨by omega, congrArg (Value.int .i64) (by omega), by rw [Nat.add_assoc]⟩ ?_
    rw [List.replicate_succ', ← List.append_assoc, List.map_append (l₁ := l ++ List.replicate i v), ← Nat.add_assoc]
    exact .pick (by (repeat constructor)) (by (repeat (first | exact Imp.refl | exact Imp.nil | (apply Imp.pick; (focus ((repeat constructor); done))) | refine Imp.drop ?_)))
  · have : i = k := by omega
    subst this
    refine e_condF ?_
    refine e_ret (qa, qc) rfl ?_
    exact .refl
def litL : List Int := List.replicate 144 8 ++ List.replicate 112 9 ++ List.replicate 24 7 ++ List.replicate 8 8
def dstL : List Int := List.replicate 32 5
theorem lit_len : litL.length = 0 + 144 + 112 + 24 + 8 := by simp only [litL, List.length_append, List.length_replicate]
theorem dst_len : dstL.length = 0 + 32 := by simp only [dstL, List.length_replicate]
theorem fixedL {W : World} : Cn Try.prog 87 [] W [] (fun q : (Option Addr × Nat) × (Option Addr × Nat) => .tuple #[.slice q.1.1 litL.length q.1.2, .slice q.2.1 dstL.length q.2.2])
    (fun q => [Sl 1 3 q.1.1 q.1.2 litL.length (litL.map I), Sl 1 3 q.2.1 q.2.2 dstL.length (dstL.map I)]) := by
  (refine S.inflate_Fixed_cn fun F => ?_; unfold S.inflate_Fixed; simp only [List.cons_append, List.nil_append])
  rw [lit_len, dst_len]
  refine e_nil (s := 1) (e := 3) ?_
  (refine' e_call (fill (l := []) (k := 144) (v := 8) rfl (by omega) (by omega)) ?hp fun _ => ?_; (case hp => (repeat (first | exact Picks.nil | (apply Picks.cons; (focus (repeat constructor)))))); (try simp only [List.cons_append, List.nil_append, Bool.not_true, Bool.not_false]))
  rename_i q1
  obtain ⟨a1, c1⟩ := q1
  (try dsimp only)
  (refine' e_call (fill (l := List.replicate 144 8) (n := 0 + 144) (k := 112) (v := 9) (by rw [List.length_replicate]) (by omega) (by omega)) ?hp fun _ => ?_; (case hp => (repeat (first | exact Picks.nil | (apply Picks.cons; (focus (repeat constructor)))))); (try simp only [List.cons_append, List.nil_append, Bool.not_true, Bool.not_false]))
  rename_i q2
  obtain ⟨a2, c2⟩ := q2
  (try dsimp only)
  (refine' e_call (fill (l := List.replicate 144 8 ++ List.replicate 112 9) (n := 0 + 144 + 112) (k := 24) (v := 7) (by rw [List.length_append, List.length_replicate, List.length_replicate]) (by omega) (by omega)) ?hp fun _ => ?_; (case hp => (repeat (first | exact Picks.nil | (apply Picks.cons; (focus (repeat constructor)))))); (try simp only [List.cons_append, List.nil_append, Bool.not_true, Bool.not_false]))
  rename_i q3
  obtain ⟨a3, c3⟩ := q3
  (try dsimp only)
  (refine' e_call (fill (l := List.replicate 144 8 ++ List.replicate 112 9 ++ List.replicate 24 7) (n := 0 + 144 + 112 + 24) (k := 8) (v := 8) (by rw [List.length_append, List.length_append, List.length_replicate, List.length_replicate, List.length_replicate]) (by omega) (by omega)) ?hp fun _ => ?_; (case hp => (repeat (first | exact Picks.nil | (apply Picks.cons; (focus (repeat constructor)))))); (try simp only [List.cons_append, List.nil_append, Bool.not_true, Bool.not_false]))
  rename_i q4
  obtain ⟨a4, c4⟩ := q4
  (try dsimp only)
  rw [show (List.replicate 144 8 ++ List.replicate 112 9 ++ List.replicate 24 7 ++ List.replicate 8 8 : List Int) = litL from rfl]
  refine e_nil (s := 1) (e := 3) ?_
  (refine' e_call (fill (l := []) (k := 32) (v := 5) rfl (by omega) (by omega)) ?hp fun _ => ?_; (case hp => (repeat (first | exact Picks.nil | (apply Picks.cons; (focus (repeat constructor)))))); (try simp only [List.cons_append, List.nil_append, Bool.not_true, Bool.not_false]))
  rename_i q5
  obtain ⟨a5, c5⟩ := q5
  rw [show (List.replicate 32 5 : List Int) = dstL from rfl]
  (try dsimp only)
  refine e_ret ((a4, c4), (a5, c5)) rfl ?_
  exact .pick (by (repeat constructor)) (.pick (by (repeat constructor)) (by (repeat (first | exact Imp.refl | exact Imp.nil | (apply Imp.pick; (focus ((repeat constructor); done))) | refine Imp.drop ?_))))
end Go.Proofs.Ytehfblkpbadikaa.IF
/-! Symbols up to the end of a block. No conditions but those that each names. -/
namespace Go.Proofs.Ytehfblkpbadikaa.IF
open Go Go.Proofs Go.RowKit Go.Proofs.Ytehfblkpbadikaa.Sh Go.Proofs.Ytehfblkpbadikaa.Sl Go.Proofs.Ytehfblkpbadikaa.T Go.Proofs.Ytehfblkpbadikaa.HM Go.Proofs.Ytehfblkpbadikaa.HF Go.Proofs.Ytehfblkpbadikaa.B Go.Proofs.Ytehfblkpbadikaa.M
theorem dec_at (l : List Int) (b : List UInt8) : ∀ f n c at_, at_ ≤ (dec l b f n c at_).2.2 ∧ ((dec l b f n c at_).2.1 = 0 → at_ < (dec l b f n c at_).2.2)
  | 0, n, c, at_ => ⟨Nat.le_refl _, fun h => by simp [dec] at h⟩
  | f + 1, n, c, at_ => by
    have hA : at_ ≤ takAt b at_ 1 := by unfold takAt; split <;> omega
    unfold dec
    by_cases hR : takR b at_ 1 = 0
    · rw [if_pos hR]
      have hA1 : takAt b at_ 1 = at_ + 1 := by unfold takAt; rw [if_pos hR]; rfl
      cases fL l ((n + 1 : Nat) : Int) ((2 * c + takN b at_ 1 : Nat) : Int) l.length with
      | some i => exact ⟨hA, fun _ => by simp only; omega⟩
      | none =>
        have ih := dec_at l b f (n + 1) (2 * c + takN b at_ 1) (takAt b at_ 1)
        simp only
        exact ⟨by omega, fun h => by have := ih.2 h; omega⟩
    · rw [if_neg hR]
      exact ⟨hA, fun h => absurd h hR⟩
theorem nxt_at (l : List Int) (b : List UInt8) (at_ : Nat) : at_ ≤ (nxt l b at_).2.2 ∧ ((nxt l b at_).2.1 = 0 → at_ < (nxt l b at_).2.2) := by
  unfold nxt
  split
  · exact dec_at l b 15 0 0 at_
  · exact ⟨Nat.le_refl _, fun h => by cases h⟩
theorem takAt_le (b : List UInt8) (at_ : Nat) (k : Int) : at_ ≤ takAt b at_ k := by unfold takAt; split <;> omega
/-- the text behind a copy: so many bytes, each from so far back -/
def copyL (out : List UInt8) (far : Nat) : Nat → List UInt8
  | 0 => out
  | k + 1 => copyL out far k ++ [(copyL out far k).getD ((copyL out far k).length - far) 0]
theorem copyL_len (out : List UInt8) (far : Nat) : ∀ k, (copyL out far k).length = out.length + k
  | 0 => rfl
  | k + 1 => by rw [copyL, List.length_append, copyL_len out far k, List.length_singleton]; omega
/-- what a symbol's round does: none: the block ends -/
def mRound (la lb : List Int) (b : List UInt8) (most : Int) (at_ : Nat) (out : List UInt8) : Except Int (Bool × Nat × List UInt8) :=
  let x := nxt la b at_
  if x.2.1 ≠ 0 then .error x.2.1 else
  if x.1 = 256 then .ok (true, x.2.2, out) else
  if x.1 < 256 then (if ¬ (1 : Int) ≤ most - out.length then .error 6 else .ok (false, x.2.2, out ++ [UInt8.ofNat x.1.toNat])) else
  if ¬ 0 < (bL x.1).1 then .error 30 else
  if takR b x.2.2 (bL x.1).2 ≠ 0 then .error (takR b x.2.2 (bL x.1).2) else
  let y := nxt lb b (takAt b x.2.2 (bL x.1).2)
  if y.2.1 ≠ 0 then .error y.2.1 else
  if ¬ 0 < (bD y.1).1 then .error 30 else
  if takR b y.2.2 (bD y.1).2 ≠ 0 then .error (takR b y.2.2 (bD y.1).2) else
  if ¬ (bD y.1).1 + takN b y.2.2 (bD y.1).2 ≤ out.length then .error 31 else
  if ¬ (bL x.1).1 + takN b x.2.2 (bL x.1).2 ≤ most - out.length then .error 6 else
  .ok (false, takAt b y.2.2 (bD y.1).2, copyL out ((bD y.1).1 + takN b y.2.2 (bD y.1).2).toNat ((bL x.1).1 + takN b x.2.2 (bL x.1).2).toNat)
def mSyms (la lb : List Int) (b : List UInt8) (most : Int) : Nat → Nat → List UInt8 → Except Int (Nat × List UInt8)
  | 0, _, _ => .error 20
  | f + 1, at_, out => match mRound la lb b most at_ out with
    | .error e => .error e
    | .ok (true, a, o) => .ok (a, o)
    | .ok (false, a, o) => mSyms la lb b most f a o
theorem dec_val (l : List Int) (b : List UInt8) : ∀ f n c at_, 0 ≤ (dec l b f n c at_).1 ∧ (dec l b f n c at_).1 ≤ l.length
  | 0, n, c, at_ => by simp [dec]
  | f + 1, n, c, at_ => by
    unfold dec
    split
    · cases h : fL l ((n + 1 : Nat) : Int) ((2 * c + takN b at_ 1 : Nat) : Int) l.length with
      | some i => have := (fL_sound h).1; simp only; omega
      | none => exact dec_val l b f _ _ _
    · simp
theorem nxt_val (l : List Int) (b : List UInt8) (at_ : Nat) : 0 ≤ (nxt l b at_).1 ∧ (nxt l b at_).1 ≤ l.length := by
  unfold nxt
  split
  · exact dec_val l b 15 0 0 at_
  · simp
theorem bL_b (s : Int) (h : 0 ≤ s) : 0 ≤ (bL s).1 ∧ (bL s).1 ≤ 1099511627776 ∧ 0 ≤ (bL s).2 := by
  unfold bL
  split
  · simp
  · split
    · simp
    · split
      · simp only; omega
      · rename_i h1 h2 h3
        have e : ((2 ^ ((s - 257) / 4 - 1).toNat : Nat) : Int) ≤ 32768 := by
          have := pow15 (show ((s - 257) / 4 - 1).toNat ≤ 15 by omega)
          omega
        have e0 : (0 : Int) ≤ ((2 ^ ((s - 257) / 4 - 1).toNat : Nat) : Int) := Int.natCast_nonneg _
        obtain ⟨E, hE⟩ : ∃ E : Int, E = ((2 ^ ((s - 257) / 4 - 1).toNat : Nat) : Int) := ⟨_, rfl⟩
        rw [← hE] at e e0 ⊢
        have h6 : (4 + (s - 257) % 4) * E ≤ 8 * 32768 := Int.mul_le_mul (by omega) (by omega) (by omega) (by omega)
        have h7 : 0 ≤ (4 + (s - 257) % 4) * E := Int.mul_nonneg (by omega) (by omega)
        simp only; omega
theorem bD_b (s : Int) (h : 0 ≤ s) : 0 ≤ (bD s).1 ∧ (bD s).1 ≤ 1099511627776 ∧ 0 ≤ (bD s).2 := by
  unfold bD
  split
  · simp
  · split
    · simp only; omega
    · rename_i h1 h2
      have e : ((2 ^ (s / 2 - 1).toNat : Nat) : Int) ≤ 32768 := by
        have := pow15 (show (s / 2 - 1).toNat ≤ 15 by omega)
        omega
      have e0 : (0 : Int) ≤ ((2 ^ (s / 2 - 1).toNat : Nat) : Int) := Int.natCast_nonneg _
      obtain ⟨E, hE⟩ : ∃ E : Int, E = ((2 ^ (s / 2 - 1).toNat : Nat) : Int) := ⟨_, rfl⟩
      rw [← hE] at e e0 ⊢
      have h6 : (2 + s % 2) * E ≤ 8 * 32768 := Int.mul_le_mul (by omega) (by omega) (by omega) (by omega)
      have h7 : 0 ≤ (2 + s % 2) * E := Int.mul_nonneg (by omega) (by omega)
      simp only; omega
theorem takN32 (b : List UInt8) (at_ : Nat) (k : Int) : takN b at_ k < 4294967296 := by
  unfold takN
  split
  · rename_i h
    have hk : k.toNat ≤ 32 := by
      unfold takR at h
      split at h
      · cases h
      · omega
    exact Nat.lt_of_lt_of_le (tak_lt _ _ _) (Nat.le_trans (Nat.pow_le_pow_right (by omega) hk) (by decide))
  · omega
end Go.Proofs.Ytehfblkpbadikaa.IF
/-! Symbols up to the end of a block: the walk. No conditions but those that each names. -/
namespace Go.Proofs.Ytehfblkpbadikaa.IF
open Go Go.Proofs Go.RowKit Go.Proofs.Ytehfblkpbadikaa.Sh Go.Proofs.Ytehfblkpbadikaa.Sl Go.Proofs.Ytehfblkpbadikaa.T Go.Proofs.Ytehfblkpbadikaa.HM Go.Proofs.Ytehfblkpbadikaa.HF Go.Proofs.Ytehfblkpbadikaa.B Go.Proofs.Ytehfblkpbadikaa.M
theorem ite_err {α : Type} {c : Prop} [Decidable c] {e : Int} {x : Except Int α} {v : α} (h : (if c then .error e else x) = .ok v) : ¬ c ∧ x = .ok v := by
  by_cases hc : c
  · rw [if_pos hc] at h; cases h
  · rw [if_neg hc] at h; exact ⟨hc, h⟩
theorem mRound_ok {la lb : List Int} {b : List UInt8} {most : Int} {at_ : Nat} {out : List UInt8} {t : Bool} {a : Nat} {o : List UInt8} (h : mRound la lb b most at_ out = .ok (t, a, o)) (h0 : (out.length : Int) ≤ most) : (o.length : Int) ≤ most := by
  have ho : ∀ {t' : Bool} {a' : Nat} {o' : List UInt8}, (Except.ok (t', a', o') : Except Int (Bool × Nat × List UInt8)) = .ok (t, a, o) → o' = o := fun e => (Prod.mk.inj (Prod.mk.inj (Except.ok.inj e)).2).2
  unfold mRound at h
  simp only at h
  obtain ⟨_, h⟩ := ite_err h
  by_cases c1 : (nxt la b at_).1 = 256
  · rw [if_pos c1] at h
    rw [← ho h]; exact h0
  rw [if_neg c1] at h
  by_cases c2 : (nxt la b at_).1 < 256
  · rw [if_pos c2] at h
    obtain ⟨c3, h⟩ := ite_err h
    rw [← ho h, List.length_append, List.length_singleton]; omega
  rw [if_neg c2] at h
  obtain ⟨_, h⟩ := ite_err h
  obtain ⟨_, h⟩ := ite_err h
  obtain ⟨_, h⟩ := ite_err h
  obtain ⟨_, h⟩ := ite_err h
  obtain ⟨_, h⟩ := ite_err h
  obtain ⟨_, h⟩ := ite_err h
  obtain ⟨c3, h⟩ := ite_err h
  rw [← ho h, copyL_len]
  generalize (bL (nxt la b at_).1).1 + (takN b (nxt la b at_).2.2 (bL (nxt la b at_).1).2 : Int) = E at c3 ⊢
  omega
theorem mSyms_ok {la lb : List Int} {b : List UInt8} {most : Int} : ∀ (f : Nat) {at_ : Nat} {out : List UInt8} {a : Nat} {o : List UInt8}, mSyms la lb b most f at_ out = .ok (a, o) → (out.length : Int) ≤ most → (o.length : Int) ≤ most
  | 0, _, _, _, _, h, _ => by cases h
  | f + 1, at_, out, a, o, h, h0 => by
    rw [mSyms] at h
    split at h
    · cases h
    · rename_i hr
      cases h
      exact mRound_ok hr h0
    · rename_i hr
      exact mSyms_ok f h (mRound_ok hr h0)
/-- the fuel that the bits allow -/
def mS (la lb : List Int) (b : List UInt8) (most : Int) (at_ : Nat) (out : List UInt8) : Except Int (Nat × List UInt8) := mSyms la lb b most (8 * b.length + 1 - at_) at_ out
theorem symbols {W : World} {p pa pb at_ : Nat} {la lb : List Int} {b out : List UInt8} {most : Int} (hla : la.length ≤ 320) (hlb : lb.length ≤ 320) (h1 : 0 ≤ most ∧ most ≤ 1048576) (h2 : (out.length : Int) ≤ most) :
    CnP Try.prog 88 [.pointer (some ⟨p, 0, none⟩), .pointer (some ⟨pa, 0, none⟩), .pointer (some ⟨pb, 0, none⟩)] W [IsS p b at_ out most, IsDec pa la, IsDec pb lb]
      (fun _ : Ok (mS la lb b most at_ out) => .tuple #[]) (fun x => [IsS p b x.1.1 x.1.2 most]) (fun y : Er (mS la lb b most at_ out) => pn y.1) (fun _ => []) := by
  (refine S.inflate_stream_symbols_cnP fun F => ?_; unfold S.inflate_stream_symbols; simp only [List.cons_append, List.nil_append, -eq_self])
  obtain ⟨R, hR⟩ : ∃ R, R = mS la lb b most at_ out := ⟨_, rfl⟩
  rw [← hR]
  refine e_loop0 (fun m => [ex fun at1 : Nat => ex fun o1 : List UInt8 => all [pu (8 * b.length + 1 ≤ m + at1 ∧ R = mSyms la lb b most m at1 o1 ∧ (o1.length : Int) ≤ most), IsS p b at1 o1 most, IsDec pa la, IsDec pb lb]] ++ F) (8 * b.length + 1 - at_) ?_ ?_
  · refine .ex at_ (.ex out (.all ?_))
    (try simp only [List.cons_append, List.nil_append, -eq_self])
    refine .pu ⟨by omega, hR, h2⟩ ?_
    exact .pick (by (repeat constructor)) (.pick (by (repeat constructor)) (.pick (by (repeat constructor)) .refl))
  clear hR h2
  intro m ds
  (try simp only [List.cons_append, List.nil_append, -eq_self])
  refine e_ex Pick.here fun at1 => e_ex Pick.here fun o1 => e_all Pick.here ?_
  (try simp only [List.cons_append, List.nil_append, -eq_self])
  refine e_pu Pick.here fun hi => ?_
  obtain ⟨hm, hR, h2⟩ := hi
  refine e_ex Pick.here fun q => e_all Pick.here ?_
  obtain ⟨r, qa, qc⟩ := q
  (try simp only [List.cons_append, List.nil_append, -eq_self])
  refine e_rfact (.there .here) fun hat => ?_
  obtain ⟨m, rfl⟩ : ∃ m', m = m' + 1 := ⟨m - 1, by omega⟩
  rw [mSyms] at hR
  have hM : mRound la lb b most at1 o1 = mRound la lb b most at1 o1 := rfl
  conv at hM => rhs; unfold mRound
  simp only at hM
  (((with_reducible refine e_opN v_nil Imp.nil ?_))); (((with_reducible refine e_opN v_fa0 Imp.nil ?_))); (((with_reducible refine' e_opN (v_ldN ?hc) ?hi ?_); (case hi => (repeat (first | exact Imp.refl | exact Imp.nil | (apply Imp.pick; (focus ((repeat constructor); done))) | refine Imp.drop ?_))); (case hc => (repeat (first | exact Nth.here | apply Nth.there)))))
  (refine' e_callP (inext) ?hp (fun _ => ?_) (fun _ => ?_); (case hp => (repeat (first | exact Picks.nil | (apply Picks.cons; (focus (repeat constructor)))))); (all_goals (try simp only [List.cons_append, List.nil_append, Bool.not_true, Bool.not_false, -eq_self])))
  rotate_left
  · rename_i y
    rw [if_pos y.2] at hM
    rw [hM] at hR
    refine e_pan ⟨_, hR⟩ rfl ?_
    (repeat (first | exact Imp.refl | exact Imp.nil | (apply Imp.pick; (focus ((repeat constructor); done))) | refine Imp.drop ?_))
  rename_i x1
  rw [if_neg (fun c => c x1.2)] at hM
  have hv := nxt_val la b at1
  have hlt := (nxt_at la b at1).2 x1.2
  obtain ⟨x, hx⟩ : ∃ x, x = (nxt la b at1).1 := ⟨_, rfl⟩
  obtain ⟨a2, ha2⟩ : ∃ a2, a2 = (nxt la b at1).2.2 := ⟨_, rfl⟩
  rw [← hx] at hv
  rw [← ha2] at hlt
  rw [← hx, ← ha2] at hM ⊢
  refine e_imp (M := IsS p b a2 o1 most :: IsDec pa la :: IsDec pb lb :: F) (.ex (r, (qa, qc)) (.all (.pick (by (repeat constructor)) (.pick (by (repeat constructor)) (.pick (by (repeat constructor)) (by (repeat (first | exact Imp.refl | exact Imp.nil | (apply Imp.pick; (focus ((repeat constructor); done))) | refine Imp.drop ?_)))))))) ?_
  (refine e_ask v_eql Imp.nil (fun h => ?_) (fun h => ?_))
  · rw [if_pos h] at hM
    rw [hM] at hR
    refine e_condT ?_
    (first | refine e_ret ((⟨_, hR⟩ : Ok R)) rfl ?_ | refine e_retT ((⟨_, hR⟩ : Ok R)) ?_)
    (repeat (first | exact Imp.refl | exact Imp.nil | (apply Imp.pick; (focus ((repeat constructor); done))) | refine Imp.drop ?_))
  rw [if_neg h] at hM
  refine e_condF ?_
  (refine e_ask v_lss Imp.nil (fun h => ?_) (fun h => ?_))
  · rw [if_pos h] at hM
    refine e_condT ?_
    (refine' e_callP (room (most := most) (out := o1) (by omega) (by omega)) ?hp (fun _ => ?_) (fun _ => ?_); (case hp => (repeat (first | exact Picks.nil | (apply Picks.cons; (focus (repeat constructor)))))); (all_goals (try simp only [List.cons_append, List.nil_append, Bool.not_true, Bool.not_false, -eq_self])))
    rotate_left
    · rename_i y
      rw [if_pos y.2] at hM
      rw [hM] at hR
      refine e_pan ⟨_, hR⟩ rfl ?_
      (repeat (first | exact Imp.refl | exact Imp.nil | (apply Imp.pick; (focus ((repeat constructor); done))) | refine Imp.drop ?_))
    rename_i x2
    have h3 := x2.2
    rw [if_neg (fun c => c x2.2)] at hM
    rw [hM] at hR
    simp only at hR
    refine e_ex Pick.here fun q => e_all Pick.here ?_
    obtain ⟨r, qa, qc⟩ := q
    (try simp only [List.cons_append, List.nil_append, -eq_self])
    obtain ⟨X, rfl⟩ := Int.eq_ofNat_of_zero_le hv.1
    (((with_reducible refine e_opN v_nil Imp.nil ?_))); (((with_reducible refine e_opN v_fa0 Imp.nil ?_))); (((with_reducible refine' e_opN (v_ldN ?hc) ?hi ?_); (case hi => (repeat (first | exact Imp.refl | exact Imp.nil | (apply Imp.pick; (focus ((repeat constructor); done))) | refine Imp.drop ?_))); (case hc => (repeat (first | exact Nth.here | apply Nth.there)))))
    refine e_opN v_conv Imp.nil ?_
    rw [wrap8 (by omega), ← B_ofNat (by omega)]
    refine e_bsl1 fun g => ?_
    refine e_app (m := 1) (news := [Sl.B (UInt8.ofNat X)]) (by (repeat constructor)) (src_pt (e' := 5) (by kernel_rfl) .here (by rfl) (B_one (l := [UInt8.ofNat X]))) (by omega) (by omega) fun a' c' => ?_
    (((with_reducible refine e_opN v_nil Imp.nil ?_))); (((with_reducible refine e_opN v_fa0 Imp.nil ?_))); (((with_reducible refine' e_stN ?hp ?ho ?_); (case hp => (repeat constructor)); (case ho => (repeat (first | exact Put.here | apply Put.there)))))
    refine e_next0 m (by omega) (.ex a2 (.ex (o1 ++ [UInt8.ofNat X]) (.all ?_)))
    (try simp only [List.cons_append, List.nil_append, -eq_self])
    refine .pu ⟨by omega, hR, by rw [List.length_append, List.length_singleton]; omega⟩ ?_
    refine .ex (r, (a', c')) (.all ?_)
    (try simp only [List.cons_append, List.nil_append, -eq_self])
    rw [List.length_append, List.map_append, List.length_singleton]
    exact .pick (by (repeat constructor)) (.pick (by (repeat constructor)) (.pick (by (repeat constructor)) (.pick (by (repeat constructor)) (.pick (by (repeat constructor)) (by (repeat (first | exact Imp.refl | exact Imp.nil | (apply Imp.pick; (focus ((repeat constructor); done))) | refine Imp.drop ?_)))))))
  rw [if_neg h] at hM
  refine e_condF ?_
  have hbl := bL_b x (by omega)
  (refine' e_call (baseLength (by omega)) ?hp fun _ => ?_; (case hp => (repeat (first | exact Picks.nil | (apply Picks.cons; (focus (repeat constructor)))))); (try simp only [List.cons_append, List.nil_append, Bool.not_true, Bool.not_false]))
  obtain ⟨base, hbase⟩ : ∃ base, base = (bL x).1 := ⟨_, rfl⟩
  obtain ⟨n, hn⟩ : ∃ n, n = (bL x).2 := ⟨_, rfl⟩
  rw [← hbase, ← hn] at hM hbl ⊢
  refine e_opN (v_ext (v := .int .i64 base) rfl) Imp.nil ?_
  refine e_opN (v_ext (v := .int .i64 n) rfl) Imp.nil ?_
  refine e_opN v_gtr Imp.nil ?_
  (refine' e_callP (demand) ?hp (fun _ => ?_) (fun _ => ?_); (case hp => (repeat (first | exact Picks.nil | (apply Picks.cons; (focus (repeat constructor)))))); (all_goals (try simp only [List.cons_append, List.nil_append, Bool.not_true, Bool.not_false, -eq_self])))
  rotate_left
  · rename_i y
    rw [if_pos (of_decide_eq_false y.2)] at hM
    rw [hM] at hR
    refine e_pan ⟨_, hR⟩ rfl ?_
    (repeat (first | exact Imp.refl | exact Imp.nil | (apply Imp.pick; (focus ((repeat constructor); done))) | refine Imp.drop ?_))
  rename_i x3
  rw [if_neg (fun c => c (of_decide_eq_true x3.2))] at hM
  (refine' e_callP (stake) ?hp (fun _ => ?_) (fun _ => ?_); (case hp => (repeat (first | exact Picks.nil | (apply Picks.cons; (focus (repeat constructor)))))); (all_goals (try simp only [List.cons_append, List.nil_append, Bool.not_true, Bool.not_false, -eq_self])))
  rotate_left
  · rename_i y
    rw [if_pos y.2] at hM
    rw [hM] at hR
    refine e_pan ⟨_, hR⟩ rfl ?_
    (repeat (first | exact Imp.refl | exact Imp.nil | (apply Imp.pick; (focus ((repeat constructor); done))) | refine Imp.drop ?_))
  rename_i x4
  rw [if_neg (fun c => c x4.2)] at hM
  have ht1 := takN32 b a2 n
  obtain ⟨t1, ht⟩ : ∃ t1, t1 = takN b a2 n := ⟨_, rfl⟩
  have hlt3 := takAt_le b a2 n
  obtain ⟨a3, ha3⟩ : ∃ a3, a3 = takAt b a2 n := ⟨_, rfl⟩
  rw [← ht] at ht1
  rw [← ha3] at hlt3
  rw [← ht, ← ha3] at hM ⊢
  (((with_reducible refine e_opN (v_add ?h1 ?h2) Imp.nil ?_); (case h1 => omega); (case h2 => omega))); (((with_reducible refine e_opN v_nil Imp.nil ?_))); (((with_reducible refine e_opN v_fa0 Imp.nil ?_)))
  refine e_ex Pick.here fun q => e_all Pick.here ?_
  obtain ⟨r, qa, qc⟩ := q
  (try simp only [List.cons_append, List.nil_append, -eq_self])
  (((with_reducible refine' e_opN (v_ldN ?hc) ?hi ?_); (case hi => (repeat (first | exact Imp.refl | exact Imp.nil | (apply Imp.pick; (focus ((repeat constructor); done))) | refine Imp.drop ?_))); (case hc => (repeat (first | exact Nth.here | apply Nth.there)))))
  (refine' e_callP (inext) ?hp (fun _ => ?_) (fun _ => ?_); (case hp => (repeat (first | exact Picks.nil | (apply Picks.cons; (focus (repeat constructor)))))); (all_goals (try simp only [List.cons_append, List.nil_append, Bool.not_true, Bool.not_false, -eq_self])))
  rotate_left
  · rename_i y
    rw [if_pos y.2] at hM
    rw [hM] at hR
    refine e_pan ⟨_, hR⟩ rfl ?_
    (repeat (first | exact Imp.refl | exact Imp.nil | (apply Imp.pick; (focus ((repeat constructor); done))) | refine Imp.drop ?_))
  rename_i x5
  rw [if_neg (fun c => c x5.2)] at hM
  have hv5 := nxt_val lb b a3
  have hlt5 := (nxt_at lb b a3).2 x5.2
  obtain ⟨y1, hy1⟩ : ∃ x, x = (nxt lb b a3).1 := ⟨_, rfl⟩
  obtain ⟨a4, ha4⟩ : ∃ a2, a2 = (nxt lb b a3).2.2 := ⟨_, rfl⟩
  rw [← hy1] at hv5
  rw [← ha4] at hlt5
  rw [← hy1, ← ha4] at hM ⊢
  refine e_imp (M := IsS p b a4 o1 most :: IsDec pa la :: IsDec pb lb :: F) (.ex (r, (qa, qc)) (.all (.pick (by (repeat constructor)) (.pick (by (repeat constructor)) (.pick (by (repeat constructor)) (by (repeat (first | exact Imp.refl | exact Imp.nil | (apply Imp.pick; (focus ((repeat constructor); done))) | refine Imp.drop ?_)))))))) ?_
  have hbd := bD_b y1 (by omega)
  (refine' e_call (baseDistance) ?hp fun _ => ?_; (case hp => (repeat (first | exact Picks.nil | (apply Picks.cons; (focus (repeat constructor)))))); (try simp only [List.cons_append, List.nil_append, Bool.not_true, Bool.not_false]))
  obtain ⟨dist, hdist⟩ : ∃ base, base = (bD y1).1 := ⟨_, rfl⟩
  obtain ⟨k, hk⟩ : ∃ n, n = (bD y1).2 := ⟨_, rfl⟩
  rw [← hdist, ← hk] at hM hbd ⊢
  refine e_opN (v_ext (v := .int .i64 dist) rfl) Imp.nil ?_
  refine e_opN (v_ext (v := .int .i64 k) rfl) Imp.nil ?_
  refine e_opN v_gtr Imp.nil ?_
  (refine' e_callP (demand) ?hp (fun _ => ?_) (fun _ => ?_); (case hp => (repeat (first | exact Picks.nil | (apply Picks.cons; (focus (repeat constructor)))))); (all_goals (try simp only [List.cons_append, List.nil_append, Bool.not_true, Bool.not_false, -eq_self])))
  rotate_left
  · rename_i y
    rw [if_pos (of_decide_eq_false y.2)] at hM
    rw [hM] at hR
    refine e_pan ⟨_, hR⟩ rfl ?_
    (repeat (first | exact Imp.refl | exact Imp.nil | (apply Imp.pick; (focus ((repeat constructor); done))) | refine Imp.drop ?_))
  rename_i x6
  have hd0 := of_decide_eq_true x6.2
  rw [if_neg (fun c => c (of_decide_eq_true x6.2))] at hM
  (refine' e_callP (stake) ?hp (fun _ => ?_) (fun _ => ?_); (case hp => (repeat (first | exact Picks.nil | (apply Picks.cons; (focus (repeat constructor)))))); (all_goals (try simp only [List.cons_append, List.nil_append, Bool.not_true, Bool.not_false, -eq_self])))
  rotate_left
  · rename_i y
    rw [if_pos y.2] at hM
    rw [hM] at hR
    refine e_pan ⟨_, hR⟩ rfl ?_
    (repeat (first | exact Imp.refl | exact Imp.nil | (apply Imp.pick; (focus ((repeat constructor); done))) | refine Imp.drop ?_))
  rename_i x7
  rw [if_neg (fun c => c x7.2)] at hM
  have ht7 := takN32 b a4 k
  obtain ⟨t2, htt⟩ : ∃ t1, t1 = takN b a4 k := ⟨_, rfl⟩
  have hlt7 := takAt_le b a4 k
  obtain ⟨a5, ha5⟩ : ∃ a3, a3 = takAt b a4 k := ⟨_, rfl⟩
  rw [← htt] at ht7
  rw [← ha5] at hlt7
  rw [← htt, ← ha5] at hM ⊢
  (((with_reducible refine e_opN (v_add ?h1 ?h2) Imp.nil ?_); (case h1 => omega); (case h2 => omega))); (((with_reducible refine e_opN v_nil Imp.nil ?_))); (((with_reducible refine e_opN v_fa0 Imp.nil ?_)))
  refine e_ex Pick.here fun q => e_all Pick.here ?_
  obtain ⟨r, qa, qc⟩ := q
  (try simp only [List.cons_append, List.nil_append, -eq_self])
  (((with_reducible refine' e_opN (v_ldN ?hc) ?hi ?_); (case hi => (repeat (first | exact Imp.refl | exact Imp.nil | (apply Imp.pick; (focus ((repeat constructor); done))) | refine Imp.drop ?_))); (case hc => (repeat (first | exact Nth.here | apply Nth.there))))); (((with_reducible refine e_opN v_len Imp.nil ?_)))
  refine e_opN v_leq Imp.nil ?_
  (refine' e_callP (demand) ?hp (fun _ => ?_) (fun _ => ?_); (case hp => (repeat (first | exact Picks.nil | (apply Picks.cons; (focus (repeat constructor)))))); (all_goals (try simp only [List.cons_append, List.nil_append, Bool.not_true, Bool.not_false, -eq_self])))
  rotate_left
  · rename_i y
    rw [if_pos (of_decide_eq_false y.2)] at hM
    rw [hM] at hR
    refine e_pan ⟨_, hR⟩ rfl ?_
    (repeat (first | exact Imp.refl | exact Imp.nil | (apply Imp.pick; (focus ((repeat constructor); done))) | refine Imp.drop ?_))
  rename_i x8
  have hfar := of_decide_eq_true x8.2
  rw [if_neg (fun c => c (of_decide_eq_true x8.2))] at hM
  refine e_imp (M := IsS p b a5 o1 most :: IsDec pa la :: IsDec pb lb :: F) (.ex (r, (qa, qc)) (.all (.pick (by (repeat constructor)) (.pick (by (repeat constructor)) (.pick (by (repeat constructor)) (by (repeat (first | exact Imp.refl | exact Imp.nil | (apply Imp.pick; (focus ((repeat constructor); done))) | refine Imp.drop ?_)))))))) ?_
  (refine' e_callP (room (most := most) (out := o1) (by omega) (by omega)) ?hp (fun _ => ?_) (fun _ => ?_); (case hp => (repeat (first | exact Picks.nil | (apply Picks.cons; (focus (repeat constructor)))))); (all_goals (try simp only [List.cons_append, List.nil_append, Bool.not_true, Bool.not_false, -eq_self])))
  rotate_left
  · rename_i y
    rw [if_pos y.2] at hM
    rw [hM] at hR
    refine e_pan ⟨_, hR⟩ rfl ?_
    (repeat (first | exact Imp.refl | exact Imp.nil | (apply Imp.pick; (focus ((repeat constructor); done))) | refine Imp.drop ?_))
  rename_i x9
  have hroom := x9.2
  rw [if_neg (fun c => c x9.2)] at hM
  rw [hM] at hR
  simp only at hR
  obtain ⟨far, hfarE⟩ : ∃ far : Nat, far = (dist + (t2 : Int)).toNat := ⟨_, rfl⟩
  obtain ⟨len, hlenE⟩ : ∃ len : Nat, len = (base + (t1 : Int)).toNat := ⟨_, rfl⟩
  rw [← hfarE, ← hlenE] at hR
  rw [show dist + (t2 : Int) = (far : Int) by omega, show base + (t1 : Int) = (len : Int) by omega]
  refine e_loop1 (fun m2 y => [ex fun i : Nat => all [pu (m2 + i = len ∧ y = .int .i64 (i : Int)), IsS p b a5 (copyL o1 far i) most, IsDec pa la, IsDec pb lb]] ++ F) len ?_ ?_
  · refine .ex 0 (.all ?_)
    (try simp only [List.cons_append, List.nil_append, -eq_self])
    refine .pu ⟨by omega, rfl⟩ ?_
    exact .pick (by (repeat constructor)) (.pick (by (repeat constructor)) (.pick (by (repeat constructor)) .refl))
  intro m2 ds y
  (try simp only [List.cons_append, List.nil_append, -eq_self])
  refine e_ex Pick.here fun i => e_all Pick.here ?_
  (try simp only [List.cons_append, List.nil_append, -eq_self])
  refine e_pu Pick.here fun hi => ?_
  obtain ⟨hmi, rfl⟩ := hi
  have hcl := copyL_len o1 far i
  (refine e_ask v_lss Imp.nil (fun h => ?_) (fun h => ?_))
  · refine e_condT ?_
    refine e_ex Pick.here fun q => e_all Pick.here ?_
    obtain ⟨r, qa, qc⟩ := q
    (try simp only [List.cons_append, List.nil_append, -eq_self])
    refine e_slfacts (.there (.there .here)) fun f1 f2 f3 f4 => ?_
    obtain ⟨C, hC⟩ : ∃ C, C = copyL o1 far i := ⟨_, rfl⟩
    rw [← hC] at hcl f4 ⊢
    obtain ⟨gq, rfl⟩ := f4 (by omega)
    have hj : C.length - far < C.length := by omega
    ((with_reducible refine e_drS ?_)); (((with_reducible refine e_stD v_nil Imp.nil ?_))); (((with_reducible refine e_stD v_fa0 Imp.nil ?_))); (((with_reducible refine' e_stD (v_ldN ?hc) ?hi ?_); (case hi => (repeat (first | exact Imp.refl | exact Imp.nil | (apply Imp.pick; (focus ((repeat constructor); done))) | refine Imp.drop ?_))); (case hc => (repeat (first | exact Nth.here | apply Nth.there))))); (((with_reducible refine e_stS v_nil Imp.nil ?_))); (((with_reducible refine e_stS v_fa0 Imp.nil ?_))); (((with_reducible refine' e_stS (v_ldN ?hc) ?hi ?_); (case hi => (repeat (first | exact Imp.refl | exact Imp.nil | (apply Imp.pick; (focus ((repeat constructor); done))) | refine Imp.drop ?_))); (case hc => (repeat (first | exact Nth.here | apply Nth.there))))); (((with_reducible refine e_stS v_nil Imp.nil ?_))); (((with_reducible refine e_stS v_fa0 Imp.nil ?_))); (((with_reducible refine' e_stS (v_ldN ?hc) ?hi ?_); (case hi => (repeat (first | exact Imp.refl | exact Imp.nil | (apply Imp.pick; (focus ((repeat constructor); done))) | refine Imp.drop ?_))); (case hc => (repeat (first | exact Nth.here | apply Nth.there))))); (((with_reducible refine e_stS v_len Imp.nil ?_))); (((with_reducible refine e_stS (v_sub ?h1 ?h2) Imp.nil ?_); (case h1 => omega); (case h2 => omega)))
    refine e_stS (v_ia1 (C.length - far) (by omega) hj) Imp.nil ?_
    refine e_stS (v_ldSl (v := Sl.B C[C.length - far]) (by rw [Nat.zero_add]; exact B_get hj)) (.pick (by (repeat constructor)) .nil) ?_
    refine e_bsl1 fun g => ?_
    (((with_reducible refine e_obl ?hi ?_); (case hi => (repeat (first | exact Imp.refl | exact Imp.nil | (apply Imp.pick; (focus ((repeat constructor); done))) | refine Imp.drop ?_))))); (((with_reducible refine e_obl ?hi ?_); (case hi => (repeat (first | exact Imp.refl | exact Imp.nil | (apply Imp.pick; (focus ((repeat constructor); done))) | refine Imp.drop ?_))))); (((with_reducible refine e_obl ?hi ?_); (case hi => (repeat (first | exact Imp.refl | exact Imp.nil | (apply Imp.pick; (focus ((repeat constructor); done))) | refine Imp.drop ?_)))))
    refine e_app (m := 1) (news := [Sl.B C[C.length - far]]) (by (repeat constructor)) (src_pt (e' := 5) (by kernel_rfl) .here (by rfl) (B_one (l := [C[C.length - far]]))) (by omega) (by omega) fun a' c' => ?_
    (((with_reducible refine e_stS v_nil Imp.nil ?_))); (((with_reducible refine e_stS v_fa0 Imp.nil ?_))); (((with_reducible refine' e_stN ?hp ?ho ?_); (case hp => (repeat constructor)); (case ho => (repeat (first | exact Put.here | apply Put.there))))); (((with_reducible refine e_opN (v_add ?h1 ?h2) Imp.nil ?_); (case h1 => omega); (case h2 => omega)))
    refine e_next1 (m2 - 1) (by omega) (.ex (i + 1) (.all ?_))
    (try simp only [List.cons_append, List.nil_append, -eq_self])
    refine .pu ⟨by omega, congrArg (Value.int .i64) (by omega)⟩ ?_
    refine .ex (r, (a', c')) (.all ?_)
    (try simp only [List.cons_append, List.nil_append, -eq_self])
    rw [show copyL o1 far (i + 1) = C ++ [C[C.length - far]] by rw [copyL, ← hC, List.getD_eq_getElem?_getD, List.getElem?_eq_getElem hj]; rfl]
    rw [List.length_append, List.map_append, List.length_singleton]
    exact .pick (by (repeat constructor)) (.pick (by (repeat constructor)) (.pick (by (repeat constructor)) (.pick (by (repeat constructor)) (.pick (by (repeat constructor)) (by (repeat (first | exact Imp.refl | exact Imp.nil | (apply Imp.pick; (focus ((repeat constructor); done))) | refine Imp.drop ?_)))))))
  · have : i = len := by omega
    subst this
    refine e_condF ?_
    refine e_next0 m (by omega) (.ex a5 (.ex (copyL o1 far i) (.all ?_)))
    (try simp only [List.cons_append, List.nil_append, -eq_self])
    refine .pu ⟨by omega, hR, by omega⟩ ?_
    exact .pick (by (repeat constructor)) (.pick (by (repeat constructor)) (.pick (by (repeat constructor)) .refl))
end Go.Proofs.Ytehfblkpbadikaa.IF
/-! Whether lengths are enough; a fixed block; rows of lengths. No conditions but those that each names. -/
namespace Go.Proofs.Ytehfblkpbadikaa.IF
open Go Go.Proofs Go.RowKit Go.Proofs.Ytehfblkpbadikaa.Sh Go.Proofs.Ytehfblkpbadikaa.Sl Go.Proofs.Ytehfblkpbadikaa.T Go.Proofs.Ytehfblkpbadikaa.HM Go.Proofs.Ytehfblkpbadikaa.HF Go.Proofs.Ytehfblkpbadikaa.B Go.Proofs.Ytehfblkpbadikaa.M
/-- how many are not nought -/
def cntP : List Int → Int
  | [] => 0
  | x :: l => (if 0 < x then 1 else 0) + cntP l
/-- their sum -/
def sumP : List Int → Int
  | [] => 0
  | x :: l => (if 0 < x then x else 0) + sumP l
theorem cntP_append : ∀ l m : List Int, cntP (l ++ m) = cntP l + cntP m
  | [], m => by simp [cntP]
  | x :: l, m => by simp only [List.cons_append, cntP, cntP_append l m]; omega
theorem sumP_append : ∀ l m : List Int, sumP (l ++ m) = sumP l + sumP m
  | [], m => by simp [sumP]
  | x :: l, m => by simp only [List.cons_append, sumP, sumP_append l m]; omega
theorem cntP_b : ∀ l : List Int, 0 ≤ cntP l ∧ cntP l ≤ l.length
  | [] => by simp [cntP]
  | x :: l => by
    have := cntP_b l
    simp only [cntP, List.length_cons]
    split <;> omega
theorem sumP_b {B : Int} : ∀ l : List Int, (∀ x ∈ l, x ≤ B) → 0 ≤ B → 0 ≤ sumP l ∧ sumP l ≤ B * l.length
  | [], _, _ => by simp [sumP]
  | x :: l, h, hB => by
    have := sumP_b l (fun y hy => h y (.tail _ hy)) hB
    have hx := h x (.head _)
    simp only [sumP, List.length_cons]
    have e : B * ((l.length + 1 : Nat) : Int) = B * l.length + B := by rw [Int.natCast_add, Int.mul_add]; simp
    rw [e]
    generalize B * (l.length : Int) = E at this ⊢
    split <;> omega
def enoughB (l : List Int) : Bool := decide (cntP l = 0) || (decide (cntP l = 1) && decide (sumP l = 1)) || fullB l
theorem enough {W : World} {a : Option Addr} {cap : Nat} {l : List Int} {A : HP} (hr : RdB W A a l.length (l.map I)) (hl : l.length ≤ 1048576) (hb : ∀ x ∈ l, x ≤ 1048576) :
    Cn Try.prog 91 [.slice a l.length cap] W [A] (fun _ : Unit => .bool (enoughB l)) (fun _ => [A]) := by
  (refine S.inflate_enough_cn fun F => ?_; unfold S.inflate_enough; simp only [List.cons_append, List.nil_append])
  (((with_reducible refine e_opN v_len Imp.nil ?_)))
  refine e_loop3 (fun m x y z => [ex fun i : Nat => pu (m + i = l.length ∧ x = .int .i64 (cntP (l.take i)) ∧ y = .int .i64 (sumP (l.take i)) ∧ z = .int .i64 (i : Int)), A] ++ F) l.length ?_ ?_
  · refine .ex 0 ?_
    exact .pu ⟨by omega, rfl, rfl, rfl⟩ .refl
  intro m ds x y z
  (try simp only [List.cons_append, List.nil_append, -eq_self])
  refine e_ex Pick.here fun i => e_pu Pick.here fun hi => ?_
  obtain ⟨hmi, rfl, rfl, rfl⟩ := hi
  have c1 := cntP_b (l.take i)
  have c2 := sumP_b (B := 1048576) (l.take i) (fun x hx => hb x (List.mem_of_mem_take hx)) (by omega)
  rw [List.length_take] at c1 c2
  (refine e_ask v_lss Imp.nil (fun h => ?_) (fun h => ?_))
  · have hil : i < l.length := by omega
    obtain ⟨g, o, rfl, _⟩ := hr.at_ (by omega)
    have hx := hb l[i] (List.getElem_mem hil)
    have t1 : l.take (i + 1) = l.take i ++ [l[i]] := by rw [List.take_add_one, List.getElem?_eq_getElem hil]; rfl
    refine e_condT ?_
    refine e_opN (v_ia1 i (by rfl) hil) Imp.nil ?_
    refine e_opN (v_ldRd hr (v := I l[i]) (I_get hil)) (.pick (by (repeat constructor)) .nil) ?_
    unfold I
    (refine e_ask v_gtr Imp.nil (fun h => ?_) (fun h => ?_))
    · have s1 : cntP (l.take (i + 1)) = cntP (l.take i) + 1 := by rw [t1, cntP_append]; simp only [cntP]; rw [if_pos (by omega)]; omega
      have s2 : sumP (l.take (i + 1)) = sumP (l.take i) + l[i] := by rw [t1, sumP_append]; simp only [sumP]; rw [if_pos (by omega)]; omega
      ((with_reducible refine e_condT ?_)); (((with_reducible refine e_opN (v_add ?h1 ?h2) Imp.nil ?_); (case h1 => omega); (case h2 => omega))); (((with_reducible refine e_opN (v_add ?h1 ?h2) Imp.nil ?_); (case h1 => omega); (case h2 => omega))); (((with_reducible refine e_opN (v_add ?h1 ?h2) Imp.nil ?_); (case h1 => omega); (case h2 => omega)))
      refine e_next3 (m - 1) (by omega) (.ex (i + 1) (.pu ⟨by omega, by rw [s1], by rw [s2], rfl⟩ ?_))
      exact .refl
    · have s1 : cntP (l.take (i + 1)) = cntP (l.take i) := by rw [t1, cntP_append]; simp only [cntP]; rw [if_neg (by omega)]; omega
      have s2 : sumP (l.take (i + 1)) = sumP (l.take i) := by rw [t1, sumP_append]; simp only [sumP]; rw [if_neg (by omega)]; omega
      ((with_reducible refine e_condF ?_)); (((with_reducible refine e_opN (v_add ?h1 ?h2) Imp.nil ?_); (case h1 => omega); (case h2 => omega)))
      refine e_next3 (m - 1) (by omega) (.ex (i + 1) (.pu ⟨by omega, by rw [s1], by rw [s2], rfl⟩ ?_))
      exact .refl
  · have : i = l.length := by omega
    subst this
    rw [List.take_length]
    refine e_condF ?_
    have fin : ∀ v : Bool, v = enoughB l → Ent W (A :: F) (fun w => ∃ x : Unit, (.bool v : Value) = .bool (enoughB l) ∧ sat W ([A] ++ F) w) := by
      intro v hv
      rw [hv]
      refine e_ret () rfl ?_
      exact .refl
    (refine e_ask v_eql Imp.nil (fun h => ?_) (fun h => ?_))
    · ((with_reducible refine e_gdF1 ?_)); ((with_reducible refine e_gdF1 ?_)); ((with_reducible refine e_gdF1 ?_)); ((with_reducible refine e_gdU ?_)); ((with_reducible refine e_gdU ?_)); ((with_reducible refine e_gdF1 ?_)); (((with_reducible refine e_opN v_pickT Imp.nil ?_))); ((with_reducible refine e_gdF1 ?_)); ((with_reducible refine e_gdF1 ?_)); (((with_reducible refine e_opN v_pickT Imp.nil ?_)))
      exact fin true (by simp [enoughB, h])
    · have h0 := h
      ((with_reducible refine e_gdT ?_)); ((with_reducible refine e_gdT ?_))
      (refine e_ask v_eql Imp.nil (fun h => ?_) (fun h => ?_))
      · have h1 := h
        ((with_reducible refine e_gdT ?_)); ((with_reducible refine e_gdT ?_)); ((with_reducible refine e_gdT ?_))
        (refine e_ask v_eql Imp.nil (fun h => ?_) (fun h => ?_))
        · ((with_reducible refine e_gdT ?_)); (((with_reducible refine e_opN v_pickT Imp.nil ?_))); (((with_reducible refine e_opN v_pickF Imp.nil ?_))); ((with_reducible refine e_gdF1 ?_)); ((with_reducible refine e_gdF1 ?_)); (((with_reducible refine e_opN v_pickT Imp.nil ?_)))
          exact fin true (by simp [enoughB, h1, h])
        · ((with_reducible refine e_gdT ?_)); (((with_reducible refine e_opN v_pickT Imp.nil ?_))); (((with_reducible refine e_opN v_pickF Imp.nil ?_))); ((with_reducible refine e_gdT ?_)); ((with_reducible refine e_gdT ?_))
          (refine' e_call (full hr (by omega)) ?hp fun _ => ?_; (case hp => (repeat (first | exact Picks.nil | (apply Picks.cons; (focus (repeat constructor)))))); (try simp only [List.cons_append, List.nil_append, Bool.not_true, Bool.not_false]))
          (((with_reducible refine e_opN v_pickF Imp.nil ?_)))
          exact fin _ (by simp [enoughB, h0, h])
      · ((with_reducible refine e_gdT ?_)); ((with_reducible refine e_gdF2 ?_)); ((with_reducible refine e_gdF2 ?_)); ((with_reducible refine e_gdT ?_)); (((with_reducible refine e_opN v_pickF Imp.nil ?_))); (((with_reducible refine e_opN v_pickF Imp.nil ?_))); ((with_reducible refine e_gdT ?_)); ((with_reducible refine e_gdT ?_))
        (refine' e_call (full hr (by omega)) ?hp fun _ => ?_; (case hp => (repeat (first | exact Picks.nil | (apply Picks.cons; (focus (repeat constructor)))))); (try simp only [List.cons_append, List.nil_append, Bool.not_true, Bool.not_false]))
        (((with_reducible refine e_opN v_pickF Imp.nil ?_)))
        exact fin _ (by simp [enoughB, h0, h])
theorem ok_lit : okL litL := by
  have : decide (okL litL) = true := by decide +kernel
  exact of_decide_eq_true this
theorem ok_dst : okL dstL := by
  have : decide (okL dstL) = true := by decide +kernel
  exact of_decide_eq_true this
theorem fixed {W : World} {p at_ : Nat} {b out : List UInt8} {most : Int} (h1 : 0 ≤ most ∧ most ≤ 1048576) (h2 : (out.length : Int) ≤ most) :
    CnP Try.prog 68 [.pointer (some ⟨p, 0, none⟩)] W [IsS p b at_ out most] (fun _ : Ok (mS litL dstL b most at_ out) => .tuple #[]) (fun x => [IsS p b x.1.1 x.1.2 most]) (fun y : Er (mS litL dstL b most at_ out) => pn y.1) (fun _ => []) := by
  (refine S.inflate_stream_fixed_cnP fun F => ?_; unfold S.inflate_stream_fixed; simp only [List.cons_append, List.nil_append, -eq_self])
  (refine' e_call (fixedL) ?hp fun _ => ?_; (case hp => (repeat (first | exact Picks.nil | (apply Picks.cons; (focus (repeat constructor)))))); (try simp only [List.cons_append, List.nil_append, Bool.not_true, Bool.not_false]))
  rename_i q
  obtain ⟨⟨la, lc⟩, ⟨da, dc⟩⟩ := q
  (try dsimp only)
  refine e_slfacts (.here) fun f1 f2 f3 f4 => ?_
  refine e_slfacts (.there .here) fun g1 g2 g3 g4 => ?_
  refine e_opN (v_ext (v := .slice la litL.length lc) rfl) Imp.nil ?_
  refine e_opN (v_ext (v := .slice da dstL.length dc) rfl) Imp.nil ?_
  (refine' e_callP (decoder (rd_sl (by rw [List.length_map]) f4) (by rw [lit_len]; omega)) ?hp (fun _ => ?_) (fun _ => ?_); (case hp => (repeat (first | exact Picks.nil | (apply Picks.cons; (focus (repeat constructor)))))); (all_goals (try simp only [List.cons_append, List.nil_append, Bool.not_true, Bool.not_false, -eq_self])))
  rotate_left
  · rename_i y
    exact absurd ok_lit y.2
  rename_i x1
  (refine' e_callP (decoder (rd_sl (by rw [List.length_map]) g4) (by rw [dst_len]; omega)) ?hp (fun _ => ?_) (fun _ => ?_); (case hp => (repeat (first | exact Picks.nil | (apply Picks.cons; (focus (repeat constructor)))))); (all_goals (try simp only [List.cons_append, List.nil_append, Bool.not_true, Bool.not_false, -eq_self])))
  rotate_left
  · rename_i y
    exact absurd ok_dst y.2
  rename_i x2
  (refine' e_callP (symbols (by rw [lit_len]; omega) (by rw [dst_len]; omega) h1 h2) ?hp (fun _ => ?_) (fun _ => ?_); (case hp => (repeat (first | exact Picks.nil | (apply Picks.cons; (focus (repeat constructor)))))); (all_goals (try simp only [List.cons_append, List.nil_append, Bool.not_true, Bool.not_false, -eq_self])))
  · rename_i x
    (first | refine e_ret (x) rfl ?_ | refine e_retT (x) ?_)
    (repeat (first | exact Imp.refl | exact Imp.nil | (apply Imp.pick; (focus ((repeat constructor); done))) | refine Imp.drop ?_))
  · rename_i y
    refine e_pan y rfl ?_
    (repeat (first | exact Imp.refl | exact Imp.nil | (apply Imp.pick; (focus ((repeat constructor); done))) | refine Imp.drop ?_))
end Go.Proofs.Ytehfblkpbadikaa.IF
