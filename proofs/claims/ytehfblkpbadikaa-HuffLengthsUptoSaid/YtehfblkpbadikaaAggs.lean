/- Structs in slices: read, written whole. No conditions but those that each names. -/
import Derived.Test.YtehfblkpbadikaaClose
set_option linter.unusedVariables false
set_option linter.unusedSimpArgs false
namespace Go.Proofs.Ytehfblkpbadikaa.Sl
open Go Go.RowKit Go.Proofs.Ytehfblkpbadikaa.Sh
variable {P : Program} {W : World} {L L' : List HP} {Kp : PK} {k : Value → WP} {A : HP}
theorem v_capG {t e ty : TypeId} {s b : Nat} {a : Option Addr} {n cap : Nat} [ht : SlT P t e s b] : RunV P W [] (sCap #[t] ty [.slice a n cap]) (.int .i64 (cap : Int)) := fun w _ => by
  simp [sCap, Builtin.cap_, run_underlying ht.ut, goInt]
theorem v_ldRdG {t : TypeId} {n m g o j : Nat} {cs vs : List Value} [ht : AggT P t n] (H : RdB W A (some ⟨g, o, none⟩) m cs) (hn : vs.length = n) (hc : ∀ i, i < n → cs[j + i]? = vs[i]?) : RunV P W [A] (sLoad t (.pointer (some ⟨g, o + j, none⟩))) (.agg vs.toArray) := fun w hw => by
  have h : (loadCells ⟨g, o + j, none⟩ n).run P w = .ok vs.toArray w := by
    subst hn
    refine run_loadCells_list (P := P) w ⟨g, o + j, none⟩ vs (fun i v hv => ?_)
    have hi : i < vs.length := by
      rcases Nat.lt_or_ge i vs.length with c | c
      · exact c
      · rw [List.getElem?_eq_none c] at hv; cases hv
    have hcv := hc i hi
    rw [hv] at hcv
    have hl := H.len
    have hlt : j + i < cs.length := by
      rcases Nat.lt_or_ge (j + i) cs.length with c | c
      · exact c
      · rw [List.getElem?_eq_none c] at hcv; cases hcv
    obtain ⟨g', o', e, hcell⟩ := H.at_ (by omega)
    injection e with e; injection e with e1 e2; subst e1; subst e2
    rw [addr_add, Nat.add_assoc]
    exact hcell w [] hw (j + i) v hcv
  simp [sLoad, Instr.loadAt, Instr.sureAddr, loadVar, ht.agg, ht.size, h]
theorem put_getG {cs rest vs : List Value} {o n j : Nat} (hn : vs.length = n) (ho : o + n ≤ cs.length) : (cs.take o ++ vs ++ cs.drop (o + n) ++ rest)[j]? = if o ≤ j ∧ j < o + n then vs[j - o]? else (cs ++ rest)[j]? := by
  simp only [List.getElem?_append, List.length_append, List.length_take, List.length_drop, hn, Nat.min_eq_left (show o ≤ cs.length by omega), List.getElem?_take, List.getElem?_drop]
  repeat' split
  all_goals first | rfl | omega | (congr 1; omega)
theorem e_stSlG {t e : TypeId} {s n g o cap m : Nat} {cs : List Value} {vs : Array Value} [ht : AggT P t n] (p : Pick L (Sl s e (some ⟨g, 0, none⟩) cap m cs) L') (hv : vs.size = n) (ho : o + n ≤ cs.length) (h1 : ∀ u ∈ vs.toList, u.oneCell' = true)
    (h : Ent W (Sl s e (some ⟨g, 0, none⟩) cap m (cs.take o ++ vs.toList ++ cs.drop (o + n)) :: L') (k undef)) : Ent W L (opN P (sStore t (.pointer (some ⟨g, o, none⟩)) (.agg vs)) Kp k) := fun w hw => by
  obtain ⟨rest, r1, r2, r3, r4, hp⟩ := sl_row (hw.pick p)
  have hst := run_storeCells_cells (P := P) g o vs.toList 0 w (fun j hj => by
    rw [hp.cell, Array.getElem?_eq_getElem (by simp at hj ⊢; omega)]; rfl) (fun j _ => hp.free) h1
  obtain ⟨cs', c1, c2, c3⟩ := setCells_world g (o + 0) vs.toList w _ _ hp
  refine ⟨?_⟩
  have hvl : vs.toList.length = n := by simp [hv]
  have : (sStore t (.pointer (some ⟨g, o, none⟩)) (.agg vs)).run P w = .ok .skip (w.setCells g (o + 0) vs.toList) := by
    simp [sStore, Instr.storeAt, Instr.sureAddr, storeVar, ht.size, Value.cells, hv, hst]
  rw [this]
  refine h _ (sl_back r1 (by simp [hv]; omega) r3 r4 ?_)
  have he : cs' = (cs.take o ++ vs.toList ++ cs.drop (o + n) ++ rest).toArray := by
    apply Array.ext_getElem?
    intro j
    rw [c3]
    simp only [Nat.add_zero, List.size_toArray, List.length_append, List.getElem?_toArray, hvl]
    rw [put_getG hvl ho]
    by_cases hj : o ≤ j ∧ j < o + n
    · rw [if_pos hj, if_pos ⟨hj.1, hj.2, by omega⟩]
    · rw [if_neg hj, if_neg (fun c => hj ⟨c.1, c.2.1⟩)]
  rwa [he] at c1
theorem rd_slG {s : Nat} {e : TypeId} {a : Option Addr} {cap n : Nat} {cs : List Value} (hl : cs.length = n * s) (ha : 0 < n → ∃ g, a = some ⟨g, 0, none⟩) : RdB W (Sl s e a cap n cs) a (n * s) cs := ⟨hl, fun hn => by
  obtain ⟨g, rfl⟩ := ha (by
    rcases Nat.eq_zero_or_pos n with z | z
    · subst z; simp at hn
    · exact z)
  refine ⟨g, 0, rfl, fun w L hw j v hv => ?_⟩
  obtain ⟨rest, r1, r2, r3, r4, hp⟩ := sl_row hw
  rw [Nat.zero_add, hp.cell]
  have hj : j < cs.length := by
    rcases Nat.lt_or_ge j cs.length with c | c
    · exact c
    · rw [List.getElem?_eq_none c] at hv; cases hv
  simpa [List.getElem?_append_left hj] using hv⟩
theorem rd_pre {a : Option Addr} {n m : Nat} {cs : List Value} (H : RdB W A a n cs) (hm : m ≤ n) : RdB W A a m (cs.take m) := by
  refine ⟨by rw [List.length_take, H.len]; omega, fun h0 => ?_⟩
  obtain ⟨g, o, e, hc⟩ := H.at_ (by omega)
  refine ⟨g, o, e, fun w L hw j v hv => hc w L hw j v ?_⟩
  rw [List.getElem?_take] at hv
  split at hv
  · exact hv
  · cases hv
theorem e_bsl0 {t e : TypeId} {s b : Nat} [ht : SlT P t e s b] (h : ∀ g, Ent W (Sl s e (some ⟨g, 0, none⟩) 0 0 [] :: L) (k (.slice (some ⟨g, 0, none⟩) 0 0))) : Ent W L (opN P (sBuildSl t 0 []) Kp k) := fun w hw => by
  refine ⟨?_⟩
  obtain ⟨i, z, hi, hz, hs, hb, hzs⟩ := ht.info
  have e0 : (Array.range 0).map (fun _ => (default : Value)) = #[] := Array.eq_empty_of_size_eq_zero (by simp)
  have : (sBuildSl t 0 []).run P w = .ok (.value (.slice (some ⟨w.heap.size, 0, none⟩) 0 0)) (w.alloc (.cells #[] e)) := by
    simp [sBuildSl, Instr.buildSlice, run_underlying ht.ut, sizeOf_run hi, newRow, Instr.fill]
    rw [e0]
  rw [this]
  exact h _ _ ((imp_new (cs := []) .here (by simp) (by unfold maxLen; omega) .refl).sat (hw.alloc (.cells #[] e)))
theorem src_rdG {tx e' : TypeId} {s : Nat} {a : Option Addr} {n cap : Nat} {cs : List Value} (hk : P.underlying tx = some (.slice e')) (hs : 0 < s) (p : Pick L A L') (H : RdB W A a (n * s) cs) (ha : a = none → n = 0) (h1 : ∀ u ∈ cs, u.oneCell' = true) :
    ∀ w, sat W L w → Src P s tx (.slice a n cap) n cs w := fun w hw => by
  have hl := H.len
  rcases Nat.eq_zero_or_pos n with h0 | hn
  · subst h0
    have hcs : cs = [] := List.eq_nil_of_length_eq_zero (by simpa using hl)
    subst hcs
    cases a with
    | none => exact Src.ofNil w hk cap
    | some ad => exact Src.ofSlice w hk ad 0 cap [] (by simp) (fun j u hu => by simp at hu) (by simp)
  · obtain ⟨g, o, rfl, hc⟩ := H.at_ (Nat.mul_pos hn hs)
    exact Src.ofSlice w hk _ _ _ _ hl (fun j u hu => by rw [addr_add]; exact hc w L' (hw.pick p) j u hu) h1
/-- the rest of a slice, as a source -/
theorem src_tail {tx e' : TypeId} {s : Nat} {g : Nat} {n l cap : Nat} {cs : List Value} (hk : P.underlying tx = some (.slice e')) (hs : 0 < s) (p : Pick L A L') (H : RdB W A (some ⟨g, 0, none⟩) (n * s) cs) (hl : l ≤ n) (hc : n ≤ cap) (h1 : ∀ u ∈ cs, u.oneCell' = true) :
    ∀ w, sat W L w → Src P s tx (.slice (if cap = l then some ⟨g, 0, none⟩ else (some (⟨g, 0, none⟩ : Addr)).map (·.add (l * s))) (n - l) (cap - l)) (n - l) (cs.drop (l * s)) w := fun w hw => by
  have hlen := H.len
  have one : ∀ u ∈ cs.drop (l * s), u.oneCell' = true := fun u hu => h1 u (List.mem_of_mem_drop hu)
  by_cases c : cap = l
  · rw [if_pos c]
    have h0 : n - l = 0 := by omega
    have hcs : cs.drop (l * s) = [] := List.drop_eq_nil_of_le (by rw [hlen]; exact Nat.mul_le_mul_right _ (by omega))
    rw [h0, hcs]
    exact Src.ofSlice w hk _ 0 _ [] (by simp) (fun j u hu => by simp at hu) (by simp)
  · rw [if_neg c]
    simp only [Option.map_some, addr_add, Nat.zero_add]
    refine Src.ofSlice w hk _ _ _ _ (by rw [List.length_drop, hlen, ← Nat.sub_mul]) (fun j u hu => ?_) one
    rw [addr_add]
    rw [List.getElem?_drop] at hu
    have hj : l * s + j < cs.length := by
      rcases Nat.lt_or_ge (l * s + j) cs.length with x | x
      · exact x
      · rw [List.getElem?_eq_none x] at hu; cases hu
    obtain ⟨g', o', e, hcell⟩ := H.at_ (by rw [← hlen]; omega)
    injection e with e; injection e with e1 e2; subst e1; subst e2
    have := hcell w L' (hw.pick p) (l * s + j) u hu
    rwa [Nat.zero_add] at this
theorem v_beqlG {t : TypeId} {ox oy : Operand} {a b : Bool} (ht : P.underlying t = some .bool) : RunV P W [] (sEq .eql t ox oy (.bool a) (.bool b)) (.bool (decide (a = b))) := fun w _ => by
  have h : (Op.equal t (.bool a) (.bool b)).run P w = .ok (a == b) w := by
    unfold Op.equal Op.maxDepth Op.equalIn
    simp only [Sem.run_bind, run_underlying ht, Result.andThen_ok]
    rfl
  simp [sEq, sv, eqGuard, binOp, h, Result.andThen]
  cases a <;> cases b <;> rfl
end Go.Proofs.Ytehfblkpbadikaa.Sl
