/- Maps as functions; keys that are numbers; delete. No conditions but those that each names. -/
import Derived.Test.YtehfblkpbadikaaMap
import Derived.Laws.StructEq
set_option linter.unusedVariables false
set_option linter.unusedSectionVars false
namespace Go.Proofs.Ytehfblkpbadikaa.Sl
open Go Go.RowKit Go.Proofs.Ytehfblkpbadikaa.Sh
variable {P : Program} {W : World} {L L' : List HP} {Kp : PK} {k : Value → WP}
def encI (n : Int) : Value := .int .i64 n
theorem keyI {kt : TypeId} (hk : P.underlying kt = some (.int .i64)) : KeyLaw P kt encI where
  check := fun b k w => MapKept.run_checkKey (n := 9999) (d := .int .i64) hk (by simp [MapKept.IsKey, encI]) b
  eq := fun k k' w => by
    unfold encI Op.equal Op.maxDepth
    have := run_equalIn_int (P := P) w 9999 kt .i64 .i64 k k' hk
    rw [this]
    by_cases h : k = k' <;> simp [h]
  now := ⟨.int .i64, hk, fun k k' => .inr (by
    by_cases h : k = k' <;> simp [Instr.sameNow, encI, h])⟩
  same := fun k => by simp [Instr.sameBits, encI]
variable {κ : Type} [DecidableEq κ] {enc : κ → Value} {t kt : TypeId}
/-- the map without a key -/
def delM (q : κ) (m : List (κ × Value)) : List (κ × Value) := match fnd q m 0 with
  | some (i, _) => m.eraseIdx i
  | none => m
theorem fnd_get (q : κ) : ∀ (m : List (κ × Value)) (i j : Nat) (v : Value), fnd q m i = some (j, v) → i ≤ j ∧ m[j - i]? = some (q, v)
  | [], i, j, v, h => by simp [fnd] at h
  | p :: m, i, j, v, h => by
    unfold fnd at h
    by_cases c : q = p.1
    · rw [if_pos c] at h
      simp at h
      obtain ⟨rfl, rfl⟩ := h
      simp [c]
    · rw [if_neg c] at h
      obtain ⟨h1, h2⟩ := fnd_get q m (i + 1) j v h
      refine ⟨by omega, ?_⟩
      rw [show j - i = (j - (i + 1)) + 1 by omega]; simpa using h2
theorem fnd_none (q : κ) : ∀ (m : List (κ × Value)) (i : Nat), fnd q m i = none ↔ q ∉ m.map (·.1)
  | [], i => by simp [fnd]
  | p :: m, i => by
    unfold fnd
    by_cases c : q = p.1
    · rw [if_pos c]; simp [c]
    · rw [if_neg c, fnd_none q m (i + 1)]; simp [c]
theorem fnd_shift (q : κ) : ∀ (m : List (κ × Value)) (i j : Nat), (fnd q m i).map (·.2) = (fnd q m j).map (·.2)
  | [], i, j => rfl
  | p :: m, i, j => by
    unfold fnd
    split
    · rfl
    · exact fnd_shift q m (i + 1) (j + 1)
theorem getM_cons (q : κ) (p : κ × Value) (m : List (κ × Value)) : getM q (p :: m) = if q = p.1 then some p.2 else getM q m := by
  unfold getM
  rw [fnd]
  split
  · rfl
  · exact fnd_shift q m 1 0
theorem getM_none {q : κ} {m : List (κ × Value)} : getM q m = none ↔ q ∉ m.map (·.1) := by
  unfold getM
  rw [Option.map_eq_none_iff, fnd_none]
theorem delM_cons (q : κ) (p : κ × Value) (m : List (κ × Value)) : delM q (p :: m) = if q = p.1 then m else p :: delM q m := by
  unfold delM
  rw [fnd]
  by_cases c : q = p.1
  · simp [c]
  · rw [if_neg c, if_neg c]
    have key : ∀ (m : List (κ × Value)) (i : Nat), (match fnd q m (i + 1) with | some (j, _) => (p :: m).eraseIdx (j - i) | none => p :: m) = p :: (match fnd q m i with | some (j, _) => m.eraseIdx (j - i) | none => m) := by
      intro m
      have sh : ∀ (m : List (κ × Value)) (i : Nat), fnd q m (i + 1) = (fnd q m i).map fun x => (x.1 + 1, x.2) := by
        intro m
        induction m with
        | nil => intro i; rfl
        | cons p m ih =>
          intro i
          unfold fnd
          split
          · rfl
          · exact ih (i + 1)
      intro i
      rw [sh]
      cases hf : fnd q m i with
      | none => rfl
      | some x =>
        obtain ⟨j, v⟩ := x
        have := (fnd_get q m i j v hf).1
        simp only [Option.map_some]
        rw [show j + 1 - i = (j - i) + 1 by omega]; rfl
    have := key m 0
    simpa using this
theorem delM_keys (q : κ) : ∀ m : List (κ × Value), ((delM q m).map (·.1)).Sublist (m.map (·.1))
  | [] => by simp [delM, fnd]
  | p :: m => by
    rw [delM_cons]
    split
    · rw [List.map_cons]; exact List.sublist_cons_self _ _
    · rw [List.map_cons, List.map_cons]; exact (delM_keys q m).cons_cons _
theorem getM_delM (q q' : κ) : ∀ m : List (κ × Value), (m.map (·.1)).Nodup → getM q' (delM q m) = if q' = q then none else getM q' m
  | [], _ => by simp [delM, fnd, getM]
  | p :: m, h => by
    rw [List.map_cons, List.nodup_cons] at h
    have ih := getM_delM q q' m h.2
    rw [delM_cons]
    by_cases c : q = p.1
    · rw [if_pos c, getM_cons]
      by_cases d : q' = q
      · rw [if_pos d, d, c]
        exact getM_none.2 h.1
      · rw [if_neg d, if_neg (by rw [← c]; exact d)]
    · rw [if_neg c, getM_cons, getM_cons, ih]
      by_cases d : q' = p.1
      · rw [if_pos d, if_neg (by rw [d]; exact fun e => c e.symm), if_pos d]
      · rw [if_neg d, if_neg d]
theorem setM_keys (q : κ) (v : Value) : ∀ m : List (κ × Value), (m.map (·.1)).Nodup → ((setM q v m).map (·.1)).Nodup ∧ ∀ x, x ∈ (setM q v m).map (·.1) → x = q ∨ x ∈ m.map (·.1)
  | [], _ => by simp [setM]
  | p :: m, h => by
    rw [List.map_cons, List.nodup_cons] at h
    have ih := setM_keys q v m h.2
    unfold setM
    by_cases c : q = p.1
    · rw [if_pos c]
      refine ⟨by rw [List.map_cons, List.nodup_cons]; exact h, fun x hx => .inr hx⟩
    · rw [if_neg c]
      refine ⟨?_, fun x hx => ?_⟩
      · rw [List.map_cons, List.nodup_cons]
        refine ⟨fun hx => ?_, ih.1⟩
        rcases ih.2 _ hx with e | e
        · exact c e.symm
        · exact h.1 e
      · rw [List.map_cons, List.mem_cons] at hx
        rcases hx with e | e
        · exact .inr (by rw [List.map_cons, e]; exact List.mem_cons_self ..)
        · rcases ih.2 _ e with e | e
          · exact .inl e
          · exact .inr (by rw [List.map_cons]; exact List.mem_cons_of_mem _ e)
theorem map_erase {α β : Type} (f : α → β) : ∀ (l : List α) (i : Nat), (l.eraseIdx i).map f = (l.map f).eraseIdx i
  | [], _ => by simp
  | x :: l, 0 => by simp
  | x :: l, i + 1 => by simp [map_erase f l i]
theorem Ents.del {es : Array MapEntry} {c i : Nat} {m : List (κ × Value)} (h : Ents enc es c m) : Ents enc (es.eraseIdxIfInBounds i) c (m.eraseIdx i) := by
  have e0 : (es.eraseIdxIfInBounds i).toList = es.toList.eraseIdx i := by
    unfold Array.eraseIdxIfInBounds
    split
    · simp
    · rw [List.eraseIdx_of_length_le]; simpa using Nat.le_of_not_lt ‹_›
  refine ⟨?_, ?_, ?_⟩
  · rw [e0, map_erase, map_erase, h.kvs]
  · intro e he
    rw [e0] at he
    exact h.born e (List.mem_of_mem_eraseIdx he)
  · rw [e0, map_erase]
    exact h.nodup.sublist (List.eraseIdx_sublist _ _)
theorem e_mapdel {e ty : TypeId} {g : Nat} {m : List (κ × Value)} {q : κ} {kt' : TypeId} [ht : MapT P t kt e] (K : KeyLaw P kt enc) (p : Pick L (MapIs g enc m) L') (h : Ent W (MapIs g enc (delM q m) :: L') (k (.tuple #[]))) : Ent W L (opN P (sDel #[t, kt'] ty [.map (some g), enc q]) Kp k) := fun w hw => by
  obtain ⟨es, c, he, hp⟩ := map_row (hw.pick p)
  have hg := hp.pt_.1
  have hf := findKey_run K q w he.kvs
  refine ⟨?_⟩
  cases hq : fnd q m 0 with
  | none =>
    have : (sDel #[t, kt'] ty [.map (some g), enc q]).run P w = .ok (.value (.tuple #[])) { w with heap := w.heap.setIfInBounds g (.map es c) } := by
      simp [sDel, Builtin.delete_, run_underlying ht.ut, MapKept.run_getObj_map hg, K.check, hf, hq, Result.andThen, MapKept.run_setObj_map _ hg]
    rw [this]
    refine h _ (map_back ?_ (hp.putObj _))
    rw [show delM q m = m by simp [delM, hq]]; exact he
  | some r =>
    obtain ⟨i, u⟩ := r
    have : (sDel #[t, kt'] ty [.map (some g), enc q]).run P w = .ok (.value (.tuple #[])) { w with heap := w.heap.setIfInBounds g (.map (es.eraseIdxIfInBounds i) c) } := by
      simp [sDel, Builtin.delete_, run_underlying ht.ut, MapKept.run_getObj_map hg, K.check, hf, hq, Result.andThen, MapKept.run_setObj_map _ hg]
    rw [this]
    refine h _ (map_back ?_ (hp.putObj _))
    rw [show delM q m = m.eraseIdx i by simp [delM, hq]]; exact he.del
/-- the map at g holds what f says -/
def MapFn (g : Nat) (enc : κ → Value) (f : κ → Option Value) : HP := ex fun m => all [pu ((m.map (·.1)).Nodup ∧ ∀ q, getM q m = f q), MapIs g enc m]
def updM (f : κ → Option Value) (q : κ) (v : Option Value) : κ → Option Value := fun x => if x = q then v else f x
theorem e_mf {g : Nat} {f : κ → Option Value} {S : WP} (p : Pick L (MapFn g enc f) L') (h : ∀ m, (m.map (·.1)).Nodup → (∀ q, getM q m = f q) → Ent W (MapIs g enc m :: L') S) : Ent W L S := by
  refine e_ex p fun m => e_all .here ?_
  refine e_pu .here fun hm => h m hm.1 hm.2
theorem imp_mf {g : Nat} {f : κ → Option Value} {M : List HP} {m : List (κ × Value)} (p : Pick L (MapIs g enc m) L') (h1 : (m.map (·.1)).Nodup) (h2 : ∀ q, getM q m = f q) (h : Imp W L' M) : Imp W L (MapFn g enc f :: M) :=
  .ex m (.all (.pu ⟨h1, h2⟩ (.pick p h)))
theorem e_lookF {e : TypeId} {z : Value} {g : Nat} {f : κ → Option Value} {q : κ} [ht : MapT P t kt e] [hz : ZeroT P e z] (K : KeyLaw P kt enc) (p : Pick L (MapFn g enc f) L') (h : Ent W (MapFn g enc f :: L') (k ((f q).getD z))) : Ent W L (opN P (sLook t (.map (some g)) (enc q) false) Kp k) :=
  e_mf p fun m h1 h2 => e_opN (v_look K) (.pick .here .nil) (e_imp (imp_mf .here h1 h2 .refl) (by rw [h2]; exact h))
theorem e_lookFOk {e : TypeId} {z : Value} {g : Nat} {f : κ → Option Value} {q : κ} [ht : MapT P t kt e] [hz : ZeroT P e z] (K : KeyLaw P kt enc) (p : Pick L (MapFn g enc f) L') (h : Ent W (MapFn g enc f :: L') (k (.tuple #[(f q).getD z, .bool (f q).isSome]))) : Ent W L (opN P (sLook t (.map (some g)) (enc q) true) Kp k) :=
  e_mf p fun m h1 h2 => e_opN (v_lookOk K) (.pick .here .nil) (e_imp (imp_mf .here h1 h2 .refl) (by rw [h2]; exact h))
theorem e_setF {e : TypeId} {g : Nat} {f : κ → Option Value} {q : κ} {v : Value} [ht : MapT P t kt e] (K : KeyLaw P kt enc) (p : Pick L (MapFn g enc f) L') (h : Ent W (MapFn g enc (updM f q (some v)) :: L') (k undef)) : Ent W L (opN P (sMapSet t (.map (some g)) (enc q) v) Kp k) :=
  e_mf p fun m h1 h2 => e_mapset K .here (e_imp (imp_mf .here (setM_keys q v m h1).1 (fun x => by rw [getM_setM, h2]; rfl) .refl) h)
theorem e_delF {e ty : TypeId} {g : Nat} {f : κ → Option Value} {q : κ} {kt' : TypeId} [ht : MapT P t kt e] (K : KeyLaw P kt enc) (p : Pick L (MapFn g enc f) L') (h : Ent W (MapFn g enc (updM f q none) :: L') (k (.tuple #[]))) : Ent W L (opN P (sDel #[t, kt'] ty [.map (some g), enc q]) Kp k) :=
  e_mf p fun m h1 h2 => e_mapdel K .here (e_imp (imp_mf .here (h1.sublist (delM_keys q m)) (fun x => by rw [getM_delM q x m h1, h2]; rfl) .refl) h)
theorem e_mkF {e : TypeId} (enc : κ → Value) [ht : MapT P t kt e] (h : ∀ g, Ent W (MapFn g enc (fun _ => none) :: L) (k (.map (some g)))) : Ent W L (opN P (sMkMap t none) Kp k) :=
  e_mkmap enc fun g => e_imp (imp_mf .here (by simp) (fun q => by simp [getM, fnd]) .refl) (h g)
theorem v_eqMap {P : Program} {W : World} {t kt e : TypeId} {ox oy : Operand} {g : Nat} [ht : MapT P t kt e] : RunV P W [] (sEq .eql t ox oy (.map (some g)) (.map none)) (.bool false) := fun w _ => by
  have h : (Op.equal t (.map (some g)) (.map none)).run P w = .ok false w := by
    unfold Op.equal Op.maxDepth Op.equalIn
    simp only [Sem.run_bind, run_underlying ht.ut, Result.andThen_ok]
    rfl
  simp [sEq, sv, eqGuard, binOp, h, Result.andThen]
theorem v_eqMap0 {P : Program} {W : World} {t kt e : TypeId} {ox oy : Operand} [ht : MapT P t kt e] : RunV P W [] (sEq .eql t ox oy (.map none) (.map none)) (.bool true) := fun w _ => by
  have h : (Op.equal t (.map none) (.map none)).run P w = .ok true w := by
    unfold Op.equal Op.maxDepth Op.equalIn
    simp only [Sem.run_bind, run_underlying ht.ut, Result.andThen_ok]
    rfl
  simp [sEq, sv, eqGuard, binOp, h, Result.andThen]
end Go.Proofs.Ytehfblkpbadikaa.Sl
