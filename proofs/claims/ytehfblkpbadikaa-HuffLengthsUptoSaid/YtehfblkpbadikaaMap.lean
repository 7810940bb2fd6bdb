/- Maps of a call's own: what they hold, and the operations on them. No conditions but those that each names. -/
import Derived.Test.YtehfblkpbadikaaRead
import Derived.MapKept
set_option linter.unusedVariables false
set_option linter.unusedSectionVars false
namespace Go.Proofs.Ytehfblkpbadikaa.Sl
open Go Go.RowKit Go.Proofs.Ytehfblkpbadikaa.Sh
variable {P : Program} {W : World} {L L' : List HP} {Kp : PK} {k : Value → WP}
structure KeyLaw (P : Program) (t : TypeId) {κ : Type} [DecidableEq κ] (enc : κ → Value) : Prop where
  check : ∀ (b : Bool) (k : κ) (w : World), (Instr.checkKey b 10000 t (enc k)).run P w = .ok () w
  eq : ∀ (k k' : κ) (w : World), (Op.equal t (enc k) (enc k')).run P w = .ok (decide (k = k')) w
  now : ∃ d, P.underlying t = some d ∧ ∀ k k', Instr.sameNow d (enc k) (enc k') = none ∨ Instr.sameNow d (enc k) (enc k') = some (decide (k = k'))
  same : ∀ k, Instr.sameBits 10000 (enc k) (enc k) = true
variable {κ : Type} [DecidableEq κ] {enc : κ → Value} {t kt : TypeId}
def fnd (k : κ) : List (κ × Value) → Nat → Option (Nat × Value)
  | [], _ => none
  | p :: m, i => if k = p.1 then some (i, p.2) else fnd k m (i + 1)
/-- what a key holds -/
def getM (k : κ) (m : List (κ × Value)) : Option Value := (fnd k m 0).map (·.2)
def kv (e : MapEntry) : Value × Value := (e.key, e.val)
def ekv (enc : κ → Value) (p : κ × Value) : Value × Value := (enc p.1, p.2)
theorem findAsking_run (K : KeyLaw P kt enc) (k : κ) (w : World) : ∀ (es : List MapEntry) (m : List (κ × Value)) (i : Nat), es.map kv = m.map (ekv enc) → (Instr.findAsking kt (enc k) es i).run P w = .ok (fnd k m i) w
  | [], [], i, _ => rfl
  | [], p :: m, i, h => by simp at h
  | e :: es, [], i, h => by simp at h
  | e :: es, p :: m, i, h => by
    simp only [List.map_cons, List.cons.injEq, kv, ekv, Prod.mk.injEq] at h
    obtain ⟨⟨h1, h2⟩, h3⟩ := h
    have ih := findAsking_run K k w es m (i + 1) h3
    unfold Instr.findAsking fnd
    rw [h1]
    simp only [Sem.run_bind, K.eq, Result.andThen_ok]
    by_cases c : k = p.1
    · simp [c, h2]
    · simp [c, ih]
theorem findNow_run (d : TypeDesc) (hd : ∀ k k', Instr.sameNow d (enc k) (enc k') = none ∨ Instr.sameNow d (enc k) (enc k') = some (decide (k = k'))) (k : κ) : ∀ (es : List MapEntry) (m : List (κ × Value)) (i : Nat), es.map kv = m.map (ekv enc) → Instr.findNow d (enc k) es i = none ∨ Instr.findNow d (enc k) es i = some (fnd k m i)
  | [], [], i, _ => .inr rfl
  | [], p :: m, i, h => by simp at h
  | e :: es, [], i, h => by simp at h
  | e :: es, p :: m, i, h => by
    simp only [List.map_cons, List.cons.injEq, kv, ekv, Prod.mk.injEq] at h
    obtain ⟨⟨h1, h2⟩, h3⟩ := h
    have ih := findNow_run d hd k es m (i + 1) h3
    unfold Instr.findNow fnd
    rw [h1]
    rcases hd k p.1 with c | c
    · rw [c]; exact .inl rfl
    · rw [c]
      by_cases e1 : k = p.1
      · simp [e1, h2]
      · simp [e1, ih]
theorem findKey_run (K : KeyLaw P kt enc) (k : κ) (w : World) {es : List MapEntry} {m : List (κ × Value)} (h : es.map kv = m.map (ekv enc)) : (Instr.findKey kt (enc k) es).run P w = .ok (fnd k m 0) w := by
  obtain ⟨d, hd, hs⟩ := K.now
  unfold Instr.findKey
  simp only [Sem.run_bind, run_underlying hd, Result.andThen_ok]
  rcases findNow_run d hs k es m 0 h with c | c
  · rw [c]; exact findAsking_run K k w es m 0 h
  · rw [c]; rfl
structure Ents (enc : κ → Value) (es : Array MapEntry) (c : Nat) (m : List (κ × Value)) : Prop where
  kvs : es.toList.map kv = m.map (ekv enc)
  born : ∀ e ∈ es.toList, e.born < c
  nodup : (es.toList.map (·.born)).Nodup
/-- the map at g holds m -/
def MapIs (g : Nat) (enc : κ → Value) (m : List (κ × Value)) : HP := fun _ h => ∃ es c, h g = some (.map es c) ∧ Ents enc es c m
theorem map_row {g : Nat} {m : List (κ × Value)} {w : World} (H : sat W (MapIs g enc m :: L) w) : ∃ es c, Ents enc es c m ∧ sat W (pt g (.map es c) :: L) w := by
  obtain ⟨f, ⟨h1, h2, ⟨es, c, ha, he⟩, r⟩, b⟩ := H.heap
  exact ⟨es, c, he, H.base, f, ⟨h1, h2, ha, r⟩, b⟩
theorem map_back {g : Nat} {m : List (κ × Value)} {w : World} {es : Array MapEntry} {c : Nat} (he : Ents enc es c m) (H : sat W (pt g (.map es c) :: L) w) : sat W (MapIs g enc m :: L) w := by
  obtain ⟨f, ⟨h1, h2, ha, r⟩, b⟩ := H.heap
  exact ⟨H.base, f, ⟨h1, h2, ⟨es, c, ha, he⟩, r⟩, b⟩
class MapT (P : Program) (t : TypeId) (kt e : outParam TypeId) : Prop where
  ut : P.underlying t = some (.map kt e)
theorem v_lookOk {e : TypeId} {z : Value} {g : Nat} {m : List (κ × Value)} {q : κ} [ht : MapT P t kt e] [hz : ZeroT P e z] (K : KeyLaw P kt enc) : RunV P W [MapIs g enc m] (sLook t (.map (some g)) (enc q) true) (.tuple #[(getM q m).getD z, .bool (getM q m).isSome]) := fun w hw => by
  obtain ⟨es, c, he, hp⟩ := map_row hw
  have hg := hp.pt_.1
  have hf := findKey_run K q w he.kvs
  unfold getM
  cases hq : fnd q m 0 with
  | none => simp [sLook, Instr.lookup, run_underlying ht.ut, MapKept.run_getObj_map hg, K.check, hf, hq, hz.run, Result.andThen]
  | some p => simp [sLook, Instr.lookup, run_underlying ht.ut, MapKept.run_getObj_map hg, K.check, hf, hq, Result.andThen]
theorem v_look {e : TypeId} {z : Value} {g : Nat} {m : List (κ × Value)} {q : κ} [ht : MapT P t kt e] [hz : ZeroT P e z] (K : KeyLaw P kt enc) : RunV P W [MapIs g enc m] (sLook t (.map (some g)) (enc q) false) ((getM q m).getD z) := fun w hw => by
  obtain ⟨es, c, he, hp⟩ := map_row hw
  have hg := hp.pt_.1
  have hf := findKey_run K q w he.kvs
  unfold getM
  cases hq : fnd q m 0 with
  | none => simp [sLook, Instr.lookup, run_underlying ht.ut, MapKept.run_getObj_map hg, K.check, hf, hq, hz.run, Result.andThen]
  | some p => simp [sLook, Instr.lookup, run_underlying ht.ut, MapKept.run_getObj_map hg, K.check, hf, hq, Result.andThen]
theorem v_lenM {e ty : TypeId} {g : Nat} {m : List (κ × Value)} [ht : MapT P t kt e] : RunV P W [MapIs g enc m] (sLen #[t] ty [.map (some g)]) (.int .i64 (m.length : Int)) := fun w hw => by
  obtain ⟨es, c, he, hp⟩ := map_row hw
  have hl := congrArg List.length he.kvs
  simp at hl
  simp [sLen, Builtin.len_, run_underlying ht.ut, MapKept.run_getObj_map hp.pt_.1, goInt, hl, Result.andThen]
theorem e_mkmap {e : TypeId} (enc : κ → Value) [ht : MapT P t kt e] (h : ∀ g, Ent W (MapIs g enc [] :: L) (k (.map (some g)))) : Ent W L (opN P (sMkMap t none) Kp k) := fun w hw => by
  refine ⟨?_⟩
  have : (sMkMap t none).run P w = .ok (.value (.map (some w.heap.size))) (w.alloc (.map #[] 0)) := by
    simp [sMkMap, Instr.makeMap]
  rw [this]
  exact h _ _ (map_back ⟨rfl, fun e he => by simp at he, by simp⟩ (hw.alloc _))
/-- the map with a key laid -/
def setM (q : κ) (v : Value) : List (κ × Value) → List (κ × Value)
  | [] => [(q, v)]
  | p :: m => if q = p.1 then (p.1, v) :: m else p :: setM q v m
theorem setM_none (q : κ) (v : Value) : ∀ (m : List (κ × Value)) (i : Nat), fnd q m i = none → setM q v m = m ++ [(q, v)]
  | [], i, _ => rfl
  | p :: m, i, h => by
    unfold fnd at h
    by_cases c : q = p.1
    · simp [c] at h
    · rw [if_neg c] at h
      simp [setM, c, setM_none q v m (i + 1) h]
theorem setM_some (q : κ) (v : Value) : ∀ (m : List (κ × Value)) (i j : Nat) (u : Value), fnd q m i = some (j, u) → i ≤ j ∧ j - i < m.length ∧ setM q v m = m.set (j - i) (q, v) ∧ m[j - i]? = some (q, u)
  | [], i, j, u, h => by simp [fnd] at h
  | p :: m, i, j, u, h => by
    unfold fnd at h
    by_cases c : q = p.1
    · rw [if_pos c] at h
      simp at h
      obtain ⟨rfl, rfl⟩ := h
      simp [setM, c]
    · rw [if_neg c] at h
      obtain ⟨h1, h2, h3, h4⟩ := setM_some q v m (i + 1) j u h
      refine ⟨by omega, by rw [List.length_cons]; omega, ?_, ?_⟩
      · rw [setM, if_neg c, h3, show j - i = (j - (i + 1)) + 1 by omega]; rfl
      · rw [show j - i = (j - (i + 1)) + 1 by omega]; simpa using h4
theorem getM_setM (q q' : κ) (v : Value) : ∀ (m : List (κ × Value)), getM q' (setM q v m) = if q' = q then some v else getM q' m := by
  have key : ∀ (m : List (κ × Value)) (i j : Nat), (fnd q' (setM q v m) i).map (·.2) = if q' = q then some v else (fnd q' m j).map (·.2) := by
    intro m
    induction m with
    | nil => intro i j; by_cases c : q' = q <;> simp [setM, fnd, c]
    | cons p m ih =>
      intro i j
      unfold setM
      by_cases c : q = p.1
      · rw [if_pos c]
        unfold fnd
        by_cases d : q' = p.1
        · simp [d, c]
        · have hd : q' ≠ q := by rw [c]; exact d
          simp only [if_neg d, if_neg hd]
          have gen : ∀ (m : List (κ × Value)) (i j : Nat), (fnd q' m i).map (·.2) = (fnd q' m j).map (·.2) := by
            intro m
            induction m with
            | nil => intro i j; rfl
            | cons p m ih => intro i j; unfold fnd; split <;> simp [ih (i + 1) (j + 1)]
          exact gen m _ _
      · rw [if_neg c]
        unfold fnd
        by_cases d : q' = p.1
        · have hd : q' ≠ q := by rw [d]; exact fun e => c e.symm
          simp [if_pos d, if_neg hd]
        · simp only [if_neg d]; exact ih _ _
  exact fun m => key m 0 0
theorem sat.putObj {w : World} {g : Nat} {o : Obj} (o' : Obj) (H : sat W (pt g o :: L) w) : sat W (pt g o' :: L) { w with heap := w.heap.setIfInBounds g o' } := by
  have hg := H.pt_.1
  have hlt := (Array.getElem?_eq_some_iff.1 hg).1
  exact H.turn rfl rfl rfl (by simp) (by simp [hlt]) (fun i hi => by simp [Array.getElem?_setIfInBounds_ne (Ne.symm hi)])
theorem kvs_get {es : Array MapEntry} {m : List (κ × Value)} (h : es.toList.map kv = m.map (ekv enc)) {i : Nat} {p : κ × Value} (hp : m[i]? = some p) : ∃ e, es[i]? = some e ∧ e.key = enc p.1 ∧ e.val = p.2 := by
  have h1 : (es.toList.map kv)[i]? = some (ekv enc p) := by rw [h, List.getElem?_map, hp]; rfl
  rw [List.getElem?_map, Array.getElem?_toList] at h1
  cases he : es[i]? with
  | none => rw [he] at h1; cases h1
  | some e =>
    rw [he] at h1
    simp [kv, ekv] at h1
    exact ⟨e, rfl, h1.1, h1.2⟩
theorem Ents.put {es : Array MapEntry} {c i : Nat} {m : List (κ × Value)} {q : κ} {u v : Value} (h : Ents enc es c m) (hi : m[i]? = some (q, u)) : Ents enc (es.modify i fun e => { e with key := enc q, val := v }) c (m.set i (q, v)) := by
  obtain ⟨e, he, h1, h2⟩ := kvs_get h.kvs hi
  have hlt := (Array.getElem?_eq_some_iff.1 he).1
  refine ⟨?_, ?_, ?_⟩
  · apply List.ext_getElem?
    intro j
    rw [List.getElem?_map, Array.getElem?_toList, Array.getElem?_modify, List.getElem?_map, List.getElem?_set]
    have hj : (es[j]?).map kv = (m[j]?).map (ekv enc) := by
      have := congrArg (fun l => l[j]?) h.kvs
      simpa using this
    by_cases c : i = j
    · subst c
      have hml := (List.getElem?_eq_some_iff.1 hi).1
      rw [if_pos rfl, if_pos rfl, if_pos hml, he]; rfl
    · rw [if_neg c, if_neg c]; exact hj
  · intro e' he'
    obtain ⟨j, hj⟩ := List.mem_iff_getElem?.1 he'
    rw [Array.getElem?_toList, Array.getElem?_modify] at hj
    split at hj
    · cases hx : es[j]? with
      | none => rw [hx] at hj; cases hj
      | some x =>
        rw [hx] at hj
        have := Option.some.inj hj
        rw [← this]
        exact h.born x (List.mem_iff_getElem?.2 ⟨j, by rw [Array.getElem?_toList]; exact hx⟩)
    · exact h.born e' (List.mem_iff_getElem?.2 ⟨j, by rw [Array.getElem?_toList]; exact hj⟩)
  · have e0 : (es.modify i fun e => { e with key := enc q, val := v }).toList.map (·.born) = es.toList.map (·.born) := by
      apply List.ext_getElem?
      intro j
      rw [List.getElem?_map, Array.getElem?_toList, Array.getElem?_modify, List.getElem?_map, Array.getElem?_toList]
      split
      · cases es[j]? <;> rfl
      · rfl
    rw [e0]; exact h.nodup
theorem Ents.push {es : Array MapEntry} {c : Nat} {m : List (κ × Value)} {q : κ} {v : Value} (h : Ents enc es c m) : Ents enc (es.push { key := enc q, val := v, born := c }) (c + 1) (m ++ [(q, v)]) := by
  refine ⟨by simp [h.kvs, kv, ekv], fun e he => ?_, ?_⟩
  · simp at he
    rcases he with he | rfl
    · have := h.born e (by simpa using he); omega
    · simp
  · simp only [Array.toList_push, List.map_append, List.map_cons, List.map_nil]
    refine List.nodup_append.2 ⟨h.nodup, by simp, ?_⟩
    intro a ha b hb
    obtain ⟨e, he, rfl⟩ := List.mem_map.1 ha
    simp at hb; subst hb
    have := h.born e he; omega
theorem e_mapset {e : TypeId} {g : Nat} {m : List (κ × Value)} {q : κ} {v : Value} [ht : MapT P t kt e] (K : KeyLaw P kt enc) (p : Pick L (MapIs g enc m) L') (h : Ent W (MapIs g enc (setM q v m) :: L') (k undef)) : Ent W L (opN P (sMapSet t (.map (some g)) (enc q) v) Kp k) := fun w hw => by
  obtain ⟨es, c, he, hp⟩ := map_row (hw.pick p)
  have hg := hp.pt_.1
  have hf := findKey_run K q w he.kvs
  refine ⟨?_⟩
  cases hq : fnd q m 0 with
  | none =>
    have : (sMapSet t (.map (some g)) (enc q) v).run P w = .ok .skip { w with heap := w.heap.setIfInBounds g (.map (es.push { key := enc q, val := v, born := c }) (c + 1)) } := by
      simp [sMapSet, Instr.mapUpdate, run_underlying ht.ut, MapKept.run_getObj_map hg, K.check, hf, hq, Result.andThen, MapKept.run_setObj_map _ hg]
    rw [this]
    refine h _ (map_back ?_ (hp.putObj _))
    rw [setM_none q v m 0 hq]; exact he.push
  | some r =>
    obtain ⟨i, u⟩ := r
    obtain ⟨_, h2, h3, h4⟩ := setM_some q v m 0 i u hq
    rw [Nat.sub_zero] at h2 h3 h4
    obtain ⟨en, hen, e1, e2⟩ := kvs_get he.kvs h4
    have hk : (Instr.keyThatStays (((es[i]?).map (·.key)).getD (enc q)) (enc q)).run P w = .ok (enc q) w := by
      rw [hen]
      simp only [Option.map_some, Option.getD_some, e1]
      unfold Instr.keyThatStays
      rw [if_pos (K.same q)]; rfl
    have : (sMapSet t (.map (some g)) (enc q) v).run P w = .ok .skip { w with heap := w.heap.setIfInBounds g (.map (es.modify i fun e => { e with key := enc q, val := v }) c) } := by
      simp [sMapSet, Instr.mapUpdate, run_underlying ht.ut, MapKept.run_getObj_map hg, K.check, hf, hq, Result.andThen, hk, MapKept.run_setObj_map _ hg]
    rw [this]
    refine h _ (map_back ?_ (hp.putObj _))
    rw [h3]; exact he.put h4
end Go.Proofs.Ytehfblkpbadikaa.Sl
