/- Maps of a call's own: what they hold, and the operations on them. No conditions but those that each names. (7 texts made one; each says below what it is.) -/
import Derived.Test.YtehfblkpbadikabK1
import Derived.MapKept
import Derived.Test.YtehfblkpbadikabChecked
import Derived.KernelRfl
set_option linter.unusedVariables false
set_option linter.unusedSimpArgs false
set_option linter.unusedSectionVars false
/-! Maps of a call's own: what they hold, and the operations on them. No conditions but those that each names. -/
namespace Go.Proofs.Ytehfblkpbadikab.Sl
open Go Go.RowKit Go.Proofs.Ytehfblkpbadikab.Sh
variable {P : Program} {W : World} {L L' : List HP} {Kp : PK} {k : Value → WP}
structure KeyLaw (P : Program) (t : TypeId) {κ : Type} [DecidableEq κ] (enc : κ → Value) : Prop where
  check : ∀ (b : Bool) (k : κ) (w : World), (Instr.checkKey b 10000 t (enc k)).run P w = .ok () w
  eq : ∀ (k k' : κ) (w : World), (Op.equal t (enc k) (enc k')).run P w = .ok (decide (k = k')) w
  now : ∃ d, P.underlying t = some d ∧ ∀ k k', Instr.sameNow d (enc k) (enc k') = none ∨ Instr.sameNow d (enc k) (enc k') = some (decide (k = k'))
  same : ∀ k, Instr.sameBits 10000 (enc k) (enc k) = true
variable {κ : Type} [DecidableEq κ] {enc : κ → Value} {t kt : TypeId}
def fnd (k : κ) : List (κ × Value) → Nat → Option (Nat × Value)
  | [], _ => none
  | p :: m, i => if k = p.1 then some (i, p.2) else fnd k m (i + 1)
/-- what a key holds -/
def getM (k : κ) (m : List (κ × Value)) : Option Value := (fnd k m 0).map (·.2)
def kv (e : MapEntry) : Value × Value := (e.key, e.val)
def ekv (enc : κ → Value) (p : κ × Value) : Value × Value := (enc p.1, p.2)
theorem findAsking_run (K : KeyLaw P kt enc) (k : κ) (w : World) : ∀ (es : List MapEntry) (m : List (κ × Value)) (i : Nat), es.map kv = m.map (ekv enc) → (Instr.findAsking kt (enc k) es i).run P w = .ok (fnd k m i) w
  | [], [], i, _ => rfl
  | [], p :: m, i, h => by simp at h
  | e :: es, [], i, h => by simp at h
  | e :: es, p :: m, i, h => by
    simp only [List.map_cons, List.cons.injEq, kv, ekv, Prod.mk.injEq] at h
    obtain ⟨⟨h1, h2⟩, h3⟩ := h
    have ih := findAsking_run K k w es m (i + 1) h3
    unfold Instr.findAsking fnd
    rw [h1]
    simp only [Sem.run_bind, K.eq, Result.andThen_ok]
    by_cases c : k = p.1
    · simp [c, h2]
    · simp [c, ih]
theorem findNow_run (d : TypeDesc) (hd : ∀ k k', Instr.sameNow d (enc k) (enc k') = none ∨ Instr.sameNow d (enc k) (enc k') = some (decide (k = k'))) (k : κ) : ∀ (es : List MapEntry) (m : List (κ × Value)) (i : Nat), es.map kv = m.map (ekv enc) → Instr.findNow d (enc k) es i = none ∨ Instr.findNow d (enc k) es i = some (fnd k m i)
  | [], [], i, _ => .inr rfl
  | [], p :: m, i, h => by simp at h
  | e :: es, [], i, h => by simp at h
  | e :: es, p :: m, i, h => by
    simp only [List.map_cons, List.cons.injEq, kv, ekv, Prod.mk.injEq] at h
    obtain ⟨⟨h1, h2⟩, h3⟩ := h
    have ih := findNow_run d hd k es m (i + 1) h3
    unfold Instr.findNow fnd
    rw [h1]
    rcases hd k p.1 with c | c
    · rw [c]; exact .inl rfl
    · rw [c]
      by_cases e1 : k = p.1
      · simp [e1, h2]
      · simp [e1, ih]
theorem findKey_run (K : KeyLaw P kt enc) (k : κ) (w : World) {es : List MapEntry} {m : List (κ × Value)} (h : es.map kv = m.map (ekv enc)) : (Instr.findKey kt (enc k) es).run P w = .ok (fnd k m 0) w := by
  obtain ⟨d, hd, hs⟩ := K.now
  unfold Instr.findKey
  simp only [Sem.run_bind, run_underlying hd, Result.andThen_ok]
  rcases findNow_run d hs k es m 0 h with c | c
  · rw [c]; exact findAsking_run K k w es m 0 h
  · rw [c]; rfl
structure Ents (enc : κ → Value) (es : Array MapEntry) (c : Nat) (m : List (κ × Value)) : Prop where
  kvs : es.toList.map kv = m.map (ekv enc)
  born : ∀ e ∈ es.toList, e.born < c
  nodup : (es.toList.map (·.born)).Nodup
/-- the map at g holds m -/
def MapIs (g : Nat) (enc : κ → Value) (m : List (κ × Value)) : HP := fun _ h => ∃ es c, h g = some (.map es c) ∧ Ents enc es c m
theorem map_row {g : Nat} {m : List (κ × Value)} {w : World} (H : sat W (MapIs g enc m :: L) w) : ∃ es c, Ents enc es c m ∧ sat W (pt g (.map es c) :: L) w := by
  obtain ⟨f, ⟨h1, h2, ⟨es, c, ha, he⟩, r⟩, b⟩ := H.heap
  exact ⟨es, c, he, H.base, f, ⟨h1, h2, ha, r⟩, b⟩
theorem map_back {g : Nat} {m : List (κ × Value)} {w : World} {es : Array MapEntry} {c : Nat} (he : Ents enc es c m) (H : sat W (pt g (.map es c) :: L) w) : sat W (MapIs g enc m :: L) w := by
  obtain ⟨f, ⟨h1, h2, ha, r⟩, b⟩ := H.heap
  exact ⟨H.base, f, ⟨h1, h2, ⟨es, c, ha, he⟩, r⟩, b⟩
class MapT (P : Program) (t : TypeId) (kt e : outParam TypeId) : Prop where
  ut : P.underlying t = some (.map kt e)
theorem v_lookOk {e : TypeId} {z : Value} {g : Nat} {m : List (κ × Value)} {q : κ} [ht : MapT P t kt e] [hz : ZeroT P e z] (K : KeyLaw P kt enc) : RunV P W [MapIs g enc m] (sLook t (.map (some g)) (enc q) true) (.tuple #[(getM q m).getD z, .bool (getM q m).isSome]) := fun w hw => by
  obtain ⟨es, c, he, hp⟩ := map_row hw
  have hg := hp.pt_.1
  have hf := findKey_run K q w he.kvs
  unfold getM
  cases hq : fnd q m 0 with
  | none => simp [sLook, Instr.lookup, run_underlying ht.ut, MapKept.run_getObj_map hg, K.check, hf, hq, hz.run, Result.andThen]
  | some p => simp [sLook, Instr.lookup, run_underlying ht.ut, MapKept.run_getObj_map hg, K.check, hf, hq, Result.andThen]
theorem v_look {e : TypeId} {z : Value} {g : Nat} {m : List (κ × Value)} {q : κ} [ht : MapT P t kt e] [hz : ZeroT P e z] (K : KeyLaw P kt enc) : RunV P W [MapIs g enc m] (sLook t (.map (some g)) (enc q) false) ((getM q m).getD z) := fun w hw => by
  obtain ⟨es, c, he, hp⟩ := map_row hw
  have hg := hp.pt_.1
  have hf := findKey_run K q w he.kvs
  unfold getM
  cases hq : fnd q m 0 with
  | none => simp [sLook, Instr.lookup, run_underlying ht.ut, MapKept.run_getObj_map hg, K.check, hf, hq, hz.run, Result.andThen]
  | some p => simp [sLook, Instr.lookup, run_underlying ht.ut, MapKept.run_getObj_map hg, K.check, hf, hq, Result.andThen]
theorem v_lenM {e ty : TypeId} {g : Nat} {m : List (κ × Value)} [ht : MapT P t kt e] : RunV P W [MapIs g enc m] (sLen #[t] ty [.map (some g)]) (.int .i64 (m.length : Int)) := fun w hw => by
  obtain ⟨es, c, he, hp⟩ := map_row hw
  have hl := congrArg List.length he.kvs
  simp at hl
  simp [sLen, Builtin.len_, run_underlying ht.ut, MapKept.run_getObj_map hp.pt_.1, goInt, hl, Result.andThen]
theorem e_mkmap {e : TypeId} (enc : κ → Value) [ht : MapT P t kt e] (h : ∀ g, Ent W (MapIs g enc [] :: L) (k (.map (some g)))) : Ent W L (opN P (sMkMap t none) Kp k) := fun w hw => by
  refine ⟨?_⟩
  have : (sMkMap t none).run P w = .ok (.value (.map (some w.heap.size))) (w.alloc (.map #[] 0)) := by
    simp [sMkMap, Instr.makeMap]
  rw [this]
  exact h _ _ (map_back ⟨rfl, fun e he => by simp at he, by simp⟩ (hw.alloc _))
/-- the map with a key laid -/
def setM (q : κ) (v : Value) : List (κ × Value) → List (κ × Value)
  | [] => [(q, v)]
  | p :: m => if q = p.1 then (p.1, v) :: m else p :: setM q v m
theorem setM_none (q : κ) (v : Value) : ∀ (m : List (κ × Value)) (i : Nat), fnd q m i = none → setM q v m = m ++ [(q, v)]
  | [], i, _ => rfl
  | p :: m, i, h => by
    unfold fnd at h
    by_cases c : q = p.1
    · simp [c] at h
    · rw [if_neg c] at h
      simp [setM, c, setM_none q v m (i + 1) h]
theorem setM_some (q : κ) (v : Value) : ∀ (m : List (κ × Value)) (i j : Nat) (u : Value), fnd q m i = some (j, u) → i ≤ j ∧ j - i < m.length ∧ setM q v m = m.set (j - i) (q, v) ∧ m[j - i]? = some (q, u)
  | [], i, j, u, h => by simp [fnd] at h
  | p :: m, i, j, u, h => by
    unfold fnd at h
    by_cases c : q = p.1
    · rw [if_pos c] at h
      simp at h
      obtain ⟨rfl, rfl⟩ := h
      simp [setM, c]
    · rw [if_neg c] at h
      obtain ⟨h1, h2, h3, h4⟩ := setM_some q v m (i + 1) j u h
      refine ⟨by omega, by rw [List.length_cons]; omega, ?_, ?_⟩
      · rw [setM, if_neg c, h3, show j - i = (j - (i + 1)) + 1 by omega]; rfl
      · rw [show j - i = (j - (i + 1)) + 1 by omega]; simpa using h4
theorem getM_setM (q q' : κ) (v : Value) : ∀ (m : List (κ × Value)), getM q' (setM q v m) = if q' = q then some v else getM q' m := by
  have key : ∀ (m : List (κ × Value)) (i j : Nat), (fnd q' (setM q v m) i).map (·.2) = if q' = q then some v else (fnd q' m j).map (·.2) := by
    intro m
    induction m with
    | nil => intro i j; by_cases c : q' = q <;> simp [setM, fnd, c]
    | cons p m ih =>
      intro i j
      unfold setM
      by_cases c : q = p.1
      · rw [if_pos c]
        unfold fnd
        by_cases d : q' = p.1
        · simp [d, c]
        · have hd : q' ≠ q := by rw [c]; exact d
          simp only [if_neg d, if_neg hd]
          have gen : ∀ (m : List (κ × Value)) (i j : Nat), (fnd q' m i).map (·.2) = (fnd q' m j).map (·.2) := by
            intro m
            induction m with
            | nil => intro i j; rfl
            | cons p m ih => intro i j; unfold fnd; split <;> simp [ih (i + 1) (j + 1)]
          exact gen m _ _
      · rw [if_neg c]
        unfold fnd
        by_cases d : q' = p.1
        · have hd : q' ≠ q := by rw [d]; exact fun e => c e.symm
          simp [if_pos d, if_neg hd]
        · simp only [if_neg d]; exact ih _ _
  exact fun m => key m 0 0
theorem sat.putObj {w : World} {g : Nat} {o : Obj} (o' : Obj) (H : sat W (pt g o :: L) w) : sat W (pt g o' :: L) { w with heap := w.heap.setIfInBounds g o' } := by
  have hg := H.pt_.1
  have hlt := (Array.getElem?_eq_some_iff.1 hg).1
  exact H.turn rfl rfl rfl (by simp) (by simp [hlt]) (fun i hi => by simp [Array.getElem?_setIfInBounds_ne (Ne.symm hi)])
theorem kvs_get {es : Array MapEntry} {m : List (κ × Value)} (h : es.toList.map kv = m.map (ekv enc)) {i : Nat} {p : κ × Value} (hp : m[i]? = some p) : ∃ e, es[i]? = some e ∧ e.key = enc p.1 ∧ e.val = p.2 := by
  have h1 : (es.toList.map kv)[i]? = some (ekv enc p) := by rw [h, List.getElem?_map, hp]; rfl
  rw [List.getElem?_map, Array.getElem?_toList] at h1
  cases he : es[i]? with
  | none => rw [he] at h1; cases h1
  | some e =>
    rw [he] at h1
    simp [kv, ekv] at h1
    exact ⟨e, rfl, h1.1, h1.2⟩
theorem Ents.put {es : Array MapEntry} {c i : Nat} {m : List (κ × Value)} {q : κ} {u v : Value} (h : Ents enc es c m) (hi : m[i]? = some (q, u)) : Ents enc (es.modify i fun e => { e with key := enc q, val := v }) c (m.set i (q, v)) := by
  obtain ⟨e, he, h1, h2⟩ := kvs_get h.kvs hi
  have hlt := (Array.getElem?_eq_some_iff.1 he).1
  refine ⟨?_, ?_, ?_⟩
  · apply List.ext_getElem?
    intro j
    rw [List.getElem?_map, Array.getElem?_toList, Array.getElem?_modify, List.getElem?_map, List.getElem?_set]
    have hj : (es[j]?).map kv = (m[j]?).map (ekv enc) := by
      have := congrArg (fun l => l[j]?) h.kvs
      simpa using this
    by_cases c : i = j
    · subst c
      have hml := (List.getElem?_eq_some_iff.1 hi).1
      rw [if_pos rfl, if_pos rfl, if_pos hml, he]; rfl
    · rw [if_neg c, if_neg c]; exact hj
  · intro e' he'
    obtain ⟨j, hj⟩ := List.mem_iff_getElem?.1 he'
    rw [Array.getElem?_toList, Array.getElem?_modify] at hj
    split at hj
    · cases hx : es[j]? with
      | none => rw [hx] at hj; cases hj
      | some x =>
        rw [hx] at hj
        have := Option.some.inj hj
        rw [← this]
        exact h.born x (List.mem_iff_getElem?.2 ⟨j, by rw [Array.getElem?_toList]; exact hx⟩)
    · exact h.born e' (List.mem_iff_getElem?.2 ⟨j, by rw [Array.getElem?_toList]; exact hj⟩)
  · have e0 : (es.modify i fun e => { e with key := enc q, val := v }).toList.map (·.born) = es.toList.map (·.born) := by
      apply List.ext_getElem?
      intro j
      rw [List.getElem?_map, Array.getElem?_toList, Array.getElem?_modify, List.getElem?_map, Array.getElem?_toList]
      split
      · cases es[j]? <;> rfl
      · rfl
    rw [e0]; exact h.nodup
theorem Ents.push {es : Array MapEntry} {c : Nat} {m : List (κ × Value)} {q : κ} {v : Value} (h : Ents enc es c m) : Ents enc (es.push { key := enc q, val := v, born := c }) (c + 1) (m ++ [(q, v)]) := by
  refine ⟨by simp [h.kvs, kv, ekv], fun e he => ?_, ?_⟩
  · simp at he
    rcases he with he | rfl
    · have := h.born e (by simpa using he); omega
    · simp
  · simp only [Array.toList_push, List.map_append, List.map_cons, List.map_nil]
    refine List.nodup_append.2 ⟨h.nodup, by simp, ?_⟩
    intro a ha b hb
    obtain ⟨e, he, rfl⟩ := List.mem_map.1 ha
    simp at hb; subst hb
    have := h.born e he; omega
theorem e_mapset {e : TypeId} {g : Nat} {m : List (κ × Value)} {q : κ} {v : Value} [ht : MapT P t kt e] (K : KeyLaw P kt enc) (p : Pick L (MapIs g enc m) L') (h : Ent W (MapIs g enc (setM q v m) :: L') (k undef)) : Ent W L (opN P (sMapSet t (.map (some g)) (enc q) v) Kp k) := fun w hw => by
  obtain ⟨es, c, he, hp⟩ := map_row (hw.pick p)
  have hg := hp.pt_.1
  have hf := findKey_run K q w he.kvs
  refine ⟨?_⟩
  cases hq : fnd q m 0 with
  | none =>
    have : (sMapSet t (.map (some g)) (enc q) v).run P w = .ok .skip { w with heap := w.heap.setIfInBounds g (.map (es.push { key := enc q, val := v, born := c }) (c + 1)) } := by
      simp [sMapSet, Instr.mapUpdate, run_underlying ht.ut, MapKept.run_getObj_map hg, K.check, hf, hq, Result.andThen, MapKept.run_setObj_map _ hg]
    rw [this]
    refine h _ (map_back ?_ (hp.putObj _))
    rw [setM_none q v m 0 hq]; exact he.push
  | some r =>
    obtain ⟨i, u⟩ := r
    obtain ⟨_, h2, h3, h4⟩ := setM_some q v m 0 i u hq
    rw [Nat.sub_zero] at h2 h3 h4
    obtain ⟨en, hen, e1, e2⟩ := kvs_get he.kvs h4
    have hk : (Instr.keyThatStays (((es[i]?).map (·.key)).getD (enc q)) (enc q)).run P w = .ok (enc q) w := by
      rw [hen]
      simp only [Option.map_some, Option.getD_some, e1]
      unfold Instr.keyThatStays
      rw [if_pos (K.same q)]; rfl
    have : (sMapSet t (.map (some g)) (enc q) v).run P w = .ok .skip { w with heap := w.heap.setIfInBounds g (.map (es.modify i fun e => { e with key := enc q, val := v }) c) } := by
      simp [sMapSet, Instr.mapUpdate, run_underlying ht.ut, MapKept.run_getObj_map hg, K.check, hf, hq, Result.andThen, hk, MapKept.run_setObj_map _ hg]
    rw [this]
    refine h _ (map_back ?_ (hp.putObj _))
    rw [h3]; exact he.put h4
end Go.Proofs.Ytehfblkpbadikab.Sl
/-! What the loaded program's types are, one fact a line; printed by a program of mine. No conditions. -/
namespace Go.Proofs.Ytehfblkpbadikab.T
open Go Go.Proofs Go.Proofs.Ytehfblkpbadikab.Sh Go.Proofs.Ytehfblkpbadikab.Sl
theorem fld {P : Program} {t : TypeId} {fs : Array Field} {f ft o n : Nat} (hu : ∀ w, (underlying t).run P w = .ok (.struct fs) w) (hf : (fs[f]?).map (fun x => (x.type, x.offset)) = some (ft, o)) (hs : ∀ w, (sizeOf ft).run P w = .ok (n + 1) w) : FldT P t f o :=
  ⟨fun g b w => by
    cases h : fs[f]? with
    | none => rw [h] at hf; cases hf
    | some fl =>
      rw [h] at hf
      simp only [Option.map_some, Option.some.injEq, Prod.mk.injEq] at hf
      obtain ⟨rfl, rfl⟩ := hf
      simp only [Instr.fieldAt, Sem.run_bind, hu, Result.andThen_ok, h, Instr.sureAddr, fieldPlace, hs, Sem.run_pure]
      by_cases h0 : fl.offset = 0 <;> simp [Addr.add, h0]⟩
theorem slt {P : Program} {t e : TypeId} {i : TypeInfo} {z : Value} {s b : Nat} (hu : P.underlying t = some (.slice e)) (hi : P.info? e = some i) (hz : i.zero = some z) (hs : i.size = s) (hb : i.bytes = b) (hzs : z.cells.size = s) : SlT P t e s b := ⟨hu, i, z, hi, hz, hs, hb, hzs⟩

instance one_1 : OneT Try.prog 1 := ⟨Try.isAgg1, Try.sizeOf1⟩
instance zero_1 : ZeroT Try.prog 1 .nilFunc := ⟨Try.zeroValue1⟩
instance one_2 : OneT Try.prog 2 := ⟨Try.isAgg2, Try.sizeOf2⟩
instance zero_2 : ZeroT Try.prog 2 (.int .i64 0) := ⟨Try.zeroValue2⟩
instance int_2 : IntT Try.prog 2 .i64 := ⟨Try.runUnderlying2⟩
instance one_3 : OneT Try.prog 3 := ⟨Try.isAgg3, Try.sizeOf3⟩
instance zero_3 : ZeroT Try.prog 3 (.int .i64 0) := ⟨Try.zeroValue3⟩
instance int_3 : IntT Try.prog 3 .i64 := ⟨Try.runUnderlying3⟩
instance one_4 : OneT Try.prog 4 := ⟨Try.isAgg4, Try.sizeOf4⟩
instance zero_4 : ZeroT Try.prog 4 (.bool false) := ⟨Try.zeroValue4⟩
instance one_5 : OneT Try.prog 5 := ⟨Try.isAgg5, Try.sizeOf5⟩
instance zero_5 : ZeroT Try.prog 5 (.int .u8 0) := ⟨Try.zeroValue5⟩
instance int_5 : IntT Try.prog 5 .u8 := ⟨Try.runUnderlying5⟩
instance one_6 : OneT Try.prog 6 := ⟨Try.isAgg6, Try.sizeOf6⟩
instance zero_6 : ZeroT Try.prog 6 (.int .u8 0) := ⟨Try.zeroValue6⟩
instance int_6 : IntT Try.prog 6 .u8 := ⟨Try.runUnderlying6⟩
instance zero_7 : ZeroT Try.prog 7 (.agg #[(.int .i64 0), (.int .i64 0), (.bool false), (.int .u8 0)]) := ⟨Try.zeroValue7⟩
instance agg_7 : AggT Try.prog 7 4 := ⟨Try.isAgg7, Try.sizeOf7⟩
instance fld_7_0 : FldT Try.prog 7 0 0 := fld Try.runUnderlying7 (ft := 2) (by kernel_rfl) Try.sizeOf2
instance fld_7_1 : FldT Try.prog 7 1 1 := fld Try.runUnderlying7 (ft := 3) (by kernel_rfl) Try.sizeOf3
instance fld_7_2 : FldT Try.prog 7 2 2 := fld Try.runUnderlying7 (ft := 4) (by kernel_rfl) Try.sizeOf4
instance fld_7_3 : FldT Try.prog 7 3 3 := fld Try.runUnderlying7 (ft := 6) (by kernel_rfl) Try.sizeOf6
instance zero_8 : ZeroT Try.prog 8 (.agg #[(.int .i64 0), (.int .i64 0), (.bool false), (.int .u8 0)]) := ⟨Try.zeroValue8⟩
instance agg_8 : AggT Try.prog 8 4 := ⟨Try.isAgg8, Try.sizeOf8⟩
instance fld_8_0 : FldT Try.prog 8 0 0 := fld Try.runUnderlying8 (ft := 2) (by kernel_rfl) Try.sizeOf2
instance fld_8_1 : FldT Try.prog 8 1 1 := fld Try.runUnderlying8 (ft := 3) (by kernel_rfl) Try.sizeOf3
instance fld_8_2 : FldT Try.prog 8 2 2 := fld Try.runUnderlying8 (ft := 4) (by kernel_rfl) Try.sizeOf4
instance fld_8_3 : FldT Try.prog 8 3 3 := fld Try.runUnderlying8 (ft := 6) (by kernel_rfl) Try.sizeOf6
instance one_9 : OneT Try.prog 9 := ⟨Try.isAgg9, Try.sizeOf9⟩
instance zero_9 : ZeroT Try.prog 9 (.string ⟨#[]⟩) := ⟨Try.zeroValue9⟩
instance str_9 : StrT Try.prog 9 := ⟨Try.underlying9⟩
instance one_10 : OneT Try.prog 10 := ⟨Try.isAgg10, Try.sizeOf10⟩
instance zero_10 : ZeroT Try.prog 10 (.string ⟨#[]⟩) := ⟨Try.zeroValue10⟩
instance str_10 : StrT Try.prog 10 := ⟨Try.underlying10⟩
instance one_11 : OneT Try.prog 11 := ⟨Try.isAgg11, Try.sizeOf11⟩
instance zero_11 : ZeroT Try.prog 11 (.string ⟨#[]⟩) := ⟨Try.zeroValue11⟩
instance str_11 : StrT Try.prog 11 := ⟨Try.underlying11⟩
instance one_12 : OneT Try.prog 12 := ⟨Try.isAgg12, Try.sizeOf12⟩
instance zero_12 : ZeroT Try.prog 12 (.int .u64 0) := ⟨Try.zeroValue12⟩
instance int_12 : IntT Try.prog 12 .u64 := ⟨Try.runUnderlying12⟩
instance zero_13 : ZeroT Try.prog 13 (.agg #[(.string ⟨#[]⟩), (.int .u64 0)]) := ⟨Try.zeroValue13⟩
instance agg_13 : AggT Try.prog 13 2 := ⟨Try.isAgg13, Try.sizeOf13⟩
instance fld_13_0 : FldT Try.prog 13 0 0 := fld Try.runUnderlying13 (ft := 9) (by kernel_rfl) Try.sizeOf9
instance fld_13_1 : FldT Try.prog 13 1 1 := fld Try.runUnderlying13 (ft := 12) (by kernel_rfl) Try.sizeOf12
instance zero_14 : ZeroT Try.prog 14 (.agg #[(.string ⟨#[]⟩), (.int .u64 0)]) := ⟨Try.zeroValue14⟩
instance agg_14 : AggT Try.prog 14 2 := ⟨Try.isAgg14, Try.sizeOf14⟩
instance fld_14_0 : FldT Try.prog 14 0 0 := fld Try.runUnderlying14 (ft := 9) (by kernel_rfl) Try.sizeOf9
instance fld_14_1 : FldT Try.prog 14 1 1 := fld Try.runUnderlying14 (ft := 12) (by kernel_rfl) Try.sizeOf12
instance one_15 : OneT Try.prog 15 := ⟨Try.isAgg15, Try.sizeOf15⟩
instance zero_15 : ZeroT Try.prog 15 (.pointer none) := ⟨Try.zeroValue15⟩
instance ptr_15 : PtrT Try.prog 15 := ⟨by kernel_rfl⟩
instance one_16 : OneT Try.prog 16 := ⟨Try.isAgg16, Try.sizeOf16⟩
instance zero_16 : ZeroT Try.prog 16 (.pointer none) := ⟨Try.zeroValue16⟩
instance ptr_16 : PtrT Try.prog 16 := ⟨by kernel_rfl⟩
instance one_17 : OneT Try.prog 17 := ⟨Try.isAgg17, Try.sizeOf17⟩
instance zero_17 : ZeroT Try.prog 17 (.pointer none) := ⟨Try.zeroValue17⟩
instance ptr_17 : PtrT Try.prog 17 := ⟨by kernel_rfl⟩
instance zero_18 : ZeroT Try.prog 18 (.agg #[(.pointer none)]) := ⟨Try.zeroValue18⟩
instance agg_18 : AggT Try.prog 18 1 := ⟨Try.isAgg18, Try.sizeOf18⟩
instance fld_18_0 : FldT Try.prog 18 0 0 := fld Try.runUnderlying18 (ft := 17) (by kernel_rfl) Try.sizeOf17
instance zero_19 : ZeroT Try.prog 19 (.agg #[(.pointer none)]) := ⟨Try.zeroValue19⟩
instance agg_19 : AggT Try.prog 19 1 := ⟨Try.isAgg19, Try.sizeOf19⟩
instance fld_19_0 : FldT Try.prog 19 0 0 := fld Try.runUnderlying19 (ft := 17) (by kernel_rfl) Try.sizeOf17
instance one_20 : OneT Try.prog 20 := ⟨Try.isAgg20, Try.sizeOf20⟩
instance zero_20 : ZeroT Try.prog 20 .nilIface := ⟨Try.zeroValue20⟩
instance one_21 : OneT Try.prog 21 := ⟨Try.isAgg21, Try.sizeOf21⟩
instance zero_21 : ZeroT Try.prog 21 (.int .i32 0) := ⟨Try.zeroValue21⟩
instance int_21 : IntT Try.prog 21 .i32 := ⟨Try.runUnderlying21⟩
instance one_22 : OneT Try.prog 22 := ⟨Try.isAgg22, Try.sizeOf22⟩
instance zero_22 : ZeroT Try.prog 22 (.slice none 0 0) := ⟨Try.zeroValue22⟩
instance sl_22 : SlT Try.prog 22 25 3 24 := slt (z := (.agg #[(.int .i64 0), (.int .i64 0), (.int .u8 0)])) Try.underlying22 (i := Try.t25) (by kernel_rfl) (by kernel_rfl) (by kernel_rfl) (by kernel_rfl) (by kernel_rfl)
instance one_23 : OneT Try.prog 23 := ⟨Try.isAgg23, Try.sizeOf23⟩
instance zero_23 : ZeroT Try.prog 23 (.slice none 0 0) := ⟨Try.zeroValue23⟩
instance sl_23 : SlT Try.prog 23 26 3 24 := slt (z := (.agg #[(.int .i64 0), (.int .i64 0), (.int .u8 0)])) Try.underlying23 (i := Try.t26) (by kernel_rfl) (by kernel_rfl) (by kernel_rfl) (by kernel_rfl) (by kernel_rfl)
instance zero_24 : ZeroT Try.prog 24 (.agg #[(.int .i64 0), (.int .i64 0), (.int .u8 0)]) := ⟨Try.zeroValue24⟩
instance agg_24 : AggT Try.prog 24 3 := ⟨Try.isAgg24, Try.sizeOf24⟩
instance fld_24_0 : FldT Try.prog 24 0 0 := fld Try.runUnderlying24 (ft := 3) (by kernel_rfl) Try.sizeOf3
instance fld_24_1 : FldT Try.prog 24 1 1 := fld Try.runUnderlying24 (ft := 3) (by kernel_rfl) Try.sizeOf3
instance fld_24_2 : FldT Try.prog 24 2 2 := fld Try.runUnderlying24 (ft := 5) (by kernel_rfl) Try.sizeOf5
instance zero_25 : ZeroT Try.prog 25 (.agg #[(.int .i64 0), (.int .i64 0), (.int .u8 0)]) := ⟨Try.zeroValue25⟩
instance agg_25 : AggT Try.prog 25 3 := ⟨Try.isAgg25, Try.sizeOf25⟩
instance fld_25_0 : FldT Try.prog 25 0 0 := fld Try.runUnderlying25 (ft := 3) (by kernel_rfl) Try.sizeOf3
instance fld_25_1 : FldT Try.prog 25 1 1 := fld Try.runUnderlying25 (ft := 3) (by kernel_rfl) Try.sizeOf3
instance fld_25_2 : FldT Try.prog 25 2 2 := fld Try.runUnderlying25 (ft := 5) (by kernel_rfl) Try.sizeOf5
instance zero_26 : ZeroT Try.prog 26 (.agg #[(.int .i64 0), (.int .i64 0), (.int .u8 0)]) := ⟨Try.zeroValue26⟩
instance agg_26 : AggT Try.prog 26 3 := ⟨Try.isAgg26, Try.sizeOf26⟩
instance fld_26_0 : FldT Try.prog 26 0 0 := fld Try.runUnderlying26 (ft := 3) (by kernel_rfl) Try.sizeOf3
instance fld_26_1 : FldT Try.prog 26 1 1 := fld Try.runUnderlying26 (ft := 3) (by kernel_rfl) Try.sizeOf3
instance fld_26_2 : FldT Try.prog 26 2 2 := fld Try.runUnderlying26 (ft := 5) (by kernel_rfl) Try.sizeOf5
instance one_27 : OneT Try.prog 27 := ⟨Try.isAgg27, Try.sizeOf27⟩
instance zero_27 : ZeroT Try.prog 27 (.slice none 0 0) := ⟨Try.zeroValue27⟩
instance bytes_27 : BytesT Try.prog 27 := ⟨_, Try.underlying27, Try.underlying5⟩
instance sl_27 : SlT Try.prog 27 5 1 1 := slt (z := (.int .u8 0)) Try.underlying27 (i := Try.t5) (by kernel_rfl) (by kernel_rfl) (by kernel_rfl) (by kernel_rfl) (by kernel_rfl)
instance one_28 : OneT Try.prog 28 := ⟨Try.isAgg28, Try.sizeOf28⟩
instance zero_28 : ZeroT Try.prog 28 (.int .i64 0) := ⟨Try.zeroValue28⟩
instance int_28 : IntT Try.prog 28 .i64 := ⟨Try.runUnderlying28⟩
instance one_30 : OneT Try.prog 30 := ⟨Try.isAgg30, Try.sizeOf30⟩
instance zero_30 : ZeroT Try.prog 30 .nilFunc := ⟨Try.zeroValue30⟩
instance one_31 : OneT Try.prog 31 := ⟨Try.isAgg31, Try.sizeOf31⟩
instance zero_31 : ZeroT Try.prog 31 (.slice none 0 0) := ⟨Try.zeroValue31⟩
instance sl_31 : SlT Try.prog 31 3 1 8 := slt (z := (.int .i64 0)) Try.underlying31 (i := Try.t3) (by kernel_rfl) (by kernel_rfl) (by kernel_rfl) (by kernel_rfl) (by kernel_rfl)
instance one_33 : OneT Try.prog 33 := ⟨Try.isAgg33, Try.sizeOf33⟩
instance zero_33 : ZeroT Try.prog 33 .nilFunc := ⟨Try.zeroValue33⟩
instance one_35 : OneT Try.prog 35 := ⟨Try.isAgg35, Try.sizeOf35⟩
instance zero_35 : ZeroT Try.prog 35 .nilFunc := ⟨Try.zeroValue35⟩
instance one_36 : OneT Try.prog 36 := ⟨Try.isAgg36, Try.sizeOf36⟩
instance zero_36 : ZeroT Try.prog 36 (.pointer none) := ⟨Try.zeroValue36⟩
instance ptr_36 : PtrT Try.prog 36 := ⟨by kernel_rfl⟩
instance one_37 : OneT Try.prog 37 := ⟨Try.isAgg37, Try.sizeOf37⟩
instance zero_37 : ZeroT Try.prog 37 .nilFunc := ⟨Try.zeroValue37⟩
instance one_38 : OneT Try.prog 38 := ⟨Try.isAgg38, Try.sizeOf38⟩
instance zero_38 : ZeroT Try.prog 38 .nilFunc := ⟨Try.zeroValue38⟩
instance one_39 : OneT Try.prog 39 := ⟨Try.isAgg39, Try.sizeOf39⟩
instance zero_39 : ZeroT Try.prog 39 .nilFunc := ⟨Try.zeroValue39⟩
instance one_40 : OneT Try.prog 40 := ⟨Try.isAgg40, Try.sizeOf40⟩
instance zero_40 : ZeroT Try.prog 40 .nilFunc := ⟨Try.zeroValue40⟩
instance one_41 : OneT Try.prog 41 := ⟨Try.isAgg41, Try.sizeOf41⟩
instance zero_41 : ZeroT Try.prog 41 .nilFunc := ⟨Try.zeroValue41⟩
instance one_43 : OneT Try.prog 43 := ⟨Try.isAgg43, Try.sizeOf43⟩
instance zero_43 : ZeroT Try.prog 43 .nilFunc := ⟨Try.zeroValue43⟩
instance one_45 : OneT Try.prog 45 := ⟨Try.isAgg45, Try.sizeOf45⟩
instance zero_45 : ZeroT Try.prog 45 .nilFunc := ⟨Try.zeroValue45⟩
instance one_46 : OneT Try.prog 46 := ⟨Try.isAgg46, Try.sizeOf46⟩
instance zero_46 : ZeroT Try.prog 46 .nilFunc := ⟨Try.zeroValue46⟩
instance one_47 : OneT Try.prog 47 := ⟨Try.isAgg47, Try.sizeOf47⟩
instance zero_47 : ZeroT Try.prog 47 .nilFunc := ⟨Try.zeroValue47⟩
instance one_48 : OneT Try.prog 48 := ⟨Try.isAgg48, Try.sizeOf48⟩
instance zero_48 : ZeroT Try.prog 48 .nilFunc := ⟨Try.zeroValue48⟩
instance zero_49 : ZeroT Try.prog 49 (.agg #[(.int .i64 0), (.int .i64 0), (.int .i64 0), (.int .i64 0), (.int .i64 0), (.int .i64 0), (.int .i64 0), (.int .i64 0), (.int .i64 0), (.int .i64 0), (.int .i64 0), (.int .i64 0), (.int .i64 0), (.int .i64 0), (.int .i64 0), (.int .i64 0)]) := ⟨Try.zeroValue49⟩
instance agg_49 : AggT Try.prog 49 16 := ⟨Try.isAgg49, Try.sizeOf49⟩
instance arr_49 : ArrT Try.prog 49 16 3 1 := ⟨Try.runUnderlying49, Try.sizeOf3⟩
instance one_51 : OneT Try.prog 51 := ⟨Try.isAgg51, Try.sizeOf51⟩
instance zero_51 : ZeroT Try.prog 51 .nilFunc := ⟨Try.zeroValue51⟩
instance one_52 : OneT Try.prog 52 := ⟨Try.isAgg52, Try.sizeOf52⟩
instance zero_52 : ZeroT Try.prog 52 (.int .u64 0) := ⟨Try.zeroValue52⟩
instance int_52 : IntT Try.prog 52 .u64 := ⟨Try.runUnderlying52⟩
instance zero_53 : ZeroT Try.prog 53 (.agg #[(.slice none 0 0), (.int .i64 0), (.bool false)]) := ⟨Try.zeroValue53⟩
instance agg_53 : AggT Try.prog 53 3 := ⟨Try.isAgg53, Try.sizeOf53⟩
instance fld_53_0 : FldT Try.prog 53 0 0 := fld Try.runUnderlying53 (ft := 27) (by kernel_rfl) Try.sizeOf27
instance fld_53_1 : FldT Try.prog 53 1 1 := fld Try.runUnderlying53 (ft := 3) (by kernel_rfl) Try.sizeOf3
instance fld_53_2 : FldT Try.prog 53 2 2 := fld Try.runUnderlying53 (ft := 4) (by kernel_rfl) Try.sizeOf4
instance zero_54 : ZeroT Try.prog 54 (.agg #[(.slice none 0 0), (.int .i64 0), (.bool false)]) := ⟨Try.zeroValue54⟩
instance agg_54 : AggT Try.prog 54 3 := ⟨Try.isAgg54, Try.sizeOf54⟩
instance fld_54_0 : FldT Try.prog 54 0 0 := fld Try.runUnderlying54 (ft := 27) (by kernel_rfl) Try.sizeOf27
instance fld_54_1 : FldT Try.prog 54 1 1 := fld Try.runUnderlying54 (ft := 3) (by kernel_rfl) Try.sizeOf3
instance fld_54_2 : FldT Try.prog 54 2 2 := fld Try.runUnderlying54 (ft := 4) (by kernel_rfl) Try.sizeOf4
instance zero_55 : ZeroT Try.prog 55 (.agg #[(.int .u8 0), (.int .u8 0), (.int .u8 0), (.int .u8 0), (.int .u8 0), (.int .u8 0), (.int .u8 0), (.int .u8 0)]) := ⟨Try.zeroValue55⟩
instance agg_55 : AggT Try.prog 55 8 := ⟨Try.isAgg55, Try.sizeOf55⟩
instance arr_55 : ArrT Try.prog 55 8 5 1 := ⟨Try.runUnderlying55, Try.sizeOf5⟩
instance one_56 : OneT Try.prog 56 := ⟨Try.isAgg56, Try.sizeOf56⟩
instance zero_56 : ZeroT Try.prog 56 .nilFunc := ⟨Try.zeroValue56⟩
instance one_57 : OneT Try.prog 57 := ⟨Try.isAgg57, Try.sizeOf57⟩
instance zero_57 : ZeroT Try.prog 57 .nilFunc := ⟨Try.zeroValue57⟩
instance one_58 : OneT Try.prog 58 := ⟨Try.isAgg58, Try.sizeOf58⟩
instance zero_58 : ZeroT Try.prog 58 .nilFunc := ⟨Try.zeroValue58⟩
instance one_59 : OneT Try.prog 59 := ⟨Try.isAgg59, Try.sizeOf59⟩
instance zero_59 : ZeroT Try.prog 59 .nilFunc := ⟨Try.zeroValue59⟩
instance one_60 : OneT Try.prog 60 := ⟨Try.isAgg60, Try.sizeOf60⟩
instance zero_60 : ZeroT Try.prog 60 (.slice none 0 0) := ⟨Try.zeroValue60⟩
instance sl_60 : SlT Try.prog 60 74 2 16 := slt (z := (.agg #[(.int .i64 0), (.int .i64 0)])) Try.underlying60 (i := Try.t74) (by kernel_rfl) (by kernel_rfl) (by kernel_rfl) (by kernel_rfl) (by kernel_rfl)
instance one_62 : OneT Try.prog 62 := ⟨Try.isAgg62, Try.sizeOf62⟩
instance zero_62 : ZeroT Try.prog 62 .nilFunc := ⟨Try.zeroValue62⟩
instance one_63 : OneT Try.prog 63 := ⟨Try.isAgg63, Try.sizeOf63⟩
instance zero_63 : ZeroT Try.prog 63 .nilFunc := ⟨Try.zeroValue63⟩
instance one_65 : OneT Try.prog 65 := ⟨Try.isAgg65, Try.sizeOf65⟩
instance zero_65 : ZeroT Try.prog 65 (.pointer none) := ⟨Try.zeroValue65⟩
instance ptr_65 : PtrT Try.prog 65 := ⟨by kernel_rfl⟩
instance one_66 : OneT Try.prog 66 := ⟨Try.isAgg66, Try.sizeOf66⟩
instance zero_66 : ZeroT Try.prog 66 (.pointer none) := ⟨Try.zeroValue66⟩
instance ptr_66 : PtrT Try.prog 66 := ⟨by kernel_rfl⟩
instance one_67 : OneT Try.prog 67 := ⟨Try.isAgg67, Try.sizeOf67⟩
instance zero_67 : ZeroT Try.prog 67 .nilFunc := ⟨Try.zeroValue67⟩
instance zero_68 : ZeroT Try.prog 68 (.agg #[(.pointer none), (.slice none 0 0), (.int .i64 0)]) := ⟨Try.zeroValue68⟩
instance agg_68 : AggT Try.prog 68 3 := ⟨Try.isAgg68, Try.sizeOf68⟩
instance fld_68_0 : FldT Try.prog 68 0 0 := fld Try.runUnderlying68 (ft := 66) (by kernel_rfl) Try.sizeOf66
instance fld_68_1 : FldT Try.prog 68 1 1 := fld Try.runUnderlying68 (ft := 27) (by kernel_rfl) Try.sizeOf27
instance fld_68_2 : FldT Try.prog 68 2 2 := fld Try.runUnderlying68 (ft := 3) (by kernel_rfl) Try.sizeOf3
instance zero_69 : ZeroT Try.prog 69 (.agg #[(.pointer none), (.slice none 0 0), (.int .i64 0)]) := ⟨Try.zeroValue69⟩
instance agg_69 : AggT Try.prog 69 3 := ⟨Try.isAgg69, Try.sizeOf69⟩
instance fld_69_0 : FldT Try.prog 69 0 0 := fld Try.runUnderlying69 (ft := 66) (by kernel_rfl) Try.sizeOf66
instance fld_69_1 : FldT Try.prog 69 1 1 := fld Try.runUnderlying69 (ft := 27) (by kernel_rfl) Try.sizeOf27
instance fld_69_2 : FldT Try.prog 69 2 2 := fld Try.runUnderlying69 (ft := 3) (by kernel_rfl) Try.sizeOf3
instance one_70 : OneT Try.prog 70 := ⟨Try.isAgg70, Try.sizeOf70⟩
instance zero_70 : ZeroT Try.prog 70 .nilFunc := ⟨Try.zeroValue70⟩
instance zero_71 : ZeroT Try.prog 71 (.agg #[.nilFunc, .nilFunc, .nilFunc, .nilFunc]) := ⟨Try.zeroValue71⟩
instance agg_71 : AggT Try.prog 71 4 := ⟨Try.isAgg71, Try.sizeOf71⟩
instance arr_71 : ArrT Try.prog 71 4 70 1 := ⟨Try.runUnderlying71, Try.sizeOf70⟩
instance one_72 : OneT Try.prog 72 := ⟨Try.isAgg72, Try.sizeOf72⟩
instance zero_72 : ZeroT Try.prog 72 .nilFunc := ⟨Try.zeroValue72⟩
instance zero_73 : ZeroT Try.prog 73 (.agg #[(.int .i64 0), (.int .i64 0)]) := ⟨Try.zeroValue73⟩
instance agg_73 : AggT Try.prog 73 2 := ⟨Try.isAgg73, Try.sizeOf73⟩
instance fld_73_0 : FldT Try.prog 73 0 0 := fld Try.runUnderlying73 (ft := 3) (by kernel_rfl) Try.sizeOf3
instance fld_73_1 : FldT Try.prog 73 1 1 := fld Try.runUnderlying73 (ft := 3) (by kernel_rfl) Try.sizeOf3
instance zero_74 : ZeroT Try.prog 74 (.agg #[(.int .i64 0), (.int .i64 0)]) := ⟨Try.zeroValue74⟩
instance agg_74 : AggT Try.prog 74 2 := ⟨Try.isAgg74, Try.sizeOf74⟩
instance fld_74_0 : FldT Try.prog 74 0 0 := fld Try.runUnderlying74 (ft := 3) (by kernel_rfl) Try.sizeOf3
instance fld_74_1 : FldT Try.prog 74 1 1 := fld Try.runUnderlying74 (ft := 3) (by kernel_rfl) Try.sizeOf3
instance one_75 : OneT Try.prog 75 := ⟨Try.isAgg75, Try.sizeOf75⟩
instance zero_75 : ZeroT Try.prog 75 .nilFunc := ⟨Try.zeroValue75⟩
instance zero_76 : ZeroT Try.prog 76 (.agg #[(.slice none 0 0), (.int .i64 0)]) := ⟨Try.zeroValue76⟩
instance agg_76 : AggT Try.prog 76 2 := ⟨Try.isAgg76, Try.sizeOf76⟩
instance fld_76_0 : FldT Try.prog 76 0 0 := fld Try.runUnderlying76 (ft := 27) (by kernel_rfl) Try.sizeOf27
instance fld_76_1 : FldT Try.prog 76 1 1 := fld Try.runUnderlying76 (ft := 3) (by kernel_rfl) Try.sizeOf3
instance zero_77 : ZeroT Try.prog 77 (.agg #[(.slice none 0 0), (.int .i64 0)]) := ⟨Try.zeroValue77⟩
instance agg_77 : AggT Try.prog 77 2 := ⟨Try.isAgg77, Try.sizeOf77⟩
instance fld_77_0 : FldT Try.prog 77 0 0 := fld Try.runUnderlying77 (ft := 27) (by kernel_rfl) Try.sizeOf27
instance fld_77_1 : FldT Try.prog 77 1 1 := fld Try.runUnderlying77 (ft := 3) (by kernel_rfl) Try.sizeOf3
instance zero_78 : ZeroT Try.prog 78 (.agg #[(.slice none 0 0), (.int .i64 0), (.bool false)]) := ⟨Try.zeroValue78⟩
instance agg_78 : AggT Try.prog 78 3 := ⟨Try.isAgg78, Try.sizeOf78⟩
instance fld_78_0 : FldT Try.prog 78 0 0 := fld Try.runUnderlying78 (ft := 77) (by kernel_rfl) Try.sizeOf77
instance fld_78_1 : FldT Try.prog 78 1 2 := fld Try.runUnderlying78 (ft := 4) (by kernel_rfl) Try.sizeOf4
instance zero_79 : ZeroT Try.prog 79 (.agg #[(.slice none 0 0), (.int .i64 0), (.bool false)]) := ⟨Try.zeroValue79⟩
instance agg_79 : AggT Try.prog 79 3 := ⟨Try.isAgg79, Try.sizeOf79⟩
instance fld_79_0 : FldT Try.prog 79 0 0 := fld Try.runUnderlying79 (ft := 77) (by kernel_rfl) Try.sizeOf77
instance fld_79_1 : FldT Try.prog 79 1 2 := fld Try.runUnderlying79 (ft := 4) (by kernel_rfl) Try.sizeOf4
instance one_80 : OneT Try.prog 80 := ⟨Try.isAgg80, Try.sizeOf80⟩
instance zero_80 : ZeroT Try.prog 80 .nilFunc := ⟨Try.zeroValue80⟩
instance one_81 : OneT Try.prog 81 := ⟨Try.isAgg81, Try.sizeOf81⟩
instance zero_81 : ZeroT Try.prog 81 .nilFunc := ⟨Try.zeroValue81⟩
instance one_82 : OneT Try.prog 82 := ⟨Try.isAgg82, Try.sizeOf82⟩
instance zero_82 : ZeroT Try.prog 82 .nilFunc := ⟨Try.zeroValue82⟩
instance one_83 : OneT Try.prog 83 := ⟨Try.isAgg83, Try.sizeOf83⟩
instance zero_83 : ZeroT Try.prog 83 .nilFunc := ⟨Try.zeroValue83⟩
instance one_84 : OneT Try.prog 84 := ⟨Try.isAgg84, Try.sizeOf84⟩
instance zero_84 : ZeroT Try.prog 84 .nilFunc := ⟨Try.zeroValue84⟩
instance one_85 : OneT Try.prog 85 := ⟨Try.isAgg85, Try.sizeOf85⟩
instance zero_85 : ZeroT Try.prog 85 (.pointer none) := ⟨Try.zeroValue85⟩
instance ptr_85 : PtrT Try.prog 85 := ⟨by kernel_rfl⟩
instance one_86 : OneT Try.prog 86 := ⟨Try.isAgg86, Try.sizeOf86⟩
instance zero_86 : ZeroT Try.prog 86 .nilFunc := ⟨Try.zeroValue86⟩
instance zero_87 : ZeroT Try.prog 87 (.agg #[(.int .i64 0), (.int .i64 0), (.int .i64 0), (.int .i64 0), (.int .i64 0), (.int .i64 0), (.int .i64 0), (.int .i64 0), (.int .i64 0), (.int .i64 0), (.int .i64 0), (.int .i64 0), (.int .i64 0), (.int .i64 0), (.int .i64 0), (.int .i64 0), (.int .i64 0), (.int .i64 0), (.int .i64 0)]) := ⟨Try.zeroValue87⟩
instance agg_87 : AggT Try.prog 87 19 := ⟨Try.isAgg87, Try.sizeOf87⟩
instance arr_87 : ArrT Try.prog 87 19 3 1 := ⟨Try.runUnderlying87, Try.sizeOf3⟩
instance one_88 : OneT Try.prog 88 := ⟨Try.isAgg88, Try.sizeOf88⟩
instance zero_88 : ZeroT Try.prog 88 .nilFunc := ⟨Try.zeroValue88⟩
instance one_89 : OneT Try.prog 89 := ⟨Try.isAgg89, Try.sizeOf89⟩
instance zero_89 : ZeroT Try.prog 89 .nilFunc := ⟨Try.zeroValue89⟩
instance one_91 : OneT Try.prog 91 := ⟨Try.isAgg91, Try.sizeOf91⟩
instance zero_91 : ZeroT Try.prog 91 .nilFunc := ⟨Try.zeroValue91⟩
instance one_92 : OneT Try.prog 92 := ⟨Try.isAgg92, Try.sizeOf92⟩
instance zero_92 : ZeroT Try.prog 92 .nilFunc := ⟨Try.zeroValue92⟩
instance one_94 : OneT Try.prog 94 := ⟨Try.isAgg94, Try.sizeOf94⟩
instance zero_94 : ZeroT Try.prog 94 .nilFunc := ⟨Try.zeroValue94⟩
instance one_95 : OneT Try.prog 95 := ⟨Try.isAgg95, Try.sizeOf95⟩
instance zero_95 : ZeroT Try.prog 95 (.pointer none) := ⟨Try.zeroValue95⟩
instance ptr_95 : PtrT Try.prog 95 := ⟨by kernel_rfl⟩
instance one_96 : OneT Try.prog 96 := ⟨Try.isAgg96, Try.sizeOf96⟩
instance zero_96 : ZeroT Try.prog 96 .nilFunc := ⟨Try.zeroValue96⟩
instance one_97 : OneT Try.prog 97 := ⟨Try.isAgg97, Try.sizeOf97⟩
instance zero_97 : ZeroT Try.prog 97 (.map none) := ⟨Try.zeroValue97⟩
instance map_97 : MapT Try.prog 97 101 3 := ⟨Try.underlying97⟩
instance zero_98 : ZeroT Try.prog 98 (.agg #[(.map none)]) := ⟨Try.zeroValue98⟩
instance agg_98 : AggT Try.prog 98 1 := ⟨Try.isAgg98, Try.sizeOf98⟩
instance fld_98_0 : FldT Try.prog 98 0 0 := fld Try.runUnderlying98 (ft := 97) (by kernel_rfl) Try.sizeOf97
instance zero_99 : ZeroT Try.prog 99 (.agg #[(.map none)]) := ⟨Try.zeroValue99⟩
instance agg_99 : AggT Try.prog 99 1 := ⟨Try.isAgg99, Try.sizeOf99⟩
instance fld_99_0 : FldT Try.prog 99 0 0 := fld Try.runUnderlying99 (ft := 97) (by kernel_rfl) Try.sizeOf97
instance zero_100 : ZeroT Try.prog 100 (.agg #[(.int .i64 0), (.int .i64 0)]) := ⟨Try.zeroValue100⟩
instance agg_100 : AggT Try.prog 100 2 := ⟨Try.isAgg100, Try.sizeOf100⟩
instance fld_100_0 : FldT Try.prog 100 0 0 := fld Try.runUnderlying100 (ft := 3) (by kernel_rfl) Try.sizeOf3
instance fld_100_1 : FldT Try.prog 100 1 1 := fld Try.runUnderlying100 (ft := 3) (by kernel_rfl) Try.sizeOf3
instance zero_101 : ZeroT Try.prog 101 (.agg #[(.int .i64 0), (.int .i64 0)]) := ⟨Try.zeroValue101⟩
instance agg_101 : AggT Try.prog 101 2 := ⟨Try.isAgg101, Try.sizeOf101⟩
instance fld_101_0 : FldT Try.prog 101 0 0 := fld Try.runUnderlying101 (ft := 3) (by kernel_rfl) Try.sizeOf3
instance fld_101_1 : FldT Try.prog 101 1 1 := fld Try.runUnderlying101 (ft := 3) (by kernel_rfl) Try.sizeOf3
instance one_103 : OneT Try.prog 103 := ⟨Try.isAgg103, Try.sizeOf103⟩
instance zero_103 : ZeroT Try.prog 103 .nilFunc := ⟨Try.zeroValue103⟩
instance zero_104 : ZeroT Try.prog 104 (.agg #[(.pointer none), (.pointer none), (.pointer none), (.string ⟨#[]⟩)]) := ⟨Try.zeroValue104⟩
instance agg_104 : AggT Try.prog 104 4 := ⟨Try.isAgg104, Try.sizeOf104⟩
instance fld_104_0 : FldT Try.prog 104 0 0 := fld Try.runUnderlying104 (ft := 17) (by kernel_rfl) Try.sizeOf17
instance fld_104_1 : FldT Try.prog 104 1 1 := fld Try.runUnderlying104 (ft := 17) (by kernel_rfl) Try.sizeOf17
instance fld_104_2 : FldT Try.prog 104 2 2 := fld Try.runUnderlying104 (ft := 17) (by kernel_rfl) Try.sizeOf17
instance fld_104_3 : FldT Try.prog 104 3 3 := fld Try.runUnderlying104 (ft := 9) (by kernel_rfl) Try.sizeOf9
instance zero_105 : ZeroT Try.prog 105 (.agg #[(.pointer none), (.pointer none), (.pointer none), (.string ⟨#[]⟩)]) := ⟨Try.zeroValue105⟩
instance agg_105 : AggT Try.prog 105 4 := ⟨Try.isAgg105, Try.sizeOf105⟩
instance fld_105_0 : FldT Try.prog 105 0 0 := fld Try.runUnderlying105 (ft := 17) (by kernel_rfl) Try.sizeOf17
instance fld_105_1 : FldT Try.prog 105 1 1 := fld Try.runUnderlying105 (ft := 17) (by kernel_rfl) Try.sizeOf17
instance fld_105_2 : FldT Try.prog 105 2 2 := fld Try.runUnderlying105 (ft := 17) (by kernel_rfl) Try.sizeOf17
instance fld_105_3 : FldT Try.prog 105 3 3 := fld Try.runUnderlying105 (ft := 9) (by kernel_rfl) Try.sizeOf9
instance zero_106 : ZeroT Try.prog 106 (.agg #[]) := ⟨Try.zeroValue106⟩
instance agg_106 : AggT Try.prog 106 0 := ⟨Try.isAgg106, Try.sizeOf106⟩
instance arr_106 : ArrT Try.prog 106 0 16 1 := ⟨Try.runUnderlying106, Try.sizeOf16⟩
instance zero_107 : ZeroT Try.prog 107 (.agg #[]) := ⟨Try.zeroValue107⟩
instance agg_107 : AggT Try.prog 107 0 := ⟨Try.isAgg107, Try.sizeOf107⟩
instance zero_108 : ZeroT Try.prog 108 (.agg #[]) := ⟨Try.zeroValue108⟩
instance agg_108 : AggT Try.prog 108 0 := ⟨Try.isAgg108, Try.sizeOf108⟩
instance one_109 : OneT Try.prog 109 := ⟨Try.isAgg109, Try.sizeOf109⟩
instance zero_109 : ZeroT Try.prog 109 (.int .u32 0) := ⟨Try.zeroValue109⟩
instance int_109 : IntT Try.prog 109 .u32 := ⟨Try.runUnderlying109⟩
instance one_110 : OneT Try.prog 110 := ⟨Try.isAgg110, Try.sizeOf110⟩
instance zero_110 : ZeroT Try.prog 110 (.int .u8 0) := ⟨Try.zeroValue110⟩
instance int_110 : IntT Try.prog 110 .u8 := ⟨Try.runUnderlying110⟩
instance one_111 : OneT Try.prog 111 := ⟨Try.isAgg111, Try.sizeOf111⟩
instance zero_111 : ZeroT Try.prog 111 (.int .u8 0) := ⟨Try.zeroValue111⟩
instance int_111 : IntT Try.prog 111 .u8 := ⟨Try.runUnderlying111⟩
instance one_112 : OneT Try.prog 112 := ⟨Try.isAgg112, Try.sizeOf112⟩
instance zero_112 : ZeroT Try.prog 112 .nilFunc := ⟨Try.zeroValue112⟩
instance one_113 : OneT Try.prog 113 := ⟨Try.isAgg113, Try.sizeOf113⟩
instance zero_113 : ZeroT Try.prog 113 (.pointer none) := ⟨Try.zeroValue113⟩
instance ptr_113 : PtrT Try.prog 113 := ⟨by kernel_rfl⟩
instance one_114 : OneT Try.prog 114 := ⟨Try.isAgg114, Try.sizeOf114⟩
instance zero_114 : ZeroT Try.prog 114 (.int .i32 0) := ⟨Try.zeroValue114⟩
instance int_114 : IntT Try.prog 114 .i32 := ⟨Try.runUnderlying114⟩
instance one_115 : OneT Try.prog 115 := ⟨Try.isAgg115, Try.sizeOf115⟩
instance zero_115 : ZeroT Try.prog 115 (.int .i32 0) := ⟨Try.zeroValue115⟩
instance int_115 : IntT Try.prog 115 .i32 := ⟨Try.runUnderlying115⟩
instance zero_116 : ZeroT Try.prog 116 (.agg #[(.int .u64 0), (.int .u64 0), (.int .u32 0), (.int .u8 0), (.int .u8 0), (.int .u8 0), (.int .u8 0), .nilFunc, (.pointer none), (.int .i32 0), (.int .i32 0)]) := ⟨Try.zeroValue116⟩
instance agg_116 : AggT Try.prog 116 11 := ⟨Try.isAgg116, Try.sizeOf116⟩
instance fld_116_0 : FldT Try.prog 116 0 0 := fld Try.runUnderlying116 (ft := 12) (by kernel_rfl) Try.sizeOf12
instance fld_116_1 : FldT Try.prog 116 1 1 := fld Try.runUnderlying116 (ft := 12) (by kernel_rfl) Try.sizeOf12
instance fld_116_2 : FldT Try.prog 116 2 2 := fld Try.runUnderlying116 (ft := 109) (by kernel_rfl) Try.sizeOf109
instance fld_116_3 : FldT Try.prog 116 3 3 := fld Try.runUnderlying116 (ft := 110) (by kernel_rfl) Try.sizeOf110
instance fld_116_4 : FldT Try.prog 116 4 4 := fld Try.runUnderlying116 (ft := 5) (by kernel_rfl) Try.sizeOf5
instance fld_116_5 : FldT Try.prog 116 5 5 := fld Try.runUnderlying116 (ft := 5) (by kernel_rfl) Try.sizeOf5
instance fld_116_6 : FldT Try.prog 116 6 6 := fld Try.runUnderlying116 (ft := 111) (by kernel_rfl) Try.sizeOf111
instance fld_116_7 : FldT Try.prog 116 7 7 := fld Try.runUnderlying116 (ft := 112) (by kernel_rfl) Try.sizeOf112
instance fld_116_8 : FldT Try.prog 116 8 8 := fld Try.runUnderlying116 (ft := 113) (by kernel_rfl) Try.sizeOf113
instance fld_116_9 : FldT Try.prog 116 9 9 := fld Try.runUnderlying116 (ft := 114) (by kernel_rfl) Try.sizeOf114
instance fld_116_10 : FldT Try.prog 116 10 10 := fld Try.runUnderlying116 (ft := 115) (by kernel_rfl) Try.sizeOf115
instance zero_117 : ZeroT Try.prog 117 (.agg #[(.int .u64 0), (.int .u64 0), (.int .u32 0), (.int .u8 0), (.int .u8 0), (.int .u8 0), (.int .u8 0), .nilFunc, (.pointer none), (.int .i32 0), (.int .i32 0)]) := ⟨Try.zeroValue117⟩
instance agg_117 : AggT Try.prog 117 11 := ⟨Try.isAgg117, Try.sizeOf117⟩
instance fld_117_0 : FldT Try.prog 117 0 0 := fld Try.runUnderlying117 (ft := 12) (by kernel_rfl) Try.sizeOf12
instance fld_117_1 : FldT Try.prog 117 1 1 := fld Try.runUnderlying117 (ft := 12) (by kernel_rfl) Try.sizeOf12
instance fld_117_2 : FldT Try.prog 117 2 2 := fld Try.runUnderlying117 (ft := 109) (by kernel_rfl) Try.sizeOf109
instance fld_117_3 : FldT Try.prog 117 3 3 := fld Try.runUnderlying117 (ft := 110) (by kernel_rfl) Try.sizeOf110
instance fld_117_4 : FldT Try.prog 117 4 4 := fld Try.runUnderlying117 (ft := 5) (by kernel_rfl) Try.sizeOf5
instance fld_117_5 : FldT Try.prog 117 5 5 := fld Try.runUnderlying117 (ft := 5) (by kernel_rfl) Try.sizeOf5
instance fld_117_6 : FldT Try.prog 117 6 6 := fld Try.runUnderlying117 (ft := 111) (by kernel_rfl) Try.sizeOf111
instance fld_117_7 : FldT Try.prog 117 7 7 := fld Try.runUnderlying117 (ft := 112) (by kernel_rfl) Try.sizeOf112
instance fld_117_8 : FldT Try.prog 117 8 8 := fld Try.runUnderlying117 (ft := 113) (by kernel_rfl) Try.sizeOf113
instance fld_117_9 : FldT Try.prog 117 9 9 := fld Try.runUnderlying117 (ft := 114) (by kernel_rfl) Try.sizeOf114
instance fld_117_10 : FldT Try.prog 117 10 10 := fld Try.runUnderlying117 (ft := 115) (by kernel_rfl) Try.sizeOf115
instance one_118 : OneT Try.prog 118 := ⟨Try.isAgg118, Try.sizeOf118⟩
instance zero_118 : ZeroT Try.prog 118 (.pointer none) := ⟨Try.zeroValue118⟩
instance bld_26_0_1_2 {a0 a1 a2 : Value} [h0 : OC a0] [h1 : OC a1] [h2 : OC a2] : RV Try.prog (sBuild 26 [(0, a0), (1, a1), (2, a2)]) (.agg #[a0, a1, a2]) := ⟨fun W w _ => by
  have c0 := cells_one h0.one; have c1 := cells_one h1.one; have c2 := cells_one h2.one; simp [sBuild, Instr.build, Try.zeroValue26, Try.runUnderlying26, Try.sizeOf3, Try.sizeOf5, cells_agg, Instr.fill, c0, c1, c2]⟩
instance bld_54_2 {a0 : Value} [h0 : OC a0] : RV Try.prog (sBuild 54 [(2, a0)]) (.agg #[(.slice none 0 0), (.int .i64 0), a0]) := ⟨fun W w _ => by
  have c0 := cells_one h0.one; simp [sBuild, Instr.build, Try.zeroValue54, Try.runUnderlying54, Try.sizeOf3, Try.sizeOf4, Try.sizeOf27, cells_agg, Instr.fill, c0]⟩
instance bld_55_0_1_2_3_4_5_6_7 {a0 a1 a2 a3 a4 a5 a6 a7 : Value} [h0 : OC a0] [h1 : OC a1] [h2 : OC a2] [h3 : OC a3] [h4 : OC a4] [h5 : OC a5] [h6 : OC a6] [h7 : OC a7] : RV Try.prog (sBuild 55 [(0, a0), (1, a1), (2, a2), (3, a3), (4, a4), (5, a5), (6, a6), (7, a7)]) (.agg #[a0, a1, a2, a3, a4, a5, a6, a7]) := ⟨fun W w _ => by
  have c0 := cells_one h0.one; have c1 := cells_one h1.one; have c2 := cells_one h2.one; have c3 := cells_one h3.one; have c4 := cells_one h4.one; have c5 := cells_one h5.one; have c6 := cells_one h6.one; have c7 := cells_one h7.one; simp [sBuild, Instr.build, Try.zeroValue55, Try.runUnderlying55, Try.sizeOf5, cells_agg, Instr.fill, c0, c1, c2, c3, c4, c5, c6, c7]⟩
instance bld_69_0_2 {a0 a1 : Value} [h0 : OC a0] [h1 : OC a1] : RV Try.prog (sBuild 69 [(0, a0), (2, a1)]) (.agg #[a0, (.slice none 0 0), a1]) := ⟨fun W w _ => by
  have c0 := cells_one h0.one; have c1 := cells_one h1.one; simp [sBuild, Instr.build, Try.zeroValue69, Try.runUnderlying69, Try.sizeOf3, Try.sizeOf27, Try.sizeOf66, cells_agg, Instr.fill, c0, c1]⟩
instance bld_71_0_1_2_3 {a0 a1 a2 a3 : Value} [h0 : OC a0] [h1 : OC a1] [h2 : OC a2] [h3 : OC a3] : RV Try.prog (sBuild 71 [(0, a0), (1, a1), (2, a2), (3, a3)]) (.agg #[a0, a1, a2, a3]) := ⟨fun W w _ => by
  have c0 := cells_one h0.one; have c1 := cells_one h1.one; have c2 := cells_one h2.one; have c3 := cells_one h3.one; simp [sBuild, Instr.build, Try.zeroValue71, Try.runUnderlying71, Try.sizeOf70, cells_agg, Instr.fill, c0, c1, c2, c3]⟩
instance bld_74_0_1 {a0 a1 : Value} [h0 : OC a0] [h1 : OC a1] : RV Try.prog (sBuild 74 [(0, a0), (1, a1)]) (.agg #[a0, a1]) := ⟨fun W w _ => by
  have c0 := cells_one h0.one; have c1 := cells_one h1.one; simp [sBuild, Instr.build, Try.zeroValue74, Try.runUnderlying74, Try.sizeOf3, cells_agg, Instr.fill, c0, c1]⟩
instance bld_77_0_1 {a0 a1 : Value} [h0 : OC a0] [h1 : OC a1] : RV Try.prog (sBuild 77 [(0, a0), (1, a1)]) (.agg #[a0, a1]) := ⟨fun W w _ => by
  have c0 := cells_one h0.one; have c1 := cells_one h1.one; simp [sBuild, Instr.build, Try.zeroValue77, Try.runUnderlying77, Try.sizeOf3, Try.sizeOf27, cells_agg, Instr.fill, c0, c1]⟩
instance bld_79_0_1 {a0_0 a0_1 a1 : Value} [h1 : OC a1] : RV Try.prog (sBuild 79 [(0, .agg #[a0_0, a0_1]), (1, a1)]) (.agg #[a0_0, a0_1, a1]) := ⟨fun W w _ => by
  have c1 := cells_one h1.one; simp [sBuild, Instr.build, Try.zeroValue79, Try.runUnderlying79, Try.sizeOf4, Try.sizeOf77, cells_agg, Instr.fill, c1]⟩
instance bld_87_0_1_2_3_4_5_6_7_8_9_10_11_12_13_14_15_16_17_18 {a0 a1 a2 a3 a4 a5 a6 a7 a8 a9 a10 a11 a12 a13 a14 a15 a16 a17 a18 : Value} [h0 : OC a0] [h1 : OC a1] [h2 : OC a2] [h3 : OC a3] [h4 : OC a4] [h5 : OC a5] [h6 : OC a6] [h7 : OC a7] [h8 : OC a8] [h9 : OC a9] [h10 : OC a10] [h11 : OC a11] [h12 : OC a12] [h13 : OC a13] [h14 : OC a14] [h15 : OC a15] [h16 : OC a16] [h17 : OC a17] [h18 : OC a18] : RV Try.prog (sBuild 87 [(0, a0), (1, a1), (2, a2), (3, a3), (4, a4), (5, a5), (6, a6), (7, a7), (8, a8), (9, a9), (10, a10), (11, a11), (12, a12), (13, a13), (14, a14), (15, a15), (16, a16), (17, a17), (18, a18)]) (.agg #[a0, a1, a2, a3, a4, a5, a6, a7, a8, a9, a10, a11, a12, a13, a14, a15, a16, a17, a18]) := ⟨fun W w _ => by
  have c0 := cells_one h0.one; have c1 := cells_one h1.one; have c2 := cells_one h2.one; have c3 := cells_one h3.one; have c4 := cells_one h4.one; have c5 := cells_one h5.one; have c6 := cells_one h6.one; have c7 := cells_one h7.one; have c8 := cells_one h8.one; have c9 := cells_one h9.one; have c10 := cells_one h10.one; have c11 := cells_one h11.one; have c12 := cells_one h12.one; have c13 := cells_one h13.one; have c14 := cells_one h14.one; have c15 := cells_one h15.one; have c16 := cells_one h16.one; have c17 := cells_one h17.one; have c18 := cells_one h18.one; simp [sBuild, Instr.build, Try.zeroValue87, Try.runUnderlying87, Try.sizeOf3, cells_agg, Instr.fill, c0, c1, c2, c3, c4, c5, c6, c7, c8, c9, c10, c11, c12, c13, c14, c15, c16, c17, c18]⟩
instance bld_99_0 {a0 : Value} [h0 : OC a0] : RV Try.prog (sBuild 99 [(0, a0)]) (.agg #[a0]) := ⟨fun W w _ => by
  have c0 := cells_one h0.one; simp [sBuild, Instr.build, Try.zeroValue99, Try.runUnderlying99, Try.sizeOf97, cells_agg, Instr.fill, c0]⟩
instance bld_101_0_1 {a0 a1 : Value} [h0 : OC a0] [h1 : OC a1] : RV Try.prog (sBuild 101 [(0, a0), (1, a1)]) (.agg #[a0, a1]) := ⟨fun W w _ => by
  have c0 := cells_one h0.one; have c1 := cells_one h1.one; simp [sBuild, Instr.build, Try.zeroValue101, Try.runUnderlying101, Try.sizeOf3, cells_agg, Instr.fill, c0, c1]⟩
instance bld_101_  : RV Try.prog (sBuild 101 []) (.agg #[(.int .i64 0), (.int .i64 0)]) := ⟨fun W w _ => by
   simp [sBuild, Instr.build, Try.zeroValue101, Try.runUnderlying101, Try.sizeOf3, cells_agg, Instr.fill]⟩
end Go.Proofs.Ytehfblkpbadikab.T
/-! Contracts with two ends: a value, or a panic. No conditions but those that each names. -/
namespace Go.Proofs.Ytehfblkpbadikab.Sl
open Go Go.RowKit Go.Proofs.Ytehfblkpbadikab.Sh
variable {P : Program} {W : World} {L L' : List HP} {Kp : PK} {k : Value → WP}
/-- called where A holds it returns r x where B x holds, or passes up the panic pc y where Bp y holds -/
structure CnP {α β : Type} (P : Program) (f : FuncId) (args : List Value) (W : World) (A : List HP) (r : α → Value) (B : α → List HP) (pc : β → List PanicEntry) (Bp : β → List HP) : Prop where
  call : ∀ (a : Array Value) (w : World), (callFunc f a).run P w = .ok (.enter f a) w
  run : ∀ (F : List HP) (w : World), sat W (A ++ F) w → Calls P f args.toArray w (fun e w' => (∃ x, e = .returned (r x) ∧ sat W (B x ++ F) w') ∨ ∃ y, e = .panicked (pc y) ∧ sat W (Bp y ++ F) w')
theorem CnP.of {α β : Type} {f : FuncId} {args : List Value} {A : List HP} {r : α → Value} {B : α → List HP} {pc : β → List PanicEntry} {Bp : β → List HP} {shape : PK → (Value → WP) → WP}
    (hc : ∀ (a : Array Value) (w : World), (callFunc f a).run P w = .ok (.enter f a) w)
    (hs : ∀ {Kp : PK} {K : Value → WP} {w : World}, shape Kp K w → Calls P f args.toArray w (after Kp K))
    (h : ∀ F, Ent W (A ++ F) (shape (fun ch w' => ∃ y, ch = pc y ∧ sat W (Bp y ++ F) w') fun v w' => ∃ x, v = r x ∧ sat W (B x ++ F) w')) : CnP P f args W A r B pc Bp :=
  ⟨hc, fun F w hw => (hs (h F w hw)).mono fun e w' he => by
    cases e with
    | returned v => obtain ⟨x, rfl, h2⟩ := he; exact .inl ⟨x, rfl, h2⟩
    | panicked ch => obtain ⟨y, rfl, h2⟩ := he; exact .inr ⟨y, rfl, h2⟩
    | outgrown => exact he.elim⟩
theorem Cn.noPanic {α : Type} {f : FuncId} {args : List Value} {A : List HP} {r : α → Value} {B : α → List HP} {β : Type} {pc : β → List PanicEntry} {Bp : β → List HP} (h : Cn P f args W A r B) : CnP P f args W A r B pc Bp :=
  ⟨h.call, fun F w hw => (h.run F w hw).mono fun e w' he => .inl he⟩
theorem CnP.plain {α β : Type} {f : FuncId} {args : List Value} {A : List HP} {r : α → Value} {B : α → List HP} {pc : β → List PanicEntry} {Bp : β → List HP} (h : CnP P f args W A r B pc Bp) (hn : β → False) : Cn P f args W A r B :=
  ⟨h.call, fun F w hw => (h.run F w hw).mono fun e w' he => he.resolve_right fun ⟨y, _⟩ => hn y⟩
theorem e_callP {α β : Type} {f : FuncId} {args : List Value} {A F : List HP} {r : α → Value} {B : α → List HP} {pc : β → List PanicEntry} {Bp : β → List HP} (hf : CnP P f args W A r B pc Bp) (p : Picks L A F)
    (h : ∀ x, Ent W (B x ++ F) (k (r x))) (hp : ∀ y, Ent W (Bp y ++ F) (Kp (pc y))) : Ent W L (opN P (sCall (fn f) args) Kp k) := fun w hw => by
  refine ⟨?_⟩
  rw [run_sCall hf.call]
  refine (hf.run F w (p.sat hw)).mono fun e w' he => ?_
  rcases he with ⟨x, he, hs⟩ | ⟨y, he, hs⟩
  · subst he; exact h x w' hs
  · subst he; exact hp y w' hs
/-- a panic's chain, fresh -/
def pe (v : Value) : List PanicEntry := [{ v, recovered := false }]
theorem e_panic {t : TypeId} {x : Value} (h : Ent W L (Kp (pe (.iface t x)))) : Ent W L (opN P (sPanic (.iface t x)) Kp k) := fun w hw => by
  refine ⟨?_⟩
  have : (sPanic (.iface t x)).run P w = .halt (.panic (.iface t x)) w := by simp [sPanic, Instr.panic, goPanic]
  rw [this]
  exact h w hw
theorem v_mkI {t : TypeId} {v : Value} {q : IntKind} [ht : IntT P t q] : RunV P W [] (sMkI t v) (.iface t v) := fun w _ => by
  simp [sMkI, Instr.makeInterface, ht.run]
theorem e_pan {β : Type} {pc : β → List PanicEntry} {M : β → List HP} {ch : List PanicEntry} (y : β) (hv : ch = pc y) (i : Imp W L (M y)) : Ent W L (fun w' => ∃ y, ch = pc y ∧ sat W (M y) w') := fun w hw => ⟨y, hv, i.sat hw⟩
/-- a function value that is a closure over cells -/
theorem v_mkF {f : FuncId} {bs cs : List Value} : RunV P W [] (sMkF (.func f) bs cs) (.func (.func f) bs.toArray cs.toArray) := fun w _ => by
  simp [sMkF, Instr.makeFunc]
theorem e_opDf {fn : Fn} {a b : Array Value} {args : List Value} {kd : Deferred → WP} (h : Ent W L (kd { target := .fn fn b, args := a ++ args.toArray })) : Ent W L (opDf (.func fn a b) args kd) := fun w hw => ⟨fn, a, b, rfl, h w hw⟩
/-- the deferred call at a function's end, by the deferred function's shape -/
theorem e_dfS {f : FuncId} {A : List Value} {d : Deferred} {u : FrameMode} {Kret : WP} {Kq : PK} {shape : Value → PK → (Value → WP) → WP} (hu : u ≠ .run) (ht : ∃ fv cap, d.target = .fn fv cap)
    (hinv : ∀ w, (invoke d.target d.args).run P w = .ok (.enter f A.toArray) w)
    (hs : ∀ {Kp' : PK} {K : Value → WP} {w : World}, shape (recV u).1 Kp' K w → CallsD P f A.toArray u w fun
      | .returned v, u', w' => u' = (recV u).2 ∧ K v w'
      | .panicked ch, u', w' => u' = (recV u).2 ∧ Kp' ch w'
      | .outgrown, _, _ => False)
    (h : Ent W L (shape (recV u).1 (fun ch => lvS Kret Kq (raised (recV u).2 ch)) fun _ => lvS Kret Kq (settle (recV u).2))) : Ent W L (dfS P d u Kret Kq) := fun w hw => by
  obtain ⟨fv, cap, ht⟩ := ht
  refine ⟨hu, fv, cap, f, A.toArray, ht, hinv w, (hs (h w hw)).mono fun e u' w' he => ?_⟩
  cases e with
  | returned v => obtain ⟨rfl, h2⟩ := he; exact h2
  | panicked ch => obtain ⟨rfl, h2⟩ := he; exact h2
  | outgrown => exact he.elim
theorem lv_ret {Kret : WP} {Kq : PK} : lvS Kret Kq (settle (recV .returning).2) = Kret := rfl
theorem lv_pan {Kret : WP} {Kq : PK} {v : Value} : lvS Kret Kq (settle (recV (.panicking (pe v))).2) = Kret := rfl
theorem rec_ret : (recV .returning).1 = .nilIface := rfl
theorem rec_pan {v : Value} : (recV (.panicking (pe v))).1 = v := rfl
theorem inv_closure {f : FuncId} {cs bs : List Value} (hc : ∀ (a : Array Value) (w : World), (callFunc f a).run P w = .ok (.enter f a) w) (w : World) : (invoke (.fn (.func f) cs.toArray) bs.toArray).run P w = .ok (.enter f (bs ++ cs).toArray) w := by
  simp [invoke, hc]
end Go.Proofs.Ytehfblkpbadikab.Sl
/-! Ranges over functions, and calls of what a function value holds: the rules of a walk. No conditions but those that each names. -/
namespace Go.Proofs.Ytehfblkpbadikab.Sl
open Go Go.RowKit Go.Proofs.Ytehfblkpbadikab.Sh
variable {P : Program} {W : World} {L L' : List HP} {Kp : PK} {k : Value → WP}
/-- a call of a closure: what it captured comes behind its arguments -/
theorem run_sCallC {f : FuncId} {cap : Array Value} {args : List Value} (hc : ∀ (a : Array Value) (w : World), (callFunc f a).run P w = .ok (.enter f a) w) (w : World) :
    (sCall (.func (.func f) #[] cap) args).run P w = .ok (.enter f (args.toArray ++ cap)) w := by
  unfold sCall Deferred.ofValue
  simp [invoke, hc]
theorem e_callC {α : Type} {f : FuncId} {args cap : List Value} {A F : List HP} {r : α → Value} {B : α → List HP} (hf : Cn P f (args ++ cap) W A r B) (p : Picks L A F)
    (h : ∀ x, Ent W (B x ++ F) (k (r x))) : Ent W L (opN P (sCall (.func (.func f) #[] cap.toArray) args) Kp k) := fun w hw => by
  refine ⟨?_⟩
  rw [run_sCallC hf.call, show args.toArray ++ cap.toArray = (args ++ cap).toArray by simp]
  refine (hf.run F w (p.sat hw)).mono fun e w' ⟨x, he, hs⟩ => ?_
  subst he
  exact h x w' hs
/-- a loop's yield, from round to round: what is handed in, what holds between -/
def YieldC (P : Program) (l : Nat) (xs : List (List Value)) (I : Nat → HP) (Ix : HP) (W : World) : Prop :=
  ∀ i (hi : i < xs.length) (F : List HP) (w : World), sat W (I i :: F) w → YieldP P l xs[i] w fun e w' =>
    (e = .returned (.bool true) ∧ sat W (I (i + 1) :: F) w') ∨ (e = .returned (.bool false) ∧ sat W (Ix :: F) w')
def yv (l : Nat) : Value := .func (.yield l) #[] #[]
instance {l : Nat} : OC (yv l) := ⟨rfl⟩
theorem e_yield {l : Nat} {xs : List (List Value)} {I : Nat → HP} {Ix : HP} {args : List Value} (hy : YieldC P l xs I Ix W) (i : Nat) (hi : xs[i]? = some args) (p : Pick L (I i) L')
    (ht : Ent W (I (i + 1) :: L') (k (.bool true))) (hf : Ent W (Ix :: L') (k (.bool false))) : Ent W L (opN P (sCall (yv l) args) Kp k) := fun w hw => by
  have hlt : i < xs.length := by
    rcases Nat.lt_or_ge i xs.length with c | c
    · exact c
    · rw [List.getElem?_eq_none c] at hi; cases hi
  have he : xs[i] = args := by rw [List.getElem?_eq_getElem hlt] at hi; exact Option.some.inj hi
  obtain ⟨fn, tmps, assign, body, hr, hR⟩ := hy i hlt L' w (hw.pick p)
  rw [he] at hr
  refine ⟨?_⟩
  have : (sCall (yv l) args).run P w = .ok (.round l fn tmps assign body) w := by
    unfold sCall yv Deferred.ofValue
    simp [invoke, hr]
  rw [this]
  refine hR.mono fun e w' he => ?_
  rcases he with ⟨rfl, hs⟩ | ⟨rfl, hs⟩
  · exact ht w' hs
  · exact hf w' hs
theorem sat.putO {w : World} {g : Nat} {o o' : Obj} (H : sat W (pt g o :: L) w) : sat W (pt g o' :: L) (w.putObj g o') := by
  have hg := H.pt_.1
  have hlt : g < w.heap.size := (Array.getElem?_eq_some_iff.1 hg).1
  exact H.turn rfl rfl rfl (by simp) (World.putObj_heap_same hlt) (fun i hi => World.putObj_heap_other hi)
theorem e_tk {d : Nat} {S : WP} (p : Pick L (pt d (.deferred (some []))) L') (h : Ent W L' S) : Ent W L (tkS d S) := fun w hw => by
  have hw' := hw.pick p
  exact ⟨hw'.pt_.1, h _ (hw'.putO (o' := .deferred none)).drop⟩
theorem e_rf {fv : Value} {f : FuncId} {cap : List Value} {np : Nat} {rnd : VF np ((WP → WP) → WP → WP → WP)} {Kn Kj : Nat → WP} {Kq : Nat → PK} (xs : List (List Value)) (I : Nat → HP) (Ix : HP) (hf : fv = .func (.func f) #[] cap.toArray)
    (hxs : ∀ x ∈ xs, x.length = np) (hi : Imp W L [I 0])
    (hit : ∀ (l : Nat) (T T' : HP), YieldC P l xs (fun i => all [T, I i]) (all [T', Ix]) W → Cn P f (yv l :: cap) W [all [T, I 0]] (fun _ : Bool => .tuple #[]) (fun b => [if b then all [T, I xs.length] else all [T', Ix]]))
    (hbody : ∀ i (hi : i < xs.length) (F : List HP) (T0 T1 : HP) (B : WP → WP) (N J : WP), (∀ L L' S, Pick L T0 L' → Ent W (T1 :: L') S → Ent W L (B S)) → (∀ L, Imp W L (T1 :: I (i + 1) :: F) → Ent W L N) → (∀ L, Imp W L (T1 :: Ix :: F) → Ent W L J) →
      Ent W (T0 :: I i :: F) (vapp np rnd xs[i] B N J))
    (hn : ∀ d, Ent W [pt d (.deferred (some [])), I xs.length] (Kn d)) (hj : ∀ d, Ent W [pt d (.deferred (some [])), Ix] (Kj d)) : Ent W L (rfS P fv np rnd Kn Kj Kq) := fun w hw => by
  have hcall := (hit 0 (pu False) (pu False) (fun i hi F w hs => (by obtain ⟨h, ⟨h1, h2, ⟨h3, h4, hp, _⟩, _⟩, _⟩ := hs.heap; exact hp.elim))).call
  refine ⟨f, cap.toArray, hf, hcall, fun rec hrec => ?_⟩
  obtain ⟨l, hl⟩ : ∃ l, l = w.heap.size + 1 := ⟨_, rfl⟩
  have h0 : sat W [all [all [pt l (.loop (rec .ready none)), pt w.heap.size (.deferred (some []))], I 0]] ((w.alloc (.deferred (some []))).alloc (.loop (rec .ready none))) := by
    have := ((hi.sat hw).alloc (.deferred (some []))).alloc (.loop (rec .ready none))
    rw [World.size_alloc, ← hl] at this
    exact (Imp.all (N := [_, _]) (Imp.all (N := [_, _]) .refl)).sat this
  rw [← hl] at hrec ⊢
  have hy : YieldC P l xs (fun i => all [all [pt l (.loop (rec .ready none)), pt w.heap.size (.deferred (some []))], I i]) (all [all [pt l (.loop (rec .done (some .ret))), pt w.heap.size (.deferred (some []))], Ix]) W := by
    intro i hi F w' hs
    have hs1 : sat W (pt l (.loop (rec .ready none)) :: pt w.heap.size (.deferred (some [])) :: I i :: F) w' :=
      hs.map fun h H => all_append' (N := [_, _]) (M := I i :: F) (by
        have := all_append' (N := [_, _]) (M := F) H
        exact this)
    refine hrec xs[i] w' _ (hxs _ (List.getElem_mem hi)) hs1.pt_.1 ?_
    refine hbody i hi F (all [pt l (.loop (rec .ready none)), pt w.heap.size (.deferred (some []))]) (all [pt l (.loop (rec .busy none)), pt w.heap.size (.deferred (some []))]) _ _ _ ?_ ?_ ?_ w' ?_
    · intro L1 L2 S p hS w1 hw1
      have h1 : sat W (pt l (.loop (rec .ready none)) :: pt w.heap.size (.deferred (some [])) :: L2) w1 := sat.map (L := all [pt l (.loop (rec .ready none)), pt w.heap.size (.deferred (some []))] :: L2) (fun h H => all_append' (N := [_, _]) H) (hw1.pick p)
      refine ⟨h1.pt_.1, hS _ ?_⟩
      exact (Imp.all (N := [_, _]) .refl).sat (h1.putO (o' := .loop (rec .busy none)))
    · intro L1 i1 w1 hw1
      have h1 : sat W (pt l (.loop (rec .busy none)) :: pt w.heap.size (.deferred (some [])) :: I (i + 1) :: F) w1 := sat.map (L := all [pt l (.loop (rec .busy none)), pt w.heap.size (.deferred (some []))] :: I (i + 1) :: F) (fun h H => all_append' (N := [_, _]) H) (i1.sat hw1)
      refine ⟨h1.pt_.1, .inl ⟨rfl, ?_⟩⟩
      exact (Imp.all (N := [_, _]) (Imp.all (N := [_, _]) .refl)).sat (h1.putO (o' := .loop (rec .ready none)))
    · intro L1 i1 w1 hw1
      have h1 : sat W (pt l (.loop (rec .busy none)) :: pt w.heap.size (.deferred (some [])) :: Ix :: F) w1 := sat.map (L := all [pt l (.loop (rec .busy none)), pt w.heap.size (.deferred (some []))] :: Ix :: F) (fun h H => all_append' (N := [_, _]) H) (i1.sat hw1)
      refine ⟨h1.pt_.1, .inr ⟨rfl, ?_⟩⟩
      exact (Imp.all (N := [_, _]) (Imp.all (N := [_, _]) .refl)).sat (h1.putO (o' := .loop (rec .done (some .ret))))
    · exact (Imp.all (N := [_, _]) .refl).sat hs1
  have hc := (hit l _ _ hy).run [] _ (by simpa using h0)
  rw [show (yv l :: cap).toArray = #[.func (.yield l) #[] #[]] ++ cap.toArray by simp [yv]] at hc
  refine hc.mono fun e w' he => ?_
  obtain ⟨b, rfl, hs⟩ := he
  cases b with
  | true =>
    left
    have h1 : sat W (pt l (.loop (rec .ready none)) :: [pt w.heap.size (.deferred (some [])), I xs.length]) w' :=
      hs.map fun h H => all_append' (N := [_, _]) (M := [I xs.length]) (by
        have := all_append' (N := [_, _]) (M := []) H
        exact this)
    exact ⟨h1.pt_.1, hn _ _ (h1.putO (o' := .loop (rec .exhausted none))).drop⟩
  | false =>
    right
    have h1 : sat W (pt l (.loop (rec .done (some .ret))) :: [pt w.heap.size (.deferred (some [])), Ix]) w' :=
      hs.map fun h H => all_append' (N := [_, _]) (M := [Ix]) (by
        have := all_append' (N := [_, _]) (M := []) H
        exact this)
    exact ⟨h1.pt_.1, hj _ _ (h1.putO (o' := .loop (rec .exhausted (some .ret)))).drop⟩
theorem e_swap {M : List HP} {S : WP} (h : Ent W (M ++ L) S) : Ent W (L ++ M) S := fun w hw => by
  refine h w (hw.map fun f H => all_append' ?_)
  obtain ⟨h1, h2, ha, hb, d, s1, s2⟩ := all_append H
  exact ⟨h2, h1, hb, ha, fun i => (d i).symm, s2, s1⟩
/-- what stands by is laid out again -/
theorem e_rest {M F : List HP} {S : WP} (i : Imp W L (M ++ [all F])) (h : Ent W (M ++ F) S) : Ent W L S := by
  refine e_imp i (e_swap (L := M) (M := [all F]) ?_)
  refine e_all (M := F) (L' := M) .here (e_swap h)
end Go.Proofs.Ytehfblkpbadikab.Sl
/-! The shapes of functions of the loaded program, printed by a program of mine; each is proved to be what the model asks of the function. No conditions. -/
namespace Go.Proofs.Ytehfblkpbadikab.S
open Go Go.Proofs.Ytehfblkpbadikab.Sh Go.Proofs.Ytehfblkpbadikab.Sl

theorem wide : Try.prog.follows .mixedOrders = true := by kernel_rfl

/-- law05_InflateFixed -/
def law05_InflateFixed (v0 : Value) (Kp : PK) (K : Value → WP) : WP :=
  loop2 (fun I1 m1 _ y3 y4 =>
   opN Try.prog (sLen #[22] 3 [v0]) Kp fun x26 =>
   opN Try.prog (sBin .lss 3 y4 x26) Kp fun x27 =>
   gdK x27 true (fun k => k y4) fun x29 =>
   gdK x27 true (opN Try.prog (sBin .lss 3 x29 (.int .i64 2000)) Kp) fun x30 =>
   opN Try.prog (sPick x27 x30 (.bool false)) Kp fun x31 =>
   condS x31
   (drS (stS Try.prog (sIA 22 v0 y4) fun x37 =>
     stS Try.prog (sFA 25 x37 0) fun x38 =>
     stS Try.prog (sLoad 3 x38) fun x39 =>
     stS Try.prog (sIA 22 v0 y4) fun x42 =>
     stS Try.prog (sFA 25 x42 1) fun x43 =>
     stS Try.prog (sLoad 3 x43) fun x44 =>
     stS Try.prog (sIA 22 v0 y4) fun x47 =>
     stS Try.prog (sFA 25 x47 2) fun x48 =>
     stS Try.prog (sLoad 5 x48) fun x49 =>
     stS Try.prog (sBuild 26 [(0, x39), (1, x44), (2, x49)]) fun x50 =>
     opN Try.prog (sBuildSl 23 1 [(0, x50)]) Kp fun x51 =>
     opN Try.prog (sApp #[23, 23] 23 [y3, x51]) Kp fun x52 =>
     opN Try.prog (sBin .add 3 y4 (.int .i64 1)) Kp fun x33 =>
     next2 I1 m1 x52 x33))
   (opN Try.prog (sCall (fn 4) [y3, (.int .i64 1048576)]) Kp fun x55 =>
    opN Try.prog (sExt x55 0) Kp fun x56 =>
    opN Try.prog (sExt x55 1) Kp fun x57 =>
    opN Try.prog (sCall (fn 5) []) Kp fun x59 =>
    opN Try.prog (sExt x59 0) Kp fun x60 =>
    opN Try.prog (sExt x59 1) Kp fun x61 =>
    opN Try.prog (sCall (fn 6) [x60]) Kp fun x64 =>
    opN Try.prog (sExt x64 0) Kp fun x65 =>
    opN Try.prog (sExt x64 1) Kp fun x66 =>
    opN Try.prog (sCall (fn 6) [x61]) Kp fun x69 =>
    opN Try.prog (sExt x69 0) Kp fun x70 =>
    opN Try.prog (sExt x69 1) Kp fun x71 =>
    opN Try.prog (sCall (fn 7) []) Kp fun x72 =>
    opN Try.prog (sCall (fn 8) [x57]) Kp fun x74 =>
    opN Try.prog (sEq .neq 3 (.tmp 74) (.const (.int .i64 0)) x74 (.int .i64 0)) Kp fun x75 =>
    gdK x75 false (fun k => k x72) fun x77 =>
    gdK x75 false (opN Try.prog (sEq .eql 36 (.tmp 77) (.const (.pointer none)) x77 (.pointer none)) Kp) fun x78 =>
    opN Try.prog (sPick x75 (.bool true) x78) Kp fun x79 =>
    gdK x79 false (opN Try.prog (sCall (fn 9) []) Kp) fun x81 =>
    gdK x79 false (opN Try.prog (sUn .not x81) Kp) fun x82 =>
    opN Try.prog (sPick x79 (.bool true) x82) Kp fun x83 =>
    condS x83
    (opN Try.prog (sCall (fn 9) []) Kp fun x84 =>
     K x84)
    (opN Try.prog (sCall (fn 8) [x66]) Kp fun x86 =>
     opN Try.prog (sCall (fn 8) [x71]) Kp fun x88 =>
     opN Try.prog (sBin .add 3 x86 x88) Kp fun x89 =>
     opN Try.prog (sCall (fn 10) [x72, (.int .i64 3), (.int .i64 3)]) Kp fun x91 =>
     opN Try.prog (sCall (fn 8) [x91]) Kp fun x92 =>
     opN Try.prog (sBin .add 3 x89 x92) Kp fun x93 =>
     opN Try.prog (sEq .neq 3 (.tmp 93) (.const (.int .i64 0)) x93 (.int .i64 0)) Kp fun x94 =>
     condS x94
     (K (.bool false))
     (loop1 (fun I2 m2 _ y14 =>
       opN Try.prog (sLen #[23] 3 [y3]) Kp fun x97 =>
       opN Try.prog (sBin .lss 3 y14 x97) Kp fun x98 =>
       condS x98
       (opN Try.prog (sIA 23 y3 y14) Kp fun x103 =>
        opN Try.prog (sFA 26 x103 0) Kp fun x104 =>
        opN Try.prog (sLoad 3 x104) Kp fun x105 =>
        opN Try.prog (sEq .eql 3 (.tmp 105) (.const (.int .i64 0)) x105 (.int .i64 0)) Kp fun x106 =>
        condS x106
        (opN Try.prog (sIA 23 y3 y14) Kp fun x112 =>
         opN Try.prog (sFA 26 x112 2) Kp fun x113 =>
         opN Try.prog (sLoad 5 x113) Kp fun x114 =>
         opN Try.prog (sConv 5 3 x114) Kp fun x115 =>
         opN Try.prog (sCall (fn 11) [x72, x65, x60, x115, (.int .i64 0), (.int .i64 0)]) Kp fun x116 =>
         opN Try.prog (sUn .not x116) Kp fun x117 =>
         condS x117
         (K (.bool false))
         (opN Try.prog (sBin .add 3 y14 (.int .i64 1)) Kp fun x100 =>
          next1 I2 m2 x100))
        (opN Try.prog (sIA 23 y3 y14) Kp fun x121 =>
         opN Try.prog (sFA 26 x121 0) Kp fun x122 =>
         opN Try.prog (sLoad 3 x122) Kp fun x123 =>
         opN Try.prog (sCall (fn 12) [x123]) Kp fun x124 =>
         opN Try.prog (sExt x124 0) Kp fun x125 =>
         opN Try.prog (sExt x124 1) Kp fun x126 =>
         opN Try.prog (sExt x124 2) Kp fun x127 =>
         opN Try.prog (sIA 23 y3 y14) Kp fun x131 =>
         opN Try.prog (sFA 26 x131 1) Kp fun x132 =>
         opN Try.prog (sLoad 3 x132) Kp fun x133 =>
         opN Try.prog (sCall (fn 13) [x133]) Kp fun x134 =>
         opN Try.prog (sExt x134 0) Kp fun x135 =>
         opN Try.prog (sExt x134 1) Kp fun x136 =>
         opN Try.prog (sExt x134 2) Kp fun x137 =>
         opN Try.prog (sCall (fn 11) [x72, x65, x60, x125, x126, x127]) Kp fun x144 =>
         opN Try.prog (sUn .not x144) Kp fun x145 =>
         gdK x145 false (fun k => k x72) fun x147 =>
         gdK x145 false (fun k => k x70) fun x148 =>
         gdK x145 false (fun k => k x61) fun x149 =>
         gdK x145 false (fun k => k x135) fun x150 =>
         gdK x145 false (fun k => k x136) fun x151 =>
         gdK x145 false (fun k => k x137) fun x152 =>
         gdK x145 false (opN Try.prog (sCall (fn 11) [x147, x148, x149, x150, x151, x152]) Kp) fun x153 =>
         gdK x145 false (opN Try.prog (sUn .not x153) Kp) fun x154 =>
         opN Try.prog (sPick x145 (.bool true) x154) Kp fun x155 =>
         condS x155
         (K (.bool false))
         (opN Try.prog (sBin .add 3 y14 (.int .i64 1)) Kp fun x100 =>
          next1 I2 m2 x100)))
       (opN Try.prog (sCall (fn 11) [x72, x65, x60, (.int .i64 256), (.int .i64 0), (.int .i64 0)]) Kp fun x159 =>
        opN Try.prog (sUn .not x159) Kp fun x160 =>
        condS x160
        (K (.bool false))
        (opN Try.prog (sCall (fn 15) [x72]) Kp fun x163 =>
         opN Try.prog (sCall (fn 14) [x163, (.int .i64 1048576)]) Kp fun x164 =>
         opN Try.prog (sExt x164 0) Kp fun x165 =>
         opN Try.prog (sExt x164 1) Kp fun x166 =>
         opN Try.prog (sExt x164 2) Kp fun x167 =>
         opN Try.prog (sCall (fn 8) [x167]) Kp fun x169 =>
         opN Try.prog (sEq .eql 3 (.tmp 169) (.const (.int .i64 0)) x169 (.int .i64 0)) Kp fun x170 =>
         gdK x170 true (fun k => k x165) fun x172 =>
         gdK x170 true (opN Try.prog (sConv 27 9 x172) Kp) fun x173 =>
         gdK x170 true (fun k => k x56) fun x174 =>
         gdK x170 true (opN Try.prog (sConv 27 9 x174) Kp) fun x175 =>
         gdK x170 true (opN Try.prog (sEq .eql 9 (.tmp 173) (.tmp 175) x173 x175) Kp) fun x176 =>
         opN Try.prog (sPick x170 x176 (.bool false)) Kp fun x177 =>
         K x177))) (.int .i64 0))))) (.slice none 0 0) (.int .i64 0)
def law05_InflateFixed_an : Ann := { cuts := [], blks := [], loops := [(3, [3, 4]), (16, [14])], drs := [(5, [(0, 2), (1, 1), (2, 1), (3, 1), (4, 1), (5, 1), (6, 1), (7, 1), (8, 1), (9, 1), (10, 1), (11, 1), (12, 1), (13, 1), (14, 1), (15, 1), (16, 1), (17, 0), (18, 0), (19, 1)])] }
theorem law05_InflateFixed_eq (v0 : Value) (Kp : PK) (K : Value → WP) : cevF Try.prog law05_InflateFixed_an Try.f3 [v0] Kp K = law05_InflateFixed v0 Kp K := by kernel_rfl
theorem law05_InflateFixed_calls {v0 : Value} {Kp : PK} {K : Value → WP} {w : World} (h : law05_InflateFixed v0 Kp K w) : Calls Try.prog 3 #[v0] w (after Kp K) :=
  calls_of_shape (calls_of_cev wide Try.func3 (an := law05_InflateFixed_an) (args := [v0]) (cast (congrFun (law05_InflateFixed_eq v0 Kp K) w).symm h))
theorem law05_InflateFixed_cn {v0 : Value} {W : World} {α : Type} {A : List HP} {r : α → Value} {B : α → List HP} (h : ∀ F, Ent W (A ++ F) (law05_InflateFixed v0 noP fun v w => ∃ x, v = r x ∧ sat W (B x ++ F) w)) : Cn Try.prog 3 [v0] W A r B :=
  Cn.of (shape := law05_InflateFixed v0) Try.call3 (fun h => law05_InflateFixed_calls h) h
theorem law05_InflateFixed_cnP {v0 : Value} {W : World} {α β : Type} {A : List HP} {r : α → Value} {B : α → List HP} {pc : β → List PanicEntry} {Bp : β → List HP} (h : ∀ F, Ent W (A ++ F) (law05_InflateFixed v0 (fun ch w => ∃ y, ch = pc y ∧ sat W (Bp y ++ F) w) fun v w => ∃ x, v = r x ∧ sat W (B x ++ F) w)) : CnP Try.prog 3 [v0] W A r B pc Bp :=
  CnP.of (shape := law05_InflateFixed v0) Try.call3 (fun h => law05_InflateFixed_calls h) h

/-- lz_Expand -/
def lz_Expand (v0 v1 : Value) (Kp : PK) (K : Value → WP) : WP :=
  opN Try.prog (sBin .lss 3 v1 (.int .i64 0)) Kp fun x10 =>
  gdK x10 false (fun k => k v1) fun x12 =>
  gdK x10 false (opN Try.prog (sBin .gtr 3 x12 (.int .i64 1048576)) Kp) fun x13 =>
  opN Try.prog (sPick x10 (.bool true) x13) Kp fun x14 =>
  condS x14
  (K (.tuple #[(.slice none 0 0), (.int .i64 1)]))
  (opN Try.prog (sLen #[23] 3 [v0]) Kp fun x16 =>
   loop2 (fun I1 m1 _ y6 y17 =>
    opN Try.prog (sBin .lss 3 y17 x16) Kp fun x18 =>
    condS x18
    (opN Try.prog (sIA 23 v0 y17) Kp fun x19 =>
     opN Try.prog (sLoad 26 x19) Kp fun x20 =>
     opN Try.prog (sAlloc 26) Kp fun x8 =>
     opN Try.prog (sStore 26 x8 x20) Kp fun _ =>
     opN Try.prog (sFA 26 x8 0) Kp fun x21 =>
     opN Try.prog (sLoad 3 x21) Kp fun x22 =>
     opN Try.prog (sEq .eql 3 (.tmp 22) (.const (.int .i64 0)) x22 (.int .i64 0)) Kp fun x23 =>
     gdK x23 true (opN Try.prog (sFA 26 x8 1) Kp) fun x25 =>
     gdK x23 true (opN Try.prog (sLoad 3 x25) Kp) fun x26 =>
     gdK x23 true (opN Try.prog (sEq .eql 3 (.tmp 26) (.const (.int .i64 0)) x26 (.int .i64 0)) Kp) fun x27 =>
     opN Try.prog (sPick x23 x27 (.bool false)) Kp fun x28 =>
     condS x28
     (opN Try.prog (sLen #[27] 3 [y6]) Kp fun x30 =>
      opN Try.prog (sEq .eql 3 (.tmp 30) (.tmp 31) x30 v1) Kp fun x32 =>
      condS x32
      (K (.tuple #[(.slice none 0 0), (.int .i64 6)]))
      (opN Try.prog (sFA 26 x8 2) Kp fun x34 =>
       opN Try.prog (sLoad 5 x34) Kp fun x35 =>
       opN Try.prog (sBuildSl 27 1 [(0, x35)]) Kp fun x36 =>
       opN Try.prog (sApp #[27, 27] 27 [y6, x36]) Kp fun x37 =>
       opN Try.prog (sBin .add 3 y17 (.int .i64 1)) Kp fun x87 =>
       next2 I1 m1 x37 x87))
     (opN Try.prog (sFA 26 x8 0) Kp fun x38 =>
      opN Try.prog (sLoad 3 x38) Kp fun x39 =>
      opN Try.prog (sBin .lss 3 x39 (.int .i64 3)) Kp fun x40 =>
      gdK x40 false (opN Try.prog (sFA 26 x8 0) Kp) fun x42 =>
      gdK x40 false (opN Try.prog (sLoad 3 x42) Kp) fun x43 =>
      gdK x40 false (opN Try.prog (sBin .gtr 3 x43 (.int .i64 258)) Kp) fun x44 =>
      opN Try.prog (sPick x40 (.bool true) x44) Kp fun x45 =>
      gdK x45 false (opN Try.prog (sFA 26 x8 1) Kp) fun x47 =>
      gdK x45 false (opN Try.prog (sLoad 3 x47) Kp) fun x48 =>
      gdK x45 false (opN Try.prog (sBin .lss 3 x48 (.int .i64 1)) Kp) fun x49 =>
      opN Try.prog (sPick x45 (.bool true) x49) Kp fun x50 =>
      gdK x50 false (opN Try.prog (sFA 26 x8 1) Kp) fun x52 =>
      gdK x50 false (opN Try.prog (sLoad 3 x52) Kp) fun x53 =>
      gdK x50 false (fun k => k y6) fun x54 =>
      gdK x50 false (opN Try.prog (sLen #[27] 3 [x54]) Kp) fun x55 =>
      gdK x50 false (opN Try.prog (sMin #[3, 3] 3 [(.int .i64 32768), x55]) Kp) fun x56 =>
      gdK x50 false (opN Try.prog (sBin .gtr 3 x53 x56) Kp) fun x57 =>
      opN Try.prog (sPick x50 (.bool true) x57) Kp fun x58 =>
      gdK x58 false (opN Try.prog (sFA 26 x8 2) Kp) fun x60 =>
      gdK x58 false (opN Try.prog (sLoad 5 x60) Kp) fun x61 =>
      gdK x58 false (opN Try.prog (sEq .neq 5 (.tmp 61) (.const (.int .u8 0)) x61 (.int .u8 0)) Kp) fun x62 =>
      opN Try.prog (sPick x58 (.bool true) x62) Kp fun x63 =>
      condS x63
      (K (.tuple #[(.slice none 0 0), (.int .i64 31)]))
      (opN Try.prog (sFA 26 x8 0) Kp fun x64 =>
       opN Try.prog (sLoad 3 x64) Kp fun x65 =>
       opN Try.prog (sLen #[27] 3 [y6]) Kp fun x68 =>
       opN Try.prog (sBin .sub 3 v1 x68) Kp fun x69 =>
       opN Try.prog (sBin .gtr 3 x65 x69) Kp fun x70 =>
       condS x70
       (K (.tuple #[(.slice none 0 0), (.int .i64 6)]))
       (opN Try.prog (sFA 26 x8 0) Kp fun x71 =>
        opN Try.prog (sLoad 3 x71) Kp fun x72 =>
        loop2 (fun I2 m2 _ y6_2 y73 =>
         opN Try.prog (sBin .lss 3 y73 x72) Kp fun x74 =>
         condS x74
         (opN Try.prog (sLen #[27] 3 [y6_2]) Kp fun x78 =>
          opN Try.prog (sFA 26 x8 1) Kp fun x79 =>
          opN Try.prog (sLoad 3 x79) Kp fun x80 =>
          opN Try.prog (sBin .sub 3 x78 x80) Kp fun x81 =>
          opN Try.prog (sIA 27 y6_2 x81) Kp fun x82 =>
          opN Try.prog (sLoad 5 x82) Kp fun x83 =>
          opN Try.prog (sBuildSl 27 1 [(0, x83)]) Kp fun x84 =>
          opN Try.prog (sApp #[27, 27] 27 [y6_2, x84]) Kp fun x85 =>
          opN Try.prog (sBin .add 3 y73 (.int .i64 1)) Kp fun x86 =>
          next2 I2 m2 x85 x86)
         (opN Try.prog (sBin .add 3 y17 (.int .i64 1)) Kp fun x87 =>
          next2 I1 m1 y6_2 x87)) y6 (.int .i64 0)))))
    (K (.tuple #[y6, (.int .i64 0)]))) (.slice none 0 0) (.int .i64 0))
def lz_Expand_an : Ann := { cuts := [], blks := [], loops := [(5, [6, 17]), (16, [6, 73])], drs := [] }
theorem lz_Expand_eq (v0 v1 : Value) (Kp : PK) (K : Value → WP) : cevF Try.prog lz_Expand_an Try.f4 [v0, v1] Kp K = lz_Expand v0 v1 Kp K := by kernel_rfl
theorem lz_Expand_calls {v0 v1 : Value} {Kp : PK} {K : Value → WP} {w : World} (h : lz_Expand v0 v1 Kp K w) : Calls Try.prog 4 #[v0, v1] w (after Kp K) :=
  calls_of_shape (calls_of_cev wide Try.func4 (an := lz_Expand_an) (args := [v0, v1]) (cast (congrFun (lz_Expand_eq v0 v1 Kp K) w).symm h))
theorem lz_Expand_cn {v0 v1 : Value} {W : World} {α : Type} {A : List HP} {r : α → Value} {B : α → List HP} (h : ∀ F, Ent W (A ++ F) (lz_Expand v0 v1 noP fun v w => ∃ x, v = r x ∧ sat W (B x ++ F) w)) : Cn Try.prog 4 [v0, v1] W A r B :=
  Cn.of (shape := lz_Expand v0 v1) Try.call4 (fun h => lz_Expand_calls h) h
theorem lz_Expand_cnP {v0 v1 : Value} {W : World} {α β : Type} {A : List HP} {r : α → Value} {B : α → List HP} {pc : β → List PanicEntry} {Bp : β → List HP} (h : ∀ F, Ent W (A ++ F) (lz_Expand v0 v1 (fun ch w => ∃ y, ch = pc y ∧ sat W (Bp y ++ F) w) fun v w => ∃ x, v = r x ∧ sat W (B x ++ F) w)) : CnP Try.prog 4 [v0, v1] W A r B pc Bp :=
  CnP.of (shape := lz_Expand v0 v1) Try.call4 (fun h => lz_Expand_calls h) h

/-- inflate_Fixed -/
def inflate_Fixed (Kp : PK) (K : Value → WP) : WP :=
  opN Try.prog (sCall (fn 16) [(.slice none 0 0), (.int .i64 144), (.int .i64 8)]) Kp fun x7 =>
  opN Try.prog (sCall (fn 16) [x7, (.int .i64 112), (.int .i64 9)]) Kp fun x8 =>
  opN Try.prog (sCall (fn 16) [x8, (.int .i64 24), (.int .i64 7)]) Kp fun x9 =>
  opN Try.prog (sCall (fn 16) [x9, (.int .i64 8), (.int .i64 8)]) Kp fun x10 =>
  opN Try.prog (sCall (fn 16) [(.slice none 0 0), (.int .i64 32), (.int .i64 5)]) Kp fun x13 =>
  K (.tuple #[x10, x13])
def inflate_Fixed_an : Ann := { cuts := [], blks := [], loops := [], drs := [] }
theorem inflate_Fixed_eq (Kp : PK) (K : Value → WP) : cevF Try.prog inflate_Fixed_an Try.f5 [] Kp K = inflate_Fixed Kp K := by kernel_rfl
theorem inflate_Fixed_calls  {Kp : PK} {K : Value → WP} {w : World} (h : inflate_Fixed Kp K w) : Calls Try.prog 5 #[] w (after Kp K) :=
  calls_of_shape (calls_of_cev wide Try.func5 (an := inflate_Fixed_an) (args := []) (cast (congrFun (inflate_Fixed_eq Kp K) w).symm h))
theorem inflate_Fixed_cn  {W : World} {α : Type} {A : List HP} {r : α → Value} {B : α → List HP} (h : ∀ F, Ent W (A ++ F) (inflate_Fixed noP fun v w => ∃ x, v = r x ∧ sat W (B x ++ F) w)) : Cn Try.prog 5 [] W A r B :=
  Cn.of (shape := inflate_Fixed) Try.call5 (fun h => inflate_Fixed_calls h) h
theorem inflate_Fixed_cnP  {W : World} {α β : Type} {A : List HP} {r : α → Value} {B : α → List HP} {pc : β → List PanicEntry} {Bp : β → List HP} (h : ∀ F, Ent W (A ++ F) (inflate_Fixed (fun ch w => ∃ y, ch = pc y ∧ sat W (Bp y ++ F) w) fun v w => ∃ x, v = r x ∧ sat W (B x ++ F) w)) : CnP Try.prog 5 [] W A r B pc Bp :=
  CnP.of (shape := inflate_Fixed) Try.call5 (fun h => inflate_Fixed_calls h) h

/-- huff_Codes -/
def huff_Codes (v0 : Value) (Kp : PK) (K : Value → WP) : WP :=
  opN Try.prog (sCall (fn 17) [v0]) Kp fun x13 =>
  opN Try.prog (sExt x13 0) Kp fun x14 =>
  opN Try.prog (sExt x13 1) Kp fun x15 =>
  opN Try.prog (sAlloc 49) Kp fun x4 =>
  opN Try.prog (sStore 49 x4 x14) Kp fun _ =>
  opN Try.prog (sUn .not x15) Kp fun x17 =>
  condS x17
  (K (.tuple #[(.slice none 0 0), (.int .i64 30)]))
  (opN Try.prog (sIA 49 x4 (.int .i64 0)) Kp fun x18 =>
   opN Try.prog (sStore 3 x18 (.int .i64 0)) Kp fun _ =>
   opN Try.prog (sAlloc 49) Kp fun x6 =>
   loop1 (fun I1 m1 _ y7 =>
    opN Try.prog (sBin .leq 3 y7 (.int .i64 15)) Kp fun x20 =>
    condS x20
    (drS (stS Try.prog (sBin .sub 3 y7 (.int .i64 1)) fun x25 =>
      stS Try.prog (sIA 49 x6 x25) fun x26 =>
      stS Try.prog (sLoad 3 x26) fun x27 =>
      stS Try.prog (sBin .sub 3 y7 (.int .i64 1)) fun x29 =>
      stS Try.prog (sIA 49 x4 x29) fun x30 =>
      stS Try.prog (sLoad 3 x30) fun x31 =>
      stS Try.prog (sBin .add 3 x27 x31) fun x32 =>
      stS Try.prog (sBin .shl 3 x32 (.int .u64 1)) fun x33 =>
      stS Try.prog (sIA 49 x6 y7) fun x34 =>
      opN Try.prog (sStore 3 x34 x33) Kp fun _ =>
      opN Try.prog (sBin .add 3 y7 (.int .i64 1)) Kp fun x22 =>
      next1 I1 m1 x22))
    (opN Try.prog (sLen #[31] 3 [v0]) Kp fun x36 =>
     opN Try.prog (sMkSl 31 x36 x36) Kp fun x37 =>
     opN Try.prog (sLen #[31] 3 [v0]) Kp fun x39 =>
     loop1 (fun I2 m2 _ y40 =>
      opN Try.prog (sBin .lss 3 y40 x39) Kp fun x41 =>
      condS x41
      (opN Try.prog (sIA 31 v0 y40) Kp fun x43 =>
       opN Try.prog (sLoad 3 x43) Kp fun x44 =>
       opN Try.prog (sBin .gtr 3 x44 (.int .i64 0)) Kp fun x46 =>
       condS x46
       (opN Try.prog (sIA 49 x6 x44) Kp fun x50 =>
        opN Try.prog (sLoad 3 x50) Kp fun x51 =>
        opN Try.prog (sIA 31 x37 y40) Kp fun x52 =>
        opN Try.prog (sStore 3 x52 x51) Kp fun _ =>
        opN Try.prog (sIA 49 x6 x44) Kp fun x54 =>
        opN Try.prog (sLoad 3 x54) Kp fun x55 =>
        opN Try.prog (sBin .add 3 x55 (.int .i64 1)) Kp fun x56 =>
        opN Try.prog (sIA 49 x6 x44) Kp fun x57 =>
        opN Try.prog (sStore 3 x57 x56) Kp fun _ =>
        opN Try.prog (sBin .add 3 y40 (.int .i64 1)) Kp fun x58 =>
        next1 I2 m2 x58)
       (opN Try.prog (sBin .add 3 y40 (.int .i64 1)) Kp fun x58 =>
        next1 I2 m2 x58))
      (K (.tuple #[x37, (.int .i64 0)]))) (.int .i64 0))) (.int .i64 1))
def huff_Codes_an : Ann := { cuts := [], blks := [], loops := [(7, [7]), (12, [40])], drs := [(9, [(0, 1), (1, 1), (2, 1), (3, 1), (4, 1), (5, 1), (6, 1), (7, 1), (8, 1), (9, 1), (10, 1), (11, 1), (12, 0)])] }
theorem huff_Codes_eq (v0 : Value) (Kp : PK) (K : Value → WP) : cevF Try.prog huff_Codes_an Try.f6 [v0] Kp K = huff_Codes v0 Kp K := by kernel_rfl
theorem huff_Codes_calls {v0 : Value} {Kp : PK} {K : Value → WP} {w : World} (h : huff_Codes v0 Kp K w) : Calls Try.prog 6 #[v0] w (after Kp K) :=
  calls_of_shape (calls_of_cev wide Try.func6 (an := huff_Codes_an) (args := [v0]) (cast (congrFun (huff_Codes_eq v0 Kp K) w).symm h))
theorem huff_Codes_cn {v0 : Value} {W : World} {α : Type} {A : List HP} {r : α → Value} {B : α → List HP} (h : ∀ F, Ent W (A ++ F) (huff_Codes v0 noP fun v w => ∃ x, v = r x ∧ sat W (B x ++ F) w)) : Cn Try.prog 6 [v0] W A r B :=
  Cn.of (shape := huff_Codes v0) Try.call6 (fun h => huff_Codes_calls h) h
theorem huff_Codes_cnP {v0 : Value} {W : World} {α β : Type} {A : List HP} {r : α → Value} {B : α → List HP} {pc : β → List PanicEntry} {Bp : β → List HP} (h : ∀ F, Ent W (A ++ F) (huff_Codes v0 (fun ch w => ∃ y, ch = pc y ∧ sat W (Bp y ++ F) w) fun v w => ∃ x, v = r x ∧ sat W (B x ++ F) w)) : CnP Try.prog 6 [v0] W A r B pc Bp :=
  CnP.of (shape := huff_Codes v0) Try.call6 (fun h => huff_Codes_calls h) h

/-- bits_NewWriter -/
def bits_NewWriter (Kp : PK) (K : Value → WP) : WP :=
  opN Try.prog (sBuild 54 [(2, (.bool true))]) Kp fun x1 =>
  opN Try.prog (sBox 54 x1) Kp fun x2 =>
  K x2
def bits_NewWriter_an : Ann := { cuts := [], blks := [], loops := [], drs := [] }
theorem bits_NewWriter_eq (Kp : PK) (K : Value → WP) : cevF Try.prog bits_NewWriter_an Try.f7 [] Kp K = bits_NewWriter Kp K := by kernel_rfl
theorem bits_NewWriter_calls  {Kp : PK} {K : Value → WP} {w : World} (h : bits_NewWriter Kp K w) : Calls Try.prog 7 #[] w (after Kp K) :=
  calls_of_shape (calls_of_cev wide Try.func7 (an := bits_NewWriter_an) (args := []) (cast (congrFun (bits_NewWriter_eq Kp K) w).symm h))
theorem bits_NewWriter_cn  {W : World} {α : Type} {A : List HP} {r : α → Value} {B : α → List HP} (h : ∀ F, Ent W (A ++ F) (bits_NewWriter noP fun v w => ∃ x, v = r x ∧ sat W (B x ++ F) w)) : Cn Try.prog 7 [] W A r B :=
  Cn.of (shape := bits_NewWriter) Try.call7 (fun h => bits_NewWriter_calls h) h
theorem bits_NewWriter_cnP  {W : World} {α β : Type} {A : List HP} {r : α → Value} {B : α → List HP} {pc : β → List PanicEntry} {Bp : β → List HP} (h : ∀ F, Ent W (A ++ F) (bits_NewWriter (fun ch w => ∃ y, ch = pc y ∧ sat W (Bp y ++ F) w) fun v w => ∃ x, v = r x ∧ sat W (B x ++ F) w)) : CnP Try.prog 7 [] W A r B pc Bp :=
  CnP.of (shape := bits_NewWriter) Try.call7 (fun h => bits_NewWriter_calls h) h

/-- law05_num -/
def law05_num (v0 : Value) (Kp : PK) (K : Value → WP) : WP :=
  K v0
def law05_num_an : Ann := { cuts := [], blks := [], loops := [], drs := [] }
theorem law05_num_eq (v0 : Value) (Kp : PK) (K : Value → WP) : cevF Try.prog law05_num_an Try.f8 [v0] Kp K = law05_num v0 Kp K := by kernel_rfl
theorem law05_num_calls {v0 : Value} {Kp : PK} {K : Value → WP} {w : World} (h : law05_num v0 Kp K w) : Calls Try.prog 8 #[v0] w (after Kp K) :=
  calls_of_shape (calls_of_cev wide Try.func8 (an := law05_num_an) (args := [v0]) (cast (congrFun (law05_num_eq v0 Kp K) w).symm h))
theorem law05_num_cn {v0 : Value} {W : World} {α : Type} {A : List HP} {r : α → Value} {B : α → List HP} (h : ∀ F, Ent W (A ++ F) (law05_num v0 noP fun v w => ∃ x, v = r x ∧ sat W (B x ++ F) w)) : Cn Try.prog 8 [v0] W A r B :=
  Cn.of (shape := law05_num v0) Try.call8 (fun h => law05_num_calls h) h
theorem law05_num_cnP {v0 : Value} {W : World} {α β : Type} {A : List HP} {r : α → Value} {B : α → List HP} {pc : β → List PanicEntry} {Bp : β → List HP} (h : ∀ F, Ent W (A ++ F) (law05_num v0 (fun ch w => ∃ y, ch = pc y ∧ sat W (Bp y ++ F) w) fun v w => ∃ x, v = r x ∧ sat W (B x ++ F) w)) : CnP Try.prog 8 [v0] W A r B pc Bp :=
  CnP.of (shape := law05_num v0) Try.call8 (fun h => law05_num_calls h) h

/-- law05_knows -/
def law05_knows (Kp : PK) (K : Value → WP) : WP :=
  opN Try.prog (sBuildSl 27 8 [(0, (.int .u8 1)), (1, (.int .u8 3)), (2, (.int .u8 0)), (3, (.int .u8 252)), (4, (.int .u8 255)), (5, (.int .u8 97)), (6, (.int .u8 98)), (7, (.int .u8 99))]) Kp fun x8 =>
  opN Try.prog (sCall (fn 14) [x8, (.int .i64 10)]) Kp fun x9 =>
  opN Try.prog (sExt x9 0) Kp fun x10 =>
  opN Try.prog (sExt x9 1) Kp fun x11 =>
  opN Try.prog (sExt x9 2) Kp fun x12 =>
  opN Try.prog (sBuildSl 27 5 [(0, (.int .u8 75)), (1, (.int .u8 76)), (2, (.int .u8 74)), (3, (.int .u8 6)), (4, (.int .u8 0))]) Kp fun x14 =>
  opN Try.prog (sCall (fn 14) [x14, (.int .i64 10)]) Kp fun x15 =>
  opN Try.prog (sExt x15 0) Kp fun x16 =>
  opN Try.prog (sExt x15 1) Kp fun x17 =>
  opN Try.prog (sExt x15 2) Kp fun x18 =>
  opN Try.prog (sCall (fn 8) [x12]) Kp fun x20 =>
  opN Try.prog (sCall (fn 8) [x18]) Kp fun x22 =>
  opN Try.prog (sBin .add 3 x20 x22) Kp fun x23 =>
  opN Try.prog (sEq .eql 3 (.tmp 23) (.const (.int .i64 0)) x23 (.int .i64 0)) Kp fun x24 =>
  gdK x24 true (fun k => k x10) fun x26 =>
  gdK x24 true (opN Try.prog (sConv 27 9 x26) Kp) fun x27 =>
  gdK x24 true (opN Try.prog (sEq .eql 9 (.tmp 27) (.const (.string ⟨#[97, 98, 99]⟩)) x27 (.string ⟨#[97, 98, 99]⟩)) Kp) fun x28 =>
  opN Try.prog (sPick x24 x28 (.bool false)) Kp fun x29 =>
  gdK x29 true (fun k => k x11) fun x31 =>
  gdK x29 true (opN Try.prog (sEq .eql 3 (.tmp 31) (.const (.int .i64 8)) x31 (.int .i64 8)) Kp) fun x32 =>
  opN Try.prog (sPick x29 x32 (.bool false)) Kp fun x33 =>
  gdK x33 true (fun k => k x16) fun x35 =>
  gdK x33 true (opN Try.prog (sConv 27 9 x35) Kp) fun x36 =>
  gdK x33 true (opN Try.prog (sEq .eql 9 (.tmp 36) (.const (.string ⟨#[97, 98, 99]⟩)) x36 (.string ⟨#[97, 98, 99]⟩)) Kp) fun x37 =>
  opN Try.prog (sPick x33 x37 (.bool false)) Kp fun x38 =>
  gdK x38 true (fun k => k x17) fun x40 =>
  gdK x38 true (opN Try.prog (sEq .eql 3 (.tmp 40) (.const (.int .i64 5)) x40 (.int .i64 5)) Kp) fun x41 =>
  opN Try.prog (sPick x38 x41 (.bool false)) Kp fun x42 =>
  K x42
def law05_knows_an : Ann := { cuts := [], blks := [], loops := [], drs := [] }
theorem law05_knows_eq (Kp : PK) (K : Value → WP) : cevF Try.prog law05_knows_an Try.f9 [] Kp K = law05_knows Kp K := by kernel_rfl
theorem law05_knows_calls  {Kp : PK} {K : Value → WP} {w : World} (h : law05_knows Kp K w) : Calls Try.prog 9 #[] w (after Kp K) :=
  calls_of_shape (calls_of_cev wide Try.func9 (an := law05_knows_an) (args := []) (cast (congrFun (law05_knows_eq Kp K) w).symm h))
theorem law05_knows_cn  {W : World} {α : Type} {A : List HP} {r : α → Value} {B : α → List HP} (h : ∀ F, Ent W (A ++ F) (law05_knows noP fun v w => ∃ x, v = r x ∧ sat W (B x ++ F) w)) : Cn Try.prog 9 [] W A r B :=
  Cn.of (shape := law05_knows) Try.call9 (fun h => law05_knows_calls h) h
theorem law05_knows_cnP  {W : World} {α β : Type} {A : List HP} {r : α → Value} {B : α → List HP} {pc : β → List PanicEntry} {Bp : β → List HP} (h : ∀ F, Ent W (A ++ F) (law05_knows (fun ch w => ∃ y, ch = pc y ∧ sat W (Bp y ++ F) w) fun v w => ∃ x, v = r x ∧ sat W (B x ++ F) w)) : CnP Try.prog 9 [] W A r B pc Bp :=
  CnP.of (shape := law05_knows) Try.call9 (fun h => law05_knows_calls h) h

/-- bits_Writer_Put -/
def bits_Writer_Put (v0 v1 v2 : Value) (Kp : PK) (K : Value → WP) : WP :=
  cut1 (fun J1 =>
   opN Try.prog (sCall (fn 18) [v0]) Kp fun x11 =>
   condS x11
   (J1 x11)
   (opN Try.prog (sBin .lss 3 v2 (.int .i64 0)) Kp fun x13 =>
    condS x13
    (J1 x13)
    (opN Try.prog (sBin .gtr 3 v2 (.int .i64 32)) Kp fun x15 =>
     condS x15
     (J1 x15)
     (opN Try.prog (sBin .lss 3 v1 (.int .i64 0)) Kp fun x17 =>
      condS x17
      (J1 x17)
      (opN Try.prog (sMin #[3, 3] 3 [v2, (.int .i64 32)]) Kp fun x20 =>
       opN Try.prog (sMax #[3, 3] 3 [(.int .i64 0), x20]) Kp fun x21 =>
       opN Try.prog (sConv 3 52 x21) Kp fun x22 =>
       opN Try.prog (sBin .shl 3 (.int .i64 1) x22) Kp fun x23 =>
       opN Try.prog (sBin .geq 3 v1 x23) Kp fun x24 =>
       J1 x24))))) fun _ z9 =>
  condS z9
  (K (.int .i64 1))
  (opN Try.prog (sNil v0) Kp fun x28 =>
   opN Try.prog (sFA 54 x28 1) Kp fun x29 =>
   opN Try.prog (sLoad 3 x29) Kp fun x30 =>
   opN Try.prog (sBin .sub 3 (.int .i64 8388608) x30) Kp fun x31 =>
   opN Try.prog (sBin .gtr 3 v2 x31) Kp fun x32 =>
   condS x32
   (K (.int .i64 6))
   (opN Try.prog (sCall (fn 19) []) Kp fun x33 =>
    opN Try.prog (sAlloc 55) Kp fun x7 =>
    opN Try.prog (sStore 55 x7 x33) Kp fun _ =>
    loop1 (fun I1 m1 _ y35 =>
     opN Try.prog (sBin .lss 3 y35 v2) Kp fun x36 =>
     condS x36
     (cut0 (fun J2 =>
       opN Try.prog (sNil v0) Kp fun x39 =>
       opN Try.prog (sFA 54 x39 1) Kp fun x40 =>
       opN Try.prog (sLoad 3 x40) Kp fun x41 =>
       opN Try.prog (sBin .rem 3 x41 (.int .i64 8)) Kp fun x42 =>
       opN Try.prog (sEq .eql 3 (.tmp 42) (.const (.int .i64 0)) x42 (.int .i64 0)) Kp fun x43 =>
       condS x43
       (opN Try.prog (sNil v0) Kp fun x46 =>
        opN Try.prog (sFA 54 x46 0) Kp fun x47 =>
        opN Try.prog (sLoad 27 x47) Kp fun x48 =>
        opN Try.prog (sBuildSl 27 1 [(0, (.int .u8 0))]) Kp fun x49 =>
        opN Try.prog (sApp #[27, 27] 27 [x48, x49]) Kp fun x50 =>
        opN Try.prog (sNil v0) Kp fun x51 =>
        opN Try.prog (sFA 54 x51 0) Kp fun x52 =>
        opN Try.prog (sStore 27 x52 x50) Kp fun _ =>
        J2)
       (J2)) fun _ =>
      cut0 (fun J3 =>
       opN Try.prog (sConv 3 52 y35) Kp fun x55 =>
       opN Try.prog (sBin .shr 3 v1 x55) Kp fun x56 =>
       opN Try.prog (sBin .and 3 x56 (.int .i64 1)) Kp fun x57 =>
       opN Try.prog (sEq .eql 3 (.tmp 57) (.const (.int .i64 1)) x57 (.int .i64 1)) Kp fun x58 =>
       condS x58
       (drS (stS Try.prog (sNil v0) fun x60 =>
         stS Try.prog (sFA 54 x60 0) fun x61 =>
         stS Try.prog (sLoad 27 x61) fun x62 =>
         stS Try.prog (sNil v0) fun x64 =>
         stS Try.prog (sFA 54 x64 1) fun x65 =>
         stS Try.prog (sLoad 3 x65) fun x66 =>
         stS Try.prog (sBin .quo 3 x66 (.int .i64 8)) fun x67 =>
         stS Try.prog (sIA 27 x62 x67) fun x68 =>
         stS Try.prog (sLoad 5 x68) fun x69 =>
         stS Try.prog (sNil v0) fun x71 =>
         stS Try.prog (sFA 54 x71 1) fun x72 =>
         stS Try.prog (sLoad 3 x72) fun x73 =>
         stS Try.prog (sBin .rem 3 x73 (.int .i64 8)) fun x74 =>
         stS Try.prog (sIA 55 x7 x74) fun x75 =>
         stS Try.prog (sLoad 5 x75) fun x76 =>
         stS Try.prog (sBin .or 5 x69 x76) fun x77 =>
         stS Try.prog (sIA 27 x62 x67) fun x78 =>
         opN Try.prog (sStore 5 x78 x77) Kp fun _ =>
         J3))
       (J3)) fun _ =>
      opN Try.prog (sNil v0) Kp fun x80 =>
      opN Try.prog (sFA 54 x80 1) Kp fun x81 =>
      opN Try.prog (sLoad 3 x81) Kp fun x82 =>
      opN Try.prog (sBin .add 3 x82 (.int .i64 1)) Kp fun x83 =>
      opN Try.prog (sNil v0) Kp fun x84 =>
      opN Try.prog (sFA 54 x84 1) Kp fun x85 =>
      opN Try.prog (sStore 3 x85 x83) Kp fun _ =>
      opN Try.prog (sBin .add 3 y35 (.int .i64 1)) Kp fun x86 =>
      next1 I1 m1 x86)
     (K (.int .i64 0))) (.int .i64 0)))
def bits_Writer_Put_an : Ann := { cuts := [(6, [9]), (15, []), (17, [])], blks := [], loops := [(11, [35])], drs := [(16, [(0, 1), (1, 1), (2, 1), (3, 1), (4, 1), (5, 1), (6, 1), (7, 1), (8, 1), (9, 1), (10, 1), (11, 1), (12, 1), (13, 1), (14, 1), (15, 1), (16, 1), (17, 1), (18, 1), (19, 1), (20, 0)])] }
theorem bits_Writer_Put_eq (v0 v1 v2 : Value) (Kp : PK) (K : Value → WP) : cevF Try.prog bits_Writer_Put_an Try.f10 [v0, v1, v2] Kp K = bits_Writer_Put v0 v1 v2 Kp K := by kernel_rfl
theorem bits_Writer_Put_calls {v0 v1 v2 : Value} {Kp : PK} {K : Value → WP} {w : World} (h : bits_Writer_Put v0 v1 v2 Kp K w) : Calls Try.prog 10 #[v0, v1, v2] w (after Kp K) :=
  calls_of_shape (calls_of_cev wide Try.func10 (an := bits_Writer_Put_an) (args := [v0, v1, v2]) (cast (congrFun (bits_Writer_Put_eq v0 v1 v2 Kp K) w).symm h))
theorem bits_Writer_Put_cn {v0 v1 v2 : Value} {W : World} {α : Type} {A : List HP} {r : α → Value} {B : α → List HP} (h : ∀ F, Ent W (A ++ F) (bits_Writer_Put v0 v1 v2 noP fun v w => ∃ x, v = r x ∧ sat W (B x ++ F) w)) : Cn Try.prog 10 [v0, v1, v2] W A r B :=
  Cn.of (shape := bits_Writer_Put v0 v1 v2) Try.call10 (fun h => bits_Writer_Put_calls h) h
theorem bits_Writer_Put_cnP {v0 v1 v2 : Value} {W : World} {α β : Type} {A : List HP} {r : α → Value} {B : α → List HP} {pc : β → List PanicEntry} {Bp : β → List HP} (h : ∀ F, Ent W (A ++ F) (bits_Writer_Put v0 v1 v2 (fun ch w => ∃ y, ch = pc y ∧ sat W (Bp y ++ F) w) fun v w => ∃ x, v = r x ∧ sat W (B x ++ F) w)) : CnP Try.prog 10 [v0, v1, v2] W A r B pc Bp :=
  CnP.of (shape := bits_Writer_Put v0 v1 v2) Try.call10 (fun h => bits_Writer_Put_calls h) h

/-- law05_put -/
def law05_put (v0 v1 v2 v3 v4 v5 : Value) (Kp : PK) (K : Value → WP) : WP :=
  opN Try.prog (sCall (fn 20) [v0, v1, v2, v3]) Kp fun x17 =>
  opN Try.prog (sCall (fn 8) [x17]) Kp fun x18 =>
  opN Try.prog (sCall (fn 10) [v0, v5, v4]) Kp fun x22 =>
  opN Try.prog (sCall (fn 8) [x22]) Kp fun x23 =>
  opN Try.prog (sBin .add 3 x18 x23) Kp fun x24 =>
  opN Try.prog (sEq .eql 3 (.tmp 24) (.const (.int .i64 0)) x24 (.int .i64 0)) Kp fun x25 =>
  K x25
def law05_put_an : Ann := { cuts := [], blks := [], loops := [], drs := [] }
theorem law05_put_eq (v0 v1 v2 v3 v4 v5 : Value) (Kp : PK) (K : Value → WP) : cevF Try.prog law05_put_an Try.f11 [v0, v1, v2, v3, v4, v5] Kp K = law05_put v0 v1 v2 v3 v4 v5 Kp K := by kernel_rfl
theorem law05_put_calls {v0 v1 v2 v3 v4 v5 : Value} {Kp : PK} {K : Value → WP} {w : World} (h : law05_put v0 v1 v2 v3 v4 v5 Kp K w) : Calls Try.prog 11 #[v0, v1, v2, v3, v4, v5] w (after Kp K) :=
  calls_of_shape (calls_of_cev wide Try.func11 (an := law05_put_an) (args := [v0, v1, v2, v3, v4, v5]) (cast (congrFun (law05_put_eq v0 v1 v2 v3 v4 v5 Kp K) w).symm h))
theorem law05_put_cn {v0 v1 v2 v3 v4 v5 : Value} {W : World} {α : Type} {A : List HP} {r : α → Value} {B : α → List HP} (h : ∀ F, Ent W (A ++ F) (law05_put v0 v1 v2 v3 v4 v5 noP fun v w => ∃ x, v = r x ∧ sat W (B x ++ F) w)) : Cn Try.prog 11 [v0, v1, v2, v3, v4, v5] W A r B :=
  Cn.of (shape := law05_put v0 v1 v2 v3 v4 v5) Try.call11 (fun h => law05_put_calls h) h
theorem law05_put_cnP {v0 v1 v2 v3 v4 v5 : Value} {W : World} {α β : Type} {A : List HP} {r : α → Value} {B : α → List HP} {pc : β → List PanicEntry} {Bp : β → List HP} (h : ∀ F, Ent W (A ++ F) (law05_put v0 v1 v2 v3 v4 v5 (fun ch w => ∃ y, ch = pc y ∧ sat W (Bp y ++ F) w) fun v w => ∃ x, v = r x ∧ sat W (B x ++ F) w)) : CnP Try.prog 11 [v0, v1, v2, v3, v4, v5] W A r B pc Bp :=
  CnP.of (shape := law05_put v0 v1 v2 v3 v4 v5) Try.call11 (fun h => law05_put_calls h) h

/-- lz_Length -/
def lz_Length (v0 : Value) (Kp : PK) (K : Value → WP) : WP :=
  opN Try.prog (sBin .gtr 3 v0 (.int .i64 258)) Kp fun x6 =>
  condS x6
  (K (.tuple #[(.int .i64 (-1)), (.int .i64 0), (.int .i64 0)]))
  (opN Try.prog (sCall (fn 21) [v0, (.int .i64 257), (.int .i64 285), (fn 22)]) Kp fun x8 =>
   opN Try.prog (sExt x8 0) Kp fun x9 =>
   opN Try.prog (sExt x8 1) Kp fun x10 =>
   opN Try.prog (sExt x8 2) Kp fun x11 =>
   K (.tuple #[x9, x10, x11]))
def lz_Length_an : Ann := { cuts := [], blks := [], loops := [], drs := [] }
theorem lz_Length_eq (v0 : Value) (Kp : PK) (K : Value → WP) : cevF Try.prog lz_Length_an Try.f12 [v0] Kp K = lz_Length v0 Kp K := by kernel_rfl
theorem lz_Length_calls {v0 : Value} {Kp : PK} {K : Value → WP} {w : World} (h : lz_Length v0 Kp K w) : Calls Try.prog 12 #[v0] w (after Kp K) :=
  calls_of_shape (calls_of_cev wide Try.func12 (an := lz_Length_an) (args := [v0]) (cast (congrFun (lz_Length_eq v0 Kp K) w).symm h))
theorem lz_Length_cn {v0 : Value} {W : World} {α : Type} {A : List HP} {r : α → Value} {B : α → List HP} (h : ∀ F, Ent W (A ++ F) (lz_Length v0 noP fun v w => ∃ x, v = r x ∧ sat W (B x ++ F) w)) : Cn Try.prog 12 [v0] W A r B :=
  Cn.of (shape := lz_Length v0) Try.call12 (fun h => lz_Length_calls h) h
theorem lz_Length_cnP {v0 : Value} {W : World} {α β : Type} {A : List HP} {r : α → Value} {B : α → List HP} {pc : β → List PanicEntry} {Bp : β → List HP} (h : ∀ F, Ent W (A ++ F) (lz_Length v0 (fun ch w => ∃ y, ch = pc y ∧ sat W (Bp y ++ F) w) fun v w => ∃ x, v = r x ∧ sat W (B x ++ F) w)) : CnP Try.prog 12 [v0] W A r B pc Bp :=
  CnP.of (shape := lz_Length v0) Try.call12 (fun h => lz_Length_calls h) h

/-- lz_Distance -/
def lz_Distance (v0 : Value) (Kp : PK) (K : Value → WP) : WP :=
  opN Try.prog (sBin .gtr 3 v0 (.int .i64 32768)) Kp fun x6 =>
  condS x6
  (K (.tuple #[(.int .i64 (-1)), (.int .i64 0), (.int .i64 0)]))
  (opN Try.prog (sCall (fn 21) [v0, (.int .i64 0), (.int .i64 29), (fn 23)]) Kp fun x8 =>
   opN Try.prog (sExt x8 0) Kp fun x9 =>
   opN Try.prog (sExt x8 1) Kp fun x10 =>
   opN Try.prog (sExt x8 2) Kp fun x11 =>
   K (.tuple #[x9, x10, x11]))
def lz_Distance_an : Ann := { cuts := [], blks := [], loops := [], drs := [] }
theorem lz_Distance_eq (v0 : Value) (Kp : PK) (K : Value → WP) : cevF Try.prog lz_Distance_an Try.f13 [v0] Kp K = lz_Distance v0 Kp K := by kernel_rfl
theorem lz_Distance_calls {v0 : Value} {Kp : PK} {K : Value → WP} {w : World} (h : lz_Distance v0 Kp K w) : Calls Try.prog 13 #[v0] w (after Kp K) :=
  calls_of_shape (calls_of_cev wide Try.func13 (an := lz_Distance_an) (args := [v0]) (cast (congrFun (lz_Distance_eq v0 Kp K) w).symm h))
theorem lz_Distance_cn {v0 : Value} {W : World} {α : Type} {A : List HP} {r : α → Value} {B : α → List HP} (h : ∀ F, Ent W (A ++ F) (lz_Distance v0 noP fun v w => ∃ x, v = r x ∧ sat W (B x ++ F) w)) : Cn Try.prog 13 [v0] W A r B :=
  Cn.of (shape := lz_Distance v0) Try.call13 (fun h => lz_Distance_calls h) h
theorem lz_Distance_cnP {v0 : Value} {W : World} {α β : Type} {A : List HP} {r : α → Value} {B : α → List HP} {pc : β → List PanicEntry} {Bp : β → List HP} (h : ∀ F, Ent W (A ++ F) (lz_Distance v0 (fun ch w => ∃ y, ch = pc y ∧ sat W (Bp y ++ F) w) fun v w => ∃ x, v = r x ∧ sat W (B x ++ F) w)) : CnP Try.prog 13 [v0] W A r B pc Bp :=
  CnP.of (shape := lz_Distance v0) Try.call13 (fun h => lz_Distance_calls h) h

/-- inflate_Inflate -/
def inflate_Inflate (v0 v1 : Value) (Kp : PK) (K : Value → WP) : WP :=
  opN Try.prog (sCall (fn 24) [v0, v1]) Kp fun x10 =>
  opN Try.prog (sExt x10 0) Kp fun x11 =>
  opN Try.prog (sExt x10 1) Kp fun x12 =>
  opN Try.prog (sExt x10 2) Kp fun x13 =>
  opN Try.prog (sExt x10 3) Kp fun x14 =>
  K (.tuple #[x11, x13, x14])
def inflate_Inflate_an : Ann := { cuts := [], blks := [], loops := [], drs := [] }
theorem inflate_Inflate_eq (v0 v1 : Value) (Kp : PK) (K : Value → WP) : cevF Try.prog inflate_Inflate_an Try.f14 [v0, v1] Kp K = inflate_Inflate v0 v1 Kp K := by kernel_rfl
theorem inflate_Inflate_calls {v0 v1 : Value} {Kp : PK} {K : Value → WP} {w : World} (h : inflate_Inflate v0 v1 Kp K w) : Calls Try.prog 14 #[v0, v1] w (after Kp K) :=
  calls_of_shape (calls_of_cev wide Try.func14 (an := inflate_Inflate_an) (args := [v0, v1]) (cast (congrFun (inflate_Inflate_eq v0 v1 Kp K) w).symm h))
theorem inflate_Inflate_cn {v0 v1 : Value} {W : World} {α : Type} {A : List HP} {r : α → Value} {B : α → List HP} (h : ∀ F, Ent W (A ++ F) (inflate_Inflate v0 v1 noP fun v w => ∃ x, v = r x ∧ sat W (B x ++ F) w)) : Cn Try.prog 14 [v0, v1] W A r B :=
  Cn.of (shape := inflate_Inflate v0 v1) Try.call14 (fun h => inflate_Inflate_calls h) h
theorem inflate_Inflate_cnP {v0 v1 : Value} {W : World} {α β : Type} {A : List HP} {r : α → Value} {B : α → List HP} {pc : β → List PanicEntry} {Bp : β → List HP} (h : ∀ F, Ent W (A ++ F) (inflate_Inflate v0 v1 (fun ch w => ∃ y, ch = pc y ∧ sat W (Bp y ++ F) w) fun v w => ∃ x, v = r x ∧ sat W (B x ++ F) w)) : CnP Try.prog 14 [v0, v1] W A r B pc Bp :=
  CnP.of (shape := inflate_Inflate v0 v1) Try.call14 (fun h => inflate_Inflate_calls h) h

/-- bits_Writer_Bytes -/
def bits_Writer_Bytes (v0 : Value) (Kp : PK) (K : Value → WP) : WP :=
  opN Try.prog (sCall (fn 18) [v0]) Kp fun x4 =>
  condS x4
  (K (.slice none 0 0))
  (opN Try.prog (sNil v0) Kp fun x6 =>
   opN Try.prog (sFA 54 x6 0) Kp fun x7 =>
   opN Try.prog (sLoad 27 x7) Kp fun x8 =>
   opN Try.prog (sApp #[27, 27] 27 [(.slice none 0 0), x8]) Kp fun x9 =>
   K x9)
def bits_Writer_Bytes_an : Ann := { cuts := [], blks := [], loops := [], drs := [] }
theorem bits_Writer_Bytes_eq (v0 : Value) (Kp : PK) (K : Value → WP) : cevF Try.prog bits_Writer_Bytes_an Try.f15 [v0] Kp K = bits_Writer_Bytes v0 Kp K := by kernel_rfl
theorem bits_Writer_Bytes_calls {v0 : Value} {Kp : PK} {K : Value → WP} {w : World} (h : bits_Writer_Bytes v0 Kp K w) : Calls Try.prog 15 #[v0] w (after Kp K) :=
  calls_of_shape (calls_of_cev wide Try.func15 (an := bits_Writer_Bytes_an) (args := [v0]) (cast (congrFun (bits_Writer_Bytes_eq v0 Kp K) w).symm h))
theorem bits_Writer_Bytes_cn {v0 : Value} {W : World} {α : Type} {A : List HP} {r : α → Value} {B : α → List HP} (h : ∀ F, Ent W (A ++ F) (bits_Writer_Bytes v0 noP fun v w => ∃ x, v = r x ∧ sat W (B x ++ F) w)) : Cn Try.prog 15 [v0] W A r B :=
  Cn.of (shape := bits_Writer_Bytes v0) Try.call15 (fun h => bits_Writer_Bytes_calls h) h
theorem bits_Writer_Bytes_cnP {v0 : Value} {W : World} {α β : Type} {A : List HP} {r : α → Value} {B : α → List HP} {pc : β → List PanicEntry} {Bp : β → List HP} (h : ∀ F, Ent W (A ++ F) (bits_Writer_Bytes v0 (fun ch w => ∃ y, ch = pc y ∧ sat W (Bp y ++ F) w) fun v w => ∃ x, v = r x ∧ sat W (B x ++ F) w)) : CnP Try.prog 15 [v0] W A r B pc Bp :=
  CnP.of (shape := bits_Writer_Bytes v0) Try.call15 (fun h => bits_Writer_Bytes_calls h) h

/-- inflate_Fixed_1 -/
def inflate_Fixed_1 (v0 v1 v2 : Value) (Kp : PK) (K : Value → WP) : WP :=
  loop2 (fun I1 m1 _ y0 y8 =>
   opN Try.prog (sBin .lss 3 y8 v1) Kp fun x9 =>
   condS x9
   (opN Try.prog (sBuildSl 31 1 [(0, v2)]) Kp fun x12 =>
    opN Try.prog (sApp #[31, 31] 31 [y0, x12]) Kp fun x13 =>
    opN Try.prog (sBin .add 3 y8 (.int .i64 1)) Kp fun x14 =>
    next2 I1 m1 x13 x14)
   (K y0)) v0 (.int .i64 0)
def inflate_Fixed_1_an : Ann := { cuts := [], blks := [], loops := [(2, [0, 8])], drs := [] }
theorem inflate_Fixed_1_eq (v0 v1 v2 : Value) (Kp : PK) (K : Value → WP) : cevF Try.prog inflate_Fixed_1_an Try.f16 [v0, v1, v2] Kp K = inflate_Fixed_1 v0 v1 v2 Kp K := by kernel_rfl
theorem inflate_Fixed_1_calls {v0 v1 v2 : Value} {Kp : PK} {K : Value → WP} {w : World} (h : inflate_Fixed_1 v0 v1 v2 Kp K w) : Calls Try.prog 16 #[v0, v1, v2] w (after Kp K) :=
  calls_of_shape (calls_of_cev wide Try.func16 (an := inflate_Fixed_1_an) (args := [v0, v1, v2]) (cast (congrFun (inflate_Fixed_1_eq v0 v1 v2 Kp K) w).symm h))
theorem inflate_Fixed_1_cn {v0 v1 v2 : Value} {W : World} {α : Type} {A : List HP} {r : α → Value} {B : α → List HP} (h : ∀ F, Ent W (A ++ F) (inflate_Fixed_1 v0 v1 v2 noP fun v w => ∃ x, v = r x ∧ sat W (B x ++ F) w)) : Cn Try.prog 16 [v0, v1, v2] W A r B :=
  Cn.of (shape := inflate_Fixed_1 v0 v1 v2) Try.call16 (fun h => inflate_Fixed_1_calls h) h
theorem inflate_Fixed_1_cnP {v0 v1 v2 : Value} {W : World} {α β : Type} {A : List HP} {r : α → Value} {B : α → List HP} {pc : β → List PanicEntry} {Bp : β → List HP} (h : ∀ F, Ent W (A ++ F) (inflate_Fixed_1 v0 v1 v2 (fun ch w => ∃ y, ch = pc y ∧ sat W (Bp y ++ F) w) fun v w => ∃ x, v = r x ∧ sat W (B x ++ F) w)) : CnP Try.prog 16 [v0, v1, v2] W A r B pc Bp :=
  CnP.of (shape := inflate_Fixed_1 v0 v1 v2) Try.call16 (fun h => inflate_Fixed_1_calls h) h

/-- huff_counts -/
def huff_counts (v0 : Value) (Kp : PK) (K : Value → WP) : WP :=
  opN Try.prog (sAlloc 49) Kp fun x2 =>
  opN Try.prog (sLen #[31] 3 [v0]) Kp fun x10 =>
  opN Try.prog (sBin .gtr 3 x10 (.int .i64 320)) Kp fun x11 =>
  condS x11
  (opN Try.prog (sLoad 49 x2) Kp fun x12 =>
   opN Try.prog (sStore 49 x2 x12) Kp fun _ =>
   (stS Try.prog (sRes 49 x2) fun r0 => K (.tuple #[r0, (.bool false)])))
  (opN Try.prog (sLen #[31] 3 [v0]) Kp fun x14 =>
   loop1 (fun I1 m1 _ y15 =>
    opN Try.prog (sBin .lss 3 y15 x14) Kp fun x16 =>
    condS x16
    (opN Try.prog (sIA 31 v0 y15) Kp fun x17 =>
     opN Try.prog (sLoad 3 x17) Kp fun x18 =>
     opN Try.prog (sBin .lss 3 x18 (.int .i64 0)) Kp fun x20 =>
     gdK x20 false (fun k => k x18) fun x22 =>
     gdK x20 false (opN Try.prog (sBin .gtr 3 x22 (.int .i64 15)) Kp) fun x23 =>
     opN Try.prog (sPick x20 (.bool true) x23) Kp fun x24 =>
     condS x24
     (opN Try.prog (sLoad 49 x2) Kp fun x25 =>
      opN Try.prog (sStore 49 x2 x25) Kp fun _ =>
      (stS Try.prog (sRes 49 x2) fun r0 => K (.tuple #[r0, (.bool false)])))
     (opN Try.prog (sIA 49 x2 x18) Kp fun x27 =>
      opN Try.prog (sLoad 3 x27) Kp fun x28 =>
      opN Try.prog (sBin .add 3 x28 (.int .i64 1)) Kp fun x29 =>
      opN Try.prog (sIA 49 x2 x18) Kp fun x30 =>
      opN Try.prog (sStore 3 x30 x29) Kp fun _ =>
      opN Try.prog (sBin .add 3 y15 (.int .i64 1)) Kp fun x31 =>
      next1 I1 m1 x31))
    (opN Try.prog (sSl 49 x2 (some (.int .i64 1)) none none) Kp fun x32 =>
     opN Try.prog (sLen #[31] 3 [x32]) Kp fun x33 =>
     loop2 (fun I2 m2 _ y6 y34 =>
      opN Try.prog (sBin .lss 3 y34 x33) Kp fun x35 =>
      condS x35
      (opN Try.prog (sIA 31 x32 y34) Kp fun x36 =>
       opN Try.prog (sLoad 3 x36) Kp fun x37 =>
       opN Try.prog (sBin .mul 3 (.int .i64 2) y6) Kp fun x39 =>
       opN Try.prog (sBin .sub 3 x39 x37) Kp fun x41 =>
       opN Try.prog (sBin .lss 3 x41 (.int .i64 0)) Kp fun x43 =>
       condS x43
       (opN Try.prog (sLoad 49 x2) Kp fun x44 =>
        opN Try.prog (sStore 49 x2 x44) Kp fun _ =>
        (stS Try.prog (sRes 49 x2) fun r0 => K (.tuple #[r0, (.bool false)])))
       (opN Try.prog (sBin .add 3 y34 (.int .i64 1)) Kp fun x45 =>
        next2 I2 m2 x41 x45))
      (opN Try.prog (sLoad 49 x2) Kp fun x46 =>
       opN Try.prog (sStore 49 x2 x46) Kp fun _ =>
       (stS Try.prog (sRes 49 x2) fun r0 => K (.tuple #[r0, (.bool true)])))) (.int .i64 1) (.int .i64 0))) (.int .i64 0))
def huff_counts_an : Ann := { cuts := [], blks := [], loops := [(4, [15]), (12, [6, 34])], drs := [] }
theorem huff_counts_eq (v0 : Value) (Kp : PK) (K : Value → WP) : cevF Try.prog huff_counts_an Try.f17 [v0] Kp K = huff_counts v0 Kp K := by kernel_rfl
theorem huff_counts_calls {v0 : Value} {Kp : PK} {K : Value → WP} {w : World} (h : huff_counts v0 Kp K w) : Calls Try.prog 17 #[v0] w (after Kp K) :=
  calls_of_shape (calls_of_cev wide Try.func17 (an := huff_counts_an) (args := [v0]) (cast (congrFun (huff_counts_eq v0 Kp K) w).symm h))
theorem huff_counts_cn {v0 : Value} {W : World} {α : Type} {A : List HP} {r : α → Value} {B : α → List HP} (h : ∀ F, Ent W (A ++ F) (huff_counts v0 noP fun v w => ∃ x, v = r x ∧ sat W (B x ++ F) w)) : Cn Try.prog 17 [v0] W A r B :=
  Cn.of (shape := huff_counts v0) Try.call17 (fun h => huff_counts_calls h) h
theorem huff_counts_cnP {v0 : Value} {W : World} {α β : Type} {A : List HP} {r : α → Value} {B : α → List HP} {pc : β → List PanicEntry} {Bp : β → List HP} (h : ∀ F, Ent W (A ++ F) (huff_counts v0 (fun ch w => ∃ y, ch = pc y ∧ sat W (Bp y ++ F) w) fun v w => ∃ x, v = r x ∧ sat W (B x ++ F) w)) : CnP Try.prog 17 [v0] W A r B pc Bp :=
  CnP.of (shape := huff_counts v0) Try.call17 (fun h => huff_counts_calls h) h

/-- bits_Writer_none -/
def bits_Writer_none (v0 : Value) (Kp : PK) (K : Value → WP) : WP :=
  opN Try.prog (sEq .eql 36 (.tmp 3) (.const (.pointer none)) v0 (.pointer none)) Kp fun x4 =>
  gdK x4 false (fun k => k v0) fun x6 =>
  gdK x4 false (opN Try.prog (sNil x6) Kp) fun x7 =>
  gdK x4 false (opN Try.prog (sFA 54 x7 2) Kp) fun x8 =>
  gdK x4 false (opN Try.prog (sLoad 4 x8) Kp) fun x9 =>
  gdK x4 false (opN Try.prog (sUn .not x9) Kp) fun x10 =>
  opN Try.prog (sPick x4 (.bool true) x10) Kp fun x11 =>
  K x11
def bits_Writer_none_an : Ann := { cuts := [], blks := [], loops := [], drs := [] }
theorem bits_Writer_none_eq (v0 : Value) (Kp : PK) (K : Value → WP) : cevF Try.prog bits_Writer_none_an Try.f18 [v0] Kp K = bits_Writer_none v0 Kp K := by kernel_rfl
theorem bits_Writer_none_calls {v0 : Value} {Kp : PK} {K : Value → WP} {w : World} (h : bits_Writer_none v0 Kp K w) : Calls Try.prog 18 #[v0] w (after Kp K) :=
  calls_of_shape (calls_of_cev wide Try.func18 (an := bits_Writer_none_an) (args := [v0]) (cast (congrFun (bits_Writer_none_eq v0 Kp K) w).symm h))
theorem bits_Writer_none_cn {v0 : Value} {W : World} {α : Type} {A : List HP} {r : α → Value} {B : α → List HP} (h : ∀ F, Ent W (A ++ F) (bits_Writer_none v0 noP fun v w => ∃ x, v = r x ∧ sat W (B x ++ F) w)) : Cn Try.prog 18 [v0] W A r B :=
  Cn.of (shape := bits_Writer_none v0) Try.call18 (fun h => bits_Writer_none_calls h) h
theorem bits_Writer_none_cnP {v0 : Value} {W : World} {α β : Type} {A : List HP} {r : α → Value} {B : α → List HP} {pc : β → List PanicEntry} {Bp : β → List HP} (h : ∀ F, Ent W (A ++ F) (bits_Writer_none v0 (fun ch w => ∃ y, ch = pc y ∧ sat W (Bp y ++ F) w) fun v w => ∃ x, v = r x ∧ sat W (B x ++ F) w)) : CnP Try.prog 18 [v0] W A r B pc Bp :=
  CnP.of (shape := bits_Writer_none v0) Try.call18 (fun h => bits_Writer_none_calls h) h

/-- bits_masks -/
def bits_masks (Kp : PK) (K : Value → WP) : WP :=
  opN Try.prog (sAlloc 55) Kp fun x0 =>
  opN Try.prog (sBuild 55 [(0, (.int .u8 1)), (1, (.int .u8 2)), (2, (.int .u8 4)), (3, (.int .u8 8)), (4, (.int .u8 16)), (5, (.int .u8 32)), (6, (.int .u8 64)), (7, (.int .u8 128))]) Kp fun x1 =>
  opN Try.prog (sStore 55 x0 x1) Kp fun _ =>
  (stS Try.prog (sRes 55 x0) fun r0 => K r0)
def bits_masks_an : Ann := { cuts := [], blks := [], loops := [], drs := [] }
theorem bits_masks_eq (Kp : PK) (K : Value → WP) : cevF Try.prog bits_masks_an Try.f19 [] Kp K = bits_masks Kp K := by kernel_rfl
theorem bits_masks_calls  {Kp : PK} {K : Value → WP} {w : World} (h : bits_masks Kp K w) : Calls Try.prog 19 #[] w (after Kp K) :=
  calls_of_shape (calls_of_cev wide Try.func19 (an := bits_masks_an) (args := []) (cast (congrFun (bits_masks_eq Kp K) w).symm h))
theorem bits_masks_cn  {W : World} {α : Type} {A : List HP} {r : α → Value} {B : α → List HP} (h : ∀ F, Ent W (A ++ F) (bits_masks noP fun v w => ∃ x, v = r x ∧ sat W (B x ++ F) w)) : Cn Try.prog 19 [] W A r B :=
  Cn.of (shape := bits_masks) Try.call19 (fun h => bits_masks_calls h) h
theorem bits_masks_cnP  {W : World} {α β : Type} {A : List HP} {r : α → Value} {B : α → List HP} {pc : β → List PanicEntry} {Bp : β → List HP} (h : ∀ F, Ent W (A ++ F) (bits_masks (fun ch w => ∃ y, ch = pc y ∧ sat W (Bp y ++ F) w) fun v w => ∃ x, v = r x ∧ sat W (B x ++ F) w)) : CnP Try.prog 19 [] W A r B pc Bp :=
  CnP.of (shape := bits_masks) Try.call19 (fun h => bits_masks_calls h) h

/-- huff_Put -/
def huff_Put (v0 v1 v2 v3 : Value) (Kp : PK) (K : Value → WP) : WP :=
  opN Try.prog (sBin .lss 3 v3 (.int .i64 0)) Kp fun x12 =>
  gdK x12 false (fun k => k v3) fun x14 =>
  gdK x12 false (fun k => k v1) fun x15 =>
  gdK x12 false (opN Try.prog (sLen #[31] 3 [x15]) Kp) fun x16 =>
  gdK x12 false (fun k => k v2) fun x17 =>
  gdK x12 false (opN Try.prog (sLen #[31] 3 [x17]) Kp) fun x18 =>
  gdK x12 false (opN Try.prog (sMin #[3, 3] 3 [x16, x18]) Kp) fun x19 =>
  gdK x12 false (opN Try.prog (sBin .geq 3 x14 x19) Kp) fun x20 =>
  opN Try.prog (sPick x12 (.bool true) x20) Kp fun x21 =>
  condS x21
  (K (.int .i64 1))
  (drS (stS Try.prog (sIA 31 v1 v3) fun x24 =>
    stS Try.prog (sLoad 3 x24) fun x25 =>
    stS Try.prog (sIA 31 v2 v3) fun x28 =>
    stS Try.prog (sLoad 3 x28) fun x29 =>
    opN Try.prog (sBin .lss 3 x29 (.int .i64 1)) Kp fun x31 =>
    gdK x31 false (fun k => k x29) fun x33 =>
    gdK x31 false (opN Try.prog (sBin .gtr 3 x33 (.int .i64 15)) Kp) fun x34 =>
    opN Try.prog (sPick x31 (.bool true) x34) Kp fun x35 =>
    gdK x35 false (fun k => k x25) fun x37 =>
    gdK x35 false (opN Try.prog (sBin .lss 3 x37 (.int .i64 0)) Kp) fun x38 =>
    opN Try.prog (sPick x35 (.bool true) x38) Kp fun x39 =>
    gdK x39 false (fun k => k x25) fun x41 =>
    gdK x39 false (fun k => k x29) fun x42 =>
    gdK x39 false (opN Try.prog (sConv 3 52 x42) Kp) fun x43 =>
    gdK x39 false (opN Try.prog (sBin .shl 3 (.int .i64 1) x43) Kp) fun x44 =>
    gdK x39 false (opN Try.prog (sBin .geq 3 x41 x44) Kp) fun x45 =>
    opN Try.prog (sPick x39 (.bool true) x45) Kp fun x46 =>
    condS x46
    (K (.int .i64 1))
    (opN Try.prog (sCall (fn 25) [x25, x29]) Kp fun x50 =>
     opN Try.prog (sCall (fn 10) [v0, x50, x29]) Kp fun x52 =>
     K x52)))
def huff_Put_an : Ann := { cuts := [], blks := [], loops := [], drs := [(3, [(0, 1), (1, 1), (2, 1), (3, 1), (4, 1), (5, 1), (6, 1), (7, 1), (8, 1), (9, 1)])] }
theorem huff_Put_eq (v0 v1 v2 v3 : Value) (Kp : PK) (K : Value → WP) : cevF Try.prog huff_Put_an Try.f20 [v0, v1, v2, v3] Kp K = huff_Put v0 v1 v2 v3 Kp K := by kernel_rfl
theorem huff_Put_calls {v0 v1 v2 v3 : Value} {Kp : PK} {K : Value → WP} {w : World} (h : huff_Put v0 v1 v2 v3 Kp K w) : Calls Try.prog 20 #[v0, v1, v2, v3] w (after Kp K) :=
  calls_of_shape (calls_of_cev wide Try.func20 (an := huff_Put_an) (args := [v0, v1, v2, v3]) (cast (congrFun (huff_Put_eq v0 v1 v2 v3 Kp K) w).symm h))
theorem huff_Put_cn {v0 v1 v2 v3 : Value} {W : World} {α : Type} {A : List HP} {r : α → Value} {B : α → List HP} (h : ∀ F, Ent W (A ++ F) (huff_Put v0 v1 v2 v3 noP fun v w => ∃ x, v = r x ∧ sat W (B x ++ F) w)) : Cn Try.prog 20 [v0, v1, v2, v3] W A r B :=
  Cn.of (shape := huff_Put v0 v1 v2 v3) Try.call20 (fun h => huff_Put_calls h) h
theorem huff_Put_cnP {v0 v1 v2 v3 : Value} {W : World} {α β : Type} {A : List HP} {r : α → Value} {B : α → List HP} {pc : β → List PanicEntry} {Bp : β → List HP} (h : ∀ F, Ent W (A ++ F) (huff_Put v0 v1 v2 v3 (fun ch w => ∃ y, ch = pc y ∧ sat W (Bp y ++ F) w) fun v w => ∃ x, v = r x ∧ sat W (B x ++ F) w)) : CnP Try.prog 20 [v0, v1, v2, v3] W A r B pc Bp :=
  CnP.of (shape := huff_Put v0 v1 v2 v3) Try.call20 (fun h => huff_Put_calls h) h

/-- lz_last -/
def lz_last (v0 v1 v2 v3 : Value) (Kp : PK) (K : Value → WP) : WP :=
  loop1 (fun I1 m1 _ y11 =>
   opN Try.prog (sBin .geq 3 y11 v1) Kp fun x17 =>
   condS x17
   (opN Try.prog (sCall v3 [y11]) Kp fun x23 =>
    opN Try.prog (sExt x23 0) Kp fun x24 =>
    opN Try.prog (sExt x23 1) Kp fun x25 =>
    opN Try.prog (sBin .leq 3 x24 v0) Kp fun x28 =>
    condS x28
    (opN Try.prog (sBin .sub 3 v0 x24) Kp fun x33 =>
     K (.tuple #[y11, x25, x33]))
    (opN Try.prog (sBin .sub 3 y11 (.int .i64 1)) Kp fun x19 =>
     next1 I1 m1 x19))
   (K (.tuple #[(.int .i64 (-1)), (.int .i64 0), (.int .i64 0)]))) v2
def lz_last_an : Ann := { cuts := [], blks := [], loops := [(2, [11])], drs := [] }
theorem lz_last_eq (v0 v1 v2 v3 : Value) (Kp : PK) (K : Value → WP) : cevF Try.prog lz_last_an Try.f21 [v0, v1, v2, v3] Kp K = lz_last v0 v1 v2 v3 Kp K := by kernel_rfl
theorem lz_last_calls {v0 v1 v2 v3 : Value} {Kp : PK} {K : Value → WP} {w : World} (h : lz_last v0 v1 v2 v3 Kp K w) : Calls Try.prog 21 #[v0, v1, v2, v3] w (after Kp K) :=
  calls_of_shape (calls_of_cev wide Try.func21 (an := lz_last_an) (args := [v0, v1, v2, v3]) (cast (congrFun (lz_last_eq v0 v1 v2 v3 Kp K) w).symm h))
theorem lz_last_cn {v0 v1 v2 v3 : Value} {W : World} {α : Type} {A : List HP} {r : α → Value} {B : α → List HP} (h : ∀ F, Ent W (A ++ F) (lz_last v0 v1 v2 v3 noP fun v w => ∃ x, v = r x ∧ sat W (B x ++ F) w)) : Cn Try.prog 21 [v0, v1, v2, v3] W A r B :=
  Cn.of (shape := lz_last v0 v1 v2 v3) Try.call21 (fun h => lz_last_calls h) h
theorem lz_last_cnP {v0 v1 v2 v3 : Value} {W : World} {α β : Type} {A : List HP} {r : α → Value} {B : α → List HP} {pc : β → List PanicEntry} {Bp : β → List HP} (h : ∀ F, Ent W (A ++ F) (lz_last v0 v1 v2 v3 (fun ch w => ∃ y, ch = pc y ∧ sat W (Bp y ++ F) w) fun v w => ∃ x, v = r x ∧ sat W (B x ++ F) w)) : CnP Try.prog 21 [v0, v1, v2, v3] W A r B pc Bp :=
  CnP.of (shape := lz_last v0 v1 v2 v3) Try.call21 (fun h => lz_last_calls h) h

/-- lz_BaseLength -/
def lz_BaseLength (v0 : Value) (Kp : PK) (K : Value → WP) : WP :=
  opN Try.prog (sBin .sub 3 v0 (.int .i64 257)) Kp fun x6 =>
  opN Try.prog (sBin .lss 3 x6 (.int .i64 0)) Kp fun x20 =>
  gdK x20 false (fun k => k x6) fun x22 =>
  gdK x20 false (opN Try.prog (sBin .gtr 3 x22 (.int .i64 28)) Kp) fun x23 =>
  opN Try.prog (sPick x20 (.bool true) x23) Kp fun x24 =>
  condS x24
  (K (.tuple #[(.int .i64 0), (.int .i64 0)]))
  (opN Try.prog (sEq .eql 3 (.tmp 26) (.const (.int .i64 28)) x6 (.int .i64 28)) Kp fun x27 =>
   condS x27
   (K (.tuple #[(.int .i64 258), (.int .i64 0)]))
   (opN Try.prog (sBin .lss 3 x6 (.int .i64 8)) Kp fun x30 =>
    condS x30
    (opN Try.prog (sBin .add 3 x6 (.int .i64 3)) Kp fun x32 =>
     K (.tuple #[x32, (.int .i64 0)]))
    (opN Try.prog (sBin .quo 3 x6 (.int .i64 4)) Kp fun x8 =>
     opN Try.prog (sBin .sub 3 x8 (.int .i64 1)) Kp fun x9 =>
     opN Try.prog (sBin .rem 3 x6 (.int .i64 4)) Kp fun x11 =>
     opN Try.prog (sBin .add 3 (.int .i64 4) x11) Kp fun x12 =>
     opN Try.prog (sConv 3 52 x9) Kp fun x14 =>
     opN Try.prog (sBin .shl 3 x12 x14) Kp fun x15 =>
     opN Try.prog (sBin .add 3 (.int .i64 3) x15) Kp fun x16 =>
     K (.tuple #[x16, x9]))))
def lz_BaseLength_an : Ann := { cuts := [], blks := [], loops := [], drs := [] }
theorem lz_BaseLength_eq (v0 : Value) (Kp : PK) (K : Value → WP) : cevF Try.prog lz_BaseLength_an Try.f22 [v0] Kp K = lz_BaseLength v0 Kp K := by kernel_rfl
theorem lz_BaseLength_calls {v0 : Value} {Kp : PK} {K : Value → WP} {w : World} (h : lz_BaseLength v0 Kp K w) : Calls Try.prog 22 #[v0] w (after Kp K) :=
  calls_of_shape (calls_of_cev wide Try.func22 (an := lz_BaseLength_an) (args := [v0]) (cast (congrFun (lz_BaseLength_eq v0 Kp K) w).symm h))
theorem lz_BaseLength_cn {v0 : Value} {W : World} {α : Type} {A : List HP} {r : α → Value} {B : α → List HP} (h : ∀ F, Ent W (A ++ F) (lz_BaseLength v0 noP fun v w => ∃ x, v = r x ∧ sat W (B x ++ F) w)) : Cn Try.prog 22 [v0] W A r B :=
  Cn.of (shape := lz_BaseLength v0) Try.call22 (fun h => lz_BaseLength_calls h) h
theorem lz_BaseLength_cnP {v0 : Value} {W : World} {α β : Type} {A : List HP} {r : α → Value} {B : α → List HP} {pc : β → List PanicEntry} {Bp : β → List HP} (h : ∀ F, Ent W (A ++ F) (lz_BaseLength v0 (fun ch w => ∃ y, ch = pc y ∧ sat W (Bp y ++ F) w) fun v w => ∃ x, v = r x ∧ sat W (B x ++ F) w)) : CnP Try.prog 22 [v0] W A r B pc Bp :=
  CnP.of (shape := lz_BaseLength v0) Try.call22 (fun h => lz_BaseLength_calls h) h

/-- lz_BaseDistance -/
def lz_BaseDistance (v0 : Value) (Kp : PK) (K : Value → WP) : WP :=
  opN Try.prog (sBin .lss 3 v0 (.int .i64 0)) Kp fun x6 =>
  gdK x6 false (fun k => k v0) fun x8 =>
  gdK x6 false (opN Try.prog (sBin .gtr 3 x8 (.int .i64 29)) Kp) fun x9 =>
  opN Try.prog (sPick x6 (.bool true) x9) Kp fun x10 =>
  condS x10
  (K (.tuple #[(.int .i64 0), (.int .i64 0)]))
  (opN Try.prog (sBin .lss 3 v0 (.int .i64 4)) Kp fun x13 =>
   condS x13
   (opN Try.prog (sBin .add 3 v0 (.int .i64 1)) Kp fun x15 =>
    K (.tuple #[x15, (.int .i64 0)]))
   (opN Try.prog (sBin .quo 3 v0 (.int .i64 2)) Kp fun x17 =>
    opN Try.prog (sBin .sub 3 x17 (.int .i64 1)) Kp fun x18 =>
    opN Try.prog (sBin .rem 3 v0 (.int .i64 2)) Kp fun x20 =>
    opN Try.prog (sBin .add 3 (.int .i64 2) x20) Kp fun x21 =>
    opN Try.prog (sConv 3 52 x18) Kp fun x23 =>
    opN Try.prog (sBin .shl 3 x21 x23) Kp fun x24 =>
    opN Try.prog (sBin .add 3 (.int .i64 1) x24) Kp fun x25 =>
    K (.tuple #[x25, x18])))
def lz_BaseDistance_an : Ann := { cuts := [], blks := [], loops := [], drs := [] }
theorem lz_BaseDistance_eq (v0 : Value) (Kp : PK) (K : Value → WP) : cevF Try.prog lz_BaseDistance_an Try.f23 [v0] Kp K = lz_BaseDistance v0 Kp K := by kernel_rfl
theorem lz_BaseDistance_calls {v0 : Value} {Kp : PK} {K : Value → WP} {w : World} (h : lz_BaseDistance v0 Kp K w) : Calls Try.prog 23 #[v0] w (after Kp K) :=
  calls_of_shape (calls_of_cev wide Try.func23 (an := lz_BaseDistance_an) (args := [v0]) (cast (congrFun (lz_BaseDistance_eq v0 Kp K) w).symm h))
theorem lz_BaseDistance_cn {v0 : Value} {W : World} {α : Type} {A : List HP} {r : α → Value} {B : α → List HP} (h : ∀ F, Ent W (A ++ F) (lz_BaseDistance v0 noP fun v w => ∃ x, v = r x ∧ sat W (B x ++ F) w)) : Cn Try.prog 23 [v0] W A r B :=
  Cn.of (shape := lz_BaseDistance v0) Try.call23 (fun h => lz_BaseDistance_calls h) h
theorem lz_BaseDistance_cnP {v0 : Value} {W : World} {α β : Type} {A : List HP} {r : α → Value} {B : α → List HP} {pc : β → List PanicEntry} {Bp : β → List HP} (h : ∀ F, Ent W (A ++ F) (lz_BaseDistance v0 (fun ch w => ∃ y, ch = pc y ∧ sat W (Bp y ++ F) w) fun v w => ∃ x, v = r x ∧ sat W (B x ++ F) w)) : CnP Try.prog 23 [v0] W A r B pc Bp :=
  CnP.of (shape := lz_BaseDistance v0) Try.call23 (fun h => lz_BaseDistance_calls h) h

/-- inflate_all -/
def inflate_all_ret (p0 p1 p2 p3 : Value) (K : Value → WP) : WP :=
  (stS Try.prog (sRes 27 p0) fun r0 => (stS Try.prog (sRes 60 p1) fun r1 => (stS Try.prog (sRes 3 p2) fun r2 => (stS Try.prog (sRes 28 p3) fun r3 => K (.tuple #[r0, r1, r2, r3])))))
def inflate_all (v0 v1 : Value) (Kp : PK) (K : Value → WP) : WP :=
  opN Try.prog (sAlloc 27) Kp fun x4 =>
  opN Try.prog (sAlloc 60) Kp fun x5 =>
  opN Try.prog (sAlloc 3) Kp fun x6 =>
  opN Try.prog (sAlloc 28) Kp fun x7 =>
  cut1 (fun J1 =>
   opN Try.prog (sBin .lss 3 v1 (.int .i64 0)) Kp fun x15 =>
   condS x15
   (J1 x15)
   (opN Try.prog (sBin .gtr 3 v1 (.int .i64 1048576)) Kp fun x17 =>
    J1 x17)) fun _ z13 =>
  condS z13
  (opN Try.prog (sStore 27 x4 (.slice none 0 0)) Kp fun _ =>
   opN Try.prog (sStore 60 x5 (.slice none 0 0)) Kp fun _ =>
   opN Try.prog (sStore 3 x6 (.int .i64 0)) Kp fun _ =>
   opN Try.prog (sStore 28 x7 (.int .i64 1)) Kp fun _ =>
   (stS Try.prog (sRes 27 x4) fun r0 => (stS Try.prog (sRes 60 x5) fun r1 => (stS Try.prog (sRes 3 x6) fun r2 => (stS Try.prog (sRes 28 x7) fun r3 => K (.tuple #[r0, r1, r2, r3]))))))
  (opN Try.prog (sLen #[27] 3 [v0]) Kp fun x20 =>
   opN Try.prog (sBin .gtr 3 x20 (.int .i64 1048576)) Kp fun x21 =>
   condS x21
   (opN Try.prog (sStore 27 x4 (.slice none 0 0)) Kp fun _ =>
    opN Try.prog (sStore 60 x5 (.slice none 0 0)) Kp fun _ =>
    opN Try.prog (sStore 3 x6 (.int .i64 0)) Kp fun _ =>
    opN Try.prog (sStore 28 x7 (.int .i64 6)) Kp fun _ =>
    (stS Try.prog (sRes 27 x4) fun r0 => (stS Try.prog (sRes 60 x5) fun r1 => (stS Try.prog (sRes 3 x6) fun r2 => (stS Try.prog (sRes 28 x7) fun r3 => K (.tuple #[r0, r1, r2, r3]))))))
   (opN Try.prog (sMkF (.func 26) [] [x4, x5, x6, x7]) Kp fun x22 =>
    opDf x22 [] fun d1 =>
    opN Try.prog (sCall (fn 27) [v0]) (KpD Try.prog d1 (inflate_all_ret x4 x5 x6 x7 K) Kp) fun x24 =>
    opN Try.prog (sBuild 69 [(0, x24), (2, v1)]) (KpD Try.prog d1 (inflate_all_ret x4 x5 x6 x7 K) Kp) fun x26 =>
    opN Try.prog (sBox 69 x26) (KpD Try.prog d1 (inflate_all_ret x4 x5 x6 x7 K) Kp) fun x27 =>
    opN Try.prog (sBuild 71 [(0, (fn 28)), (1, (fn 29)), (2, (fn 30)), (3, (fn 31))]) (KpD Try.prog d1 (inflate_all_ret x4 x5 x6 x7 K) Kp) fun x28 =>
    opN Try.prog (sAlloc 71) (KpD Try.prog d1 (inflate_all_ret x4 x5 x6 x7 K) Kp) fun x9 =>
    opN Try.prog (sStore 71 x9 x28) (KpD Try.prog d1 (inflate_all_ret x4 x5 x6 x7 K) Kp) fun _ =>
    loop1 (fun I1 m1 _ y10 =>
     opN Try.prog (sEq .eql 3 (.tmp 29) (.const (.int .i64 0)) y10 (.int .i64 0)) (KpD Try.prog d1 (inflate_all_ret x4 x5 x6 x7 K) Kp) fun x30 =>
     condS x30
     (opN Try.prog (sCall (fn 32) [x27, (.int .i64 1)]) (KpD Try.prog d1 (inflate_all_ret x4 x5 x6 x7 K) Kp) fun x32 =>
      drS (stD Try.prog (sNil x27) fun D3 x36 =>
       stD Try.prog (sFA 69 x36 1) fun D4 x37 =>
       stD Try.prog (sLoad 27 x37) fun D5 x38 =>
       stD Try.prog (sLen #[27] 3 [x38]) fun D6 x39 =>
       opN Try.prog (sCall (fn 32) [x27, (.int .i64 2)]) (KpD Try.prog d1 (inflate_all_ret x4 x5 x6 x7 K) Kp) fun x34 =>
       (fun w => D6 w ∧ (fun w => D5 w ∧ (fun w => D4 w ∧ (fun w => D3 w ∧ (opN Try.prog (sIA 71 x9 x34) (KpD Try.prog d1 (inflate_all_ret x4 x5 x6 x7 K) Kp) fun x41 =>
            opN Try.prog (sLoad 70 x41) (KpD Try.prog d1 (inflate_all_ret x4 x5 x6 x7 K) Kp) fun x42 =>
            opN Try.prog (sCall x42 [x27]) (KpD Try.prog d1 (inflate_all_ret x4 x5 x6 x7 K) Kp) fun x44 =>
            drS (stD Try.prog (sLoad 60 x5) fun D0 x45 =>
             stS Try.prog (sNil x27) fun x48 =>
             stS Try.prog (sFA 69 x48 1) fun x49 =>
             stS Try.prog (sLoad 27 x49) fun x50 =>
             stS Try.prog (sLen #[27] 3 [x50]) fun x51 =>
             stS Try.prog (sBin .sub 3 x51 x39) fun x53 =>
             stS Try.prog (sBuild 74 [(0, x34), (1, x53)]) fun x54 =>
             opN Try.prog (sBuildSl 60 1 [(0, x54)]) (KpD Try.prog d1 (inflate_all_ret x4 x5 x6 x7 K) Kp) fun x55 =>
             (fun w => D0 w ∧ (opN Try.prog (sApp #[60, 60] 60 [x45, x55]) (KpD Try.prog d1 (inflate_all_ret x4 x5 x6 x7 K) Kp) fun x56 =>
               opN Try.prog (sStore 60 x5 x56) (KpD Try.prog d1 (inflate_all_ret x4 x5 x6 x7 K) Kp) fun _ =>
               next1 I1 m1 x32) w))) w) w) w) w)))
     (drS (stD Try.prog (sNil x27) fun D1 x58 =>
       stD Try.prog (sFA 69 x58 1) fun D2 x59 =>
       stD Try.prog (sLoad 27 x59) fun D3 x60 =>
       stD Try.prog (sLoad 60 x5) fun D4 x61 =>
       stD Try.prog (sLen #[27] 3 [v0]) fun D6 x63 =>
       stS Try.prog (sNil x27) fun x65 =>
       stS Try.prog (sFA 69 x65 0) fun x66 =>
       stS Try.prog (sLoad 66 x66) fun x67 =>
       opN Try.prog (sCall (fn 33) [x67]) (KpD Try.prog d1 (inflate_all_ret x4 x5 x6 x7 K) Kp) fun x68 =>
       (fun w => D6 w ∧ (fun w => D4 w ∧ (fun w => D3 w ∧ (fun w => D2 w ∧ (fun w => D1 w ∧ (stD Try.prog (sBin .quo 3 x68 (.int .i64 8)) fun D12 x69 =>
             stD Try.prog (sBin .sub 3 x63 x69) fun D13 x70 =>
             opN Try.prog (sStore 27 x4 x60) (KpD Try.prog d1 (inflate_all_ret x4 x5 x6 x7 K) Kp) fun _ =>
             (fun w => D13 w ∧ (fun w => D12 w ∧ (fun w => D6 w ∧ (fun w => D4 w ∧ (opN Try.prog (sStore 60 x5 x61) (KpD Try.prog d1 (inflate_all_ret x4 x5 x6 x7 K) Kp) fun _ =>
                  (fun w => D13 w ∧ (fun w => D12 w ∧ (fun w => D6 w ∧ (opN Try.prog (sStore 3 x6 x70) (KpD Try.prog d1 (inflate_all_ret x4 x5 x6 x7 K) Kp) fun _ =>
                      opN Try.prog (sStore 28 x7 (.int .i64 0)) (KpD Try.prog d1 (inflate_all_ret x4 x5 x6 x7 K) Kp) fun _ =>
                      dfS Try.prog d1 .returning (inflate_all_ret x4 x5 x6 x7 K) Kp) w) w) w)) w) w) w) w)) w) w) w) w) w)))) (.int .i64 0)))
def inflate_all_an : Ann := { cuts := [(3, [13])], blks := [], loops := [(10, [10])], drs := [(12, [(0, 1), (2, 2), (3, 3), (4, 3), (5, 3), (6, 3), (1, 0), (7, 1), (8, 1)]), (14, [(0, 3), (1, 1), (2, 1), (3, 1), (4, 1), (5, 1), (6, 1), (7, 1), (8, 1), (9, 1), (10, 0), (11, 0), (12, 0)]), (15, [(0, 2), (1, 3), (2, 3), (3, 3), (4, 3), (5, 2), (6, 3), (7, 1), (8, 1), (9, 1), (10, 1), (11, 0), (12, 3), (13, 3), (14, 0), (15, 0), (16, 0), (17, 0)])] }
theorem inflate_all_eq (v0 v1 : Value) (Kp : PK) (K : Value → WP) : cevFD Try.prog inflate_all_an Try.f24 [v0, v1] Kp K = inflate_all v0 v1 Kp K := by kernel_rfl
theorem inflate_all_calls {v0 v1 : Value} {Kp : PK} {K : Value → WP} {w : World} (h : inflate_all v0 v1 Kp K w) : Calls Try.prog 24 #[v0, v1] w (after Kp K) :=
  calls_of_shape (calls_of_cevD wide Try.func24 (an := inflate_all_an) (args := [v0, v1]) (cast (congrFun (inflate_all_eq v0 v1 Kp K) w).symm h))
theorem inflate_all_cn {v0 v1 : Value} {W : World} {α : Type} {A : List HP} {r : α → Value} {B : α → List HP} (h : ∀ F, Ent W (A ++ F) (inflate_all v0 v1 noP fun v w => ∃ x, v = r x ∧ sat W (B x ++ F) w)) : Cn Try.prog 24 [v0, v1] W A r B :=
  Cn.of (shape := inflate_all v0 v1) Try.call24 (fun h => inflate_all_calls h) h
theorem inflate_all_cnP {v0 v1 : Value} {W : World} {α β : Type} {A : List HP} {r : α → Value} {B : α → List HP} {pc : β → List PanicEntry} {Bp : β → List HP} (h : ∀ F, Ent W (A ++ F) (inflate_all v0 v1 (fun ch w => ∃ y, ch = pc y ∧ sat W (Bp y ++ F) w) fun v w => ∃ x, v = r x ∧ sat W (B x ++ F) w)) : CnP Try.prog 24 [v0, v1] W A r B pc Bp :=
  CnP.of (shape := inflate_all v0 v1) Try.call24 (fun h => inflate_all_calls h) h

/-- bits_Reverse -/
def bits_Reverse (v0 v1 : Value) (Kp : PK) (K : Value → WP) : WP :=
  opN Try.prog (sMin #[3, 3] 3 [v1, (.int .i64 32)]) Kp fun x8 =>
  opN Try.prog (sMax #[3, 3] 3 [(.int .i64 0), x8]) Kp fun x9 =>
  loop2 (fun I1 m1 _ y5 y10 =>
   opN Try.prog (sBin .lss 3 y10 x9) Kp fun x11 =>
   condS x11
   (opN Try.prog (sBin .shl 3 y5 (.int .u64 1)) Kp fun x14 =>
    opN Try.prog (sConv 3 52 y10) Kp fun x17 =>
    opN Try.prog (sBin .shr 3 v0 x17) Kp fun x18 =>
    opN Try.prog (sBin .and 3 x18 (.int .i64 1)) Kp fun x19 =>
    opN Try.prog (sBin .or 3 x14 x19) Kp fun x20 =>
    opN Try.prog (sBin .add 3 y10 (.int .i64 1)) Kp fun x21 =>
    next2 I1 m1 x20 x21)
   (K y5)) (.int .i64 0) (.int .i64 0)
def bits_Reverse_an : Ann := { cuts := [], blks := [], loops := [(3, [5, 10])], drs := [] }
theorem bits_Reverse_eq (v0 v1 : Value) (Kp : PK) (K : Value → WP) : cevF Try.prog bits_Reverse_an Try.f25 [v0, v1] Kp K = bits_Reverse v0 v1 Kp K := by kernel_rfl
theorem bits_Reverse_calls {v0 v1 : Value} {Kp : PK} {K : Value → WP} {w : World} (h : bits_Reverse v0 v1 Kp K w) : Calls Try.prog 25 #[v0, v1] w (after Kp K) :=
  calls_of_shape (calls_of_cev wide Try.func25 (an := bits_Reverse_an) (args := [v0, v1]) (cast (congrFun (bits_Reverse_eq v0 v1 Kp K) w).symm h))
theorem bits_Reverse_cn {v0 v1 : Value} {W : World} {α : Type} {A : List HP} {r : α → Value} {B : α → List HP} (h : ∀ F, Ent W (A ++ F) (bits_Reverse v0 v1 noP fun v w => ∃ x, v = r x ∧ sat W (B x ++ F) w)) : Cn Try.prog 25 [v0, v1] W A r B :=
  Cn.of (shape := bits_Reverse v0 v1) Try.call25 (fun h => bits_Reverse_calls h) h
theorem bits_Reverse_cnP {v0 v1 : Value} {W : World} {α β : Type} {A : List HP} {r : α → Value} {B : α → List HP} {pc : β → List PanicEntry} {Bp : β → List HP} (h : ∀ F, Ent W (A ++ F) (bits_Reverse v0 v1 (fun ch w => ∃ y, ch = pc y ∧ sat W (Bp y ++ F) w) fun v w => ∃ x, v = r x ∧ sat W (B x ++ F) w)) : CnP Try.prog 25 [v0, v1] W A r B pc Bp :=
  CnP.of (shape := bits_Reverse v0 v1) Try.call25 (fun h => bits_Reverse_calls h) h

/-- inflate_all_1: rv: what recover hands out -/
def inflate_all_1 (v0 v1 v2 v3 : Value) (rv : Value) (Kp : PK) (K : Value → WP) : WP :=
  opN Try.prog (sEq .neq 20 (.tmp 6) (.const .nilIface) rv .nilIface) Kp fun x7 =>
  condS x7
  (drS (stD Try.prog (sTA rv 20 28 false) fun D1 x9 =>
    opN Try.prog (sStore 27 v0 (.slice none 0 0)) Kp fun _ =>
    (fun w => D1 w ∧ (opN Try.prog (sStore 60 v1 (.slice none 0 0)) Kp fun _ =>
      (fun w => D1 w ∧ (opN Try.prog (sStore 3 v2 (.int .i64 0)) Kp fun _ =>
        (fun w => D1 w ∧ (opN Try.prog (sStore 28 v3 x9) Kp fun _ =>
          K (.tuple #[])) w)) w)) w)))
  (K (.tuple #[]))
def inflate_all_1_an : Ann := { cuts := [], blks := [], loops := [], drs := [(2, [(0, 2), (1, 3), (2, 0), (3, 0), (4, 0), (5, 0)])] }
theorem inflate_all_1_eq (v0 v1 v2 v3 : Value) (rv : Value) (Kp : PK) (K : Value → WP) : cevR Try.prog inflate_all_1_an Try.f26 [v0, v1, v2, v3] rv Kp K = inflate_all_1 v0 v1 v2 v3 rv Kp K := by kernel_rfl
theorem inflate_all_1_d {v0 v1 v2 v3 : Value} {u : FrameMode} {Kp : PK} {K : Value → WP} {w : World} (h : inflate_all_1 v0 v1 v2 v3 (recV u).1 Kp K w) : CallsD Try.prog 26 ([v0, v1, v2, v3] : List Value).toArray u w fun
      | .returned v, u', w' => u' = (recV u).2 ∧ K v w'
      | .panicked ch, u', w' => u' = (recV u).2 ∧ Kp ch w'
      | .outgrown, _, _ => False :=
  callsD_of_cevR wide Try.func26 (an := inflate_all_1_an) (args := [v0, v1, v2, v3]) (cast (congrFun (inflate_all_1_eq v0 v1 v2 v3 _ Kp K) w).symm h)

/-- bits_NewReader -/
def bits_NewReader (v0 : Value) (Kp : PK) (K : Value → WP) : WP :=
  opN Try.prog (sApp #[27, 27] 27 [(.slice none 0 0), v0]) Kp fun x4 =>
  opN Try.prog (sBuild 77 [(0, x4), (1, (.int .i64 0))]) Kp fun x5 =>
  opN Try.prog (sBuild 79 [(0, x5), (1, (.bool true))]) Kp fun x6 =>
  opN Try.prog (sBox 79 x6) Kp fun x7 =>
  K x7
def bits_NewReader_an : Ann := { cuts := [], blks := [], loops := [], drs := [] }
theorem bits_NewReader_eq (v0 : Value) (Kp : PK) (K : Value → WP) : cevF Try.prog bits_NewReader_an Try.f27 [v0] Kp K = bits_NewReader v0 Kp K := by kernel_rfl
theorem bits_NewReader_calls {v0 : Value} {Kp : PK} {K : Value → WP} {w : World} (h : bits_NewReader v0 Kp K w) : Calls Try.prog 27 #[v0] w (after Kp K) :=
  calls_of_shape (calls_of_cev wide Try.func27 (an := bits_NewReader_an) (args := [v0]) (cast (congrFun (bits_NewReader_eq v0 Kp K) w).symm h))
theorem bits_NewReader_cn {v0 : Value} {W : World} {α : Type} {A : List HP} {r : α → Value} {B : α → List HP} (h : ∀ F, Ent W (A ++ F) (bits_NewReader v0 noP fun v w => ∃ x, v = r x ∧ sat W (B x ++ F) w)) : Cn Try.prog 27 [v0] W A r B :=
  Cn.of (shape := bits_NewReader v0) Try.call27 (fun h => bits_NewReader_calls h) h
theorem bits_NewReader_cnP {v0 : Value} {W : World} {α β : Type} {A : List HP} {r : α → Value} {B : α → List HP} {pc : β → List PanicEntry} {Bp : β → List HP} (h : ∀ F, Ent W (A ++ F) (bits_NewReader v0 (fun ch w => ∃ y, ch = pc y ∧ sat W (Bp y ++ F) w) fun v w => ∃ x, v = r x ∧ sat W (B x ++ F) w)) : CnP Try.prog 27 [v0] W A r B pc Bp :=
  CnP.of (shape := bits_NewReader v0) Try.call27 (fun h => bits_NewReader_calls h) h

/-- inflate_stream_stored -/
def inflate_stream_stored (v0 : Value) (Kp : PK) (K : Value → WP) : WP :=
  opN Try.prog (sNil v0) Kp fun x6 =>
  opN Try.prog (sFA 69 x6 0) Kp fun x7 =>
  opN Try.prog (sLoad 66 x7) Kp fun x8 =>
  opN Try.prog (sCall (fn 34) [x8]) Kp fun x9 =>
  opN Try.prog (sCall (fn 32) [v0, (.int .i64 16)]) Kp fun x11 =>
  opN Try.prog (sCall (fn 32) [v0, (.int .i64 16)]) Kp fun x13 =>
  opN Try.prog (sBin .sub 3 (.int .i64 65535) x11) Kp fun x15 =>
  opN Try.prog (sEq .eql 3 (.tmp 13) (.tmp 15) x13 x15) Kp fun x16 =>
  opN Try.prog (sCall (fn 35) [x16, (.int .i64 31)]) Kp fun x17 =>
  opN Try.prog (sCall (fn 36) [v0, x11]) Kp fun x20 =>
  opN Try.prog (sNil v0) Kp fun x23 =>
  opN Try.prog (sFA 69 x23 0) Kp fun x24 =>
  opN Try.prog (sLoad 66 x24) Kp fun x25 =>
  opN Try.prog (sCall (fn 37) [x25, x11]) Kp fun x27 =>
  opN Try.prog (sExt x27 0) Kp fun x28 =>
  opN Try.prog (sExt x27 1) Kp fun x29 =>
  opN Try.prog (sCall (fn 38) [x29]) Kp fun x31 =>
  opN Try.prog (sNil v0) Kp fun x34 =>
  opN Try.prog (sFA 69 x34 1) Kp fun x35 =>
  opN Try.prog (sLoad 27 x35) Kp fun x36 =>
  opN Try.prog (sApp #[27, 27] 27 [x36, x28]) Kp fun x38 =>
  opN Try.prog (sNil v0) Kp fun x39 =>
  opN Try.prog (sFA 69 x39 1) Kp fun x40 =>
  opN Try.prog (sStore 27 x40 x38) Kp fun _ =>
  K (.tuple #[])
def inflate_stream_stored_an : Ann := { cuts := [], blks := [], loops := [], drs := [] }
theorem inflate_stream_stored_eq (v0 : Value) (Kp : PK) (K : Value → WP) : cevF Try.prog inflate_stream_stored_an Try.f28 [v0] Kp K = inflate_stream_stored v0 Kp K := by kernel_rfl
theorem inflate_stream_stored_calls {v0 : Value} {Kp : PK} {K : Value → WP} {w : World} (h : inflate_stream_stored v0 Kp K w) : Calls Try.prog 28 #[v0] w (after Kp K) :=
  calls_of_shape (calls_of_cev wide Try.func28 (an := inflate_stream_stored_an) (args := [v0]) (cast (congrFun (inflate_stream_stored_eq v0 Kp K) w).symm h))
theorem inflate_stream_stored_cn {v0 : Value} {W : World} {α : Type} {A : List HP} {r : α → Value} {B : α → List HP} (h : ∀ F, Ent W (A ++ F) (inflate_stream_stored v0 noP fun v w => ∃ x, v = r x ∧ sat W (B x ++ F) w)) : Cn Try.prog 28 [v0] W A r B :=
  Cn.of (shape := inflate_stream_stored v0) Try.call28 (fun h => inflate_stream_stored_calls h) h
theorem inflate_stream_stored_cnP {v0 : Value} {W : World} {α β : Type} {A : List HP} {r : α → Value} {B : α → List HP} {pc : β → List PanicEntry} {Bp : β → List HP} (h : ∀ F, Ent W (A ++ F) (inflate_stream_stored v0 (fun ch w => ∃ y, ch = pc y ∧ sat W (Bp y ++ F) w) fun v w => ∃ x, v = r x ∧ sat W (B x ++ F) w)) : CnP Try.prog 28 [v0] W A r B pc Bp :=
  CnP.of (shape := inflate_stream_stored v0) Try.call28 (fun h => inflate_stream_stored_calls h) h

/-- inflate_stream_fixed -/
def inflate_stream_fixed (v0 : Value) (Kp : PK) (K : Value → WP) : WP :=
  opN Try.prog (sCall (fn 5) []) Kp fun x5 =>
  opN Try.prog (sExt x5 0) Kp fun x6 =>
  opN Try.prog (sExt x5 1) Kp fun x7 =>
  opN Try.prog (sCall (fn 40) [x6]) Kp fun x10 =>
  opN Try.prog (sCall (fn 40) [x7]) Kp fun x12 =>
  opN Try.prog (sCall (fn 39) [v0, x10, x12]) Kp fun x13 =>
  K (.tuple #[])
def inflate_stream_fixed_an : Ann := { cuts := [], blks := [], loops := [], drs := [] }
theorem inflate_stream_fixed_eq (v0 : Value) (Kp : PK) (K : Value → WP) : cevF Try.prog inflate_stream_fixed_an Try.f29 [v0] Kp K = inflate_stream_fixed v0 Kp K := by kernel_rfl
theorem inflate_stream_fixed_calls {v0 : Value} {Kp : PK} {K : Value → WP} {w : World} (h : inflate_stream_fixed v0 Kp K w) : Calls Try.prog 29 #[v0] w (after Kp K) :=
  calls_of_shape (calls_of_cev wide Try.func29 (an := inflate_stream_fixed_an) (args := [v0]) (cast (congrFun (inflate_stream_fixed_eq v0 Kp K) w).symm h))
theorem inflate_stream_fixed_cn {v0 : Value} {W : World} {α : Type} {A : List HP} {r : α → Value} {B : α → List HP} (h : ∀ F, Ent W (A ++ F) (inflate_stream_fixed v0 noP fun v w => ∃ x, v = r x ∧ sat W (B x ++ F) w)) : Cn Try.prog 29 [v0] W A r B :=
  Cn.of (shape := inflate_stream_fixed v0) Try.call29 (fun h => inflate_stream_fixed_calls h) h
theorem inflate_stream_fixed_cnP {v0 : Value} {W : World} {α β : Type} {A : List HP} {r : α → Value} {B : α → List HP} {pc : β → List PanicEntry} {Bp : β → List HP} (h : ∀ F, Ent W (A ++ F) (inflate_stream_fixed v0 (fun ch w => ∃ y, ch = pc y ∧ sat W (Bp y ++ F) w) fun v w => ∃ x, v = r x ∧ sat W (B x ++ F) w)) : CnP Try.prog 29 [v0] W A r B pc Bp :=
  CnP.of (shape := inflate_stream_fixed v0) Try.call29 (fun h => inflate_stream_fixed_calls h) h

/-- inflate_stream_dynamic -/
def inflate_stream_dynamic (v0 : Value) (Kp : PK) (K : Value → WP) : WP :=
  opN Try.prog (sCall (fn 32) [v0, (.int .i64 5)]) Kp fun x13 =>
  opN Try.prog (sCall (fn 32) [v0, (.int .i64 5)]) Kp fun x15 =>
  opN Try.prog (sCall (fn 32) [v0, (.int .i64 4)]) Kp fun x17 =>
  opN Try.prog (sBin .leq 3 x13 (.int .i64 29)) Kp fun x19 =>
  gdK x19 true (fun k => k x15) fun x21 =>
  gdK x19 true (opN Try.prog (sBin .leq 3 x21 (.int .i64 29)) Kp) fun x22 =>
  opN Try.prog (sPick x19 x22 (.bool false)) Kp fun x23 =>
  opN Try.prog (sCall (fn 35) [x23, (.int .i64 31)]) Kp fun x24 =>
  opN Try.prog (sMkSl 31 (.int .i64 19) (.int .i64 19)) Kp fun x25 =>
  opN Try.prog (sBuild 87 [(0, (.int .i64 16)), (1, (.int .i64 17)), (2, (.int .i64 18)), (3, (.int .i64 0)), (4, (.int .i64 8)), (5, (.int .i64 7)), (6, (.int .i64 9)), (7, (.int .i64 6)), (8, (.int .i64 10)), (9, (.int .i64 5)), (10, (.int .i64 11)), (11, (.int .i64 4)), (12, (.int .i64 12)), (13, (.int .i64 3)), (14, (.int .i64 13)), (15, (.int .i64 2)), (16, (.int .i64 14)), (17, (.int .i64 1)), (18, (.int .i64 15))]) Kp fun x26 =>
  opN Try.prog (sAlloc 87) Kp fun x6 =>
  opN Try.prog (sStore 87 x6 x26) Kp fun _ =>
  opN Try.prog (sBin .add 3 x17 (.int .i64 4)) Kp fun x28 =>
  opN Try.prog (sSl 87 x6 none (some x28) none) Kp fun x29 =>
  opN Try.prog (sLen #[31] 3 [x29]) Kp fun x30 =>
  loop1 (fun I1 m1 _ y31 =>
   opN Try.prog (sBin .lss 3 y31 x30) Kp fun x32 =>
   condS x32
   (opN Try.prog (sIA 31 x29 y31) Kp fun x33 =>
    opN Try.prog (sLoad 3 x33) Kp fun x34 =>
    opN Try.prog (sCall (fn 32) [v0, (.int .i64 3)]) Kp fun x38 =>
    opN Try.prog (sIA 31 x25 x34) Kp fun x39 =>
    opN Try.prog (sStore 3 x39 x38) Kp fun _ =>
    opN Try.prog (sBin .add 3 y31 (.int .i64 1)) Kp fun x40 =>
    next1 I1 m1 x40)
   (opN Try.prog (sCall (fn 41) [x25]) Kp fun x42 =>
    opN Try.prog (sCall (fn 35) [x42, (.int .i64 30)]) Kp fun x43 =>
    opN Try.prog (sCall (fn 40) [x25]) Kp fun x46 =>
    opN Try.prog (sBin .add 3 x13 (.int .i64 257)) Kp fun x48 =>
    opN Try.prog (sBin .add 3 x48 x15) Kp fun x50 =>
    opN Try.prog (sBin .add 3 x50 (.int .i64 1)) Kp fun x51 =>
    opN Try.prog (sCall (fn 42) [v0, x46, x51]) Kp fun x52 =>
    drS (stS Try.prog (sBin .add 3 x13 (.int .i64 257)) fun x55 =>
     stS Try.prog (sSl 31 x52 none (some x55) none) fun x56 =>
     stS Try.prog (sBin .add 3 x13 (.int .i64 257)) fun x59 =>
     stS Try.prog (sSl 31 x52 (some x59) none none) fun x60 =>
     opN Try.prog (sIA 31 x56 (.int .i64 256)) Kp fun x62 =>
     opN Try.prog (sLoad 3 x62) Kp fun x63 =>
     opN Try.prog (sBin .gtr 3 x63 (.int .i64 0)) Kp fun x64 =>
     gdK x64 true (fun k => k x56) fun x66 =>
     gdK x64 true (opN Try.prog (sCall (fn 43) [x66]) Kp) fun x67 =>
     opN Try.prog (sPick x64 x67 (.bool false)) Kp fun x68 =>
     gdK x68 true (fun k => k x60) fun x70 =>
     gdK x68 true (opN Try.prog (sCall (fn 43) [x70]) Kp) fun x71 =>
     opN Try.prog (sPick x68 x71 (.bool false)) Kp fun x72 =>
     opN Try.prog (sCall (fn 35) [x72, (.int .i64 30)]) Kp fun x73 =>
     opN Try.prog (sCall (fn 40) [x56]) Kp fun x76 =>
     opN Try.prog (sCall (fn 40) [x60]) Kp fun x78 =>
     opN Try.prog (sCall (fn 39) [v0, x76, x78]) Kp fun x79 =>
     K (.tuple #[])))) (.int .i64 0)
def inflate_stream_dynamic_an : Ann := { cuts := [], blks := [], loops := [(5, [31])], drs := [(11, [(0, 1), (1, 1), (2, 1), (3, 1), (4, 1), (5, 1), (6, 1), (7, 1), (8, 1), (9, 1)])] }
theorem inflate_stream_dynamic_eq (v0 : Value) (Kp : PK) (K : Value → WP) : cevF Try.prog inflate_stream_dynamic_an Try.f30 [v0] Kp K = inflate_stream_dynamic v0 Kp K := by kernel_rfl
theorem inflate_stream_dynamic_calls {v0 : Value} {Kp : PK} {K : Value → WP} {w : World} (h : inflate_stream_dynamic v0 Kp K w) : Calls Try.prog 30 #[v0] w (after Kp K) :=
  calls_of_shape (calls_of_cev wide Try.func30 (an := inflate_stream_dynamic_an) (args := [v0]) (cast (congrFun (inflate_stream_dynamic_eq v0 Kp K) w).symm h))
theorem inflate_stream_dynamic_cn {v0 : Value} {W : World} {α : Type} {A : List HP} {r : α → Value} {B : α → List HP} (h : ∀ F, Ent W (A ++ F) (inflate_stream_dynamic v0 noP fun v w => ∃ x, v = r x ∧ sat W (B x ++ F) w)) : Cn Try.prog 30 [v0] W A r B :=
  Cn.of (shape := inflate_stream_dynamic v0) Try.call30 (fun h => inflate_stream_dynamic_calls h) h
theorem inflate_stream_dynamic_cnP {v0 : Value} {W : World} {α β : Type} {A : List HP} {r : α → Value} {B : α → List HP} {pc : β → List PanicEntry} {Bp : β → List HP} (h : ∀ F, Ent W (A ++ F) (inflate_stream_dynamic v0 (fun ch w => ∃ y, ch = pc y ∧ sat W (Bp y ++ F) w) fun v w => ∃ x, v = r x ∧ sat W (B x ++ F) w)) : CnP Try.prog 30 [v0] W A r B pc Bp :=
  CnP.of (shape := inflate_stream_dynamic v0) Try.call30 (fun h => inflate_stream_dynamic_calls h) h

/-- inflate_stream_none -/
def inflate_stream_none (v0 : Value) (Kp : PK) (K : Value → WP) : WP :=
  opN Try.prog (sMkI 28 (.int .i64 31)) Kp fun x2 =>
  opN Try.prog (sPanic x2) Kp fun _ =>
  K (.tuple #[])
def inflate_stream_none_an : Ann := { cuts := [], blks := [], loops := [], drs := [] }
theorem inflate_stream_none_eq (v0 : Value) (Kp : PK) (K : Value → WP) : cevF Try.prog inflate_stream_none_an Try.f31 [v0] Kp K = inflate_stream_none v0 Kp K := by kernel_rfl
theorem inflate_stream_none_calls {v0 : Value} {Kp : PK} {K : Value → WP} {w : World} (h : inflate_stream_none v0 Kp K w) : Calls Try.prog 31 #[v0] w (after Kp K) :=
  calls_of_shape (calls_of_cev wide Try.func31 (an := inflate_stream_none_an) (args := [v0]) (cast (congrFun (inflate_stream_none_eq v0 Kp K) w).symm h))
theorem inflate_stream_none_cn {v0 : Value} {W : World} {α : Type} {A : List HP} {r : α → Value} {B : α → List HP} (h : ∀ F, Ent W (A ++ F) (inflate_stream_none v0 noP fun v w => ∃ x, v = r x ∧ sat W (B x ++ F) w)) : Cn Try.prog 31 [v0] W A r B :=
  Cn.of (shape := inflate_stream_none v0) Try.call31 (fun h => inflate_stream_none_calls h) h
theorem inflate_stream_none_cnP {v0 : Value} {W : World} {α β : Type} {A : List HP} {r : α → Value} {B : α → List HP} {pc : β → List PanicEntry} {Bp : β → List HP} (h : ∀ F, Ent W (A ++ F) (inflate_stream_none v0 (fun ch w => ∃ y, ch = pc y ∧ sat W (Bp y ++ F) w) fun v w => ∃ x, v = r x ∧ sat W (B x ++ F) w)) : CnP Try.prog 31 [v0] W A r B pc Bp :=
  CnP.of (shape := inflate_stream_none v0) Try.call31 (fun h => inflate_stream_none_calls h) h

/-- inflate_stream_take -/
def inflate_stream_take (v0 v1 : Value) (Kp : PK) (K : Value → WP) : WP :=
  opN Try.prog (sNil v0) Kp fun x9 =>
  opN Try.prog (sFA 69 x9 0) Kp fun x10 =>
  opN Try.prog (sLoad 66 x10) Kp fun x11 =>
  opN Try.prog (sCall (fn 44) [x11, v1]) Kp fun x13 =>
  opN Try.prog (sExt x13 0) Kp fun x14 =>
  opN Try.prog (sExt x13 1) Kp fun x15 =>
  opN Try.prog (sCall (fn 38) [x15]) Kp fun x17 =>
  K x14
def inflate_stream_take_an : Ann := { cuts := [], blks := [], loops := [], drs := [] }
theorem inflate_stream_take_eq (v0 v1 : Value) (Kp : PK) (K : Value → WP) : cevF Try.prog inflate_stream_take_an Try.f32 [v0, v1] Kp K = inflate_stream_take v0 v1 Kp K := by kernel_rfl
theorem inflate_stream_take_calls {v0 v1 : Value} {Kp : PK} {K : Value → WP} {w : World} (h : inflate_stream_take v0 v1 Kp K w) : Calls Try.prog 32 #[v0, v1] w (after Kp K) :=
  calls_of_shape (calls_of_cev wide Try.func32 (an := inflate_stream_take_an) (args := [v0, v1]) (cast (congrFun (inflate_stream_take_eq v0 v1 Kp K) w).symm h))
theorem inflate_stream_take_cn {v0 v1 : Value} {W : World} {α : Type} {A : List HP} {r : α → Value} {B : α → List HP} (h : ∀ F, Ent W (A ++ F) (inflate_stream_take v0 v1 noP fun v w => ∃ x, v = r x ∧ sat W (B x ++ F) w)) : Cn Try.prog 32 [v0, v1] W A r B :=
  Cn.of (shape := inflate_stream_take v0 v1) Try.call32 (fun h => inflate_stream_take_calls h) h
theorem inflate_stream_take_cnP {v0 v1 : Value} {W : World} {α β : Type} {A : List HP} {r : α → Value} {B : α → List HP} {pc : β → List PanicEntry} {Bp : β → List HP} (h : ∀ F, Ent W (A ++ F) (inflate_stream_take v0 v1 (fun ch w => ∃ y, ch = pc y ∧ sat W (Bp y ++ F) w) fun v w => ∃ x, v = r x ∧ sat W (B x ++ F) w)) : CnP Try.prog 32 [v0, v1] W A r B pc Bp :=
  CnP.of (shape := inflate_stream_take v0 v1) Try.call32 (fun h => inflate_stream_take_calls h) h

/-- bits_Reader_Left -/
def bits_Reader_Left (v0 : Value) (Kp : PK) (K : Value → WP) : WP :=
  opN Try.prog (sCall (fn 45) [v0]) Kp fun x4 =>
  condS x4
  (K (.int .i64 0))
  (opN Try.prog (sNil v0) Kp fun x6 =>
   opN Try.prog (sFA 79 x6 0) Kp fun x7 =>
   opN Try.prog (sCall (fn 46) [x7]) Kp fun x8 =>
   K x8)
def bits_Reader_Left_an : Ann := { cuts := [], blks := [], loops := [], drs := [] }
theorem bits_Reader_Left_eq (v0 : Value) (Kp : PK) (K : Value → WP) : cevF Try.prog bits_Reader_Left_an Try.f33 [v0] Kp K = bits_Reader_Left v0 Kp K := by kernel_rfl
theorem bits_Reader_Left_calls {v0 : Value} {Kp : PK} {K : Value → WP} {w : World} (h : bits_Reader_Left v0 Kp K w) : Calls Try.prog 33 #[v0] w (after Kp K) :=
  calls_of_shape (calls_of_cev wide Try.func33 (an := bits_Reader_Left_an) (args := [v0]) (cast (congrFun (bits_Reader_Left_eq v0 Kp K) w).symm h))
theorem bits_Reader_Left_cn {v0 : Value} {W : World} {α : Type} {A : List HP} {r : α → Value} {B : α → List HP} (h : ∀ F, Ent W (A ++ F) (bits_Reader_Left v0 noP fun v w => ∃ x, v = r x ∧ sat W (B x ++ F) w)) : Cn Try.prog 33 [v0] W A r B :=
  Cn.of (shape := bits_Reader_Left v0) Try.call33 (fun h => bits_Reader_Left_calls h) h
theorem bits_Reader_Left_cnP {v0 : Value} {W : World} {α β : Type} {A : List HP} {r : α → Value} {B : α → List HP} {pc : β → List PanicEntry} {Bp : β → List HP} (h : ∀ F, Ent W (A ++ F) (bits_Reader_Left v0 (fun ch w => ∃ y, ch = pc y ∧ sat W (Bp y ++ F) w) fun v w => ∃ x, v = r x ∧ sat W (B x ++ F) w)) : CnP Try.prog 33 [v0] W A r B pc Bp :=
  CnP.of (shape := bits_Reader_Left v0) Try.call33 (fun h => bits_Reader_Left_calls h) h

/-- bits_Reader_Align -/
def bits_Reader_Align (v0 : Value) (Kp : PK) (K : Value → WP) : WP :=
  opN Try.prog (sCall (fn 45) [v0]) Kp fun x3 =>
  opN Try.prog (sUn .not x3) Kp fun x4 =>
  condS x4
  (opN Try.prog (sNil v0) Kp fun x7 =>
   opN Try.prog (sFA 79 x7 0) Kp fun x8 =>
   opN Try.prog (sFA 77 x8 1) Kp fun x9 =>
   opN Try.prog (sLoad 3 x9) Kp fun x10 =>
   opN Try.prog (sBin .add 3 x10 (.int .i64 7)) Kp fun x11 =>
   opN Try.prog (sBin .quo 3 x11 (.int .i64 8)) Kp fun x12 =>
   opN Try.prog (sBin .mul 3 x12 (.int .i64 8)) Kp fun x13 =>
   opN Try.prog (sNil v0) Kp fun x14 =>
   opN Try.prog (sFA 79 x14 0) Kp fun x15 =>
   opN Try.prog (sFA 77 x15 1) Kp fun x16 =>
   opN Try.prog (sStore 3 x16 x13) Kp fun _ =>
   K (.tuple #[]))
  (K (.tuple #[]))
def bits_Reader_Align_an : Ann := { cuts := [], blks := [], loops := [], drs := [] }
theorem bits_Reader_Align_eq (v0 : Value) (Kp : PK) (K : Value → WP) : cevF Try.prog bits_Reader_Align_an Try.f34 [v0] Kp K = bits_Reader_Align v0 Kp K := by kernel_rfl
theorem bits_Reader_Align_calls {v0 : Value} {Kp : PK} {K : Value → WP} {w : World} (h : bits_Reader_Align v0 Kp K w) : Calls Try.prog 34 #[v0] w (after Kp K) :=
  calls_of_shape (calls_of_cev wide Try.func34 (an := bits_Reader_Align_an) (args := [v0]) (cast (congrFun (bits_Reader_Align_eq v0 Kp K) w).symm h))
theorem bits_Reader_Align_cn {v0 : Value} {W : World} {α : Type} {A : List HP} {r : α → Value} {B : α → List HP} (h : ∀ F, Ent W (A ++ F) (bits_Reader_Align v0 noP fun v w => ∃ x, v = r x ∧ sat W (B x ++ F) w)) : Cn Try.prog 34 [v0] W A r B :=
  Cn.of (shape := bits_Reader_Align v0) Try.call34 (fun h => bits_Reader_Align_calls h) h
theorem bits_Reader_Align_cnP {v0 : Value} {W : World} {α β : Type} {A : List HP} {r : α → Value} {B : α → List HP} {pc : β → List PanicEntry} {Bp : β → List HP} (h : ∀ F, Ent W (A ++ F) (bits_Reader_Align v0 (fun ch w => ∃ y, ch = pc y ∧ sat W (Bp y ++ F) w) fun v w => ∃ x, v = r x ∧ sat W (B x ++ F) w)) : CnP Try.prog 34 [v0] W A r B pc Bp :=
  CnP.of (shape := bits_Reader_Align v0) Try.call34 (fun h => bits_Reader_Align_calls h) h

/-- inflate_demand -/
def inflate_demand (v0 v1 : Value) (Kp : PK) (K : Value → WP) : WP :=
  opN Try.prog (sUn .not v0) Kp fun x5 =>
  condS x5
  (opN Try.prog (sMkI 28 v1) Kp fun x7 =>
   opN Try.prog (sPanic x7) Kp fun _ =>
   K (.tuple #[]))
  (K (.tuple #[]))
def inflate_demand_an : Ann := { cuts := [], blks := [], loops := [], drs := [] }
theorem inflate_demand_eq (v0 v1 : Value) (Kp : PK) (K : Value → WP) : cevF Try.prog inflate_demand_an Try.f35 [v0, v1] Kp K = inflate_demand v0 v1 Kp K := by kernel_rfl
theorem inflate_demand_calls {v0 v1 : Value} {Kp : PK} {K : Value → WP} {w : World} (h : inflate_demand v0 v1 Kp K w) : Calls Try.prog 35 #[v0, v1] w (after Kp K) :=
  calls_of_shape (calls_of_cev wide Try.func35 (an := inflate_demand_an) (args := [v0, v1]) (cast (congrFun (inflate_demand_eq v0 v1 Kp K) w).symm h))
theorem inflate_demand_cn {v0 v1 : Value} {W : World} {α : Type} {A : List HP} {r : α → Value} {B : α → List HP} (h : ∀ F, Ent W (A ++ F) (inflate_demand v0 v1 noP fun v w => ∃ x, v = r x ∧ sat W (B x ++ F) w)) : Cn Try.prog 35 [v0, v1] W A r B :=
  Cn.of (shape := inflate_demand v0 v1) Try.call35 (fun h => inflate_demand_calls h) h
theorem inflate_demand_cnP {v0 v1 : Value} {W : World} {α β : Type} {A : List HP} {r : α → Value} {B : α → List HP} {pc : β → List PanicEntry} {Bp : β → List HP} (h : ∀ F, Ent W (A ++ F) (inflate_demand v0 v1 (fun ch w => ∃ y, ch = pc y ∧ sat W (Bp y ++ F) w) fun v w => ∃ x, v = r x ∧ sat W (B x ++ F) w)) : CnP Try.prog 35 [v0, v1] W A r B pc Bp :=
  CnP.of (shape := inflate_demand v0 v1) Try.call35 (fun h => inflate_demand_calls h) h

/-- inflate_stream_room -/
def inflate_stream_room (v0 v1 : Value) (Kp : PK) (K : Value → WP) : WP :=
  drS (stS Try.prog (sNil v0) fun x6 =>
   stS Try.prog (sFA 69 x6 2) fun x7 =>
   stS Try.prog (sLoad 3 x7) fun x8 =>
   stS Try.prog (sNil v0) fun x10 =>
   stS Try.prog (sFA 69 x10 1) fun x11 =>
   stS Try.prog (sLoad 27 x11) fun x12 =>
   stS Try.prog (sLen #[27] 3 [x12]) fun x13 =>
   stS Try.prog (sBin .sub 3 x8 x13) fun x14 =>
   stS Try.prog (sBin .leq 3 v1 x14) fun x15 =>
   opN Try.prog (sCall (fn 35) [x15, (.int .i64 6)]) Kp fun x16 =>
   K (.tuple #[]))
def inflate_stream_room_an : Ann := { cuts := [], blks := [], loops := [], drs := [(0, [(0, 1), (1, 1), (2, 1), (3, 1), (4, 1), (5, 1), (6, 1), (7, 1), (8, 1), (9, 1), (10, 1), (11, 1), (12, 0)])] }
theorem inflate_stream_room_eq (v0 v1 : Value) (Kp : PK) (K : Value → WP) : cevF Try.prog inflate_stream_room_an Try.f36 [v0, v1] Kp K = inflate_stream_room v0 v1 Kp K := by kernel_rfl
theorem inflate_stream_room_calls {v0 v1 : Value} {Kp : PK} {K : Value → WP} {w : World} (h : inflate_stream_room v0 v1 Kp K w) : Calls Try.prog 36 #[v0, v1] w (after Kp K) :=
  calls_of_shape (calls_of_cev wide Try.func36 (an := inflate_stream_room_an) (args := [v0, v1]) (cast (congrFun (inflate_stream_room_eq v0 v1 Kp K) w).symm h))
theorem inflate_stream_room_cn {v0 v1 : Value} {W : World} {α : Type} {A : List HP} {r : α → Value} {B : α → List HP} (h : ∀ F, Ent W (A ++ F) (inflate_stream_room v0 v1 noP fun v w => ∃ x, v = r x ∧ sat W (B x ++ F) w)) : Cn Try.prog 36 [v0, v1] W A r B :=
  Cn.of (shape := inflate_stream_room v0 v1) Try.call36 (fun h => inflate_stream_room_calls h) h
theorem inflate_stream_room_cnP {v0 v1 : Value} {W : World} {α β : Type} {A : List HP} {r : α → Value} {B : α → List HP} {pc : β → List PanicEntry} {Bp : β → List HP} (h : ∀ F, Ent W (A ++ F) (inflate_stream_room v0 v1 (fun ch w => ∃ y, ch = pc y ∧ sat W (Bp y ++ F) w) fun v w => ∃ x, v = r x ∧ sat W (B x ++ F) w)) : CnP Try.prog 36 [v0, v1] W A r B pc Bp :=
  CnP.of (shape := inflate_stream_room v0 v1) Try.call36 (fun h => inflate_stream_room_calls h) h

/-- bits_Reader_Raw -/
def bits_Reader_Raw (v0 v1 : Value) (Kp : PK) (K : Value → WP) : WP :=
  opN Try.prog (sCall (fn 45) [v0]) Kp fun x8 =>
  gdK x8 false (fun k => k v1) fun x10 =>
  gdK x8 false (opN Try.prog (sBin .lss 3 x10 (.int .i64 0)) Kp) fun x11 =>
  opN Try.prog (sPick x8 (.bool true) x11) Kp fun x12 =>
  condS x12
  (K (.tuple #[(.slice none 0 0), (.int .i64 1)]))
  (opN Try.prog (sNil v0) Kp fun x14 =>
   opN Try.prog (sFA 79 x14 0) Kp fun x15 =>
   opN Try.prog (sFA 77 x15 1) Kp fun x16 =>
   opN Try.prog (sLoad 3 x16) Kp fun x17 =>
   opN Try.prog (sBin .add 3 x17 (.int .i64 7)) Kp fun x18 =>
   opN Try.prog (sBin .quo 3 x18 (.int .i64 8)) Kp fun x19 =>
   opN Try.prog (sNil v0) Kp fun x22 =>
   opN Try.prog (sFA 79 x22 0) Kp fun x23 =>
   opN Try.prog (sFA 77 x23 0) Kp fun x24 =>
   opN Try.prog (sLoad 27 x24) Kp fun x25 =>
   opN Try.prog (sLen #[27] 3 [x25]) Kp fun x26 =>
   opN Try.prog (sBin .sub 3 x26 x19) Kp fun x28 =>
   opN Try.prog (sBin .gtr 3 v1 x28) Kp fun x29 =>
   condS x29
   (K (.tuple #[(.slice none 0 0), (.int .i64 20)]))
   (opN Try.prog (sBin .add 3 x19 v1) Kp fun x33 =>
    opN Try.prog (sBin .mul 3 (.int .i64 8) x33) Kp fun x34 =>
    opN Try.prog (sNil v0) Kp fun x35 =>
    opN Try.prog (sFA 79 x35 0) Kp fun x36 =>
    opN Try.prog (sFA 77 x36 1) Kp fun x37 =>
    opN Try.prog (sStore 3 x37 x34) Kp fun _ =>
    opN Try.prog (sNil v0) Kp fun x39 =>
    opN Try.prog (sFA 79 x39 0) Kp fun x40 =>
    opN Try.prog (sFA 77 x40 0) Kp fun x41 =>
    opN Try.prog (sLoad 27 x41) Kp fun x42 =>
    opN Try.prog (sBin .add 3 x19 v1) Kp fun x46 =>
    opN Try.prog (sSl 27 x42 (some x19) (some x46) none) Kp fun x47 =>
    opN Try.prog (sApp #[27, 27] 27 [(.slice none 0 0), x47]) Kp fun x48 =>
    K (.tuple #[x48, (.int .i64 0)])))
def bits_Reader_Raw_an : Ann := { cuts := [], blks := [], loops := [], drs := [] }
theorem bits_Reader_Raw_eq (v0 v1 : Value) (Kp : PK) (K : Value → WP) : cevF Try.prog bits_Reader_Raw_an Try.f37 [v0, v1] Kp K = bits_Reader_Raw v0 v1 Kp K := by kernel_rfl
theorem bits_Reader_Raw_calls {v0 v1 : Value} {Kp : PK} {K : Value → WP} {w : World} (h : bits_Reader_Raw v0 v1 Kp K w) : Calls Try.prog 37 #[v0, v1] w (after Kp K) :=
  calls_of_shape (calls_of_cev wide Try.func37 (an := bits_Reader_Raw_an) (args := [v0, v1]) (cast (congrFun (bits_Reader_Raw_eq v0 v1 Kp K) w).symm h))
theorem bits_Reader_Raw_cn {v0 v1 : Value} {W : World} {α : Type} {A : List HP} {r : α → Value} {B : α → List HP} (h : ∀ F, Ent W (A ++ F) (bits_Reader_Raw v0 v1 noP fun v w => ∃ x, v = r x ∧ sat W (B x ++ F) w)) : Cn Try.prog 37 [v0, v1] W A r B :=
  Cn.of (shape := bits_Reader_Raw v0 v1) Try.call37 (fun h => bits_Reader_Raw_calls h) h
theorem bits_Reader_Raw_cnP {v0 v1 : Value} {W : World} {α β : Type} {A : List HP} {r : α → Value} {B : α → List HP} {pc : β → List PanicEntry} {Bp : β → List HP} (h : ∀ F, Ent W (A ++ F) (bits_Reader_Raw v0 v1 (fun ch w => ∃ y, ch = pc y ∧ sat W (Bp y ++ F) w) fun v w => ∃ x, v = r x ∧ sat W (B x ++ F) w)) : CnP Try.prog 37 [v0, v1] W A r B pc Bp :=
  CnP.of (shape := bits_Reader_Raw v0 v1) Try.call37 (fun h => bits_Reader_Raw_calls h) h

/-- inflate_must -/
def inflate_must (v0 : Value) (Kp : PK) (K : Value → WP) : WP :=
  opN Try.prog (sEq .neq 28 (.tmp 2) (.const (.int .i64 0)) v0 (.int .i64 0)) Kp fun x3 =>
  condS x3
  (opN Try.prog (sMkI 28 v0) Kp fun x5 =>
   opN Try.prog (sPanic x5) Kp fun _ =>
   K (.tuple #[]))
  (K (.tuple #[]))
def inflate_must_an : Ann := { cuts := [], blks := [], loops := [], drs := [] }
theorem inflate_must_eq (v0 : Value) (Kp : PK) (K : Value → WP) : cevF Try.prog inflate_must_an Try.f38 [v0] Kp K = inflate_must v0 Kp K := by kernel_rfl
theorem inflate_must_calls {v0 : Value} {Kp : PK} {K : Value → WP} {w : World} (h : inflate_must v0 Kp K w) : Calls Try.prog 38 #[v0] w (after Kp K) :=
  calls_of_shape (calls_of_cev wide Try.func38 (an := inflate_must_an) (args := [v0]) (cast (congrFun (inflate_must_eq v0 Kp K) w).symm h))
theorem inflate_must_cn {v0 : Value} {W : World} {α : Type} {A : List HP} {r : α → Value} {B : α → List HP} (h : ∀ F, Ent W (A ++ F) (inflate_must v0 noP fun v w => ∃ x, v = r x ∧ sat W (B x ++ F) w)) : Cn Try.prog 38 [v0] W A r B :=
  Cn.of (shape := inflate_must v0) Try.call38 (fun h => inflate_must_calls h) h
theorem inflate_must_cnP {v0 : Value} {W : World} {α β : Type} {A : List HP} {r : α → Value} {B : α → List HP} {pc : β → List PanicEntry} {Bp : β → List HP} (h : ∀ F, Ent W (A ++ F) (inflate_must v0 (fun ch w => ∃ y, ch = pc y ∧ sat W (Bp y ++ F) w) fun v w => ∃ x, v = r x ∧ sat W (B x ++ F) w)) : CnP Try.prog 38 [v0] W A r B pc Bp :=
  CnP.of (shape := inflate_must v0) Try.call38 (fun h => inflate_must_calls h) h

/-- inflate_stream_symbols -/
def inflate_stream_symbols (v0 v1 v2 : Value) (Kp : PK) (K : Value → WP) : WP :=
  loop0 (fun I1 m1 _  =>
   opN Try.prog (sNil v0) Kp fun x13 =>
   opN Try.prog (sFA 69 x13 0) Kp fun x14 =>
   opN Try.prog (sLoad 66 x14) Kp fun x15 =>
   opN Try.prog (sCall (fn 47) [v1, x15]) Kp fun x16 =>
   opN Try.prog (sEq .eql 3 (.tmp 18) (.const (.int .i64 256)) x16 (.int .i64 256)) Kp fun x19 =>
   condS x19
   (K (.tuple #[]))
   (opN Try.prog (sBin .lss 3 x16 (.int .i64 256)) Kp fun x22 =>
    condS x22
    (opN Try.prog (sCall (fn 36) [v0, (.int .i64 1)]) Kp fun x24 =>
     opN Try.prog (sNil v0) Kp fun x27 =>
     opN Try.prog (sFA 69 x27 1) Kp fun x28 =>
     opN Try.prog (sLoad 27 x28) Kp fun x29 =>
     opN Try.prog (sConv 3 5 x16) Kp fun x31 =>
     opN Try.prog (sBuildSl 27 1 [(0, x31)]) Kp fun x32 =>
     opN Try.prog (sApp #[27, 27] 27 [x29, x32]) Kp fun x33 =>
     opN Try.prog (sNil v0) Kp fun x34 =>
     opN Try.prog (sFA 69 x34 1) Kp fun x35 =>
     opN Try.prog (sStore 27 x35 x33) Kp fun _ =>
     next0 I1 m1)
    (opN Try.prog (sCall (fn 22) [x16]) Kp fun x38 =>
     opN Try.prog (sExt x38 0) Kp fun x39 =>
     opN Try.prog (sExt x38 1) Kp fun x40 =>
     opN Try.prog (sBin .gtr 3 x39 (.int .i64 0)) Kp fun x42 =>
     opN Try.prog (sCall (fn 35) [x42, (.int .i64 30)]) Kp fun x43 =>
     opN Try.prog (sCall (fn 32) [v0, x40]) Kp fun x47 =>
     opN Try.prog (sBin .add 3 x39 x47) Kp fun x48 =>
     opN Try.prog (sNil v0) Kp fun x52 =>
     opN Try.prog (sFA 69 x52 0) Kp fun x53 =>
     opN Try.prog (sLoad 66 x53) Kp fun x54 =>
     opN Try.prog (sCall (fn 47) [v2, x54]) Kp fun x55 =>
     opN Try.prog (sCall (fn 23) [x55]) Kp fun x56 =>
     opN Try.prog (sExt x56 0) Kp fun x57 =>
     opN Try.prog (sExt x56 1) Kp fun x58 =>
     opN Try.prog (sBin .gtr 3 x57 (.int .i64 0)) Kp fun x60 =>
     opN Try.prog (sCall (fn 35) [x60, (.int .i64 30)]) Kp fun x61 =>
     opN Try.prog (sCall (fn 32) [v0, x58]) Kp fun x65 =>
     opN Try.prog (sBin .add 3 x57 x65) Kp fun x66 =>
     opN Try.prog (sNil v0) Kp fun x69 =>
     opN Try.prog (sFA 69 x69 1) Kp fun x70 =>
     opN Try.prog (sLoad 27 x70) Kp fun x71 =>
     opN Try.prog (sLen #[27] 3 [x71]) Kp fun x72 =>
     opN Try.prog (sBin .leq 3 x66 x72) Kp fun x73 =>
     opN Try.prog (sCall (fn 35) [x73, (.int .i64 31)]) Kp fun x74 =>
     opN Try.prog (sCall (fn 36) [v0, x48]) Kp fun x77 =>
     loop1 (fun I2 m2 _ y79 =>
      opN Try.prog (sBin .lss 3 y79 x48) Kp fun x80 =>
      condS x80
      (drS (stD Try.prog (sNil v0) fun D2 x83 =>
        stD Try.prog (sFA 69 x83 1) fun D3 x84 =>
        stD Try.prog (sLoad 27 x84) fun D4 x85 =>
        stS Try.prog (sNil v0) fun x87 =>
        stS Try.prog (sFA 69 x87 1) fun x88 =>
        stS Try.prog (sLoad 27 x88) fun x89 =>
        stS Try.prog (sNil v0) fun x91 =>
        stS Try.prog (sFA 69 x91 1) fun x92 =>
        stS Try.prog (sLoad 27 x92) fun x93 =>
        stS Try.prog (sLen #[27] 3 [x93]) fun x94 =>
        stS Try.prog (sBin .sub 3 x94 x66) fun x96 =>
        stS Try.prog (sIA 27 x89 x96) fun x97 =>
        stS Try.prog (sLoad 5 x97) fun x98 =>
        opN Try.prog (sBuildSl 27 1 [(0, x98)]) Kp fun x99 =>
        (fun w => D4 w ∧ (fun w => D3 w ∧ (fun w => D2 w ∧ (opN Try.prog (sApp #[27, 27] 27 [x85, x99]) Kp fun x100 =>
            stS Try.prog (sNil v0) fun x101 =>
            stS Try.prog (sFA 69 x101 1) fun x102 =>
            opN Try.prog (sStore 27 x102 x100) Kp fun _ =>
            opN Try.prog (sBin .add 3 y79 (.int .i64 1)) Kp fun x103 =>
            next1 I2 m2 x103) w) w) w)))
      (next0 I1 m1)) (.int .i64 0))))
def inflate_stream_symbols_an : Ann := { cuts := [], blks := [], loops := [(0, []), (14, [79])], drs := [(15, [(0, 2), (1, 2), (2, 3), (3, 3), (4, 3), (5, 1), (6, 1), (7, 1), (8, 1), (9, 1), (10, 1), (11, 1), (12, 1), (13, 1), (14, 1), (15, 1), (16, 1), (17, 1), (18, 0), (19, 0), (20, 1), (21, 1), (22, 0)])] }
theorem inflate_stream_symbols_eq (v0 v1 v2 : Value) (Kp : PK) (K : Value → WP) : cevF Try.prog inflate_stream_symbols_an Try.f39 [v0, v1, v2] Kp K = inflate_stream_symbols v0 v1 v2 Kp K := by kernel_rfl
theorem inflate_stream_symbols_calls {v0 v1 v2 : Value} {Kp : PK} {K : Value → WP} {w : World} (h : inflate_stream_symbols v0 v1 v2 Kp K w) : Calls Try.prog 39 #[v0, v1, v2] w (after Kp K) :=
  calls_of_shape (calls_of_cev wide Try.func39 (an := inflate_stream_symbols_an) (args := [v0, v1, v2]) (cast (congrFun (inflate_stream_symbols_eq v0 v1 v2 Kp K) w).symm h))
theorem inflate_stream_symbols_cn {v0 v1 v2 : Value} {W : World} {α : Type} {A : List HP} {r : α → Value} {B : α → List HP} (h : ∀ F, Ent W (A ++ F) (inflate_stream_symbols v0 v1 v2 noP fun v w => ∃ x, v = r x ∧ sat W (B x ++ F) w)) : Cn Try.prog 39 [v0, v1, v2] W A r B :=
  Cn.of (shape := inflate_stream_symbols v0 v1 v2) Try.call39 (fun h => inflate_stream_symbols_calls h) h
theorem inflate_stream_symbols_cnP {v0 v1 v2 : Value} {W : World} {α β : Type} {A : List HP} {r : α → Value} {B : α → List HP} {pc : β → List PanicEntry} {Bp : β → List HP} (h : ∀ F, Ent W (A ++ F) (inflate_stream_symbols v0 v1 v2 (fun ch w => ∃ y, ch = pc y ∧ sat W (Bp y ++ F) w) fun v w => ∃ x, v = r x ∧ sat W (B x ++ F) w)) : CnP Try.prog 39 [v0, v1, v2] W A r B pc Bp :=
  CnP.of (shape := inflate_stream_symbols v0 v1 v2) Try.call39 (fun h => inflate_stream_symbols_calls h) h

/-- inflate_decoder -/
def inflate_decoder (v0 : Value) (Kp : PK) (K : Value → WP) : WP :=
  opN Try.prog (sCall (fn 48) [v0]) Kp fun x7 =>
  opN Try.prog (sExt x7 0) Kp fun x8 =>
  opN Try.prog (sExt x7 1) Kp fun x9 =>
  opN Try.prog (sCall (fn 38) [x9]) Kp fun x11 =>
  K x8
def inflate_decoder_an : Ann := { cuts := [], blks := [], loops := [], drs := [] }
theorem inflate_decoder_eq (v0 : Value) (Kp : PK) (K : Value → WP) : cevF Try.prog inflate_decoder_an Try.f40 [v0] Kp K = inflate_decoder v0 Kp K := by kernel_rfl
theorem inflate_decoder_calls {v0 : Value} {Kp : PK} {K : Value → WP} {w : World} (h : inflate_decoder v0 Kp K w) : Calls Try.prog 40 #[v0] w (after Kp K) :=
  calls_of_shape (calls_of_cev wide Try.func40 (an := inflate_decoder_an) (args := [v0]) (cast (congrFun (inflate_decoder_eq v0 Kp K) w).symm h))
theorem inflate_decoder_cn {v0 : Value} {W : World} {α : Type} {A : List HP} {r : α → Value} {B : α → List HP} (h : ∀ F, Ent W (A ++ F) (inflate_decoder v0 noP fun v w => ∃ x, v = r x ∧ sat W (B x ++ F) w)) : Cn Try.prog 40 [v0] W A r B :=
  Cn.of (shape := inflate_decoder v0) Try.call40 (fun h => inflate_decoder_calls h) h
theorem inflate_decoder_cnP {v0 : Value} {W : World} {α β : Type} {A : List HP} {r : α → Value} {B : α → List HP} {pc : β → List PanicEntry} {Bp : β → List HP} (h : ∀ F, Ent W (A ++ F) (inflate_decoder v0 (fun ch w => ∃ y, ch = pc y ∧ sat W (Bp y ++ F) w) fun v w => ∃ x, v = r x ∧ sat W (B x ++ F) w)) : CnP Try.prog 40 [v0] W A r B pc Bp :=
  CnP.of (shape := inflate_decoder v0) Try.call40 (fun h => inflate_decoder_calls h) h

/-- huff_Full -/
def huff_Full (v0 : Value) (Kp : PK) (K : Value → WP) : WP :=
  opN Try.prog (sCall (fn 17) [v0]) Kp fun x10 =>
  opN Try.prog (sExt x10 0) Kp fun x11 =>
  opN Try.prog (sExt x10 1) Kp fun x12 =>
  opN Try.prog (sAlloc 49) Kp fun x3 =>
  opN Try.prog (sStore 49 x3 x11) Kp fun _ =>
  opN Try.prog (sSl 49 x3 (some (.int .i64 1)) none none) Kp fun x13 =>
  opN Try.prog (sLen #[31] 3 [x13]) Kp fun x14 =>
  loop2 (fun I1 m1 _ y5 y15 =>
   opN Try.prog (sBin .lss 3 y15 x14) Kp fun x16 =>
   condS x16
   (opN Try.prog (sIA 31 x13 y15) Kp fun x17 =>
    opN Try.prog (sLoad 3 x17) Kp fun x18 =>
    opN Try.prog (sBin .mul 3 (.int .i64 2) y5) Kp fun x20 =>
    opN Try.prog (sBin .sub 3 x20 x18) Kp fun x22 =>
    opN Try.prog (sBin .add 3 y15 (.int .i64 1)) Kp fun x23 =>
    next2 I1 m1 x22 x23)
   (gdK x12 true (fun k => k y5) fun x26 =>
    gdK x12 true (opN Try.prog (sEq .eql 3 (.tmp 26) (.const (.int .i64 0)) x26 (.int .i64 0)) Kp) fun x27 =>
    opN Try.prog (sPick x12 x27 (.bool false)) Kp fun x28 =>
    K x28)) (.int .i64 1) (.int .i64 0)
def huff_Full_an : Ann := { cuts := [], blks := [], loops := [(4, [5, 15])], drs := [] }
theorem huff_Full_eq (v0 : Value) (Kp : PK) (K : Value → WP) : cevF Try.prog huff_Full_an Try.f41 [v0] Kp K = huff_Full v0 Kp K := by kernel_rfl
theorem huff_Full_calls {v0 : Value} {Kp : PK} {K : Value → WP} {w : World} (h : huff_Full v0 Kp K w) : Calls Try.prog 41 #[v0] w (after Kp K) :=
  calls_of_shape (calls_of_cev wide Try.func41 (an := huff_Full_an) (args := [v0]) (cast (congrFun (huff_Full_eq v0 Kp K) w).symm h))
theorem huff_Full_cn {v0 : Value} {W : World} {α : Type} {A : List HP} {r : α → Value} {B : α → List HP} (h : ∀ F, Ent W (A ++ F) (huff_Full v0 noP fun v w => ∃ x, v = r x ∧ sat W (B x ++ F) w)) : Cn Try.prog 41 [v0] W A r B :=
  Cn.of (shape := huff_Full v0) Try.call41 (fun h => huff_Full_calls h) h
theorem huff_Full_cnP {v0 : Value} {W : World} {α β : Type} {A : List HP} {r : α → Value} {B : α → List HP} {pc : β → List PanicEntry} {Bp : β → List HP} (h : ∀ F, Ent W (A ++ F) (huff_Full v0 (fun ch w => ∃ y, ch = pc y ∧ sat W (Bp y ++ F) w) fun v w => ∃ x, v = r x ∧ sat W (B x ++ F) w)) : CnP Try.prog 41 [v0] W A r B pc Bp :=
  CnP.of (shape := huff_Full v0) Try.call41 (fun h => huff_Full_calls h) h

/-- inflate_stream_row -/
def inflate_stream_row (v0 v1 v2 : Value) (Kp : PK) (K : Value → WP) : WP :=
  loop1 (fun I1 m1 _ y7 =>
   opN Try.prog (sLen #[31] 3 [y7]) Kp fun x11 =>
   opN Try.prog (sBin .lss 3 x11 v2) Kp fun x13 =>
   condS x13
   (opN Try.prog (sNil v0) Kp fun x16 =>
    opN Try.prog (sFA 69 x16 0) Kp fun x17 =>
    opN Try.prog (sLoad 66 x17) Kp fun x18 =>
    opN Try.prog (sCall (fn 47) [v1, x18]) Kp fun x19 =>
    cut2 (fun J1 =>
     opN Try.prog (sEq .eql 3 (.tmp 20) (.const (.int .i64 16)) x19 (.int .i64 16)) Kp fun x22 =>
     condS x22
     (opN Try.prog (sCall (fn 32) [v0, (.int .i64 2)]) Kp fun x24 =>
      opN Try.prog (sBin .add 3 (.int .i64 3) x24) Kp fun x25 =>
      opN Try.prog (sLen #[31] 3 [y7]) Kp fun x27 =>
      opN Try.prog (sBin .gtr 3 x27 (.int .i64 0)) Kp fun x28 =>
      opN Try.prog (sCall (fn 35) [x28, (.int .i64 30)]) Kp fun x29 =>
      opN Try.prog (sLen #[31] 3 [y7]) Kp fun x32 =>
      opN Try.prog (sBin .sub 3 x32 (.int .i64 1)) Kp fun x33 =>
      opN Try.prog (sIA 31 y7 x33) Kp fun x34 =>
      opN Try.prog (sLoad 3 x34) Kp fun x35 =>
      J1 x35 x25)
     (opN Try.prog (sEq .eql 3 (.tmp 20) (.const (.int .i64 17)) x19 (.int .i64 17)) Kp fun x37 =>
      condS x37
      (opN Try.prog (sCall (fn 32) [v0, (.int .i64 3)]) Kp fun x39 =>
       opN Try.prog (sBin .add 3 (.int .i64 3) x39) Kp fun x40 =>
       J1 (.int .i64 0) x40)
      (opN Try.prog (sEq .eql 3 (.tmp 20) (.const (.int .i64 18)) x19 (.int .i64 18)) Kp fun x42 =>
       condS x42
       (opN Try.prog (sCall (fn 32) [v0, (.int .i64 7)]) Kp fun x44 =>
        opN Try.prog (sBin .add 3 (.int .i64 11) x44) Kp fun x45 =>
        J1 (.int .i64 0) x45)
       (J1 x19 (.int .i64 1))))) fun _ z8 z9 =>
    opN Try.prog (sLen #[31] 3 [y7]) Kp fun x49 =>
    opN Try.prog (sBin .sub 3 v2 x49) Kp fun x50 =>
    opN Try.prog (sBin .leq 3 z9 x50) Kp fun x51 =>
    opN Try.prog (sCall (fn 35) [x51, (.int .i64 30)]) Kp fun x52 =>
    loop2 (fun I2 m2 _ y7_2 y54 =>
     opN Try.prog (sBin .lss 3 y54 z9) Kp fun x55 =>
     condS x55
     (opN Try.prog (sBuildSl 31 1 [(0, z8)]) Kp fun x58 =>
      opN Try.prog (sApp #[31, 31] 31 [y7_2, x58]) Kp fun x59 =>
      opN Try.prog (sBin .add 3 y54 (.int .i64 1)) Kp fun x60 =>
      next2 I2 m2 x59 x60)
     (next1 I1 m1 y7_2)) y7 (.int .i64 0))
   (K y7)) (.slice none 0 0)
def inflate_stream_row_an : Ann := { cuts := [(14, [8, 9])], blks := [], loops := [(2, [7]), (16, [7, 54])], drs := [] }
theorem inflate_stream_row_eq (v0 v1 v2 : Value) (Kp : PK) (K : Value → WP) : cevF Try.prog inflate_stream_row_an Try.f42 [v0, v1, v2] Kp K = inflate_stream_row v0 v1 v2 Kp K := by kernel_rfl
theorem inflate_stream_row_calls {v0 v1 v2 : Value} {Kp : PK} {K : Value → WP} {w : World} (h : inflate_stream_row v0 v1 v2 Kp K w) : Calls Try.prog 42 #[v0, v1, v2] w (after Kp K) :=
  calls_of_shape (calls_of_cev wide Try.func42 (an := inflate_stream_row_an) (args := [v0, v1, v2]) (cast (congrFun (inflate_stream_row_eq v0 v1 v2 Kp K) w).symm h))
theorem inflate_stream_row_cn {v0 v1 v2 : Value} {W : World} {α : Type} {A : List HP} {r : α → Value} {B : α → List HP} (h : ∀ F, Ent W (A ++ F) (inflate_stream_row v0 v1 v2 noP fun v w => ∃ x, v = r x ∧ sat W (B x ++ F) w)) : Cn Try.prog 42 [v0, v1, v2] W A r B :=
  Cn.of (shape := inflate_stream_row v0 v1 v2) Try.call42 (fun h => inflate_stream_row_calls h) h
theorem inflate_stream_row_cnP {v0 v1 v2 : Value} {W : World} {α β : Type} {A : List HP} {r : α → Value} {B : α → List HP} {pc : β → List PanicEntry} {Bp : β → List HP} (h : ∀ F, Ent W (A ++ F) (inflate_stream_row v0 v1 v2 (fun ch w => ∃ y, ch = pc y ∧ sat W (Bp y ++ F) w) fun v w => ∃ x, v = r x ∧ sat W (B x ++ F) w)) : CnP Try.prog 42 [v0, v1, v2] W A r B pc Bp :=
  CnP.of (shape := inflate_stream_row v0 v1 v2) Try.call42 (fun h => inflate_stream_row_calls h) h

/-- inflate_enough -/
def inflate_enough (v0 : Value) (Kp : PK) (K : Value → WP) : WP :=
  opN Try.prog (sLen #[31] 3 [v0]) Kp fun x8 =>
  loop3 (fun I1 m1 _ y3 y4 y9 =>
   opN Try.prog (sBin .lss 3 y9 x8) Kp fun x10 =>
   condS x10
   (opN Try.prog (sIA 31 v0 y9) Kp fun x11 =>
    opN Try.prog (sLoad 3 x11) Kp fun x12 =>
    opN Try.prog (sBin .gtr 3 x12 (.int .i64 0)) Kp fun x14 =>
    condS x14
    (opN Try.prog (sBin .add 3 y3 (.int .i64 1)) Kp fun x16 =>
     opN Try.prog (sBin .add 3 y4 x12) Kp fun x19 =>
     opN Try.prog (sBin .add 3 y9 (.int .i64 1)) Kp fun x20 =>
     next3 I1 m1 x16 x19 x20)
    (opN Try.prog (sBin .add 3 y9 (.int .i64 1)) Kp fun x20 =>
     next3 I1 m1 y3 y4 x20))
   (opN Try.prog (sEq .eql 3 (.tmp 21) (.const (.int .i64 0)) y3 (.int .i64 0)) Kp fun x22 =>
    gdK x22 false (fun k => k y3) fun x24 =>
    gdK x22 false (opN Try.prog (sEq .eql 3 (.tmp 24) (.const (.int .i64 1)) x24 (.int .i64 1)) Kp) fun x25 =>
    gdK x22 false (fun k => k x25) fun x26 =>
    gdK x26 true (fun k => k y4) fun x27 =>
    gdK x26 true (opN Try.prog (sEq .eql 3 (.tmp 27) (.const (.int .i64 1)) x27 (.int .i64 1)) Kp) fun x28 =>
    gdK x22 false (opN Try.prog (sPick x26 x28 (.bool false)) Kp) fun x29 =>
    opN Try.prog (sPick x22 (.bool true) x29) Kp fun x30 =>
    gdK x30 false (fun k => k v0) fun x32 =>
    gdK x30 false (opN Try.prog (sCall (fn 41) [x32]) Kp) fun x33 =>
    opN Try.prog (sPick x30 (.bool true) x33) Kp fun x34 =>
    K x34)) (.int .i64 0) (.int .i64 0) (.int .i64 0)
def inflate_enough_an : Ann := { cuts := [], blks := [], loops := [(3, [3, 4, 9])], drs := [] }
theorem inflate_enough_eq (v0 : Value) (Kp : PK) (K : Value → WP) : cevF Try.prog inflate_enough_an Try.f43 [v0] Kp K = inflate_enough v0 Kp K := by kernel_rfl
theorem inflate_enough_calls {v0 : Value} {Kp : PK} {K : Value → WP} {w : World} (h : inflate_enough v0 Kp K w) : Calls Try.prog 43 #[v0] w (after Kp K) :=
  calls_of_shape (calls_of_cev wide Try.func43 (an := inflate_enough_an) (args := [v0]) (cast (congrFun (inflate_enough_eq v0 Kp K) w).symm h))
theorem inflate_enough_cn {v0 : Value} {W : World} {α : Type} {A : List HP} {r : α → Value} {B : α → List HP} (h : ∀ F, Ent W (A ++ F) (inflate_enough v0 noP fun v w => ∃ x, v = r x ∧ sat W (B x ++ F) w)) : Cn Try.prog 43 [v0] W A r B :=
  Cn.of (shape := inflate_enough v0) Try.call43 (fun h => inflate_enough_calls h) h
theorem inflate_enough_cnP {v0 : Value} {W : World} {α β : Type} {A : List HP} {r : α → Value} {B : α → List HP} {pc : β → List PanicEntry} {Bp : β → List HP} (h : ∀ F, Ent W (A ++ F) (inflate_enough v0 (fun ch w => ∃ y, ch = pc y ∧ sat W (Bp y ++ F) w) fun v w => ∃ x, v = r x ∧ sat W (B x ++ F) w)) : CnP Try.prog 43 [v0] W A r B pc Bp :=
  CnP.of (shape := inflate_enough v0) Try.call43 (fun h => inflate_enough_calls h) h

/-- bits_Reader_Take -/
def bits_Reader_Take (v0 v1 : Value) (Kp : PK) (K : Value → WP) : WP :=
  cut1 (fun J1 =>
   opN Try.prog (sCall (fn 45) [v0]) Kp fun x10 =>
   condS x10
   (J1 x10)
   (opN Try.prog (sBin .lss 3 v1 (.int .i64 0)) Kp fun x12 =>
    condS x12
    (J1 x12)
    (opN Try.prog (sBin .gtr 3 v1 (.int .i64 32)) Kp fun x14 =>
     J1 x14))) fun _ z8 =>
  condS z8
  (K (.tuple #[(.int .i64 0), (.int .i64 1)]))
  (opN Try.prog (sNil v0) Kp fun x18 =>
   opN Try.prog (sFA 79 x18 0) Kp fun x19 =>
   opN Try.prog (sCall (fn 46) [x19]) Kp fun x20 =>
   opN Try.prog (sBin .gtr 3 v1 x20) Kp fun x21 =>
   condS x21
   (K (.tuple #[(.int .i64 0), (.int .i64 20)]))
   (loop2 (fun I1 m1 _ y6 y23 =>
     opN Try.prog (sBin .lss 3 y23 v1) Kp fun x24 =>
     condS x24
     (opN Try.prog (sNil v0) Kp fun x28 =>
      opN Try.prog (sFA 79 x28 0) Kp fun x29 =>
      opN Try.prog (sCall (fn 49) [x29]) Kp fun x30 =>
      opN Try.prog (sConv 3 52 y23) Kp fun x32 =>
      opN Try.prog (sBin .shl 3 x30 x32) Kp fun x33 =>
      opN Try.prog (sBin .or 3 y6 x33) Kp fun x34 =>
      opN Try.prog (sBin .add 3 y23 (.int .i64 1)) Kp fun x35 =>
      next2 I1 m1 x34 x35)
     (K (.tuple #[y6, (.int .i64 0)]))) (.int .i64 0) (.int .i64 0)))
def bits_Reader_Take_an : Ann := { cuts := [(4, [8])], blks := [], loops := [(9, [6, 23])], drs := [] }
theorem bits_Reader_Take_eq (v0 v1 : Value) (Kp : PK) (K : Value → WP) : cevF Try.prog bits_Reader_Take_an Try.f44 [v0, v1] Kp K = bits_Reader_Take v0 v1 Kp K := by kernel_rfl
theorem bits_Reader_Take_calls {v0 v1 : Value} {Kp : PK} {K : Value → WP} {w : World} (h : bits_Reader_Take v0 v1 Kp K w) : Calls Try.prog 44 #[v0, v1] w (after Kp K) :=
  calls_of_shape (calls_of_cev wide Try.func44 (an := bits_Reader_Take_an) (args := [v0, v1]) (cast (congrFun (bits_Reader_Take_eq v0 v1 Kp K) w).symm h))
theorem bits_Reader_Take_cn {v0 v1 : Value} {W : World} {α : Type} {A : List HP} {r : α → Value} {B : α → List HP} (h : ∀ F, Ent W (A ++ F) (bits_Reader_Take v0 v1 noP fun v w => ∃ x, v = r x ∧ sat W (B x ++ F) w)) : Cn Try.prog 44 [v0, v1] W A r B :=
  Cn.of (shape := bits_Reader_Take v0 v1) Try.call44 (fun h => bits_Reader_Take_calls h) h
theorem bits_Reader_Take_cnP {v0 v1 : Value} {W : World} {α β : Type} {A : List HP} {r : α → Value} {B : α → List HP} {pc : β → List PanicEntry} {Bp : β → List HP} (h : ∀ F, Ent W (A ++ F) (bits_Reader_Take v0 v1 (fun ch w => ∃ y, ch = pc y ∧ sat W (Bp y ++ F) w) fun v w => ∃ x, v = r x ∧ sat W (B x ++ F) w)) : CnP Try.prog 44 [v0, v1] W A r B pc Bp :=
  CnP.of (shape := bits_Reader_Take v0 v1) Try.call44 (fun h => bits_Reader_Take_calls h) h

/-- bits_Reader_none -/
def bits_Reader_none (v0 : Value) (Kp : PK) (K : Value → WP) : WP :=
  opN Try.prog (sEq .eql 66 (.tmp 3) (.const (.pointer none)) v0 (.pointer none)) Kp fun x4 =>
  gdK x4 false (fun k => k v0) fun x6 =>
  gdK x4 false (opN Try.prog (sNil x6) Kp) fun x7 =>
  gdK x4 false (opN Try.prog (sFA 79 x7 1) Kp) fun x8 =>
  gdK x4 false (opN Try.prog (sLoad 4 x8) Kp) fun x9 =>
  gdK x4 false (opN Try.prog (sUn .not x9) Kp) fun x10 =>
  opN Try.prog (sPick x4 (.bool true) x10) Kp fun x11 =>
  K x11
def bits_Reader_none_an : Ann := { cuts := [], blks := [], loops := [], drs := [] }
theorem bits_Reader_none_eq (v0 : Value) (Kp : PK) (K : Value → WP) : cevF Try.prog bits_Reader_none_an Try.f45 [v0] Kp K = bits_Reader_none v0 Kp K := by kernel_rfl
theorem bits_Reader_none_calls {v0 : Value} {Kp : PK} {K : Value → WP} {w : World} (h : bits_Reader_none v0 Kp K w) : Calls Try.prog 45 #[v0] w (after Kp K) :=
  calls_of_shape (calls_of_cev wide Try.func45 (an := bits_Reader_none_an) (args := [v0]) (cast (congrFun (bits_Reader_none_eq v0 Kp K) w).symm h))
theorem bits_Reader_none_cn {v0 : Value} {W : World} {α : Type} {A : List HP} {r : α → Value} {B : α → List HP} (h : ∀ F, Ent W (A ++ F) (bits_Reader_none v0 noP fun v w => ∃ x, v = r x ∧ sat W (B x ++ F) w)) : Cn Try.prog 45 [v0] W A r B :=
  Cn.of (shape := bits_Reader_none v0) Try.call45 (fun h => bits_Reader_none_calls h) h
theorem bits_Reader_none_cnP {v0 : Value} {W : World} {α β : Type} {A : List HP} {r : α → Value} {B : α → List HP} {pc : β → List PanicEntry} {Bp : β → List HP} (h : ∀ F, Ent W (A ++ F) (bits_Reader_none v0 (fun ch w => ∃ y, ch = pc y ∧ sat W (Bp y ++ F) w) fun v w => ∃ x, v = r x ∧ sat W (B x ++ F) w)) : CnP Try.prog 45 [v0] W A r B pc Bp :=
  CnP.of (shape := bits_Reader_none v0) Try.call45 (fun h => bits_Reader_none_calls h) h

/-- bits_source_left -/
def bits_source_left (v0 : Value) (Kp : PK) (K : Value → WP) : WP :=
  drS (stS Try.prog (sNil v0) fun x4 =>
   stS Try.prog (sFA 77 x4 0) fun x5 =>
   stS Try.prog (sLoad 27 x5) fun x6 =>
   stS Try.prog (sLen #[27] 3 [x6]) fun x7 =>
   stS Try.prog (sBin .mul 3 (.int .i64 8) x7) fun x8 =>
   stS Try.prog (sNil v0) fun x10 =>
   stS Try.prog (sFA 77 x10 1) fun x11 =>
   stS Try.prog (sLoad 3 x11) fun x12 =>
   stS Try.prog (sBin .sub 3 x8 x12) fun x13 =>
   K x13)
def bits_source_left_an : Ann := { cuts := [], blks := [], loops := [], drs := [(1, [(0, 1), (1, 1), (2, 1), (3, 1), (4, 1), (5, 1), (6, 1), (7, 1), (8, 1), (9, 1), (10, 1), (11, 1)])] }
theorem bits_source_left_eq (v0 : Value) (Kp : PK) (K : Value → WP) : cevF Try.prog bits_source_left_an Try.f46 [v0] Kp K = bits_source_left v0 Kp K := by kernel_rfl
theorem bits_source_left_calls {v0 : Value} {Kp : PK} {K : Value → WP} {w : World} (h : bits_source_left v0 Kp K w) : Calls Try.prog 46 #[v0] w (after Kp K) :=
  calls_of_shape (calls_of_cev wide Try.func46 (an := bits_source_left_an) (args := [v0]) (cast (congrFun (bits_source_left_eq v0 Kp K) w).symm h))
theorem bits_source_left_cn {v0 : Value} {W : World} {α : Type} {A : List HP} {r : α → Value} {B : α → List HP} (h : ∀ F, Ent W (A ++ F) (bits_source_left v0 noP fun v w => ∃ x, v = r x ∧ sat W (B x ++ F) w)) : Cn Try.prog 46 [v0] W A r B :=
  Cn.of (shape := bits_source_left v0) Try.call46 (fun h => bits_source_left_calls h) h
theorem bits_source_left_cnP {v0 : Value} {W : World} {α β : Type} {A : List HP} {r : α → Value} {B : α → List HP} {pc : β → List PanicEntry} {Bp : β → List HP} (h : ∀ F, Ent W (A ++ F) (bits_source_left v0 (fun ch w => ∃ y, ch = pc y ∧ sat W (Bp y ++ F) w) fun v w => ∃ x, v = r x ∧ sat W (B x ++ F) w)) : CnP Try.prog 46 [v0] W A r B pc Bp :=
  CnP.of (shape := bits_source_left v0) Try.call46 (fun h => bits_source_left_calls h) h

/-- inflate_next -/
def inflate_next (v0 v1 : Value) (Kp : PK) (K : Value → WP) : WP :=
  opN Try.prog (sCall (fn 50) [v0, v1]) Kp fun x10 =>
  opN Try.prog (sExt x10 0) Kp fun x11 =>
  opN Try.prog (sExt x10 1) Kp fun x12 =>
  opN Try.prog (sCall (fn 38) [x12]) Kp fun x14 =>
  K x11
def inflate_next_an : Ann := { cuts := [], blks := [], loops := [], drs := [] }
theorem inflate_next_eq (v0 v1 : Value) (Kp : PK) (K : Value → WP) : cevF Try.prog inflate_next_an Try.f47 [v0, v1] Kp K = inflate_next v0 v1 Kp K := by kernel_rfl
theorem inflate_next_calls {v0 v1 : Value} {Kp : PK} {K : Value → WP} {w : World} (h : inflate_next v0 v1 Kp K w) : Calls Try.prog 47 #[v0, v1] w (after Kp K) :=
  calls_of_shape (calls_of_cev wide Try.func47 (an := inflate_next_an) (args := [v0, v1]) (cast (congrFun (inflate_next_eq v0 v1 Kp K) w).symm h))
theorem inflate_next_cn {v0 v1 : Value} {W : World} {α : Type} {A : List HP} {r : α → Value} {B : α → List HP} (h : ∀ F, Ent W (A ++ F) (inflate_next v0 v1 noP fun v w => ∃ x, v = r x ∧ sat W (B x ++ F) w)) : Cn Try.prog 47 [v0, v1] W A r B :=
  Cn.of (shape := inflate_next v0 v1) Try.call47 (fun h => inflate_next_calls h) h
theorem inflate_next_cnP {v0 v1 : Value} {W : World} {α β : Type} {A : List HP} {r : α → Value} {B : α → List HP} {pc : β → List PanicEntry} {Bp : β → List HP} (h : ∀ F, Ent W (A ++ F) (inflate_next v0 v1 (fun ch w => ∃ y, ch = pc y ∧ sat W (Bp y ++ F) w) fun v w => ∃ x, v = r x ∧ sat W (B x ++ F) w)) : CnP Try.prog 47 [v0, v1] W A r B pc Bp :=
  CnP.of (shape := inflate_next v0 v1) Try.call47 (fun h => inflate_next_calls h) h

/-- huff_NewDecoder -/
def huff_NewDecoder (v0 : Value) (Kp : PK) (K : Value → WP) : WP :=
  opN Try.prog (sCall (fn 6) [v0]) Kp fun x11 =>
  opN Try.prog (sExt x11 0) Kp fun x12 =>
  opN Try.prog (sExt x11 1) Kp fun x13 =>
  opN Try.prog (sEq .neq 28 (.tmp 14) (.const (.int .i64 0)) x13 (.int .i64 0)) Kp fun x15 =>
  condS x15
  (K (.tuple #[(.pointer none), x13]))
  (opN Try.prog (sMkMap 97 none) Kp fun x17 =>
   opN Try.prog (sBuild 99 [(0, x17)]) Kp fun x18 =>
   opN Try.prog (sBox 99 x18) Kp fun x19 =>
   opN Try.prog (sLen #[31] 3 [v0]) Kp fun x21 =>
   loop1 (fun I1 m1 _ y22 =>
    opN Try.prog (sBin .lss 3 y22 x21) Kp fun x23 =>
    condS x23
    (opN Try.prog (sIA 31 v0 y22) Kp fun x25 =>
     opN Try.prog (sLoad 3 x25) Kp fun x26 =>
     opN Try.prog (sBin .gtr 3 x26 (.int .i64 0)) Kp fun x28 =>
     condS x28
     (drS (stS Try.prog (sNil x19) fun x30 =>
       stS Try.prog (sFA 99 x30 0) fun x31 =>
       stS Try.prog (sLoad 97 x31) fun x32 =>
       stS Try.prog (sIA 31 x12 y22) fun x36 =>
       stS Try.prog (sLoad 3 x36) fun x37 =>
       stS Try.prog (sBuild 101 [(0, x26), (1, x37)]) fun x38 =>
       opN Try.prog (sMapSet 97 x32 x38 y22) Kp fun _ =>
       opN Try.prog (sBin .add 3 y22 (.int .i64 1)) Kp fun x40 =>
       next1 I1 m1 x40))
     (opN Try.prog (sBin .add 3 y22 (.int .i64 1)) Kp fun x40 =>
      next1 I1 m1 x40))
    (K (.tuple #[x19, (.int .i64 0)]))) (.int .i64 0))
def huff_NewDecoder_an : Ann := { cuts := [], blks := [], loops := [(6, [22])], drs := [(9, [(0, 1), (1, 1), (2, 1), (3, 1), (4, 1), (5, 1), (6, 1), (7, 1), (8, 1), (9, 1), (10, 1), (11, 0)])] }
theorem huff_NewDecoder_eq (v0 : Value) (Kp : PK) (K : Value → WP) : cevF Try.prog huff_NewDecoder_an Try.f48 [v0] Kp K = huff_NewDecoder v0 Kp K := by kernel_rfl
theorem huff_NewDecoder_calls {v0 : Value} {Kp : PK} {K : Value → WP} {w : World} (h : huff_NewDecoder v0 Kp K w) : Calls Try.prog 48 #[v0] w (after Kp K) :=
  calls_of_shape (calls_of_cev wide Try.func48 (an := huff_NewDecoder_an) (args := [v0]) (cast (congrFun (huff_NewDecoder_eq v0 Kp K) w).symm h))
theorem huff_NewDecoder_cn {v0 : Value} {W : World} {α : Type} {A : List HP} {r : α → Value} {B : α → List HP} (h : ∀ F, Ent W (A ++ F) (huff_NewDecoder v0 noP fun v w => ∃ x, v = r x ∧ sat W (B x ++ F) w)) : Cn Try.prog 48 [v0] W A r B :=
  Cn.of (shape := huff_NewDecoder v0) Try.call48 (fun h => huff_NewDecoder_calls h) h
theorem huff_NewDecoder_cnP {v0 : Value} {W : World} {α β : Type} {A : List HP} {r : α → Value} {B : α → List HP} {pc : β → List PanicEntry} {Bp : β → List HP} (h : ∀ F, Ent W (A ++ F) (huff_NewDecoder v0 (fun ch w => ∃ y, ch = pc y ∧ sat W (Bp y ++ F) w) fun v w => ∃ x, v = r x ∧ sat W (B x ++ F) w)) : CnP Try.prog 48 [v0] W A r B pc Bp :=
  CnP.of (shape := huff_NewDecoder v0) Try.call48 (fun h => huff_NewDecoder_calls h) h

/-- bits_source_bit -/
def bits_source_bit (v0 : Value) (Kp : PK) (K : Value → WP) : WP :=
  drS (stS Try.prog (sNil v0) fun x5 =>
   stS Try.prog (sFA 77 x5 0) fun x6 =>
   stS Try.prog (sLoad 27 x6) fun x7 =>
   stS Try.prog (sNil v0) fun x9 =>
   stS Try.prog (sFA 77 x9 1) fun x10 =>
   stS Try.prog (sLoad 3 x10) fun x11 =>
   stS Try.prog (sBin .quo 3 x11 (.int .i64 8)) fun x12 =>
   stS Try.prog (sIA 27 x7 x12) fun x13 =>
   stS Try.prog (sLoad 5 x13) fun x14 =>
   stS Try.prog (sNil v0) fun x16 =>
   stS Try.prog (sFA 77 x16 1) fun x17 =>
   stS Try.prog (sLoad 3 x17) fun x18 =>
   stS Try.prog (sBin .rem 3 x18 (.int .i64 8)) fun x19 =>
   stS Try.prog (sConv 3 52 x19) fun x20 =>
   stS Try.prog (sBin .shr 5 x14 x20) fun x21 =>
   stS Try.prog (sBin .and 5 x21 (.int .u8 1)) fun x22 =>
   stS Try.prog (sConv 5 3 x22) fun x23 =>
   opN Try.prog (sNil v0) Kp fun x25 =>
   opN Try.prog (sFA 77 x25 1) Kp fun x26 =>
   opN Try.prog (sLoad 3 x26) Kp fun x27 =>
   opN Try.prog (sBin .add 3 x27 (.int .i64 1)) Kp fun x28 =>
   opN Try.prog (sNil v0) Kp fun x29 =>
   opN Try.prog (sFA 77 x29 1) Kp fun x30 =>
   opN Try.prog (sStore 3 x30 x28) Kp fun _ =>
   K x23)
def bits_source_bit_an : Ann := { cuts := [], blks := [], loops := [], drs := [(1, [(0, 1), (1, 1), (2, 1), (3, 1), (4, 1), (5, 1), (6, 1), (7, 1), (8, 1), (9, 1), (10, 1), (11, 1), (12, 1), (13, 1), (14, 1), (15, 1), (16, 1), (17, 1), (18, 1), (19, 1), (20, 1)])] }
theorem bits_source_bit_eq (v0 : Value) (Kp : PK) (K : Value → WP) : cevF Try.prog bits_source_bit_an Try.f49 [v0] Kp K = bits_source_bit v0 Kp K := by kernel_rfl
theorem bits_source_bit_calls {v0 : Value} {Kp : PK} {K : Value → WP} {w : World} (h : bits_source_bit v0 Kp K w) : Calls Try.prog 49 #[v0] w (after Kp K) :=
  calls_of_shape (calls_of_cev wide Try.func49 (an := bits_source_bit_an) (args := [v0]) (cast (congrFun (bits_source_bit_eq v0 Kp K) w).symm h))
theorem bits_source_bit_cn {v0 : Value} {W : World} {α : Type} {A : List HP} {r : α → Value} {B : α → List HP} (h : ∀ F, Ent W (A ++ F) (bits_source_bit v0 noP fun v w => ∃ x, v = r x ∧ sat W (B x ++ F) w)) : Cn Try.prog 49 [v0] W A r B :=
  Cn.of (shape := bits_source_bit v0) Try.call49 (fun h => bits_source_bit_calls h) h
theorem bits_source_bit_cnP {v0 : Value} {W : World} {α β : Type} {A : List HP} {r : α → Value} {B : α → List HP} {pc : β → List PanicEntry} {Bp : β → List HP} (h : ∀ F, Ent W (A ++ F) (bits_source_bit v0 (fun ch w => ∃ y, ch = pc y ∧ sat W (Bp y ++ F) w) fun v w => ∃ x, v = r x ∧ sat W (B x ++ F) w)) : CnP Try.prog 49 [v0] W A r B pc Bp :=
  CnP.of (shape := bits_source_bit v0) Try.call49 (fun h => bits_source_bit_calls h) h

/-- huff_Decoder_Next -/
def huff_Decoder_Next (v0 v1 : Value) (Kp : PK) (K : Value → WP) : WP :=
  opN Try.prog (sEq .eql 85 (.tmp 13) (.const (.pointer none)) v0 (.pointer none)) Kp fun x14 =>
  gdK x14 false (fun k => k v0) fun x16 =>
  gdK x14 false (opN Try.prog (sNil x16) Kp) fun x17 =>
  gdK x14 false (opN Try.prog (sFA 99 x17 0) Kp) fun x18 =>
  gdK x14 false (opN Try.prog (sLoad 97 x18) Kp) fun x19 =>
  gdK x14 false (opN Try.prog (sEq .eql 97 (.tmp 19) (.const (.map none)) x19 (.map none)) Kp) fun x20 =>
  opN Try.prog (sPick x14 (.bool true) x20) Kp fun x21 =>
  condS x21
  (K (.tuple #[(.int .i64 0), (.int .i64 1)]))
  (opN Try.prog (sCall (fn 44) [v1, (.int .i64 0)]) Kp fun x24 =>
   opN Try.prog (sExt x24 0) Kp fun x25 =>
   opN Try.prog (sExt x24 1) Kp fun x26 =>
   opN Try.prog (sEq .neq 28 (.tmp 27) (.const (.int .i64 0)) x26 (.int .i64 0)) Kp fun x28 =>
   condS x28
   (K (.tuple #[(.int .i64 0), x26]))
   (opN Try.prog (sNil v0) Kp fun x31 =>
    opN Try.prog (sFA 99 x31 0) Kp fun x32 =>
    opN Try.prog (sLoad 97 x32) Kp fun x33 =>
    opN Try.prog (sLen #[97] 3 [x33]) Kp fun x34 =>
    opN Try.prog (sEq .eql 3 (.tmp 34) (.const (.int .i64 0)) x34 (.int .i64 0)) Kp fun x35 =>
    condS x35
    (K (.tuple #[(.int .i64 0), (.int .i64 30)]))
    (opN Try.prog (sBuild 101 []) Kp fun x36 =>
     opN Try.prog (sAlloc 101) Kp fun x8 =>
     opN Try.prog (sStore 101 x8 x36) Kp fun _ =>
     loop1 (fun I1 m1 _ y37 =>
      opN Try.prog (sBin .lss 3 y37 (.int .i64 15)) Kp fun x38 =>
      condS x38
      (opN Try.prog (sCall (fn 44) [v1, (.int .i64 1)]) Kp fun x41 =>
       opN Try.prog (sExt x41 0) Kp fun x42 =>
       opN Try.prog (sExt x41 1) Kp fun x43 =>
       opN Try.prog (sEq .neq 28 (.tmp 44) (.const (.int .i64 0)) x43 (.int .i64 0)) Kp fun x45 =>
       condS x45
       (K (.tuple #[(.int .i64 0), x43]))
       (opN Try.prog (sFA 101 x8 0) Kp fun x47 =>
        opN Try.prog (sLoad 3 x47) Kp fun x48 =>
        opN Try.prog (sBin .add 3 x48 (.int .i64 1)) Kp fun x49 =>
        opN Try.prog (sFA 101 x8 0) Kp fun x50 =>
        opN Try.prog (sStore 3 x50 x49) Kp fun _ =>
        opN Try.prog (sFA 101 x8 1) Kp fun x51 =>
        opN Try.prog (sLoad 3 x51) Kp fun x52 =>
        opN Try.prog (sBin .shl 3 x52 (.int .u64 1)) Kp fun x53 =>
        opN Try.prog (sBin .or 3 x53 x42) Kp fun x55 =>
        opN Try.prog (sFA 101 x8 1) Kp fun x56 =>
        opN Try.prog (sStore 3 x56 x55) Kp fun _ =>
        drS (stS Try.prog (sNil v0) fun x59 =>
         stS Try.prog (sFA 99 x59 0) fun x60 =>
         stS Try.prog (sLoad 97 x60) fun x61 =>
         stS Try.prog (sLoad 101 x8) fun x62 =>
         stS Try.prog (sLook 97 x61 x62 true) fun x63 =>
         stS Try.prog (sExt x63 0) fun x64 =>
         stS Try.prog (sExt x63 1) fun x65 =>
         condS x65
         (K (.tuple #[x64, (.int .i64 0)]))
         (opN Try.prog (sBin .add 3 y37 (.int .i64 1)) Kp fun x68 =>
          next1 I1 m1 x68))))
      (K (.tuple #[(.int .i64 0), (.int .i64 30)]))) (.int .i64 0))))
def huff_Decoder_Next_an : Ann := { cuts := [], blks := [], loops := [(10, [37])], drs := [(16, [(0, 1), (1, 1), (2, 1), (3, 1), (4, 1), (5, 1), (6, 1), (7, 1), (8, 1), (9, 1), (10, 1)])] }
theorem huff_Decoder_Next_eq (v0 v1 : Value) (Kp : PK) (K : Value → WP) : cevF Try.prog huff_Decoder_Next_an Try.f50 [v0, v1] Kp K = huff_Decoder_Next v0 v1 Kp K := by kernel_rfl
theorem huff_Decoder_Next_calls {v0 v1 : Value} {Kp : PK} {K : Value → WP} {w : World} (h : huff_Decoder_Next v0 v1 Kp K w) : Calls Try.prog 50 #[v0, v1] w (after Kp K) :=
  calls_of_shape (calls_of_cev wide Try.func50 (an := huff_Decoder_Next_an) (args := [v0, v1]) (cast (congrFun (huff_Decoder_Next_eq v0 v1 Kp K) w).symm h))
theorem huff_Decoder_Next_cn {v0 v1 : Value} {W : World} {α : Type} {A : List HP} {r : α → Value} {B : α → List HP} (h : ∀ F, Ent W (A ++ F) (huff_Decoder_Next v0 v1 noP fun v w => ∃ x, v = r x ∧ sat W (B x ++ F) w)) : Cn Try.prog 50 [v0, v1] W A r B :=
  Cn.of (shape := huff_Decoder_Next v0 v1) Try.call50 (fun h => huff_Decoder_Next_calls h) h
theorem huff_Decoder_Next_cnP {v0 v1 : Value} {W : World} {α β : Type} {A : List HP} {r : α → Value} {B : α → List HP} {pc : β → List PanicEntry} {Bp : β → List HP} (h : ∀ F, Ent W (A ++ F) (huff_Decoder_Next v0 v1 (fun ch w => ∃ y, ch = pc y ∧ sat W (Bp y ++ F) w) fun v w => ∃ x, v = r x ∧ sat W (B x ++ F) w)) : CnP Try.prog 50 [v0, v1] W A r B pc Bp :=
  CnP.of (shape := huff_Decoder_Next v0 v1) Try.call50 (fun h => huff_Decoder_Next_calls h) h

end Go.Proofs.Ytehfblkpbadikab.S
/-! The shapes, all parts. No conditions. -/

/-! Plain mathematics of bits in bytes: the lowest bit of a byte first. No conditions but those that each names; no program in sight. -/
namespace Go.Proofs.Ytehfblkpbadikab.M
open Go Go.Proofs.Ytehfblkpbadikab.Sl

def val : List Bool → Nat
  | [] => 0
  | b :: l => b.toNat + 2 * val l

theorem val_lt : ∀ l : List Bool, val l < 2 ^ l.length
  | [] => by simp [val]
  | b :: l => by have := val_lt l; cases b <;> simp [val, Nat.pow_succ] <;> omega

theorem val_append (m : List Bool) : ∀ l : List Bool, val (l ++ m) = val l + 2 ^ l.length * val m
  | [] => by simp [val]
  | b :: l => by
    simp only [List.cons_append, val, val_append m l, List.length_cons, Nat.pow_succ]
    rw [Nat.mul_add, Nat.mul_comm (2 ^ l.length) 2, Nat.mul_assoc]; omega

def byteAt (L : List Bool) (i : Nat) : Nat := val ((L.drop (8 * i)).take 8)

theorem byteAt_lt (L : List Bool) (i : Nat) : byteAt L i < 256 := by
  have h := val_lt ((L.drop (8 * i)).take 8)
  have hl : ((L.drop (8 * i)).take 8).length ≤ 8 := List.length_take_le _ _
  exact Nat.lt_of_lt_of_le h (Nat.pow_le_pow_right (by omega) hl)

def pkn (L : List Bool) (m : Nat) : List UInt8 := (List.range m).map fun i => UInt8.ofNat (byteAt L i)
/-- the bytes of bits -/
def pk (L : List Bool) : List UInt8 := pkn L ((L.length + 7) / 8)
/-- the same, a byte laid for the next bit -/
def pkx (L : List Bool) : List UInt8 := pkn L (L.length / 8 + 1)

theorem length_pk (L : List Bool) : (pk L).length = (L.length + 7) / 8 := by simp [pk, pkn]
theorem length_pkx (L : List Bool) : (pkx L).length = L.length / 8 + 1 := by simp [pkx, pkn]
theorem pkx0 {L : List Bool} (h : L.length % 8 = 0) : pkx L = pk L ++ [0] := by
  unfold pkx pk pkn
  rw [show (L.length + 7) / 8 = L.length / 8 by omega, List.range_succ, List.map_append]
  congr 1
  have : L.drop (8 * (L.length / 8)) = [] := List.drop_eq_nil_of_le (by omega)
  simp [byteAt, this, val]
theorem pkx1 {L : List Bool} (h : ¬ L.length % 8 = 0) : pkx L = pk L := by
  unfold pkx pk
  rw [show (L.length + 7) / 8 = L.length / 8 + 1 by omega]

theorem byteAt_snoc_lt {L : List Bool} {b : Bool} {i : Nat} (h : i < L.length / 8) : byteAt (L ++ [b]) i = byteAt L i := by
  unfold byteAt
  rw [List.drop_append_of_le_length (by omega), List.take_append_of_le_length (by simp; omega)]
theorem byteAt_snoc_eq {L : List Bool} {b : Bool} : byteAt (L ++ [b]) (L.length / 8) = byteAt L (L.length / 8) + 2 ^ (L.length % 8) * b.toNat := by
  unfold byteAt
  rw [List.drop_append_of_le_length (by omega), List.take_of_length_le (by simp; omega), List.take_of_length_le (by simp; omega), val_append]
  have : (L.drop (8 * (L.length / 8))).length = L.length % 8 := by simp; omega
  rw [this]; simp [val]
theorem byteAt_last (L : List Bool) : byteAt L (L.length / 8) < 2 ^ (L.length % 8) := by
  unfold byteAt
  refine Nat.lt_of_lt_of_le (val_lt _) (Nat.pow_le_pow_right (by omega) ?_)
  rw [List.length_take, List.length_drop]; omega

theorem pk_snoc_f (L : List Bool) : pk (L ++ [false]) = pkx L := by
  unfold pk pkx pkn
  simp only [List.length_append, List.length_singleton]
  rw [show (L.length + 1 + 7) / 8 = L.length / 8 + 1 by omega]
  refine List.map_congr_left fun i hi => ?_
  rw [List.mem_range] at hi
  by_cases h : i < L.length / 8
  · rw [byteAt_snoc_lt h]
  · rw [show i = L.length / 8 by omega, byteAt_snoc_eq]; simp
theorem pk_snoc_t (L : List Bool) : pk (L ++ [true]) = (pkx L).set (L.length / 8) (UInt8.ofNat (byteAt L (L.length / 8) + 2 ^ (L.length % 8))) := by
  apply List.ext_getElem?
  intro i
  unfold pk pkx pkn
  simp only [List.length_append, List.length_singleton]
  rw [show (L.length + 1 + 7) / 8 = L.length / 8 + 1 by omega, List.getElem?_set]
  simp only [List.length_map, List.length_range, List.getElem?_map]
  by_cases h : L.length / 8 = i
  · subst h
    simp [byteAt_snoc_eq]
  · rw [if_neg h]
    by_cases h2 : i < L.length / 8
    · rw [List.getElem?_range (by omega)]; simp [byteAt_snoc_lt h2]
    · rw [List.getElem?_eq_none (by simp; omega)]; rfl
theorem pkx_last (L : List Bool) : (pkx L)[L.length / 8]? = some (UInt8.ofNat (byteAt L (L.length / 8))) := by
  simp [pkx, pkn]

/-- a number's lowest bits -/
def bitsOf (n k : Nat) : List Bool := (List.range k).map n.testBit
theorem bitsOf_succ (n k : Nat) : bitsOf n (k + 1) = bitsOf n k ++ [n.testBit k] := by simp [bitsOf, List.range_succ]
theorem length_bitsOf (n k : Nat) : (bitsOf n k).length = k := by simp [bitsOf]

/-! ### the model's words -/
theorem wrap8 {n : Nat} (h : n < 256) : IntKind.u8.wrap (n : Int) = n := by
  simp only [IntKind.wrap, IntKind.bits, IntKind.signed]
  simp; omega
theorem wrapu64 {n : Nat} (h : n < 18446744073709551616) : IntKind.u64.wrap (n : Int) = n := by
  simp only [IntKind.wrap, IntKind.bits, IntKind.signed]
  simp; omega
theorem and1 {a : Nat} (h : a < 9223372036854775808) : bitOp .and .i64 (a : Int) 1 = ((a % 2 : Nat) : Int) := by
  unfold bitOp
  have h1 : (BitVec.ofInt IntKind.i64.bits (a : Int)).toNat = a := by
    rw [BitVec.ofInt_natCast, BitVec.toNat_ofNat]; exact Nat.mod_eq_of_lt (by simp only [IntKind.bits]; omega)
  have h2 : (BitVec.ofInt IntKind.i64.bits 1).toNat = 1 := by decide
  simp only [BitVec.toNat_and, h1, h2, Nat.and_one_is_mod]
  exact w64 (by omega) (by omega)
theorem or8 {a r : Nat} (hr : r < 8) (h : a < 2 ^ r) : bitOp .or .u8 (a : Int) ((2 ^ r : Nat) : Int) = ((a + 2 ^ r : Nat) : Int) := by
  have hp : 2 ^ r ≤ 128 := by
    have : 2 ^ r ≤ 2 ^ 7 := Nat.pow_le_pow_right (by omega) (by omega)
    simpa using this
  unfold bitOp
  have h1 : (BitVec.ofInt IntKind.u8.bits (a : Int)).toNat = a := by
    rw [BitVec.ofInt_natCast, BitVec.toNat_ofNat]; exact Nat.mod_eq_of_lt (by simp only [IntKind.bits]; omega)
  have h2 : (BitVec.ofInt IntKind.u8.bits ((2 ^ r : Nat) : Int)).toNat = 2 ^ r := by
    rw [BitVec.ofInt_natCast, BitVec.toNat_ofNat]; exact Nat.mod_eq_of_lt (by simp only [IntKind.bits]; omega)
  have h3 : a ||| 2 ^ r = a + 2 ^ r := by
    have := Nat.two_pow_add_eq_or_of_lt h 1
    rw [Nat.mul_one] at this
    rw [Nat.or_comm, ← this]; omega
  simp only [BitVec.toNat_or, h1, h2, h3]
  exact wrap8 (by omega)
theorem shr_nat {n k : Nat} (hk : k < 64) : ((n : Int).fdiv (2 ^ (min ((k : Int)).toNat IntKind.i64.bits))) = ((n / 2 ^ k : Nat) : Int) := by
  have : min ((k : Int)).toNat IntKind.i64.bits = k := by simp only [IntKind.bits, Int.toNat_natCast]; omega
  rw [this, Int.fdiv_eq_ediv_of_nonneg _ (Int.le_of_lt (Int.pow_pos (by decide)))]
  norm_cast
theorem testBit_mod (n k : Nat) : n / 2 ^ k % 2 = (n.testBit k).toNat := by
  rw [Nat.testBit_eq_decide_div_mod_eq]
  rcases Nat.mod_two_eq_zero_or_one (n / 2 ^ k) with h | h <;> simp [h]
theorem B_ofNat {x : Nat} (h : x < 256) : B (UInt8.ofNat x) = .int .u8 (x : Int) := by
  unfold B; rw [UInt8.toNat_ofNat']; rw [Nat.mod_eq_of_lt h]
theorem mask_at {r : Nat} (h : r < 8) : (#[.int .u8 1, .int .u8 2, .int .u8 4, .int .u8 8, .int .u8 16, .int .u8 32, .int .u8 64, .int .u8 128] : Array Value)[r]? = some (.int .u8 ((2 ^ r : Nat) : Int)) := by
  have : r = 0 ∨ r = 1 ∨ r = 2 ∨ r = 3 ∨ r = 4 ∨ r = 5 ∨ r = 6 ∨ r = 7 := by omega
  rcases this with rfl | rfl | rfl | rfl | rfl | rfl | rfl | rfl <;> rfl

/-! ### whole bytes -/
def bits8 (c : UInt8) : List Bool := bitsOf c.toNat 8
/-- the bits of bytes -/
def ub (l : List UInt8) : List Bool := l.flatMap bits8
theorem length_bits8 (c : UInt8) : (bits8 c).length = 8 := length_bitsOf _ _
theorem length_ub : ∀ l : List UInt8, (ub l).length = 8 * l.length
  | [] => rfl
  | c :: l => by
    have := length_ub l
    unfold ub at *
    rw [List.flatMap_cons, List.length_append, this, length_bits8, List.length_cons]; omega
theorem val_bitsOf (n : Nat) : ∀ k, val (bitsOf n k) = n % 2 ^ k
  | 0 => by simp [bitsOf, val, Nat.mod_one]
  | k + 1 => by
    rw [bitsOf_succ, val_append, length_bitsOf, val_bitsOf n k, Nat.mod_pow_succ, testBit_mod]
    simp [val]
theorem val_bits8 (c : UInt8) : val (bits8 c) = c.toNat := by
  unfold bits8; rw [val_bitsOf]; exact Nat.mod_eq_of_lt c.toNat_lt
theorem byteAt_ub_lt {l : List UInt8} {i : Nat} (h : i < l.length) (m : List Bool) : byteAt (ub l ++ m) i = l[i].toNat := by
  unfold byteAt
  have e : ub l = ub (l.take i) ++ (bits8 l[i] ++ ub (l.drop (i + 1))) := by
    unfold ub
    rw [← List.flatMap_cons, ← List.flatMap_append, ← List.drop_eq_getElem_cons h, List.take_append_drop]
  have hl : (ub (l.take i)).length = 8 * i := by rw [length_ub, List.length_take]; omega
  rw [e, List.append_assoc, List.append_assoc, ← hl, List.drop_left]
  have h8 := length_bits8 l[i]
  rw [show (8 : Nat) = (bits8 l[i]).length from h8.symm, List.take_left, val_bits8]
theorem pk_ub (l : List UInt8) : pk (ub l) = l := by
  unfold pk pkn
  rw [length_ub, show (8 * l.length + 7) / 8 = l.length by omega]
  apply List.ext_getElem
  · simp
  · intro i h1 h2
    have := byteAt_ub_lt h2 []
    rw [List.append_nil] at this
    simp [this]
/-- to a whole byte -/
def padTo8 (L : List Bool) : List Bool := L ++ List.replicate ((8 - L.length % 8) % 8) false
theorem length_pad (L : List Bool) : (padTo8 L).length = 8 * ((L.length + 7) / 8) := by
  unfold padTo8; simp; omega
theorem val_false : ∀ n, val (List.replicate n false) = 0
  | 0 => rfl
  | n + 1 => by simp [List.replicate_succ, val, val_false n]
theorem byteAt_pad (L : List Bool) (n i : Nat) : byteAt (L ++ List.replicate n false) i = byteAt L i := by
  unfold byteAt
  rw [List.drop_append, List.take_append, val_append, List.drop_replicate, List.take_replicate, val_false]
  simp
theorem pk_pad (L : List Bool) : pk (padTo8 L) = pk L := by
  unfold pk
  rw [length_pad, show (8 * ((L.length + 7) / 8) + 7) / 8 = (L.length + 7) / 8 by omega]
  unfold pkn padTo8
  refine List.map_congr_left fun i _ => ?_
  rw [byteAt_pad]
theorem pk_append {L : List Bool} (h : L.length % 8 = 0) (l : List UInt8) : pk (L ++ ub l) = pk L ++ l := by
  unfold pk pkn
  rw [List.length_append, length_ub]
  rw [show (L.length + 8 * l.length + 7) / 8 = L.length / 8 + l.length by omega, show (L.length + 7) / 8 = L.length / 8 by omega]
  rw [List.range_add, List.map_append]
  congr 1
  · refine List.map_congr_left fun i hi => ?_
    rw [List.mem_range] at hi
    unfold byteAt
    rw [List.drop_append_of_le_length (by omega), List.take_append_of_le_length (by simp; omega)]
  · rw [List.map_map]
    apply List.ext_getElem
    · simp
    · intro i h1 h2
      simp only [List.getElem_map, List.getElem_range, Function.comp_apply]
      have : byteAt (L ++ ub l) (L.length / 8 + i) = byteAt (ub l) i := by
        unfold byteAt
        rw [List.drop_append, List.drop_eq_nil_of_le (by omega), List.nil_append]
        congr 3; omega
      have h3 := byteAt_ub_lt h2 []
      rw [List.append_nil] at h3
      rw [this, h3]; simp

theorem shr8 {n k : Nat} (hk : k < 8) : ((n : Int).fdiv (2 ^ (min ((k : Int)).toNat IntKind.u8.bits))) = ((n / 2 ^ k : Nat) : Int) := by
  have : min ((k : Int)).toNat IntKind.u8.bits = k := by simp only [IntKind.bits, Int.toNat_natCast]; omega
  rw [this, Int.fdiv_eq_ediv_of_nonneg _ (Int.le_of_lt (Int.pow_pos (by decide)))]
  norm_cast
theorem and1_8 {a : Nat} (h : a < 256) : bitOp .and .u8 (a : Int) 1 = ((a % 2 : Nat) : Int) := by
  unfold bitOp
  have h1 : (BitVec.ofInt IntKind.u8.bits (a : Int)).toNat = a := by
    rw [BitVec.ofInt_natCast, BitVec.toNat_ofNat]; exact Nat.mod_eq_of_lt (by simp only [IntKind.bits]; omega)
  have h2 : (BitVec.ofInt IntKind.u8.bits 1).toNat = 1 := by decide
  simp only [BitVec.toNat_and, h1, h2, Nat.and_one_is_mod]
  exact wrap8 (by omega)
theorem ub_get : ∀ {l : List UInt8} {i : Nat} (h : i / 8 < l.length), (ub l)[i]? = some (l[i / 8].toNat.testBit (i % 8))
  | c :: l, i, h => by
    have e : ub (c :: l) = bits8 c ++ ub l := by unfold ub; rw [List.flatMap_cons]
    rw [e]
    by_cases hi : i < 8
    · rw [List.getElem?_append_left (by rw [length_bits8]; exact hi)]
      have h0 : i / 8 = 0 := by omega
      have h1 : i % 8 = i := by omega
      simp only [h0, h1, List.getElem_cons_zero, bits8, bitsOf]
      simp [hi]
    · rw [List.getElem?_append_right (by rw [length_bits8]; omega), length_bits8]
      have h0 : i / 8 = (i - 8) / 8 + 1 := by omega
      have h1 : i % 8 = (i - 8) % 8 := by omega
      rw [ub_get (l := l) (i := i - 8) (by rw [h0] at h; simpa using h)]
      simp only [h0, h1, List.getElem_cons_succ]
/-- the number that k bits from at on are -/
def tak (L : List Bool) (at_ k : Nat) : Nat := val ((L.drop at_).take k)
theorem tak_lt (L : List Bool) (at_ k : Nat) : tak L at_ k < 2 ^ k := by
  refine Nat.lt_of_lt_of_le (val_lt _) (Nat.pow_le_pow_right (by omega) (List.length_take_le _ _))
theorem tak_succ {L : List Bool} {at_ k : Nat} {b : Bool} (h : L[at_ + k]? = some b) : tak L at_ (k + 1) = tak L at_ k + 2 ^ k * b.toNat := by
  have hl : at_ + k < L.length := by
    rcases Nat.lt_or_ge (at_ + k) L.length with c | c
    · exact c
    · rw [List.getElem?_eq_none c] at h; cases h
  unfold tak
  have hd : (L.drop at_)[k]? = some b := by rw [List.getElem?_drop]; exact h
  have hk : k < (L.drop at_).length := by rw [List.length_drop]; omega
  rw [List.take_succ_eq_append_getElem hk, val_append, List.length_take, Nat.min_eq_left (by omega)]
  have : (L.drop at_)[k] = b := by rw [List.getElem?_eq_getElem hk] at hd; exact Option.some.inj hd
  rw [this]; simp [val]
theorem tak_zero (L : List Bool) (at_ : Nat) : tak L at_ 0 = 0 := by simp [tak, val]
theorem or_shl {a k : Nat} {b : Bool} (hk : k < 33) (h : a < 2 ^ k) : bitOp .or .i64 (a : Int) (((b.toNat * 2 ^ k : Nat)) : Int) = ((a + 2 ^ k * b.toNat : Nat) : Int) := by
  have hp : 2 ^ k ≤ 4294967296 := by
    have : 2 ^ k ≤ 2 ^ 32 := Nat.pow_le_pow_right (by omega) (by omega)
    simpa using this
  have hb : b.toNat * 2 ^ k ≤ 4294967296 := by cases b <;> simp <;> omega
  unfold bitOp
  have h1 : (BitVec.ofInt IntKind.i64.bits (a : Int)).toNat = a := by
    rw [BitVec.ofInt_natCast, BitVec.toNat_ofNat]; exact Nat.mod_eq_of_lt (by simp only [IntKind.bits]; omega)
  have h2 : (BitVec.ofInt IntKind.i64.bits ((b.toNat * 2 ^ k : Nat) : Int)).toNat = b.toNat * 2 ^ k := by
    rw [BitVec.ofInt_natCast, BitVec.toNat_ofNat]; exact Nat.mod_eq_of_lt (by simp only [IntKind.bits]; omega)
  have h3 : a ||| b.toNat * 2 ^ k = a + 2 ^ k * b.toNat := by
    have := Nat.two_pow_add_eq_or_of_lt h b.toNat
    rw [Nat.or_comm, Nat.mul_comm b.toNat, ← this]; omega
  simp only [BitVec.toNat_or, h1, h2, h3]
  have : 2 ^ k * b.toNat ≤ 4294967296 := by rw [Nat.mul_comm]; exact hb
  exact w64 (by omega) (by omega)

/-! ### bits in the other order -/
def bitI (n : Int) (i : Nat) : Bool := decide (n / 2 ^ i % 2 = 1)
def bl (n : Int) (i : Nat) : List Bool := (List.range i).map (bitI n)
theorem bl_succ (n : Int) (i : Nat) : bl n (i + 1) = bl n i ++ [bitI n i] := by simp [bl, List.range_succ]
theorem length_bl (n : Int) (i : Nat) : (bl n i).length = i := by simp [bl]
def rv (n : Int) (i : Nat) : Nat := val (bl n i).reverse
theorem rv_succ (n : Int) (i : Nat) : rv n (i + 1) = 2 * rv n i + (bitI n i).toNat := by
  unfold rv; rw [bl_succ, List.reverse_append]; simp [val]; omega
theorem rv_lt (n : Int) (i : Nat) : rv n i < 2 ^ i := by
  have := val_lt (bl n i).reverse
  rwa [List.length_reverse, length_bl] at this
theorem bit_toNat (n : Int) (i : Nat) : ((bitI n i).toNat : Int) = n / 2 ^ i % 2 := by
  unfold bitI
  rcases Int.emod_two_eq (n / 2 ^ i) with h | h <;> simp [h]
theorem and1I (a : Int) : bitOp .and .i64 a 1 = a % 2 := by
  unfold bitOp
  have h2 : (BitVec.ofInt IntKind.i64.bits 1).toNat = 1 := by decide
  simp only [BitVec.toNat_and, h2, Nat.and_one_is_mod, BitVec.toNat_ofInt]
  rw [w64 (by omega) (by omega)]
  simp only [IntKind.bits]
  omega
theorem shrI {n : Int} {k : Nat} (hk : k < 64) : n.fdiv (2 ^ (min ((k : Int)).toNat IntKind.i64.bits)) = n / 2 ^ k := by
  have : min ((k : Int)).toNat IntKind.i64.bits = k := by simp only [IntKind.bits, Int.toNat_natCast]; omega
  rw [this, Int.fdiv_eq_ediv_of_nonneg _ (Int.le_of_lt (Int.pow_pos (by decide)))]
theorem or_two {a : Nat} {b : Bool} (h : a < 4294967296) : bitOp .or .i64 (((a * 2 : Nat)) : Int) (b.toNat : Int) = ((2 * a + b.toNat : Nat) : Int) := by
  have hb : b.toNat ≤ 1 := Bool.toNat_le b
  unfold bitOp
  have h1 : (BitVec.ofInt IntKind.i64.bits ((a * 2 : Nat) : Int)).toNat = a * 2 := by
    rw [BitVec.ofInt_natCast, BitVec.toNat_ofNat]; exact Nat.mod_eq_of_lt (by simp only [IntKind.bits]; omega)
  have h2 : (BitVec.ofInt IntKind.i64.bits (b.toNat : Int)).toNat = b.toNat := by
    rw [BitVec.ofInt_natCast, BitVec.toNat_ofNat]; exact Nat.mod_eq_of_lt (by simp only [IntKind.bits]; omega)
  have h3 : a * 2 ||| b.toNat = 2 * a + b.toNat := by
    have := Nat.two_pow_add_eq_or_of_lt (i := 1) (b := b.toNat) (by omega) a
    rw [Nat.pow_one] at this
    rw [Nat.mul_comm a 2, ← this]
  simp only [BitVec.toNat_or, h1, h2, h3]
  exact w64 (by omega) (by omega)
theorem emod_split (n d : Int) (hd : 0 < d) : n % d + d * (n / d % 2) = n % (d * 2) := by
  have h1 := Int.emod_add_mul_ediv n d
  have h2 := Int.emod_add_mul_ediv (n / d) 2
  have h3 := Int.emod_nonneg n (Int.ne_of_gt hd)
  have h4 := Int.emod_lt_of_pos n hd
  have h6 : d * (n / d) = d * (n / d % 2) + d * 2 * (n / d / 2) := by
    have : d * (n / d) = d * (n / d % 2 + 2 * (n / d / 2)) := by rw [h2]
    rw [this, Int.mul_add, Int.mul_assoc]
  have h5 : n = (n % d + d * (n / d % 2)) + (d * 2) * (n / d / 2) := by omega
  have h7 : 0 ≤ n % d + d * (n / d % 2) ∧ n % d + d * (n / d % 2) < d * 2 := by
    rcases Int.emod_two_eq (n / d) with h | h <;> rw [h] <;> omega
  have h8 : n % (d * 2) = ((n % d + d * (n / d % 2)) + (d * 2) * (n / d / 2)) % (d * 2) := by rw [← h5]
  rw [h8, Int.add_mul_emod_self_left, Int.emod_eq_of_lt h7.1 h7.2]
theorem val_bl (n : Int) : ∀ m, (val (bl n m) : Int) = n % 2 ^ m
  | 0 => by simp [bl, val]
  | m + 1 => by
    rw [bl_succ, val_append, length_bl]
    push_cast
    rw [val_bl n m]
    simp only [val, Nat.mul_zero, Nat.add_zero]
    rw [bit_toNat, Int.pow_succ]
    exact emod_split n (2 ^ m) (Int.pow_pos (by decide))
theorem val_bit : ∀ (l : List Bool) (i : Nat) (h : i < l.length), val l / 2 ^ i % 2 = l[i].toNat
  | b :: l, 0, h => by
    simp only [val, Nat.pow_zero, Nat.div_one, List.getElem_cons_zero]; cases b <;> simp <;> omega
  | b :: l, i + 1, h => by
    simp only [val, Nat.pow_succ, List.getElem_cons_succ]
    rw [Nat.mul_comm (2 ^ i) 2, ← Nat.div_div_eq_div_mul]
    rw [show (b.toNat + 2 * val l) / 2 = val l by cases b <;> simp <;> omega]
    exact val_bit l i (by simpa using h)
theorem bl_val (l : List Bool) : bl (val l : Int) l.length = l := by
  apply List.ext_getElem
  · simp [length_bl]
  · intro i h1 h2
    have h := val_bit l i h2
    simp only [bl, List.getElem_map, List.getElem_range, bitI]
    rw [show ((val l : Int) / 2 ^ i % 2) = ((val l / 2 ^ i % 2 : Nat) : Int) by norm_cast, h]
    cases l[i] <;> simp
theorem rv_rv (n : Int) (m : Nat) : (rv (rv n m : Int) m : Int) = n % 2 ^ m := by
  have h := bl_val (bl n m).reverse
  rw [List.length_reverse, length_bl] at h
  rw [← val_bl]
  unfold rv
  rw [h, List.reverse_reverse]
theorem and_mask (n : Int) {m : Nat} (h : m ≤ 32) : bitOp .and .i64 n (((2 ^ m - 1 : Nat)) : Int) = n % 2 ^ m := by
  have hp : 2 ^ m ≤ 2 ^ 32 := Nat.pow_le_pow_right (by omega) h
  have hp0 : 0 < 2 ^ m := Nat.pow_pos (by omega)
  unfold bitOp
  have h2 : (BitVec.ofInt IntKind.i64.bits ((2 ^ m - 1 : Nat) : Int)).toNat = 2 ^ m - 1 := by
    rw [BitVec.ofInt_natCast, BitVec.toNat_ofNat]; exact Nat.mod_eq_of_lt (by simp only [IntKind.bits]; omega)
  simp only [BitVec.toNat_and, h2, Nat.and_two_pow_sub_one_eq_mod, BitVec.toNat_ofInt]
  have hn : ((n % ((2 ^ IntKind.i64.bits : Nat) : Int)).toNat % 2 ^ m : Nat) < 2 ^ m := Nat.mod_lt _ hp0
  have he : (((n % ((2 ^ IntKind.i64.bits : Nat) : Int)).toNat % 2 ^ m : Nat) : Int) = n % 2 ^ m := by
    rw [Int.natCast_emod, Int.toNat_of_nonneg (Int.emod_nonneg _ (by decide))]
    have hd : ((2 ^ m : Nat) : Int) ∣ ((2 ^ IntKind.i64.bits : Nat) : Int) := by
      rw [Int.natCast_dvd_natCast]; exact Nat.pow_dvd_pow 2 (by simp only [IntKind.bits]; omega)
    rw [Int.emod_emod_of_dvd _ hd]; norm_cast
  rw [← he]
  exact w64 (by omega) (by omega)
end Go.Proofs.Ytehfblkpbadikab.M
