/- Maps of a call's own: what they hold, and the operations on them. No conditions but those that each names. (4 texts made one; each says below what it is.) -/
import Derived.Test.YtehfblkpbadikaaK1
import Derived.MapKept
import Derived.Test.YtehfblkpbadikaaChecked
import Derived.KernelRfl
set_option linter.unusedVariables false
set_option linter.unusedSimpArgs false
set_option linter.unusedSectionVars false
/-! Maps of a call's own: what they hold, and the operations on them. No conditions but those that each names. -/
namespace Go.Proofs.Ytehfblkpbadikaa.Sl
open Go Go.RowKit Go.Proofs.Ytehfblkpbadikaa.Sh
variable {P : Program} {W : World} {L L' : List HP} {Kp : PK} {k : Value → WP}
structure KeyLaw (P : Program) (t : TypeId) {κ : Type} [DecidableEq κ] (enc : κ → Value) : Prop where
  check : ∀ (b : Bool) (k : κ) (w : World), (Instr.checkKey b 10000 t (enc k)).run P w = .ok () w
  eq : ∀ (k k' : κ) (w : World), (Op.equal t (enc k) (enc k')).run P w = .ok (decide (k = k')) w
  now : ∃ d, P.underlying t = some d ∧ ∀ k k', Instr.sameNow d (enc k) (enc k') = none ∨ Instr.sameNow d (enc k) (enc k') = some (decide (k = k'))
  same : ∀ k, Instr.sameBits 10000 (enc k) (enc k) = true
variable {κ : Type} [DecidableEq κ] {enc : κ → Value} {t kt : TypeId}
def fnd (k : κ) : List (κ × Value) → Nat → Option (Nat × Value)
  | [], _ => none
  | p :: m, i => if k = p.1 then some (i, p.2) else fnd k m (i + 1)
/-- what a key holds -/
def getM (k : κ) (m : List (κ × Value)) : Option Value := (fnd k m 0).map (·.2)
def kv (e : MapEntry) : Value × Value := (e.key, e.val)
def ekv (enc : κ → Value) (p : κ × Value) : Value × Value := (enc p.1, p.2)
theorem findAsking_run (K : KeyLaw P kt enc) (k : κ) (w : World) : ∀ (es : List MapEntry) (m : List (κ × Value)) (i : Nat), es.map kv = m.map (ekv enc) → (Instr.findAsking kt (enc k) es i).run P w = .ok (fnd k m i) w
  | [], [], i, _ => rfl
  | [], p :: m, i, h => by simp at h
  | e :: es, [], i, h => by simp at h
  | e :: es, p :: m, i, h => by
    simp only [List.map_cons, List.cons.injEq, kv, ekv, Prod.mk.injEq] at h
    obtain ⟨⟨h1, h2⟩, h3⟩ := h
    have ih := findAsking_run K k w es m (i + 1) h3
    unfold Instr.findAsking fnd
    rw [h1]
    simp only [Sem.run_bind, K.eq, Result.andThen_ok]
    by_cases c : k = p.1
    · simp [c, h2]
    · simp [c, ih]
theorem findNow_run (d : TypeDesc) (hd : ∀ k k', Instr.sameNow d (enc k) (enc k') = none ∨ Instr.sameNow d (enc k) (enc k') = some (decide (k = k'))) (k : κ) : ∀ (es : List MapEntry) (m : List (κ × Value)) (i : Nat), es.map kv = m.map (ekv enc) → Instr.findNow d (enc k) es i = none ∨ Instr.findNow d (enc k) es i = some (fnd k m i)
  | [], [], i, _ => .inr rfl
  | [], p :: m, i, h => by simp at h
  | e :: es, [], i, h => by simp at h
  | e :: es, p :: m, i, h => by
    simp only [List.map_cons, List.cons.injEq, kv, ekv, Prod.mk.injEq] at h
    obtain ⟨⟨h1, h2⟩, h3⟩ := h
    have ih := findNow_run d hd k es m (i + 1) h3
    unfold Instr.findNow fnd
    rw [h1]
    rcases hd k p.1 with c | c
    · rw [c]; exact .inl rfl
    · rw [c]
      by_cases e1 : k = p.1
      · simp [e1, h2]
      · simp [e1, ih]
theorem findKey_run (K : KeyLaw P kt enc) (k : κ) (w : World) {es : List MapEntry} {m : List (κ × Value)} (h : es.map kv = m.map (ekv enc)) : (Instr.findKey kt (enc k) es).run P w = .ok (fnd k m 0) w := by
  obtain ⟨d, hd, hs⟩ := K.now
  unfold Instr.findKey
  simp only [Sem.run_bind, run_underlying hd, Result.andThen_ok]
  rcases findNow_run d hs k es m 0 h with c | c
  · rw [c]; exact findAsking_run K k w es m 0 h
  · rw [c]; rfl
structure Ents (enc : κ → Value) (es : Array MapEntry) (c : Nat) (m : List (κ × Value)) : Prop where
  kvs : es.toList.map kv = m.map (ekv enc)
  born : ∀ e ∈ es.toList, e.born < c
  nodup : (es.toList.map (·.born)).Nodup
/-- the map at g holds m -/
def MapIs (g : Nat) (enc : κ → Value) (m : List (κ × Value)) : HP := fun _ h => ∃ es c, h g = some (.map es c) ∧ Ents enc es c m
theorem map_row {g : Nat} {m : List (κ × Value)} {w : World} (H : sat W (MapIs g enc m :: L) w) : ∃ es c, Ents enc es c m ∧ sat W (pt g (.map es c) :: L) w := by
  obtain ⟨f, ⟨h1, h2, ⟨es, c, ha, he⟩, r⟩, b⟩ := H.heap
  exact ⟨es, c, he, H.base, f, ⟨h1, h2, ha, r⟩, b⟩
theorem map_back {g : Nat} {m : List (κ × Value)} {w : World} {es : Array MapEntry} {c : Nat} (he : Ents enc es c m) (H : sat W (pt g (.map es c) :: L) w) : sat W (MapIs g enc m :: L) w := by
  obtain ⟨f, ⟨h1, h2, ha, r⟩, b⟩ := H.heap
  exact ⟨H.base, f, ⟨h1, h2, ⟨es, c, ha, he⟩, r⟩, b⟩
class MapT (P : Program) (t : TypeId) (kt e : outParam TypeId) : Prop where
  ut : P.underlying t = some (.map kt e)
theorem v_lookOk {e : TypeId} {z : Value} {g : Nat} {m : List (κ × Value)} {q : κ} [ht : MapT P t kt e] [hz : ZeroT P e z] (K : KeyLaw P kt enc) : RunV P W [MapIs g enc m] (sLook t (.map (some g)) (enc q) true) (.tuple #[(getM q m).getD z, .bool (getM q m).isSome]) := fun w hw => by
  obtain ⟨es, c, he, hp⟩ := map_row hw
  have hg := hp.pt_.1
  have hf := findKey_run K q w he.kvs
  unfold getM
  cases hq : fnd q m 0 with
  | none => simp [sLook, Instr.lookup, run_underlying ht.ut, MapKept.run_getObj_map hg, K.check, hf, hq, hz.run, Result.andThen]
  | some p => simp [sLook, Instr.lookup, run_underlying ht.ut, MapKept.run_getObj_map hg, K.check, hf, hq, Result.andThen]
theorem v_look {e : TypeId} {z : Value} {g : Nat} {m : List (κ × Value)} {q : κ} [ht : MapT P t kt e] [hz : ZeroT P e z] (K : KeyLaw P kt enc) : RunV P W [MapIs g enc m] (sLook t (.map (some g)) (enc q) false) ((getM q m).getD z) := fun w hw => by
  obtain ⟨es, c, he, hp⟩ := map_row hw
  have hg := hp.pt_.1
  have hf := findKey_run K q w he.kvs
  unfold getM
  cases hq : fnd q m 0 with
  | none => simp [sLook, Instr.lookup, run_underlying ht.ut, MapKept.run_getObj_map hg, K.check, hf, hq, hz.run, Result.andThen]
  | some p => simp [sLook, Instr.lookup, run_underlying ht.ut, MapKept.run_getObj_map hg, K.check, hf, hq, Result.andThen]
theorem v_lenM {e ty : TypeId} {g : Nat} {m : List (κ × Value)} [ht : MapT P t kt e] : RunV P W [MapIs g enc m] (sLen #[t] ty [.map (some g)]) (.int .i64 (m.length : Int)) := fun w hw => by
  obtain ⟨es, c, he, hp⟩ := map_row hw
  have hl := congrArg List.length he.kvs
  simp at hl
  simp [sLen, Builtin.len_, run_underlying ht.ut, MapKept.run_getObj_map hp.pt_.1, goInt, hl, Result.andThen]
theorem e_mkmap {e : TypeId} (enc : κ → Value) [ht : MapT P t kt e] (h : ∀ g, Ent W (MapIs g enc [] :: L) (k (.map (some g)))) : Ent W L (opN P (sMkMap t none) Kp k) := fun w hw => by
  refine ⟨?_⟩
  have : (sMkMap t none).run P w = .ok (.value (.map (some w.heap.size))) (w.alloc (.map #[] 0)) := by
    simp [sMkMap, Instr.makeMap]
  rw [this]
  exact h _ _ (map_back ⟨rfl, fun e he => by simp at he, by simp⟩ (hw.alloc _))
/-- the map with a key laid -/
def setM (q : κ) (v : Value) : List (κ × Value) → List (κ × Value)
  | [] => [(q, v)]
  | p :: m => if q = p.1 then (p.1, v) :: m else p :: setM q v m
theorem setM_none (q : κ) (v : Value) : ∀ (m : List (κ × Value)) (i : Nat), fnd q m i = none → setM q v m = m ++ [(q, v)]
  | [], i, _ => rfl
  | p :: m, i, h => by
    unfold fnd at h
    by_cases c : q = p.1
    · simp [c] at h
    · rw [if_neg c] at h
      simp [setM, c, setM_none q v m (i + 1) h]
theorem setM_some (q : κ) (v : Value) : ∀ (m : List (κ × Value)) (i j : Nat) (u : Value), fnd q m i = some (j, u) → i ≤ j ∧ j - i < m.length ∧ setM q v m = m.set (j - i) (q, v) ∧ m[j - i]? = some (q, u)
  | [], i, j, u, h => by simp [fnd] at h
  | p :: m, i, j, u, h => by
    unfold fnd at h
    by_cases c : q = p.1
    · rw [if_pos c] at h
      simp at h
      obtain ⟨rfl, rfl⟩ := h
      simp [setM, c]
    · rw [if_neg c] at h
      obtain ⟨h1, h2, h3, h4⟩ := setM_some q v m (i + 1) j u h
      refine ⟨by omega, by rw [List.length_cons]; omega, ?_, ?_⟩
      · rw [setM, if_neg c, h3, show j - i = (j - (i + 1)) + 1 by omega]; rfl
      · rw [show j - i = (j - (i + 1)) + 1 by omega]; simpa using h4
theorem getM_setM (q q' : κ) (v : Value) : ∀ (m : List (κ × Value)), getM q' (setM q v m) = if q' = q then some v else getM q' m := by
  have key : ∀ (m : List (κ × Value)) (i j : Nat), (fnd q' (setM q v m) i).map (·.2) = if q' = q then some v else (fnd q' m j).map (·.2) := by
    intro m
    induction m with
    | nil => intro i j; by_cases c : q' = q <;> simp [setM, fnd, c]
    | cons p m ih =>
      intro i j
      unfold setM
      by_cases c : q = p.1
      · rw [if_pos c]
        unfold fnd
        by_cases d : q' = p.1
        · simp [d, c]
        · have hd : q' ≠ q := by rw [c]; exact d
          simp only [if_neg d, if_neg hd]
          have gen : ∀ (m : List (κ × Value)) (i j : Nat), (fnd q' m i).map (·.2) = (fnd q' m j).map (·.2) := by
            intro m
            induction m with
            | nil => intro i j; rfl
            | cons p m ih => intro i j; unfold fnd; split <;> simp [ih (i + 1) (j + 1)]
          exact gen m _ _
      · rw [if_neg c]
        unfold fnd
        by_cases d : q' = p.1
        · have hd : q' ≠ q := by rw [d]; exact fun e => c e.symm
          simp [if_pos d, if_neg hd]
        · simp only [if_neg d]; exact ih _ _
  exact fun m => key m 0 0
theorem sat.putObj {w : World} {g : Nat} {o : Obj} (o' : Obj) (H : sat W (pt g o :: L) w) : sat W (pt g o' :: L) { w with heap := w.heap.setIfInBounds g o' } := by
  have hg := H.pt_.1
  have hlt := (Array.getElem?_eq_some_iff.1 hg).1
  exact H.turn rfl rfl rfl (by simp) (by simp [hlt]) (fun i hi => by simp [Array.getElem?_setIfInBounds_ne (Ne.symm hi)])
theorem kvs_get {es : Array MapEntry} {m : List (κ × Value)} (h : es.toList.map kv = m.map (ekv enc)) {i : Nat} {p : κ × Value} (hp : m[i]? = some p) : ∃ e, es[i]? = some e ∧ e.key = enc p.1 ∧ e.val = p.2 := by
  have h1 : (es.toList.map kv)[i]? = some (ekv enc p) := by rw [h, List.getElem?_map, hp]; rfl
  rw [List.getElem?_map, Array.getElem?_toList] at h1
  cases he : es[i]? with
  | none => rw [he] at h1; cases h1
  | some e =>
    rw [he] at h1
    simp [kv, ekv] at h1
    exact ⟨e, rfl, h1.1, h1.2⟩
theorem Ents.put {es : Array MapEntry} {c i : Nat} {m : List (κ × Value)} {q : κ} {u v : Value} (h : Ents enc es c m) (hi : m[i]? = some (q, u)) : Ents enc (es.modify i fun e => { e with key := enc q, val := v }) c (m.set i (q, v)) := by
  obtain ⟨e, he, h1, h2⟩ := kvs_get h.kvs hi
  have hlt := (Array.getElem?_eq_some_iff.1 he).1
  refine ⟨?_, ?_, ?_⟩
  · apply List.ext_getElem?
    intro j
    rw [List.getElem?_map, Array.getElem?_toList, Array.getElem?_modify, List.getElem?_map, List.getElem?_set]
    have hj : (es[j]?).map kv = (m[j]?).map (ekv enc) := by
      have := congrArg (fun l => l[j]?) h.kvs
      simpa using this
    by_cases c : i = j
    · subst c
      have hml := (List.getElem?_eq_some_iff.1 hi).1
      rw [if_pos rfl, if_pos rfl, if_pos hml, he]; rfl
    · rw [if_neg c, if_neg c]; exact hj
  · intro e' he'
    obtain ⟨j, hj⟩ := List.mem_iff_getElem?.1 he'
    rw [Array.getElem?_toList, Array.getElem?_modify] at hj
    split at hj
    · cases hx : es[j]? with
      | none => rw [hx] at hj; cases hj
      | some x =>
        rw [hx] at hj
        have := Option.some.inj hj
        rw [← this]
        exact h.born x (List.mem_iff_getElem?.2 ⟨j, by rw [Array.getElem?_toList]; exact hx⟩)
    · exact h.born e' (List.mem_iff_getElem?.2 ⟨j, by rw [Array.getElem?_toList]; exact hj⟩)
  · have e0 : (es.modify i fun e => { e with key := enc q, val := v }).toList.map (·.born) = es.toList.map (·.born) := by
      apply List.ext_getElem?
      intro j
      rw [List.getElem?_map, Array.getElem?_toList, Array.getElem?_modify, List.getElem?_map, Array.getElem?_toList]
      split
      · cases es[j]? <;> rfl
      · rfl
    rw [e0]; exact h.nodup
theorem Ents.push {es : Array MapEntry} {c : Nat} {m : List (κ × Value)} {q : κ} {v : Value} (h : Ents enc es c m) : Ents enc (es.push { key := enc q, val := v, born := c }) (c + 1) (m ++ [(q, v)]) := by
  refine ⟨by simp [h.kvs, kv, ekv], fun e he => ?_, ?_⟩
  · simp at he
    rcases he with he | rfl
    · have := h.born e (by simpa using he); omega
    · simp
  · simp only [Array.toList_push, List.map_append, List.map_cons, List.map_nil]
    refine List.nodup_append.2 ⟨h.nodup, by simp, ?_⟩
    intro a ha b hb
    obtain ⟨e, he, rfl⟩ := List.mem_map.1 ha
    simp at hb; subst hb
    have := h.born e he; omega
theorem e_mapset {e : TypeId} {g : Nat} {m : List (κ × Value)} {q : κ} {v : Value} [ht : MapT P t kt e] (K : KeyLaw P kt enc) (p : Pick L (MapIs g enc m) L') (h : Ent W (MapIs g enc (setM q v m) :: L') (k undef)) : Ent W L (opN P (sMapSet t (.map (some g)) (enc q) v) Kp k) := fun w hw => by
  obtain ⟨es, c, he, hp⟩ := map_row (hw.pick p)
  have hg := hp.pt_.1
  have hf := findKey_run K q w he.kvs
  refine ⟨?_⟩
  cases hq : fnd q m 0 with
  | none =>
    have : (sMapSet t (.map (some g)) (enc q) v).run P w = .ok .skip { w with heap := w.heap.setIfInBounds g (.map (es.push { key := enc q, val := v, born := c }) (c + 1)) } := by
      simp [sMapSet, Instr.mapUpdate, run_underlying ht.ut, MapKept.run_getObj_map hg, K.check, hf, hq, Result.andThen, MapKept.run_setObj_map _ hg]
    rw [this]
    refine h _ (map_back ?_ (hp.putObj _))
    rw [setM_none q v m 0 hq]; exact he.push
  | some r =>
    obtain ⟨i, u⟩ := r
    obtain ⟨_, h2, h3, h4⟩ := setM_some q v m 0 i u hq
    rw [Nat.sub_zero] at h2 h3 h4
    obtain ⟨en, hen, e1, e2⟩ := kvs_get he.kvs h4
    have hk : (Instr.keyThatStays (((es[i]?).map (·.key)).getD (enc q)) (enc q)).run P w = .ok (enc q) w := by
      rw [hen]
      simp only [Option.map_some, Option.getD_some, e1]
      unfold Instr.keyThatStays
      rw [if_pos (K.same q)]; rfl
    have : (sMapSet t (.map (some g)) (enc q) v).run P w = .ok .skip { w with heap := w.heap.setIfInBounds g (.map (es.modify i fun e => { e with key := enc q, val := v }) c) } := by
      simp [sMapSet, Instr.mapUpdate, run_underlying ht.ut, MapKept.run_getObj_map hg, K.check, hf, hq, Result.andThen, hk, MapKept.run_setObj_map _ hg]
    rw [this]
    refine h _ (map_back ?_ (hp.putObj _))
    rw [h3]; exact he.put h4
end Go.Proofs.Ytehfblkpbadikaa.Sl
/-! What the loaded program's types are, one fact a line; printed by a program of mine. No conditions. -/
namespace Go.Proofs.Ytehfblkpbadikaa.T
open Go Go.Proofs Go.Proofs.Ytehfblkpbadikaa.Sh Go.Proofs.Ytehfblkpbadikaa.Sl
theorem fld {P : Program} {t : TypeId} {fs : Array Field} {f ft o n : Nat} (hu : ∀ w, (underlying t).run P w = .ok (.struct fs) w) (hf : (fs[f]?).map (fun x => (x.type, x.offset)) = some (ft, o)) (hs : ∀ w, (sizeOf ft).run P w = .ok (n + 1) w) : FldT P t f o :=
  ⟨fun g b w => by
    cases h : fs[f]? with
    | none => rw [h] at hf; cases hf
    | some fl =>
      rw [h] at hf
      simp only [Option.map_some, Option.some.injEq, Prod.mk.injEq] at hf
      obtain ⟨rfl, rfl⟩ := hf
      simp only [Instr.fieldAt, Sem.run_bind, hu, Result.andThen_ok, h, Instr.sureAddr, fieldPlace, hs, Sem.run_pure]
      by_cases h0 : fl.offset = 0 <;> simp [Addr.add, h0]⟩
theorem slt {P : Program} {t e : TypeId} {i : TypeInfo} {z : Value} {s b : Nat} (hu : P.underlying t = some (.slice e)) (hi : P.info? e = some i) (hz : i.zero = some z) (hs : i.size = s) (hb : i.bytes = b) (hzs : z.cells.size = s) : SlT P t e s b := ⟨hu, i, z, hi, hz, hs, hb, hzs⟩

instance one_1 : OneT Try.prog 1 := ⟨Try.isAgg1, Try.sizeOf1⟩
instance zero_1 : ZeroT Try.prog 1 .nilFunc := ⟨Try.zeroValue1⟩
instance one_2 : OneT Try.prog 2 := ⟨Try.isAgg2, Try.sizeOf2⟩
instance zero_2 : ZeroT Try.prog 2 (.int .i64 0) := ⟨Try.zeroValue2⟩
instance int_2 : IntT Try.prog 2 .i64 := ⟨Try.runUnderlying2⟩
instance one_3 : OneT Try.prog 3 := ⟨Try.isAgg3, Try.sizeOf3⟩
instance zero_3 : ZeroT Try.prog 3 (.int .i64 0) := ⟨Try.zeroValue3⟩
instance int_3 : IntT Try.prog 3 .i64 := ⟨Try.runUnderlying3⟩
instance one_4 : OneT Try.prog 4 := ⟨Try.isAgg4, Try.sizeOf4⟩
instance zero_4 : ZeroT Try.prog 4 (.bool false) := ⟨Try.zeroValue4⟩
instance one_5 : OneT Try.prog 5 := ⟨Try.isAgg5, Try.sizeOf5⟩
instance zero_5 : ZeroT Try.prog 5 (.int .u8 0) := ⟨Try.zeroValue5⟩
instance int_5 : IntT Try.prog 5 .u8 := ⟨Try.runUnderlying5⟩
instance one_6 : OneT Try.prog 6 := ⟨Try.isAgg6, Try.sizeOf6⟩
instance zero_6 : ZeroT Try.prog 6 (.int .u8 0) := ⟨Try.zeroValue6⟩
instance int_6 : IntT Try.prog 6 .u8 := ⟨Try.runUnderlying6⟩
instance zero_7 : ZeroT Try.prog 7 (.agg #[(.int .i64 0), (.int .i64 0), (.bool false), (.int .u8 0)]) := ⟨Try.zeroValue7⟩
instance agg_7 : AggT Try.prog 7 4 := ⟨Try.isAgg7, Try.sizeOf7⟩
instance fld_7_0 : FldT Try.prog 7 0 0 := fld Try.runUnderlying7 (ft := 2) (by kernel_rfl) Try.sizeOf2
instance fld_7_1 : FldT Try.prog 7 1 1 := fld Try.runUnderlying7 (ft := 3) (by kernel_rfl) Try.sizeOf3
instance fld_7_2 : FldT Try.prog 7 2 2 := fld Try.runUnderlying7 (ft := 4) (by kernel_rfl) Try.sizeOf4
instance fld_7_3 : FldT Try.prog 7 3 3 := fld Try.runUnderlying7 (ft := 6) (by kernel_rfl) Try.sizeOf6
instance zero_8 : ZeroT Try.prog 8 (.agg #[(.int .i64 0), (.int .i64 0), (.bool false), (.int .u8 0)]) := ⟨Try.zeroValue8⟩
instance agg_8 : AggT Try.prog 8 4 := ⟨Try.isAgg8, Try.sizeOf8⟩
instance fld_8_0 : FldT Try.prog 8 0 0 := fld Try.runUnderlying8 (ft := 2) (by kernel_rfl) Try.sizeOf2
instance fld_8_1 : FldT Try.prog 8 1 1 := fld Try.runUnderlying8 (ft := 3) (by kernel_rfl) Try.sizeOf3
instance fld_8_2 : FldT Try.prog 8 2 2 := fld Try.runUnderlying8 (ft := 4) (by kernel_rfl) Try.sizeOf4
instance fld_8_3 : FldT Try.prog 8 3 3 := fld Try.runUnderlying8 (ft := 6) (by kernel_rfl) Try.sizeOf6
instance one_9 : OneT Try.prog 9 := ⟨Try.isAgg9, Try.sizeOf9⟩
instance zero_9 : ZeroT Try.prog 9 (.string ⟨#[]⟩) := ⟨Try.zeroValue9⟩
instance str_9 : StrT Try.prog 9 := ⟨Try.underlying9⟩
instance one_10 : OneT Try.prog 10 := ⟨Try.isAgg10, Try.sizeOf10⟩
instance zero_10 : ZeroT Try.prog 10 (.string ⟨#[]⟩) := ⟨Try.zeroValue10⟩
instance str_10 : StrT Try.prog 10 := ⟨Try.underlying10⟩
instance one_11 : OneT Try.prog 11 := ⟨Try.isAgg11, Try.sizeOf11⟩
instance zero_11 : ZeroT Try.prog 11 (.string ⟨#[]⟩) := ⟨Try.zeroValue11⟩
instance str_11 : StrT Try.prog 11 := ⟨Try.underlying11⟩
instance one_12 : OneT Try.prog 12 := ⟨Try.isAgg12, Try.sizeOf12⟩
instance zero_12 : ZeroT Try.prog 12 (.int .u64 0) := ⟨Try.zeroValue12⟩
instance int_12 : IntT Try.prog 12 .u64 := ⟨Try.runUnderlying12⟩
instance zero_13 : ZeroT Try.prog 13 (.agg #[(.string ⟨#[]⟩), (.int .u64 0)]) := ⟨Try.zeroValue13⟩
instance agg_13 : AggT Try.prog 13 2 := ⟨Try.isAgg13, Try.sizeOf13⟩
instance fld_13_0 : FldT Try.prog 13 0 0 := fld Try.runUnderlying13 (ft := 9) (by kernel_rfl) Try.sizeOf9
instance fld_13_1 : FldT Try.prog 13 1 1 := fld Try.runUnderlying13 (ft := 12) (by kernel_rfl) Try.sizeOf12
instance zero_14 : ZeroT Try.prog 14 (.agg #[(.string ⟨#[]⟩), (.int .u64 0)]) := ⟨Try.zeroValue14⟩
instance agg_14 : AggT Try.prog 14 2 := ⟨Try.isAgg14, Try.sizeOf14⟩
instance fld_14_0 : FldT Try.prog 14 0 0 := fld Try.runUnderlying14 (ft := 9) (by kernel_rfl) Try.sizeOf9
instance fld_14_1 : FldT Try.prog 14 1 1 := fld Try.runUnderlying14 (ft := 12) (by kernel_rfl) Try.sizeOf12
instance one_15 : OneT Try.prog 15 := ⟨Try.isAgg15, Try.sizeOf15⟩
instance zero_15 : ZeroT Try.prog 15 (.pointer none) := ⟨Try.zeroValue15⟩
instance ptr_15 : PtrT Try.prog 15 := ⟨by kernel_rfl⟩
instance one_16 : OneT Try.prog 16 := ⟨Try.isAgg16, Try.sizeOf16⟩
instance zero_16 : ZeroT Try.prog 16 (.pointer none) := ⟨Try.zeroValue16⟩
instance ptr_16 : PtrT Try.prog 16 := ⟨by kernel_rfl⟩
instance one_17 : OneT Try.prog 17 := ⟨Try.isAgg17, Try.sizeOf17⟩
instance zero_17 : ZeroT Try.prog 17 (.pointer none) := ⟨Try.zeroValue17⟩
instance ptr_17 : PtrT Try.prog 17 := ⟨by kernel_rfl⟩
instance zero_18 : ZeroT Try.prog 18 (.agg #[(.pointer none)]) := ⟨Try.zeroValue18⟩
instance agg_18 : AggT Try.prog 18 1 := ⟨Try.isAgg18, Try.sizeOf18⟩
instance fld_18_0 : FldT Try.prog 18 0 0 := fld Try.runUnderlying18 (ft := 17) (by kernel_rfl) Try.sizeOf17
instance zero_19 : ZeroT Try.prog 19 (.agg #[(.pointer none)]) := ⟨Try.zeroValue19⟩
instance agg_19 : AggT Try.prog 19 1 := ⟨Try.isAgg19, Try.sizeOf19⟩
instance fld_19_0 : FldT Try.prog 19 0 0 := fld Try.runUnderlying19 (ft := 17) (by kernel_rfl) Try.sizeOf17
instance one_20 : OneT Try.prog 20 := ⟨Try.isAgg20, Try.sizeOf20⟩
instance zero_20 : ZeroT Try.prog 20 .nilIface := ⟨Try.zeroValue20⟩
instance one_21 : OneT Try.prog 21 := ⟨Try.isAgg21, Try.sizeOf21⟩
instance zero_21 : ZeroT Try.prog 21 (.int .i32 0) := ⟨Try.zeroValue21⟩
instance int_21 : IntT Try.prog 21 .i32 := ⟨Try.runUnderlying21⟩
instance one_22 : OneT Try.prog 22 := ⟨Try.isAgg22, Try.sizeOf22⟩
instance zero_22 : ZeroT Try.prog 22 (.slice none 0 0) := ⟨Try.zeroValue22⟩
instance sl_22 : SlT Try.prog 22 3 1 8 := slt (z := (.int .i64 0)) Try.underlying22 (i := Try.t3) (by kernel_rfl) (by kernel_rfl) (by kernel_rfl) (by kernel_rfl) (by kernel_rfl)
instance one_23 : OneT Try.prog 23 := ⟨Try.isAgg23, Try.sizeOf23⟩
instance zero_23 : ZeroT Try.prog 23 (.int .i64 0) := ⟨Try.zeroValue23⟩
instance int_23 : IntT Try.prog 23 .i64 := ⟨Try.runUnderlying23⟩
instance one_25 : OneT Try.prog 25 := ⟨Try.isAgg25, Try.sizeOf25⟩
instance zero_25 : ZeroT Try.prog 25 .nilFunc := ⟨Try.zeroValue25⟩
instance one_27 : OneT Try.prog 27 := ⟨Try.isAgg27, Try.sizeOf27⟩
instance zero_27 : ZeroT Try.prog 27 .nilFunc := ⟨Try.zeroValue27⟩
instance one_28 : OneT Try.prog 28 := ⟨Try.isAgg28, Try.sizeOf28⟩
instance zero_28 : ZeroT Try.prog 28 .nilFunc := ⟨Try.zeroValue28⟩
instance one_29 : OneT Try.prog 29 := ⟨Try.isAgg29, Try.sizeOf29⟩
instance zero_29 : ZeroT Try.prog 29 .nilFunc := ⟨Try.zeroValue29⟩
instance one_30 : OneT Try.prog 30 := ⟨Try.isAgg30, Try.sizeOf30⟩
instance zero_30 : ZeroT Try.prog 30 .nilFunc := ⟨Try.zeroValue30⟩
instance one_31 : OneT Try.prog 31 := ⟨Try.isAgg31, Try.sizeOf31⟩
instance zero_31 : ZeroT Try.prog 31 .nilFunc := ⟨Try.zeroValue31⟩
instance one_32 : OneT Try.prog 32 := ⟨Try.isAgg32, Try.sizeOf32⟩
instance zero_32 : ZeroT Try.prog 32 .nilFunc := ⟨Try.zeroValue32⟩
instance one_33 : OneT Try.prog 33 := ⟨Try.isAgg33, Try.sizeOf33⟩
instance zero_33 : ZeroT Try.prog 33 (.int .u64 0) := ⟨Try.zeroValue33⟩
instance int_33 : IntT Try.prog 33 .u64 := ⟨Try.runUnderlying33⟩
instance one_34 : OneT Try.prog 34 := ⟨Try.isAgg34, Try.sizeOf34⟩
instance zero_34 : ZeroT Try.prog 34 .nilFunc := ⟨Try.zeroValue34⟩
instance one_35 : OneT Try.prog 35 := ⟨Try.isAgg35, Try.sizeOf35⟩
instance zero_35 : ZeroT Try.prog 35 .nilFunc := ⟨Try.zeroValue35⟩
instance one_37 : OneT Try.prog 37 := ⟨Try.isAgg37, Try.sizeOf37⟩
instance zero_37 : ZeroT Try.prog 37 .nilFunc := ⟨Try.zeroValue37⟩
instance one_38 : OneT Try.prog 38 := ⟨Try.isAgg38, Try.sizeOf38⟩
instance zero_38 : ZeroT Try.prog 38 .nilFunc := ⟨Try.zeroValue38⟩
instance one_39 : OneT Try.prog 39 := ⟨Try.isAgg39, Try.sizeOf39⟩
instance zero_39 : ZeroT Try.prog 39 (.slice none 0 0) := ⟨Try.zeroValue39⟩
instance bytes_39 : BytesT Try.prog 39 := ⟨_, Try.underlying39, Try.underlying5⟩
instance sl_39 : SlT Try.prog 39 5 1 1 := slt (z := (.int .u8 0)) Try.underlying39 (i := Try.t5) (by kernel_rfl) (by kernel_rfl) (by kernel_rfl) (by kernel_rfl) (by kernel_rfl)
instance one_41 : OneT Try.prog 41 := ⟨Try.isAgg41, Try.sizeOf41⟩
instance zero_41 : ZeroT Try.prog 41 .nilFunc := ⟨Try.zeroValue41⟩
instance one_42 : OneT Try.prog 42 := ⟨Try.isAgg42, Try.sizeOf42⟩
instance zero_42 : ZeroT Try.prog 42 .nilFunc := ⟨Try.zeroValue42⟩
instance one_43 : OneT Try.prog 43 := ⟨Try.isAgg43, Try.sizeOf43⟩
instance zero_43 : ZeroT Try.prog 43 .nilFunc := ⟨Try.zeroValue43⟩
instance one_44 : OneT Try.prog 44 := ⟨Try.isAgg44, Try.sizeOf44⟩
instance zero_44 : ZeroT Try.prog 44 (.slice none 0 0) := ⟨Try.zeroValue44⟩
instance sl_44 : SlT Try.prog 44 39 1 24 := slt (z := (.slice none 0 0)) Try.underlying44 (i := Try.t39) (by kernel_rfl) (by kernel_rfl) (by kernel_rfl) (by kernel_rfl) (by kernel_rfl)
instance one_45 : OneT Try.prog 45 := ⟨Try.isAgg45, Try.sizeOf45⟩
instance zero_45 : ZeroT Try.prog 45 .nilFunc := ⟨Try.zeroValue45⟩
instance one_46 : OneT Try.prog 46 := ⟨Try.isAgg46, Try.sizeOf46⟩
instance zero_46 : ZeroT Try.prog 46 (.slice none 0 0) := ⟨Try.zeroValue46⟩
instance sl_46 : SlT Try.prog 46 53 2 16 := slt (z := (.agg #[(.int .i64 0), (.int .i64 0)])) Try.underlying46 (i := Try.t53) (by kernel_rfl) (by kernel_rfl) (by kernel_rfl) (by kernel_rfl) (by kernel_rfl)
instance one_48 : OneT Try.prog 48 := ⟨Try.isAgg48, Try.sizeOf48⟩
instance zero_48 : ZeroT Try.prog 48 .nilFunc := ⟨Try.zeroValue48⟩
instance one_49 : OneT Try.prog 49 := ⟨Try.isAgg49, Try.sizeOf49⟩
instance zero_49 : ZeroT Try.prog 49 (.slice none 0 0) := ⟨Try.zeroValue49⟩
instance sl_49 : SlT Try.prog 49 54 2 16 := slt (z := (.agg #[(.int .i64 0), (.int .i64 0)])) Try.underlying49 (i := Try.t54) (by kernel_rfl) (by kernel_rfl) (by kernel_rfl) (by kernel_rfl) (by kernel_rfl)
instance one_51 : OneT Try.prog 51 := ⟨Try.isAgg51, Try.sizeOf51⟩
instance zero_51 : ZeroT Try.prog 51 .nilFunc := ⟨Try.zeroValue51⟩
instance zero_52 : ZeroT Try.prog 52 (.agg #[(.int .i64 0), (.int .i64 0)]) := ⟨Try.zeroValue52⟩
instance agg_52 : AggT Try.prog 52 2 := ⟨Try.isAgg52, Try.sizeOf52⟩
instance fld_52_0 : FldT Try.prog 52 0 0 := fld Try.runUnderlying52 (ft := 3) (by kernel_rfl) Try.sizeOf3
instance fld_52_1 : FldT Try.prog 52 1 1 := fld Try.runUnderlying52 (ft := 3) (by kernel_rfl) Try.sizeOf3
instance zero_53 : ZeroT Try.prog 53 (.agg #[(.int .i64 0), (.int .i64 0)]) := ⟨Try.zeroValue53⟩
instance agg_53 : AggT Try.prog 53 2 := ⟨Try.isAgg53, Try.sizeOf53⟩
instance fld_53_0 : FldT Try.prog 53 0 0 := fld Try.runUnderlying53 (ft := 3) (by kernel_rfl) Try.sizeOf3
instance fld_53_1 : FldT Try.prog 53 1 1 := fld Try.runUnderlying53 (ft := 3) (by kernel_rfl) Try.sizeOf3
instance zero_54 : ZeroT Try.prog 54 (.agg #[(.int .i64 0), (.int .i64 0)]) := ⟨Try.zeroValue54⟩
instance agg_54 : AggT Try.prog 54 2 := ⟨Try.isAgg54, Try.sizeOf54⟩
instance fld_54_0 : FldT Try.prog 54 0 0 := fld Try.runUnderlying54 (ft := 3) (by kernel_rfl) Try.sizeOf3
instance fld_54_1 : FldT Try.prog 54 1 1 := fld Try.runUnderlying54 (ft := 3) (by kernel_rfl) Try.sizeOf3
instance one_55 : OneT Try.prog 55 := ⟨Try.isAgg55, Try.sizeOf55⟩
instance zero_55 : ZeroT Try.prog 55 (.pointer none) := ⟨Try.zeroValue55⟩
instance ptr_55 : PtrT Try.prog 55 := ⟨by kernel_rfl⟩
instance one_56 : OneT Try.prog 56 := ⟨Try.isAgg56, Try.sizeOf56⟩
instance zero_56 : ZeroT Try.prog 56 .nilFunc := ⟨Try.zeroValue56⟩
instance one_57 : OneT Try.prog 57 := ⟨Try.isAgg57, Try.sizeOf57⟩
instance zero_57 : ZeroT Try.prog 57 (.pointer none) := ⟨Try.zeroValue57⟩
instance ptr_57 : PtrT Try.prog 57 := ⟨by kernel_rfl⟩
instance zero_58 : ZeroT Try.prog 58 (.agg #[(.slice none 0 0)]) := ⟨Try.zeroValue58⟩
instance agg_58 : AggT Try.prog 58 1 := ⟨Try.isAgg58, Try.sizeOf58⟩
instance fld_58_0 : FldT Try.prog 58 0 0 := fld Try.runUnderlying58 (ft := 39) (by kernel_rfl) Try.sizeOf39
instance zero_59 : ZeroT Try.prog 59 (.agg #[(.slice none 0 0)]) := ⟨Try.zeroValue59⟩
instance agg_59 : AggT Try.prog 59 1 := ⟨Try.isAgg59, Try.sizeOf59⟩
instance fld_59_0 : FldT Try.prog 59 0 0 := fld Try.runUnderlying59 (ft := 39) (by kernel_rfl) Try.sizeOf39
instance one_60 : OneT Try.prog 60 := ⟨Try.isAgg60, Try.sizeOf60⟩
instance zero_60 : ZeroT Try.prog 60 .nilFunc := ⟨Try.zeroValue60⟩
instance one_61 : OneT Try.prog 61 := ⟨Try.isAgg61, Try.sizeOf61⟩
instance zero_61 : ZeroT Try.prog 61 .nilFunc := ⟨Try.zeroValue61⟩
instance one_62 : OneT Try.prog 62 := ⟨Try.isAgg62, Try.sizeOf62⟩
instance zero_62 : ZeroT Try.prog 62 .nilFunc := ⟨Try.zeroValue62⟩
instance one_63 : OneT Try.prog 63 := ⟨Try.isAgg63, Try.sizeOf63⟩
instance zero_63 : ZeroT Try.prog 63 .nilFunc := ⟨Try.zeroValue63⟩
instance one_64 : OneT Try.prog 64 := ⟨Try.isAgg64, Try.sizeOf64⟩
instance zero_64 : ZeroT Try.prog 64 (.pointer none) := ⟨Try.zeroValue64⟩
instance ptr_64 : PtrT Try.prog 64 := ⟨by kernel_rfl⟩
instance one_66 : OneT Try.prog 66 := ⟨Try.isAgg66, Try.sizeOf66⟩
instance zero_66 : ZeroT Try.prog 66 .nilFunc := ⟨Try.zeroValue66⟩
instance one_67 : OneT Try.prog 67 := ⟨Try.isAgg67, Try.sizeOf67⟩
instance zero_67 : ZeroT Try.prog 67 (.pointer none) := ⟨Try.zeroValue67⟩
instance ptr_67 : PtrT Try.prog 67 := ⟨by kernel_rfl⟩
instance one_69 : OneT Try.prog 69 := ⟨Try.isAgg69, Try.sizeOf69⟩
instance zero_69 : ZeroT Try.prog 69 .nilFunc := ⟨Try.zeroValue69⟩
instance one_70 : OneT Try.prog 70 := ⟨Try.isAgg70, Try.sizeOf70⟩
instance zero_70 : ZeroT Try.prog 70 (.pointer none) := ⟨Try.zeroValue70⟩
instance ptr_70 : PtrT Try.prog 70 := ⟨by kernel_rfl⟩
instance one_71 : OneT Try.prog 71 := ⟨Try.isAgg71, Try.sizeOf71⟩
instance zero_71 : ZeroT Try.prog 71 .nilFunc := ⟨Try.zeroValue71⟩
instance one_72 : OneT Try.prog 72 := ⟨Try.isAgg72, Try.sizeOf72⟩
instance zero_72 : ZeroT Try.prog 72 (.pointer none) := ⟨Try.zeroValue72⟩
instance ptr_72 : PtrT Try.prog 72 := ⟨by kernel_rfl⟩
instance one_73 : OneT Try.prog 73 := ⟨Try.isAgg73, Try.sizeOf73⟩
instance zero_73 : ZeroT Try.prog 73 .nilFunc := ⟨Try.zeroValue73⟩
instance one_75 : OneT Try.prog 75 := ⟨Try.isAgg75, Try.sizeOf75⟩
instance zero_75 : ZeroT Try.prog 75 .nilFunc := ⟨Try.zeroValue75⟩
instance one_77 : OneT Try.prog 77 := ⟨Try.isAgg77, Try.sizeOf77⟩
instance zero_77 : ZeroT Try.prog 77 .nilFunc := ⟨Try.zeroValue77⟩
instance one_78 : OneT Try.prog 78 := ⟨Try.isAgg78, Try.sizeOf78⟩
instance zero_78 : ZeroT Try.prog 78 .nilFunc := ⟨Try.zeroValue78⟩
instance one_79 : OneT Try.prog 79 := ⟨Try.isAgg79, Try.sizeOf79⟩
instance zero_79 : ZeroT Try.prog 79 .nilFunc := ⟨Try.zeroValue79⟩
instance one_80 : OneT Try.prog 80 := ⟨Try.isAgg80, Try.sizeOf80⟩
instance zero_80 : ZeroT Try.prog 80 (.map none) := ⟨Try.zeroValue80⟩
instance map_80 : MapT Try.prog 80 109 3 := ⟨Try.underlying80⟩
instance zero_81 : ZeroT Try.prog 81 (.agg #[(.map none)]) := ⟨Try.zeroValue81⟩
instance agg_81 : AggT Try.prog 81 1 := ⟨Try.isAgg81, Try.sizeOf81⟩
instance fld_81_0 : FldT Try.prog 81 0 0 := fld Try.runUnderlying81 (ft := 80) (by kernel_rfl) Try.sizeOf80
instance zero_82 : ZeroT Try.prog 82 (.agg #[(.map none)]) := ⟨Try.zeroValue82⟩
instance agg_82 : AggT Try.prog 82 1 := ⟨Try.isAgg82, Try.sizeOf82⟩
instance fld_82_0 : FldT Try.prog 82 0 0 := fld Try.runUnderlying82 (ft := 80) (by kernel_rfl) Try.sizeOf80
instance one_83 : OneT Try.prog 83 := ⟨Try.isAgg83, Try.sizeOf83⟩
instance zero_83 : ZeroT Try.prog 83 .nilFunc := ⟨Try.zeroValue83⟩
instance one_84 : OneT Try.prog 84 := ⟨Try.isAgg84, Try.sizeOf84⟩
instance zero_84 : ZeroT Try.prog 84 (.slice none 0 0) := ⟨Try.zeroValue84⟩
instance sl_84 : SlT Try.prog 84 86 2 32 := slt (z := (.agg #[(.int .i64 0), (.slice none 0 0)])) Try.underlying84 (i := Try.t86) (by kernel_rfl) (by kernel_rfl) (by kernel_rfl) (by kernel_rfl) (by kernel_rfl)
instance zero_85 : ZeroT Try.prog 85 (.agg #[(.int .i64 0), (.slice none 0 0)]) := ⟨Try.zeroValue85⟩
instance agg_85 : AggT Try.prog 85 2 := ⟨Try.isAgg85, Try.sizeOf85⟩
instance fld_85_0 : FldT Try.prog 85 0 0 := fld Try.runUnderlying85 (ft := 3) (by kernel_rfl) Try.sizeOf3
instance fld_85_1 : FldT Try.prog 85 1 1 := fld Try.runUnderlying85 (ft := 22) (by kernel_rfl) Try.sizeOf22
instance zero_86 : ZeroT Try.prog 86 (.agg #[(.int .i64 0), (.slice none 0 0)]) := ⟨Try.zeroValue86⟩
instance agg_86 : AggT Try.prog 86 2 := ⟨Try.isAgg86, Try.sizeOf86⟩
instance fld_86_0 : FldT Try.prog 86 0 0 := fld Try.runUnderlying86 (ft := 3) (by kernel_rfl) Try.sizeOf3
instance fld_86_1 : FldT Try.prog 86 1 1 := fld Try.runUnderlying86 (ft := 22) (by kernel_rfl) Try.sizeOf22
instance one_87 : OneT Try.prog 87 := ⟨Try.isAgg87, Try.sizeOf87⟩
instance zero_87 : ZeroT Try.prog 87 .nilFunc := ⟨Try.zeroValue87⟩
instance one_88 : OneT Try.prog 88 := ⟨Try.isAgg88, Try.sizeOf88⟩
instance zero_88 : ZeroT Try.prog 88 .nilFunc := ⟨Try.zeroValue88⟩
instance one_89 : OneT Try.prog 89 := ⟨Try.isAgg89, Try.sizeOf89⟩
instance zero_89 : ZeroT Try.prog 89 .nilFunc := ⟨Try.zeroValue89⟩
instance one_90 : OneT Try.prog 90 := ⟨Try.isAgg90, Try.sizeOf90⟩
instance zero_90 : ZeroT Try.prog 90 .nilFunc := ⟨Try.zeroValue90⟩
instance one_91 : OneT Try.prog 91 := ⟨Try.isAgg91, Try.sizeOf91⟩
instance zero_91 : ZeroT Try.prog 91 .nilFunc := ⟨Try.zeroValue91⟩
instance one_92 : OneT Try.prog 92 := ⟨Try.isAgg92, Try.sizeOf92⟩
instance zero_92 : ZeroT Try.prog 92 (.slice none 0 0) := ⟨Try.zeroValue92⟩
instance sl_92 : SlT Try.prog 92 95 2 32 := slt (z := (.agg #[(.int .i64 0), (.slice none 0 0)])) Try.underlying92 (i := Try.t95) (by kernel_rfl) (by kernel_rfl) (by kernel_rfl) (by kernel_rfl) (by kernel_rfl)
instance one_93 : OneT Try.prog 93 := ⟨Try.isAgg93, Try.sizeOf93⟩
instance zero_93 : ZeroT Try.prog 93 .nilFunc := ⟨Try.zeroValue93⟩
instance zero_94 : ZeroT Try.prog 94 (.agg #[(.int .i64 0), (.slice none 0 0)]) := ⟨Try.zeroValue94⟩
instance agg_94 : AggT Try.prog 94 2 := ⟨Try.isAgg94, Try.sizeOf94⟩
instance fld_94_0 : FldT Try.prog 94 0 0 := fld Try.runUnderlying94 (ft := 3) (by kernel_rfl) Try.sizeOf3
instance fld_94_1 : FldT Try.prog 94 1 1 := fld Try.runUnderlying94 (ft := 22) (by kernel_rfl) Try.sizeOf22
instance zero_95 : ZeroT Try.prog 95 (.agg #[(.int .i64 0), (.slice none 0 0)]) := ⟨Try.zeroValue95⟩
instance agg_95 : AggT Try.prog 95 2 := ⟨Try.isAgg95, Try.sizeOf95⟩
instance fld_95_0 : FldT Try.prog 95 0 0 := fld Try.runUnderlying95 (ft := 3) (by kernel_rfl) Try.sizeOf3
instance fld_95_1 : FldT Try.prog 95 1 1 := fld Try.runUnderlying95 (ft := 22) (by kernel_rfl) Try.sizeOf22
instance one_96 : OneT Try.prog 96 := ⟨Try.isAgg96, Try.sizeOf96⟩
instance zero_96 : ZeroT Try.prog 96 .nilFunc := ⟨Try.zeroValue96⟩
instance zero_97 : ZeroT Try.prog 97 (.agg #[(.int .i64 0), (.int .i64 0), (.int .i64 0), (.int .i64 0), (.int .i64 0), (.int .i64 0), (.int .i64 0), (.int .i64 0), (.int .i64 0), (.int .i64 0), (.int .i64 0), (.int .i64 0), (.int .i64 0), (.int .i64 0), (.int .i64 0), (.int .i64 0)]) := ⟨Try.zeroValue97⟩
instance agg_97 : AggT Try.prog 97 16 := ⟨Try.isAgg97, Try.sizeOf97⟩
instance arr_97 : ArrT Try.prog 97 16 3 1 := ⟨Try.runUnderlying97, Try.sizeOf3⟩
instance one_99 : OneT Try.prog 99 := ⟨Try.isAgg99, Try.sizeOf99⟩
instance zero_99 : ZeroT Try.prog 99 .nilFunc := ⟨Try.zeroValue99⟩
instance one_100 : OneT Try.prog 100 := ⟨Try.isAgg100, Try.sizeOf100⟩
instance zero_100 : ZeroT Try.prog 100 .nilFunc := ⟨Try.zeroValue100⟩
instance one_102 : OneT Try.prog 102 := ⟨Try.isAgg102, Try.sizeOf102⟩
instance zero_102 : ZeroT Try.prog 102 .nilFunc := ⟨Try.zeroValue102⟩
instance one_104 : OneT Try.prog 104 := ⟨Try.isAgg104, Try.sizeOf104⟩
instance zero_104 : ZeroT Try.prog 104 .nilFunc := ⟨Try.zeroValue104⟩
instance zero_105 : ZeroT Try.prog 105 (.agg #[(.slice none 0 0), (.int .i64 0), (.bool false)]) := ⟨Try.zeroValue105⟩
instance agg_105 : AggT Try.prog 105 3 := ⟨Try.isAgg105, Try.sizeOf105⟩
instance fld_105_0 : FldT Try.prog 105 0 0 := fld Try.runUnderlying105 (ft := 39) (by kernel_rfl) Try.sizeOf39
instance fld_105_1 : FldT Try.prog 105 1 1 := fld Try.runUnderlying105 (ft := 3) (by kernel_rfl) Try.sizeOf3
instance fld_105_2 : FldT Try.prog 105 2 2 := fld Try.runUnderlying105 (ft := 4) (by kernel_rfl) Try.sizeOf4
instance zero_106 : ZeroT Try.prog 106 (.agg #[(.slice none 0 0), (.int .i64 0), (.bool false)]) := ⟨Try.zeroValue106⟩
instance agg_106 : AggT Try.prog 106 3 := ⟨Try.isAgg106, Try.sizeOf106⟩
instance fld_106_0 : FldT Try.prog 106 0 0 := fld Try.runUnderlying106 (ft := 39) (by kernel_rfl) Try.sizeOf39
instance fld_106_1 : FldT Try.prog 106 1 1 := fld Try.runUnderlying106 (ft := 3) (by kernel_rfl) Try.sizeOf3
instance fld_106_2 : FldT Try.prog 106 2 2 := fld Try.runUnderlying106 (ft := 4) (by kernel_rfl) Try.sizeOf4
instance one_107 : OneT Try.prog 107 := ⟨Try.isAgg107, Try.sizeOf107⟩
instance zero_107 : ZeroT Try.prog 107 .nilFunc := ⟨Try.zeroValue107⟩
instance zero_108 : ZeroT Try.prog 108 (.agg #[(.int .i64 0), (.int .i64 0)]) := ⟨Try.zeroValue108⟩
instance agg_108 : AggT Try.prog 108 2 := ⟨Try.isAgg108, Try.sizeOf108⟩
instance fld_108_0 : FldT Try.prog 108 0 0 := fld Try.runUnderlying108 (ft := 3) (by kernel_rfl) Try.sizeOf3
instance fld_108_1 : FldT Try.prog 108 1 1 := fld Try.runUnderlying108 (ft := 3) (by kernel_rfl) Try.sizeOf3
instance zero_109 : ZeroT Try.prog 109 (.agg #[(.int .i64 0), (.int .i64 0)]) := ⟨Try.zeroValue109⟩
instance agg_109 : AggT Try.prog 109 2 := ⟨Try.isAgg109, Try.sizeOf109⟩
instance fld_109_0 : FldT Try.prog 109 0 0 := fld Try.runUnderlying109 (ft := 3) (by kernel_rfl) Try.sizeOf3
instance fld_109_1 : FldT Try.prog 109 1 1 := fld Try.runUnderlying109 (ft := 3) (by kernel_rfl) Try.sizeOf3
instance zero_110 : ZeroT Try.prog 110 (.agg #[(.slice none 0 0), (.slice none 0 0), (.bool false)]) := ⟨Try.zeroValue110⟩
instance agg_110 : AggT Try.prog 110 3 := ⟨Try.isAgg110, Try.sizeOf110⟩
instance fld_110_0 : FldT Try.prog 110 0 0 := fld Try.runUnderlying110 (ft := 22) (by kernel_rfl) Try.sizeOf22
instance fld_110_1 : FldT Try.prog 110 1 1 := fld Try.runUnderlying110 (ft := 22) (by kernel_rfl) Try.sizeOf22
instance fld_110_2 : FldT Try.prog 110 2 2 := fld Try.runUnderlying110 (ft := 4) (by kernel_rfl) Try.sizeOf4
instance zero_111 : ZeroT Try.prog 111 (.agg #[(.slice none 0 0), (.slice none 0 0), (.bool false)]) := ⟨Try.zeroValue111⟩
instance agg_111 : AggT Try.prog 111 3 := ⟨Try.isAgg111, Try.sizeOf111⟩
instance fld_111_0 : FldT Try.prog 111 0 0 := fld Try.runUnderlying111 (ft := 22) (by kernel_rfl) Try.sizeOf22
instance fld_111_1 : FldT Try.prog 111 1 1 := fld Try.runUnderlying111 (ft := 22) (by kernel_rfl) Try.sizeOf22
instance fld_111_2 : FldT Try.prog 111 2 2 := fld Try.runUnderlying111 (ft := 4) (by kernel_rfl) Try.sizeOf4
instance zero_112 : ZeroT Try.prog 112 (.agg #[(.slice none 0 0), (.int .i64 0)]) := ⟨Try.zeroValue112⟩
instance agg_112 : AggT Try.prog 112 2 := ⟨Try.isAgg112, Try.sizeOf112⟩
instance fld_112_0 : FldT Try.prog 112 0 0 := fld Try.runUnderlying112 (ft := 39) (by kernel_rfl) Try.sizeOf39
instance fld_112_1 : FldT Try.prog 112 1 1 := fld Try.runUnderlying112 (ft := 3) (by kernel_rfl) Try.sizeOf3
instance zero_113 : ZeroT Try.prog 113 (.agg #[(.slice none 0 0), (.int .i64 0)]) := ⟨Try.zeroValue113⟩
instance agg_113 : AggT Try.prog 113 2 := ⟨Try.isAgg113, Try.sizeOf113⟩
instance fld_113_0 : FldT Try.prog 113 0 0 := fld Try.runUnderlying113 (ft := 39) (by kernel_rfl) Try.sizeOf39
instance fld_113_1 : FldT Try.prog 113 1 1 := fld Try.runUnderlying113 (ft := 3) (by kernel_rfl) Try.sizeOf3
instance zero_114 : ZeroT Try.prog 114 (.agg #[(.slice none 0 0), (.int .i64 0), (.bool false)]) := ⟨Try.zeroValue114⟩
instance agg_114 : AggT Try.prog 114 3 := ⟨Try.isAgg114, Try.sizeOf114⟩
instance fld_114_0 : FldT Try.prog 114 0 0 := fld Try.runUnderlying114 (ft := 113) (by kernel_rfl) Try.sizeOf113
instance fld_114_1 : FldT Try.prog 114 1 2 := fld Try.runUnderlying114 (ft := 4) (by kernel_rfl) Try.sizeOf4
instance zero_115 : ZeroT Try.prog 115 (.agg #[(.slice none 0 0), (.int .i64 0), (.bool false)]) := ⟨Try.zeroValue115⟩
instance agg_115 : AggT Try.prog 115 3 := ⟨Try.isAgg115, Try.sizeOf115⟩
instance fld_115_0 : FldT Try.prog 115 0 0 := fld Try.runUnderlying115 (ft := 113) (by kernel_rfl) Try.sizeOf113
instance fld_115_1 : FldT Try.prog 115 1 2 := fld Try.runUnderlying115 (ft := 4) (by kernel_rfl) Try.sizeOf4
instance zero_116 : ZeroT Try.prog 116 (.agg #[(.slice none 0 0), (.int .i64 0)]) := ⟨Try.zeroValue116⟩
instance agg_116 : AggT Try.prog 116 2 := ⟨Try.isAgg116, Try.sizeOf116⟩
instance fld_116_0 : FldT Try.prog 116 0 0 := fld Try.runUnderlying116 (ft := 39) (by kernel_rfl) Try.sizeOf39
instance fld_116_1 : FldT Try.prog 116 1 1 := fld Try.runUnderlying116 (ft := 3) (by kernel_rfl) Try.sizeOf3
instance zero_117 : ZeroT Try.prog 117 (.agg #[(.slice none 0 0), (.int .i64 0)]) := ⟨Try.zeroValue117⟩
instance agg_117 : AggT Try.prog 117 2 := ⟨Try.isAgg117, Try.sizeOf117⟩
instance fld_117_0 : FldT Try.prog 117 0 0 := fld Try.runUnderlying117 (ft := 39) (by kernel_rfl) Try.sizeOf39
instance fld_117_1 : FldT Try.prog 117 1 1 := fld Try.runUnderlying117 (ft := 3) (by kernel_rfl) Try.sizeOf3
instance one_118 : OneT Try.prog 118 := ⟨Try.isAgg118, Try.sizeOf118⟩
instance zero_118 : ZeroT Try.prog 118 .nilFunc := ⟨Try.zeroValue118⟩
instance one_119 : OneT Try.prog 119 := ⟨Try.isAgg119, Try.sizeOf119⟩
instance zero_119 : ZeroT Try.prog 119 .nilFunc := ⟨Try.zeroValue119⟩
instance one_120 : OneT Try.prog 120 := ⟨Try.isAgg120, Try.sizeOf120⟩
instance zero_120 : ZeroT Try.prog 120 .nilFunc := ⟨Try.zeroValue120⟩
instance one_121 : OneT Try.prog 121 := ⟨Try.isAgg121, Try.sizeOf121⟩
instance zero_121 : ZeroT Try.prog 121 .nilFunc := ⟨Try.zeroValue121⟩
instance one_122 : OneT Try.prog 122 := ⟨Try.isAgg122, Try.sizeOf122⟩
instance zero_122 : ZeroT Try.prog 122 (.slice none 0 0) := ⟨Try.zeroValue122⟩
instance sl_122 : SlT Try.prog 122 22 1 24 := slt (z := (.slice none 0 0)) Try.underlying122 (i := Try.t22) (by kernel_rfl) (by kernel_rfl) (by kernel_rfl) (by kernel_rfl) (by kernel_rfl)
instance one_123 : OneT Try.prog 123 := ⟨Try.isAgg123, Try.sizeOf123⟩
instance zero_123 : ZeroT Try.prog 123 .nilFunc := ⟨Try.zeroValue123⟩
instance one_124 : OneT Try.prog 124 := ⟨Try.isAgg124, Try.sizeOf124⟩
instance zero_124 : ZeroT Try.prog 124 (.pointer none) := ⟨Try.zeroValue124⟩
instance ptr_124 : PtrT Try.prog 124 := ⟨by kernel_rfl⟩
instance zero_125 : ZeroT Try.prog 125 (.agg #[(.pointer none), (.slice none 0 0), (.int .i64 0)]) := ⟨Try.zeroValue125⟩
instance agg_125 : AggT Try.prog 125 3 := ⟨Try.isAgg125, Try.sizeOf125⟩
instance fld_125_0 : FldT Try.prog 125 0 0 := fld Try.runUnderlying125 (ft := 70) (by kernel_rfl) Try.sizeOf70
instance fld_125_1 : FldT Try.prog 125 1 1 := fld Try.runUnderlying125 (ft := 39) (by kernel_rfl) Try.sizeOf39
instance fld_125_2 : FldT Try.prog 125 2 2 := fld Try.runUnderlying125 (ft := 3) (by kernel_rfl) Try.sizeOf3
instance zero_126 : ZeroT Try.prog 126 (.agg #[(.pointer none), (.slice none 0 0), (.int .i64 0)]) := ⟨Try.zeroValue126⟩
instance agg_126 : AggT Try.prog 126 3 := ⟨Try.isAgg126, Try.sizeOf126⟩
instance fld_126_0 : FldT Try.prog 126 0 0 := fld Try.runUnderlying126 (ft := 70) (by kernel_rfl) Try.sizeOf70
instance fld_126_1 : FldT Try.prog 126 1 1 := fld Try.runUnderlying126 (ft := 39) (by kernel_rfl) Try.sizeOf39
instance fld_126_2 : FldT Try.prog 126 2 2 := fld Try.runUnderlying126 (ft := 3) (by kernel_rfl) Try.sizeOf3
instance one_127 : OneT Try.prog 127 := ⟨Try.isAgg127, Try.sizeOf127⟩
instance zero_127 : ZeroT Try.prog 127 .nilFunc := ⟨Try.zeroValue127⟩
instance zero_128 : ZeroT Try.prog 128 (.agg #[.nilFunc, .nilFunc, .nilFunc, .nilFunc]) := ⟨Try.zeroValue128⟩
instance agg_128 : AggT Try.prog 128 4 := ⟨Try.isAgg128, Try.sizeOf128⟩
instance arr_128 : ArrT Try.prog 128 4 127 1 := ⟨Try.runUnderlying128, Try.sizeOf127⟩
instance one_129 : OneT Try.prog 129 := ⟨Try.isAgg129, Try.sizeOf129⟩
instance zero_129 : ZeroT Try.prog 129 .nilFunc := ⟨Try.zeroValue129⟩
instance one_130 : OneT Try.prog 130 := ⟨Try.isAgg130, Try.sizeOf130⟩
instance zero_130 : ZeroT Try.prog 130 (.pointer none) := ⟨Try.zeroValue130⟩
instance ptr_130 : PtrT Try.prog 130 := ⟨by kernel_rfl⟩
instance zero_131 : ZeroT Try.prog 131 (.agg #[(.pointer none), (.slice none 0 0), (.int .i64 0), (.int .i64 0)]) := ⟨Try.zeroValue131⟩
instance agg_131 : AggT Try.prog 131 4 := ⟨Try.isAgg131, Try.sizeOf131⟩
instance fld_131_0 : FldT Try.prog 131 0 0 := fld Try.runUnderlying131 (ft := 72) (by kernel_rfl) Try.sizeOf72
instance fld_131_1 : FldT Try.prog 131 1 1 := fld Try.runUnderlying131 (ft := 39) (by kernel_rfl) Try.sizeOf39
instance fld_131_2 : FldT Try.prog 131 2 2 := fld Try.runUnderlying131 (ft := 3) (by kernel_rfl) Try.sizeOf3
instance fld_131_3 : FldT Try.prog 131 3 3 := fld Try.runUnderlying131 (ft := 3) (by kernel_rfl) Try.sizeOf3
instance zero_132 : ZeroT Try.prog 132 (.agg #[(.pointer none), (.slice none 0 0), (.int .i64 0), (.int .i64 0)]) := ⟨Try.zeroValue132⟩
instance agg_132 : AggT Try.prog 132 4 := ⟨Try.isAgg132, Try.sizeOf132⟩
instance fld_132_0 : FldT Try.prog 132 0 0 := fld Try.runUnderlying132 (ft := 72) (by kernel_rfl) Try.sizeOf72
instance fld_132_1 : FldT Try.prog 132 1 1 := fld Try.runUnderlying132 (ft := 39) (by kernel_rfl) Try.sizeOf39
instance fld_132_2 : FldT Try.prog 132 2 2 := fld Try.runUnderlying132 (ft := 3) (by kernel_rfl) Try.sizeOf3
instance fld_132_3 : FldT Try.prog 132 3 3 := fld Try.runUnderlying132 (ft := 3) (by kernel_rfl) Try.sizeOf3
instance one_134 : OneT Try.prog 134 := ⟨Try.isAgg134, Try.sizeOf134⟩
instance zero_134 : ZeroT Try.prog 134 .nilFunc := ⟨Try.zeroValue134⟩
instance one_135 : OneT Try.prog 135 := ⟨Try.isAgg135, Try.sizeOf135⟩
instance zero_135 : ZeroT Try.prog 135 .nilFunc := ⟨Try.zeroValue135⟩
instance one_136 : OneT Try.prog 136 := ⟨Try.isAgg136, Try.sizeOf136⟩
instance zero_136 : ZeroT Try.prog 136 .nilFunc := ⟨Try.zeroValue136⟩
instance zero_137 : ZeroT Try.prog 137 (.agg #[(.int .u8 0), (.int .u8 0), (.int .u8 0), (.int .u8 0), (.int .u8 0), (.int .u8 0), (.int .u8 0), (.int .u8 0)]) := ⟨Try.zeroValue137⟩
instance agg_137 : AggT Try.prog 137 8 := ⟨Try.isAgg137, Try.sizeOf137⟩
instance arr_137 : ArrT Try.prog 137 8 5 1 := ⟨Try.runUnderlying137, Try.sizeOf5⟩
instance one_138 : OneT Try.prog 138 := ⟨Try.isAgg138, Try.sizeOf138⟩
instance zero_138 : ZeroT Try.prog 138 .nilFunc := ⟨Try.zeroValue138⟩
instance one_139 : OneT Try.prog 139 := ⟨Try.isAgg139, Try.sizeOf139⟩
instance zero_139 : ZeroT Try.prog 139 (.pointer none) := ⟨Try.zeroValue139⟩
instance ptr_139 : PtrT Try.prog 139 := ⟨by kernel_rfl⟩
instance one_140 : OneT Try.prog 140 := ⟨Try.isAgg140, Try.sizeOf140⟩
instance zero_140 : ZeroT Try.prog 140 .nilFunc := ⟨Try.zeroValue140⟩
instance one_141 : OneT Try.prog 141 := ⟨Try.isAgg141, Try.sizeOf141⟩
instance zero_141 : ZeroT Try.prog 141 .nilFunc := ⟨Try.zeroValue141⟩
instance one_142 : OneT Try.prog 142 := ⟨Try.isAgg142, Try.sizeOf142⟩
instance zero_142 : ZeroT Try.prog 142 .nilFunc := ⟨Try.zeroValue142⟩
instance one_144 : OneT Try.prog 144 := ⟨Try.isAgg144, Try.sizeOf144⟩
instance zero_144 : ZeroT Try.prog 144 .nilFunc := ⟨Try.zeroValue144⟩
instance one_145 : OneT Try.prog 145 := ⟨Try.isAgg145, Try.sizeOf145⟩
instance zero_145 : ZeroT Try.prog 145 .nilFunc := ⟨Try.zeroValue145⟩
instance one_146 : OneT Try.prog 146 := ⟨Try.isAgg146, Try.sizeOf146⟩
instance zero_146 : ZeroT Try.prog 146 .nilFunc := ⟨Try.zeroValue146⟩
instance one_147 : OneT Try.prog 147 := ⟨Try.isAgg147, Try.sizeOf147⟩
instance zero_147 : ZeroT Try.prog 147 .nilFunc := ⟨Try.zeroValue147⟩
instance zero_148 : ZeroT Try.prog 148 (.agg #[(.int .i64 0), (.int .i64 0), (.int .i64 0), (.int .i64 0), (.int .i64 0), (.int .i64 0), (.int .i64 0), (.int .i64 0), (.int .i64 0), (.int .i64 0), (.int .i64 0), (.int .i64 0), (.int .i64 0), (.int .i64 0), (.int .i64 0), (.int .i64 0), (.int .i64 0), (.int .i64 0), (.int .i64 0)]) := ⟨Try.zeroValue148⟩
instance agg_148 : AggT Try.prog 148 19 := ⟨Try.isAgg148, Try.sizeOf148⟩
instance arr_148 : ArrT Try.prog 148 19 3 1 := ⟨Try.runUnderlying148, Try.sizeOf3⟩
instance one_149 : OneT Try.prog 149 := ⟨Try.isAgg149, Try.sizeOf149⟩
instance zero_149 : ZeroT Try.prog 149 .nilFunc := ⟨Try.zeroValue149⟩
instance one_151 : OneT Try.prog 151 := ⟨Try.isAgg151, Try.sizeOf151⟩
instance zero_151 : ZeroT Try.prog 151 .nilFunc := ⟨Try.zeroValue151⟩
instance one_152 : OneT Try.prog 152 := ⟨Try.isAgg152, Try.sizeOf152⟩
instance zero_152 : ZeroT Try.prog 152 .nilFunc := ⟨Try.zeroValue152⟩
instance one_153 : OneT Try.prog 153 := ⟨Try.isAgg153, Try.sizeOf153⟩
instance zero_153 : ZeroT Try.prog 153 .nilFunc := ⟨Try.zeroValue153⟩
instance one_154 : OneT Try.prog 154 := ⟨Try.isAgg154, Try.sizeOf154⟩
instance zero_154 : ZeroT Try.prog 154 .nilFunc := ⟨Try.zeroValue154⟩
instance one_155 : OneT Try.prog 155 := ⟨Try.isAgg155, Try.sizeOf155⟩
instance zero_155 : ZeroT Try.prog 155 .nilFunc := ⟨Try.zeroValue155⟩
instance one_156 : OneT Try.prog 156 := ⟨Try.isAgg156, Try.sizeOf156⟩
instance zero_156 : ZeroT Try.prog 156 .nilFunc := ⟨Try.zeroValue156⟩
instance one_157 : OneT Try.prog 157 := ⟨Try.isAgg157, Try.sizeOf157⟩
instance zero_157 : ZeroT Try.prog 157 .nilFunc := ⟨Try.zeroValue157⟩
instance one_158 : OneT Try.prog 158 := ⟨Try.isAgg158, Try.sizeOf158⟩
instance zero_158 : ZeroT Try.prog 158 .nilFunc := ⟨Try.zeroValue158⟩
instance zero_159 : ZeroT Try.prog 159 (.agg #[(.pointer none), (.pointer none), (.pointer none), (.string ⟨#[]⟩)]) := ⟨Try.zeroValue159⟩
instance agg_159 : AggT Try.prog 159 4 := ⟨Try.isAgg159, Try.sizeOf159⟩
instance fld_159_0 : FldT Try.prog 159 0 0 := fld Try.runUnderlying159 (ft := 17) (by kernel_rfl) Try.sizeOf17
instance fld_159_1 : FldT Try.prog 159 1 1 := fld Try.runUnderlying159 (ft := 17) (by kernel_rfl) Try.sizeOf17
instance fld_159_2 : FldT Try.prog 159 2 2 := fld Try.runUnderlying159 (ft := 17) (by kernel_rfl) Try.sizeOf17
instance fld_159_3 : FldT Try.prog 159 3 3 := fld Try.runUnderlying159 (ft := 9) (by kernel_rfl) Try.sizeOf9
instance zero_160 : ZeroT Try.prog 160 (.agg #[(.pointer none), (.pointer none), (.pointer none), (.string ⟨#[]⟩)]) := ⟨Try.zeroValue160⟩
instance agg_160 : AggT Try.prog 160 4 := ⟨Try.isAgg160, Try.sizeOf160⟩
instance fld_160_0 : FldT Try.prog 160 0 0 := fld Try.runUnderlying160 (ft := 17) (by kernel_rfl) Try.sizeOf17
instance fld_160_1 : FldT Try.prog 160 1 1 := fld Try.runUnderlying160 (ft := 17) (by kernel_rfl) Try.sizeOf17
instance fld_160_2 : FldT Try.prog 160 2 2 := fld Try.runUnderlying160 (ft := 17) (by kernel_rfl) Try.sizeOf17
instance fld_160_3 : FldT Try.prog 160 3 3 := fld Try.runUnderlying160 (ft := 9) (by kernel_rfl) Try.sizeOf9
instance zero_161 : ZeroT Try.prog 161 (.agg #[]) := ⟨Try.zeroValue161⟩
instance agg_161 : AggT Try.prog 161 0 := ⟨Try.isAgg161, Try.sizeOf161⟩
instance arr_161 : ArrT Try.prog 161 0 16 1 := ⟨Try.runUnderlying161, Try.sizeOf16⟩
instance zero_162 : ZeroT Try.prog 162 (.agg #[]) := ⟨Try.zeroValue162⟩
instance agg_162 : AggT Try.prog 162 0 := ⟨Try.isAgg162, Try.sizeOf162⟩
instance zero_163 : ZeroT Try.prog 163 (.agg #[]) := ⟨Try.zeroValue163⟩
instance agg_163 : AggT Try.prog 163 0 := ⟨Try.isAgg163, Try.sizeOf163⟩
instance one_164 : OneT Try.prog 164 := ⟨Try.isAgg164, Try.sizeOf164⟩
instance zero_164 : ZeroT Try.prog 164 (.int .u32 0) := ⟨Try.zeroValue164⟩
instance int_164 : IntT Try.prog 164 .u32 := ⟨Try.runUnderlying164⟩
instance one_165 : OneT Try.prog 165 := ⟨Try.isAgg165, Try.sizeOf165⟩
instance zero_165 : ZeroT Try.prog 165 (.int .u8 0) := ⟨Try.zeroValue165⟩
instance int_165 : IntT Try.prog 165 .u8 := ⟨Try.runUnderlying165⟩
instance one_166 : OneT Try.prog 166 := ⟨Try.isAgg166, Try.sizeOf166⟩
instance zero_166 : ZeroT Try.prog 166 (.int .u8 0) := ⟨Try.zeroValue166⟩
instance int_166 : IntT Try.prog 166 .u8 := ⟨Try.runUnderlying166⟩
instance one_167 : OneT Try.prog 167 := ⟨Try.isAgg167, Try.sizeOf167⟩
instance zero_167 : ZeroT Try.prog 167 .nilFunc := ⟨Try.zeroValue167⟩
instance one_168 : OneT Try.prog 168 := ⟨Try.isAgg168, Try.sizeOf168⟩
instance zero_168 : ZeroT Try.prog 168 (.pointer none) := ⟨Try.zeroValue168⟩
instance ptr_168 : PtrT Try.prog 168 := ⟨by kernel_rfl⟩
instance one_169 : OneT Try.prog 169 := ⟨Try.isAgg169, Try.sizeOf169⟩
instance zero_169 : ZeroT Try.prog 169 (.int .i32 0) := ⟨Try.zeroValue169⟩
instance int_169 : IntT Try.prog 169 .i32 := ⟨Try.runUnderlying169⟩
instance one_170 : OneT Try.prog 170 := ⟨Try.isAgg170, Try.sizeOf170⟩
instance zero_170 : ZeroT Try.prog 170 (.int .i32 0) := ⟨Try.zeroValue170⟩
instance int_170 : IntT Try.prog 170 .i32 := ⟨Try.runUnderlying170⟩
instance zero_171 : ZeroT Try.prog 171 (.agg #[(.int .u64 0), (.int .u64 0), (.int .u32 0), (.int .u8 0), (.int .u8 0), (.int .u8 0), (.int .u8 0), .nilFunc, (.pointer none), (.int .i32 0), (.int .i32 0)]) := ⟨Try.zeroValue171⟩
instance agg_171 : AggT Try.prog 171 11 := ⟨Try.isAgg171, Try.sizeOf171⟩
instance fld_171_0 : FldT Try.prog 171 0 0 := fld Try.runUnderlying171 (ft := 12) (by kernel_rfl) Try.sizeOf12
instance fld_171_1 : FldT Try.prog 171 1 1 := fld Try.runUnderlying171 (ft := 12) (by kernel_rfl) Try.sizeOf12
instance fld_171_2 : FldT Try.prog 171 2 2 := fld Try.runUnderlying171 (ft := 164) (by kernel_rfl) Try.sizeOf164
instance fld_171_3 : FldT Try.prog 171 3 3 := fld Try.runUnderlying171 (ft := 165) (by kernel_rfl) Try.sizeOf165
instance fld_171_4 : FldT Try.prog 171 4 4 := fld Try.runUnderlying171 (ft := 5) (by kernel_rfl) Try.sizeOf5
instance fld_171_5 : FldT Try.prog 171 5 5 := fld Try.runUnderlying171 (ft := 5) (by kernel_rfl) Try.sizeOf5
instance fld_171_6 : FldT Try.prog 171 6 6 := fld Try.runUnderlying171 (ft := 166) (by kernel_rfl) Try.sizeOf166
instance fld_171_7 : FldT Try.prog 171 7 7 := fld Try.runUnderlying171 (ft := 167) (by kernel_rfl) Try.sizeOf167
instance fld_171_8 : FldT Try.prog 171 8 8 := fld Try.runUnderlying171 (ft := 168) (by kernel_rfl) Try.sizeOf168
instance fld_171_9 : FldT Try.prog 171 9 9 := fld Try.runUnderlying171 (ft := 169) (by kernel_rfl) Try.sizeOf169
instance fld_171_10 : FldT Try.prog 171 10 10 := fld Try.runUnderlying171 (ft := 170) (by kernel_rfl) Try.sizeOf170
instance zero_172 : ZeroT Try.prog 172 (.agg #[(.int .u64 0), (.int .u64 0), (.int .u32 0), (.int .u8 0), (.int .u8 0), (.int .u8 0), (.int .u8 0), .nilFunc, (.pointer none), (.int .i32 0), (.int .i32 0)]) := ⟨Try.zeroValue172⟩
instance agg_172 : AggT Try.prog 172 11 := ⟨Try.isAgg172, Try.sizeOf172⟩
instance fld_172_0 : FldT Try.prog 172 0 0 := fld Try.runUnderlying172 (ft := 12) (by kernel_rfl) Try.sizeOf12
instance fld_172_1 : FldT Try.prog 172 1 1 := fld Try.runUnderlying172 (ft := 12) (by kernel_rfl) Try.sizeOf12
instance fld_172_2 : FldT Try.prog 172 2 2 := fld Try.runUnderlying172 (ft := 164) (by kernel_rfl) Try.sizeOf164
instance fld_172_3 : FldT Try.prog 172 3 3 := fld Try.runUnderlying172 (ft := 165) (by kernel_rfl) Try.sizeOf165
instance fld_172_4 : FldT Try.prog 172 4 4 := fld Try.runUnderlying172 (ft := 5) (by kernel_rfl) Try.sizeOf5
instance fld_172_5 : FldT Try.prog 172 5 5 := fld Try.runUnderlying172 (ft := 5) (by kernel_rfl) Try.sizeOf5
instance fld_172_6 : FldT Try.prog 172 6 6 := fld Try.runUnderlying172 (ft := 166) (by kernel_rfl) Try.sizeOf166
instance fld_172_7 : FldT Try.prog 172 7 7 := fld Try.runUnderlying172 (ft := 167) (by kernel_rfl) Try.sizeOf167
instance fld_172_8 : FldT Try.prog 172 8 8 := fld Try.runUnderlying172 (ft := 168) (by kernel_rfl) Try.sizeOf168
instance fld_172_9 : FldT Try.prog 172 9 9 := fld Try.runUnderlying172 (ft := 169) (by kernel_rfl) Try.sizeOf169
instance fld_172_10 : FldT Try.prog 172 10 10 := fld Try.runUnderlying172 (ft := 170) (by kernel_rfl) Try.sizeOf170
instance one_173 : OneT Try.prog 173 := ⟨Try.isAgg173, Try.sizeOf173⟩
instance zero_173 : ZeroT Try.prog 173 (.pointer none) := ⟨Try.zeroValue173⟩
instance bld_59_  : RV Try.prog (sBuild 59 []) (.agg #[(.slice none 0 0)]) := ⟨fun W w _ => by
   simp [sBuild, Instr.build, Try.zeroValue59, Try.runUnderlying59, Try.sizeOf39, cells_agg, Instr.fill]⟩
instance bld_82_  : RV Try.prog (sBuild 82 []) (.agg #[(.map none)]) := ⟨fun W w _ => by
   simp [sBuild, Instr.build, Try.zeroValue82, Try.runUnderlying82, Try.sizeOf80, cells_agg, Instr.fill]⟩
instance bld_86_0_1 {a0 a1 : Value} [h0 : OC a0] [h1 : OC a1] : RV Try.prog (sBuild 86 [(0, a0), (1, a1)]) (.agg #[a0, a1]) := ⟨fun W w _ => by
  have c0 := cells_one h0.one; have c1 := cells_one h1.one; simp [sBuild, Instr.build, Try.zeroValue86, Try.runUnderlying86, Try.sizeOf3, Try.sizeOf22, cells_agg, Instr.fill, c0, c1]⟩
instance bld_95_0_1 {a0 a1 : Value} [h0 : OC a0] [h1 : OC a1] : RV Try.prog (sBuild 95 [(0, a0), (1, a1)]) (.agg #[a0, a1]) := ⟨fun W w _ => by
  have c0 := cells_one h0.one; have c1 := cells_one h1.one; simp [sBuild, Instr.build, Try.zeroValue95, Try.runUnderlying95, Try.sizeOf3, Try.sizeOf22, cells_agg, Instr.fill, c0, c1]⟩
instance bld_106_2 {a0 : Value} [h0 : OC a0] : RV Try.prog (sBuild 106 [(2, a0)]) (.agg #[(.slice none 0 0), (.int .i64 0), a0]) := ⟨fun W w _ => by
  have c0 := cells_one h0.one; simp [sBuild, Instr.build, Try.zeroValue106, Try.runUnderlying106, Try.sizeOf3, Try.sizeOf4, Try.sizeOf39, cells_agg, Instr.fill, c0]⟩
instance bld_82_0 {a0 : Value} [h0 : OC a0] : RV Try.prog (sBuild 82 [(0, a0)]) (.agg #[a0]) := ⟨fun W w _ => by
  have c0 := cells_one h0.one; simp [sBuild, Instr.build, Try.zeroValue82, Try.runUnderlying82, Try.sizeOf80, cells_agg, Instr.fill, c0]⟩
instance bld_109_0_1 {a0 a1 : Value} [h0 : OC a0] [h1 : OC a1] : RV Try.prog (sBuild 109 [(0, a0), (1, a1)]) (.agg #[a0, a1]) := ⟨fun W w _ => by
  have c0 := cells_one h0.one; have c1 := cells_one h1.one; simp [sBuild, Instr.build, Try.zeroValue109, Try.runUnderlying109, Try.sizeOf3, cells_agg, Instr.fill, c0, c1]⟩
instance bld_111_0_1_2 {a0 a1 a2 : Value} [h0 : OC a0] [h1 : OC a1] [h2 : OC a2] : RV Try.prog (sBuild 111 [(0, a0), (1, a1), (2, a2)]) (.agg #[a0, a1, a2]) := ⟨fun W w _ => by
  have c0 := cells_one h0.one; have c1 := cells_one h1.one; have c2 := cells_one h2.one; simp [sBuild, Instr.build, Try.zeroValue111, Try.runUnderlying111, Try.sizeOf4, Try.sizeOf22, cells_agg, Instr.fill, c0, c1, c2]⟩
instance bld_113_0_1 {a0 a1 : Value} [h0 : OC a0] [h1 : OC a1] : RV Try.prog (sBuild 113 [(0, a0), (1, a1)]) (.agg #[a0, a1]) := ⟨fun W w _ => by
  have c0 := cells_one h0.one; have c1 := cells_one h1.one; simp [sBuild, Instr.build, Try.zeroValue113, Try.runUnderlying113, Try.sizeOf3, Try.sizeOf39, cells_agg, Instr.fill, c0, c1]⟩
instance bld_115_0_1 {a0_0 a0_1 a1 : Value} [h1 : OC a1] : RV Try.prog (sBuild 115 [(0, .agg #[a0_0, a0_1]), (1, a1)]) (.agg #[a0_0, a0_1, a1]) := ⟨fun W w _ => by
  have c1 := cells_one h1.one; simp [sBuild, Instr.build, Try.zeroValue115, Try.runUnderlying115, Try.sizeOf4, Try.sizeOf113, cells_agg, Instr.fill, c1]⟩
instance bld_117_0 {a0 : Value} [h0 : OC a0] : RV Try.prog (sBuild 117 [(0, a0)]) (.agg #[a0, (.int .i64 0)]) := ⟨fun W w _ => by
  have c0 := cells_one h0.one; simp [sBuild, Instr.build, Try.zeroValue117, Try.runUnderlying117, Try.sizeOf3, Try.sizeOf39, cells_agg, Instr.fill, c0]⟩
instance bld_109_  : RV Try.prog (sBuild 109 []) (.agg #[(.int .i64 0), (.int .i64 0)]) := ⟨fun W w _ => by
   simp [sBuild, Instr.build, Try.zeroValue109, Try.runUnderlying109, Try.sizeOf3, cells_agg, Instr.fill]⟩
instance bld_126_0_2 {a0 a1 : Value} [h0 : OC a0] [h1 : OC a1] : RV Try.prog (sBuild 126 [(0, a0), (2, a1)]) (.agg #[a0, (.slice none 0 0), a1]) := ⟨fun W w _ => by
  have c0 := cells_one h0.one; have c1 := cells_one h1.one; simp [sBuild, Instr.build, Try.zeroValue126, Try.runUnderlying126, Try.sizeOf3, Try.sizeOf39, Try.sizeOf70, cells_agg, Instr.fill, c0, c1]⟩
instance bld_128_0_1_2_3 {a0 a1 a2 a3 : Value} [h0 : OC a0] [h1 : OC a1] [h2 : OC a2] [h3 : OC a3] : RV Try.prog (sBuild 128 [(0, a0), (1, a1), (2, a2), (3, a3)]) (.agg #[a0, a1, a2, a3]) := ⟨fun W w _ => by
  have c0 := cells_one h0.one; have c1 := cells_one h1.one; have c2 := cells_one h2.one; have c3 := cells_one h3.one; simp [sBuild, Instr.build, Try.zeroValue128, Try.runUnderlying128, Try.sizeOf127, cells_agg, Instr.fill, c0, c1, c2, c3]⟩
instance bld_53_0_1 {a0 a1 : Value} [h0 : OC a0] [h1 : OC a1] : RV Try.prog (sBuild 53 [(0, a0), (1, a1)]) (.agg #[a0, a1]) := ⟨fun W w _ => by
  have c0 := cells_one h0.one; have c1 := cells_one h1.one; simp [sBuild, Instr.build, Try.zeroValue53, Try.runUnderlying53, Try.sizeOf3, cells_agg, Instr.fill, c0, c1]⟩
instance bld_132_0_2 {a0 a1 : Value} [h0 : OC a0] [h1 : OC a1] : RV Try.prog (sBuild 132 [(0, a0), (2, a1)]) (.agg #[a0, (.slice none 0 0), a1, (.int .i64 0)]) := ⟨fun W w _ => by
  have c0 := cells_one h0.one; have c1 := cells_one h1.one; simp [sBuild, Instr.build, Try.zeroValue132, Try.runUnderlying132, Try.sizeOf3, Try.sizeOf39, Try.sizeOf72, cells_agg, Instr.fill, c0, c1]⟩
instance bld_54_0_1 {a0 a1 : Value} [h0 : OC a0] [h1 : OC a1] : RV Try.prog (sBuild 54 [(0, a0), (1, a1)]) (.agg #[a0, a1]) := ⟨fun W w _ => by
  have c0 := cells_one h0.one; have c1 := cells_one h1.one; simp [sBuild, Instr.build, Try.zeroValue54, Try.runUnderlying54, Try.sizeOf3, cells_agg, Instr.fill, c0, c1]⟩
instance bld_148_0_1_2_3_4_5_6_7_8_9_10_11_12_13_14_15_16_17_18 {a0 a1 a2 a3 a4 a5 a6 a7 a8 a9 a10 a11 a12 a13 a14 a15 a16 a17 a18 : Value} [h0 : OC a0] [h1 : OC a1] [h2 : OC a2] [h3 : OC a3] [h4 : OC a4] [h5 : OC a5] [h6 : OC a6] [h7 : OC a7] [h8 : OC a8] [h9 : OC a9] [h10 : OC a10] [h11 : OC a11] [h12 : OC a12] [h13 : OC a13] [h14 : OC a14] [h15 : OC a15] [h16 : OC a16] [h17 : OC a17] [h18 : OC a18] : RV Try.prog (sBuild 148 [(0, a0), (1, a1), (2, a2), (3, a3), (4, a4), (5, a5), (6, a6), (7, a7), (8, a8), (9, a9), (10, a10), (11, a11), (12, a12), (13, a13), (14, a14), (15, a15), (16, a16), (17, a17), (18, a18)]) (.agg #[a0, a1, a2, a3, a4, a5, a6, a7, a8, a9, a10, a11, a12, a13, a14, a15, a16, a17, a18]) := ⟨fun W w _ => by
  have c0 := cells_one h0.one; have c1 := cells_one h1.one; have c2 := cells_one h2.one; have c3 := cells_one h3.one; have c4 := cells_one h4.one; have c5 := cells_one h5.one; have c6 := cells_one h6.one; have c7 := cells_one h7.one; have c8 := cells_one h8.one; have c9 := cells_one h9.one; have c10 := cells_one h10.one; have c11 := cells_one h11.one; have c12 := cells_one h12.one; have c13 := cells_one h13.one; have c14 := cells_one h14.one; have c15 := cells_one h15.one; have c16 := cells_one h16.one; have c17 := cells_one h17.one; have c18 := cells_one h18.one; simp [sBuild, Instr.build, Try.zeroValue148, Try.runUnderlying148, Try.sizeOf3, cells_agg, Instr.fill, c0, c1, c2, c3, c4, c5, c6, c7, c8, c9, c10, c11, c12, c13, c14, c15, c16, c17, c18]⟩
instance bld_137_0_1_2_3_4_5_6_7 {a0 a1 a2 a3 a4 a5 a6 a7 : Value} [h0 : OC a0] [h1 : OC a1] [h2 : OC a2] [h3 : OC a3] [h4 : OC a4] [h5 : OC a5] [h6 : OC a6] [h7 : OC a7] : RV Try.prog (sBuild 137 [(0, a0), (1, a1), (2, a2), (3, a3), (4, a4), (5, a5), (6, a6), (7, a7)]) (.agg #[a0, a1, a2, a3, a4, a5, a6, a7]) := ⟨fun W w _ => by
  have c0 := cells_one h0.one; have c1 := cells_one h1.one; have c2 := cells_one h2.one; have c3 := cells_one h3.one; have c4 := cells_one h4.one; have c5 := cells_one h5.one; have c6 := cells_one h6.one; have c7 := cells_one h7.one; simp [sBuild, Instr.build, Try.zeroValue137, Try.runUnderlying137, Try.sizeOf5, cells_agg, Instr.fill, c0, c1, c2, c3, c4, c5, c6, c7]⟩
end Go.Proofs.Ytehfblkpbadikaa.T
/-! Contracts with two ends: a value, or a panic. No conditions but those that each names. -/
namespace Go.Proofs.Ytehfblkpbadikaa.Sl
open Go Go.RowKit Go.Proofs.Ytehfblkpbadikaa.Sh
variable {P : Program} {W : World} {L L' : List HP} {Kp : PK} {k : Value → WP}
/-- called where A holds it returns r x where B x holds, or passes up the panic pc y where Bp y holds -/
structure CnP {α β : Type} (P : Program) (f : FuncId) (args : List Value) (W : World) (A : List HP) (r : α → Value) (B : α → List HP) (pc : β → List PanicEntry) (Bp : β → List HP) : Prop where
  call : ∀ (a : Array Value) (w : World), (callFunc f a).run P w = .ok (.enter f a) w
  run : ∀ (F : List HP) (w : World), sat W (A ++ F) w → Calls P f args.toArray w (fun e w' => (∃ x, e = .returned (r x) ∧ sat W (B x ++ F) w') ∨ ∃ y, e = .panicked (pc y) ∧ sat W (Bp y ++ F) w')
theorem CnP.of {α β : Type} {f : FuncId} {args : List Value} {A : List HP} {r : α → Value} {B : α → List HP} {pc : β → List PanicEntry} {Bp : β → List HP} {shape : PK → (Value → WP) → WP}
    (hc : ∀ (a : Array Value) (w : World), (callFunc f a).run P w = .ok (.enter f a) w)
    (hs : ∀ {Kp : PK} {K : Value → WP} {w : World}, shape Kp K w → Calls P f args.toArray w (after Kp K))
    (h : ∀ F, Ent W (A ++ F) (shape (fun ch w' => ∃ y, ch = pc y ∧ sat W (Bp y ++ F) w') fun v w' => ∃ x, v = r x ∧ sat W (B x ++ F) w')) : CnP P f args W A r B pc Bp :=
  ⟨hc, fun F w hw => (hs (h F w hw)).mono fun e w' he => by
    cases e with
    | returned v => obtain ⟨x, rfl, h2⟩ := he; exact .inl ⟨x, rfl, h2⟩
    | panicked ch => obtain ⟨y, rfl, h2⟩ := he; exact .inr ⟨y, rfl, h2⟩
    | outgrown => exact he.elim⟩
theorem Cn.noPanic {α : Type} {f : FuncId} {args : List Value} {A : List HP} {r : α → Value} {B : α → List HP} {β : Type} {pc : β → List PanicEntry} {Bp : β → List HP} (h : Cn P f args W A r B) : CnP P f args W A r B pc Bp :=
  ⟨h.call, fun F w hw => (h.run F w hw).mono fun e w' he => .inl he⟩
theorem CnP.plain {α β : Type} {f : FuncId} {args : List Value} {A : List HP} {r : α → Value} {B : α → List HP} {pc : β → List PanicEntry} {Bp : β → List HP} (h : CnP P f args W A r B pc Bp) (hn : β → False) : Cn P f args W A r B :=
  ⟨h.call, fun F w hw => (h.run F w hw).mono fun e w' he => he.resolve_right fun ⟨y, _⟩ => hn y⟩
theorem e_callP {α β : Type} {f : FuncId} {args : List Value} {A F : List HP} {r : α → Value} {B : α → List HP} {pc : β → List PanicEntry} {Bp : β → List HP} (hf : CnP P f args W A r B pc Bp) (p : Picks L A F)
    (h : ∀ x, Ent W (B x ++ F) (k (r x))) (hp : ∀ y, Ent W (Bp y ++ F) (Kp (pc y))) : Ent W L (opN P (sCall (fn f) args) Kp k) := fun w hw => by
  refine ⟨?_⟩
  rw [run_sCall hf.call]
  refine (hf.run F w (p.sat hw)).mono fun e w' he => ?_
  rcases he with ⟨x, he, hs⟩ | ⟨y, he, hs⟩
  · subst he; exact h x w' hs
  · subst he; exact hp y w' hs
/-- a panic's chain, fresh -/
def pe (v : Value) : List PanicEntry := [{ v, recovered := false }]
theorem e_panic {t : TypeId} {x : Value} (h : Ent W L (Kp (pe (.iface t x)))) : Ent W L (opN P (sPanic (.iface t x)) Kp k) := fun w hw => by
  refine ⟨?_⟩
  have : (sPanic (.iface t x)).run P w = .halt (.panic (.iface t x)) w := by simp [sPanic, Instr.panic, goPanic]
  rw [this]
  exact h w hw
theorem v_mkI {t : TypeId} {v : Value} {q : IntKind} [ht : IntT P t q] : RunV P W [] (sMkI t v) (.iface t v) := fun w _ => by
  simp [sMkI, Instr.makeInterface, ht.run]
theorem e_pan {β : Type} {pc : β → List PanicEntry} {M : β → List HP} {ch : List PanicEntry} (y : β) (hv : ch = pc y) (i : Imp W L (M y)) : Ent W L (fun w' => ∃ y, ch = pc y ∧ sat W (M y) w') := fun w hw => ⟨y, hv, i.sat hw⟩
/-- a function value that is a closure over cells -/
theorem v_mkF {f : FuncId} {bs cs : List Value} : RunV P W [] (sMkF (.func f) bs cs) (.func (.func f) bs.toArray cs.toArray) := fun w _ => by
  simp [sMkF, Instr.makeFunc]
theorem e_opDf {fn : Fn} {a b : Array Value} {args : List Value} {kd : Deferred → WP} (h : Ent W L (kd { target := .fn fn b, args := a ++ args.toArray })) : Ent W L (opDf (.func fn a b) args kd) := fun w hw => ⟨fn, a, b, rfl, h w hw⟩
/-- the deferred call at a function's end, by the deferred function's shape -/
theorem e_dfS {f : FuncId} {A : List Value} {d : Deferred} {u : FrameMode} {Kret : WP} {Kq : PK} {shape : Value → PK → (Value → WP) → WP} (hu : u ≠ .run) (ht : ∃ fv cap, d.target = .fn fv cap)
    (hinv : ∀ w, (invoke d.target d.args).run P w = .ok (.enter f A.toArray) w)
    (hs : ∀ {Kp' : PK} {K : Value → WP} {w : World}, shape (recV u).1 Kp' K w → CallsD P f A.toArray u w fun
      | .returned v, u', w' => u' = (recV u).2 ∧ K v w'
      | .panicked ch, u', w' => u' = (recV u).2 ∧ Kp' ch w'
      | .outgrown, _, _ => False)
    (h : Ent W L (shape (recV u).1 (fun ch => lvS Kret Kq (raised (recV u).2 ch)) fun _ => lvS Kret Kq (settle (recV u).2))) : Ent W L (dfS P d u Kret Kq) := fun w hw => by
  obtain ⟨fv, cap, ht⟩ := ht
  refine ⟨hu, fv, cap, f, A.toArray, ht, hinv w, (hs (h w hw)).mono fun e u' w' he => ?_⟩
  cases e with
  | returned v => obtain ⟨rfl, h2⟩ := he; exact h2
  | panicked ch => obtain ⟨rfl, h2⟩ := he; exact h2
  | outgrown => exact he.elim
theorem lv_ret {Kret : WP} {Kq : PK} : lvS Kret Kq (settle (recV .returning).2) = Kret := rfl
theorem lv_pan {Kret : WP} {Kq : PK} {v : Value} : lvS Kret Kq (settle (recV (.panicking (pe v))).2) = Kret := rfl
theorem rec_ret : (recV .returning).1 = .nilIface := rfl
theorem rec_pan {v : Value} : (recV (.panicking (pe v))).1 = v := rfl
theorem inv_closure {f : FuncId} {cs bs : List Value} (hc : ∀ (a : Array Value) (w : World), (callFunc f a).run P w = .ok (.enter f a) w) (w : World) : (invoke (.fn (.func f) cs.toArray) bs.toArray).run P w = .ok (.enter f (bs ++ cs).toArray) w := by
  simp [invoke, hc]
end Go.Proofs.Ytehfblkpbadikaa.Sl
/-! Ranges over functions, and calls of what a function value holds: the rules of a walk. No conditions but those that each names. -/
namespace Go.Proofs.Ytehfblkpbadikaa.Sl
open Go Go.RowKit Go.Proofs.Ytehfblkpbadikaa.Sh
variable {P : Program} {W : World} {L L' : List HP} {Kp : PK} {k : Value → WP}
/-- a call of a closure: what it captured comes behind its arguments -/
theorem run_sCallC {f : FuncId} {cap : Array Value} {args : List Value} (hc : ∀ (a : Array Value) (w : World), (callFunc f a).run P w = .ok (.enter f a) w) (w : World) :
    (sCall (.func (.func f) #[] cap) args).run P w = .ok (.enter f (args.toArray ++ cap)) w := by
  unfold sCall Deferred.ofValue
  simp [invoke, hc]
theorem e_callC {α : Type} {f : FuncId} {args cap : List Value} {A F : List HP} {r : α → Value} {B : α → List HP} (hf : Cn P f (args ++ cap) W A r B) (p : Picks L A F)
    (h : ∀ x, Ent W (B x ++ F) (k (r x))) : Ent W L (opN P (sCall (.func (.func f) #[] cap.toArray) args) Kp k) := fun w hw => by
  refine ⟨?_⟩
  rw [run_sCallC hf.call, show args.toArray ++ cap.toArray = (args ++ cap).toArray by simp]
  refine (hf.run F w (p.sat hw)).mono fun e w' ⟨x, he, hs⟩ => ?_
  subst he
  exact h x w' hs
/-- a loop's yield, from round to round: what is handed in, what holds between -/
def YieldC (P : Program) (l : Nat) (xs : List (List Value)) (I : Nat → HP) (Ix : HP) (W : World) : Prop :=
  ∀ i (hi : i < xs.length) (F : List HP) (w : World), sat W (I i :: F) w → YieldP P l xs[i] w fun e w' =>
    (e = .returned (.bool true) ∧ sat W (I (i + 1) :: F) w') ∨ (e = .returned (.bool false) ∧ sat W (Ix :: F) w')
def yv (l : Nat) : Value := .func (.yield l) #[] #[]
instance {l : Nat} : OC (yv l) := ⟨rfl⟩
theorem e_yield {l : Nat} {xs : List (List Value)} {I : Nat → HP} {Ix : HP} {args : List Value} (hy : YieldC P l xs I Ix W) (i : Nat) (hi : xs[i]? = some args) (p : Pick L (I i) L')
    (ht : Ent W (I (i + 1) :: L') (k (.bool true))) (hf : Ent W (Ix :: L') (k (.bool false))) : Ent W L (opN P (sCall (yv l) args) Kp k) := fun w hw => by
  have hlt : i < xs.length := by
    rcases Nat.lt_or_ge i xs.length with c | c
    · exact c
    · rw [List.getElem?_eq_none c] at hi; cases hi
  have he : xs[i] = args := by rw [List.getElem?_eq_getElem hlt] at hi; exact Option.some.inj hi
  obtain ⟨fn, tmps, assign, body, hr, hR⟩ := hy i hlt L' w (hw.pick p)
  rw [he] at hr
  refine ⟨?_⟩
  have : (sCall (yv l) args).run P w = .ok (.round l fn tmps assign body) w := by
    unfold sCall yv Deferred.ofValue
    simp [invoke, hr]
  rw [this]
  refine hR.mono fun e w' he => ?_
  rcases he with ⟨rfl, hs⟩ | ⟨rfl, hs⟩
  · exact ht w' hs
  · exact hf w' hs
theorem sat.putO {w : World} {g : Nat} {o o' : Obj} (H : sat W (pt g o :: L) w) : sat W (pt g o' :: L) (w.putObj g o') := by
  have hg := H.pt_.1
  have hlt : g < w.heap.size := (Array.getElem?_eq_some_iff.1 hg).1
  exact H.turn rfl rfl rfl (by simp) (World.putObj_heap_same hlt) (fun i hi => World.putObj_heap_other hi)
theorem e_tk {d : Nat} {S : WP} (p : Pick L (pt d (.deferred (some []))) L') (h : Ent W L' S) : Ent W L (tkS d S) := fun w hw => by
  have hw' := hw.pick p
  exact ⟨hw'.pt_.1, h _ (hw'.putO (o' := .deferred none)).drop⟩
theorem e_rf {fv : Value} {f : FuncId} {cap : List Value} {np : Nat} {rnd : VF np ((WP → WP) → WP → WP → WP)} {Kn Kj : Nat → WP} {Kq : Nat → PK} (xs : List (List Value)) (I : Nat → HP) (Ix : HP) (hf : fv = .func (.func f) #[] cap.toArray)
    (hxs : ∀ x ∈ xs, x.length = np) (hi : Imp W L [I 0])
    (hit : ∀ (l : Nat) (T T' : HP), YieldC P l xs (fun i => all [T, I i]) (all [T', Ix]) W → Cn P f (yv l :: cap) W [all [T, I 0]] (fun _ : Bool => .tuple #[]) (fun b => [if b then all [T, I xs.length] else all [T', Ix]]))
    (hbody : ∀ i (hi : i < xs.length) (F : List HP) (T0 T1 : HP) (B : WP → WP) (N J : WP), (∀ L L' S, Pick L T0 L' → Ent W (T1 :: L') S → Ent W L (B S)) → (∀ L, Imp W L (T1 :: I (i + 1) :: F) → Ent W L N) → (∀ L, Imp W L (T1 :: Ix :: F) → Ent W L J) →
      Ent W (T0 :: I i :: F) (vapp np rnd xs[i] B N J))
    (hn : ∀ d, Ent W [pt d (.deferred (some [])), I xs.length] (Kn d)) (hj : ∀ d, Ent W [pt d (.deferred (some [])), Ix] (Kj d)) : Ent W L (rfS P fv np rnd Kn Kj Kq) := fun w hw => by
  have hcall := (hit 0 (pu False) (pu False) (fun i hi F w hs => (by obtain ⟨h, ⟨h1, h2, ⟨h3, h4, hp, _⟩, _⟩, _⟩ := hs.heap; exact hp.elim))).call
  refine ⟨f, cap.toArray, hf, hcall, fun rec hrec => ?_⟩
  obtain ⟨l, hl⟩ : ∃ l, l = w.heap.size + 1 := ⟨_, rfl⟩
  have h0 : sat W [all [all [pt l (.loop (rec .ready none)), pt w.heap.size (.deferred (some []))], I 0]] ((w.alloc (.deferred (some []))).alloc (.loop (rec .ready none))) := by
    have := ((hi.sat hw).alloc (.deferred (some []))).alloc (.loop (rec .ready none))
    rw [World.size_alloc, ← hl] at this
    exact (Imp.all (N := [_, _]) (Imp.all (N := [_, _]) .refl)).sat this
  rw [← hl] at hrec ⊢
  have hy : YieldC P l xs (fun i => all [all [pt l (.loop (rec .ready none)), pt w.heap.size (.deferred (some []))], I i]) (all [all [pt l (.loop (rec .done (some .ret))), pt w.heap.size (.deferred (some []))], Ix]) W := by
    intro i hi F w' hs
    have hs1 : sat W (pt l (.loop (rec .ready none)) :: pt w.heap.size (.deferred (some [])) :: I i :: F) w' :=
      hs.map fun h H => all_append' (N := [_, _]) (M := I i :: F) (by
        have := all_append' (N := [_, _]) (M := F) H
        exact this)
    refine hrec xs[i] w' _ (hxs _ (List.getElem_mem hi)) hs1.pt_.1 ?_
    refine hbody i hi F (all [pt l (.loop (rec .ready none)), pt w.heap.size (.deferred (some []))]) (all [pt l (.loop (rec .busy none)), pt w.heap.size (.deferred (some []))]) _ _ _ ?_ ?_ ?_ w' ?_
    · intro L1 L2 S p hS w1 hw1
      have h1 : sat W (pt l (.loop (rec .ready none)) :: pt w.heap.size (.deferred (some [])) :: L2) w1 := sat.map (L := all [pt l (.loop (rec .ready none)), pt w.heap.size (.deferred (some []))] :: L2) (fun h H => all_append' (N := [_, _]) H) (hw1.pick p)
      refine ⟨h1.pt_.1, hS _ ?_⟩
      exact (Imp.all (N := [_, _]) .refl).sat (h1.putO (o' := .loop (rec .busy none)))
    · intro L1 i1 w1 hw1
      have h1 : sat W (pt l (.loop (rec .busy none)) :: pt w.heap.size (.deferred (some [])) :: I (i + 1) :: F) w1 := sat.map (L := all [pt l (.loop (rec .busy none)), pt w.heap.size (.deferred (some []))] :: I (i + 1) :: F) (fun h H => all_append' (N := [_, _]) H) (i1.sat hw1)
      refine ⟨h1.pt_.1, .inl ⟨rfl, ?_⟩⟩
      exact (Imp.all (N := [_, _]) (Imp.all (N := [_, _]) .refl)).sat (h1.putO (o' := .loop (rec .ready none)))
    · intro L1 i1 w1 hw1
      have h1 : sat W (pt l (.loop (rec .busy none)) :: pt w.heap.size (.deferred (some [])) :: Ix :: F) w1 := sat.map (L := all [pt l (.loop (rec .busy none)), pt w.heap.size (.deferred (some []))] :: Ix :: F) (fun h H => all_append' (N := [_, _]) H) (i1.sat hw1)
      refine ⟨h1.pt_.1, .inr ⟨rfl, ?_⟩⟩
      exact (Imp.all (N := [_, _]) (Imp.all (N := [_, _]) .refl)).sat (h1.putO (o' := .loop (rec .done (some .ret))))
    · exact (Imp.all (N := [_, _]) .refl).sat hs1
  have hc := (hit l _ _ hy).run [] _ (by simpa using h0)
  rw [show (yv l :: cap).toArray = #[.func (.yield l) #[] #[]] ++ cap.toArray by simp [yv]] at hc
  refine hc.mono fun e w' he => ?_
  obtain ⟨b, rfl, hs⟩ := he
  cases b with
  | true =>
    left
    have h1 : sat W (pt l (.loop (rec .ready none)) :: [pt w.heap.size (.deferred (some [])), I xs.length]) w' :=
      hs.map fun h H => all_append' (N := [_, _]) (M := [I xs.length]) (by
        have := all_append' (N := [_, _]) (M := []) H
        exact this)
    exact ⟨h1.pt_.1, hn _ _ (h1.putO (o' := .loop (rec .exhausted none))).drop⟩
  | false =>
    right
    have h1 : sat W (pt l (.loop (rec .done (some .ret))) :: [pt w.heap.size (.deferred (some [])), Ix]) w' :=
      hs.map fun h H => all_append' (N := [_, _]) (M := [Ix]) (by
        have := all_append' (N := [_, _]) (M := []) H
        exact this)
    exact ⟨h1.pt_.1, hj _ _ (h1.putO (o' := .loop (rec .exhausted (some .ret)))).drop⟩
theorem e_swap {M : List HP} {S : WP} (h : Ent W (M ++ L) S) : Ent W (L ++ M) S := fun w hw => by
  refine h w (hw.map fun f H => all_append' ?_)
  obtain ⟨h1, h2, ha, hb, d, s1, s2⟩ := all_append H
  exact ⟨h2, h1, hb, ha, fun i => (d i).symm, s2, s1⟩
/-- what stands by is laid out again -/
theorem e_rest {M F : List HP} {S : WP} (i : Imp W L (M ++ [all F])) (h : Ent W (M ++ F) S) : Ent W L S := by
  refine e_imp i (e_swap (L := M) (M := [all F]) ?_)
  refine e_all (M := F) (L' := M) .here (e_swap h)
end Go.Proofs.Ytehfblkpbadikaa.Sl
