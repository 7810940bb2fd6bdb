/- Slices of a call's own: what they hold, and the operations on them. No conditions but those that each names. -/
import Derived.Test.YtehfblkpbadikaaOps
namespace Go.Proofs.Ytehfblkpbadikaa.Sl
open Go Go.RowKit Go.Proofs.Ytehfblkpbadikaa.Sh
set_option linter.unusedVariables false
variable {P : Program} {W : World} {L L' L'' : List HP} {Kp : PK} {k : Value → WP}

/-- a slice type: its elements' type, cells and bytes -/
class SlT (P : Program) (t : TypeId) (e : outParam TypeId) (s bytes : outParam Nat) : Prop where
  ut : P.underlying t = some (.slice e)
  info : ∃ i z, P.info? e = some i ∧ i.zero = some z ∧ i.size = s ∧ i.bytes = bytes ∧ z.cells.size = s

/-- the slice value '.slice a n cap' owns its row: n elements that hold the cells cs, and room up to cap -/
def Sl (s : Nat) (e : TypeId) (a : Option Addr) (cap n : Nat) (cs : List Value) : HP := fun _ h =>
  cs.length = n * s ∧ n ≤ cap ∧ cap ≤ maxLen ∧ ((a = none ∧ cap = 0) ∨ ∃ g rest, a = some ⟨g, 0, none⟩ ∧ rest.length = (cap - n) * s ∧ h g = some (.cells (cs ++ rest).toArray e (0, 0)))

theorem Sl.nil (s : Nat) (e : TypeId) (W : World) (h : Frag) : Sl s e none 0 0 [] W h := ⟨by simp, Nat.le_refl _, by unfold maxLen; omega, .inl ⟨rfl, rfl⟩⟩
theorem imp_nil {s : Nat} {e : TypeId} {M : List HP} (h : Imp W L M) : Imp W L (Sl s e none 0 0 [] :: M) := .conv (B := pu True) (fun h _ => Sl.nil s e W h) (.pu trivial h)
theorem imp_new {s : Nat} {e : TypeId} {g n : Nat} {cs : List Value} {M : List HP} (p : Pick L (pt g (.cells cs.toArray e (0, 0))) L') (hn : cs.length = n * s) (hm : n ≤ maxLen) (h : Imp W L' M) : Imp W L (Sl s e (some ⟨g, 0, none⟩) n n cs :: M) :=
  .conv (B := pt g (.cells cs.toArray e (0, 0))) (fun h hh => ⟨hn, Nat.le_refl _, hm, .inr ⟨g, [], rfl, by simp, by rw [List.append_nil]; exact hh⟩⟩) (.pick p h)
theorem e_own {s : Nat} {e : TypeId} {g n : Nat} {cs : List Value} {S : WP} (p : Pick L (pt g (.cells cs.toArray e (0, 0))) L') (hn : cs.length = n * s) (hm : n ≤ maxLen) (h : Ent W (Sl s e (some ⟨g, 0, none⟩) n n cs :: L') S) : Ent W L S :=
  e_conv p (fun h hh => ⟨hn, Nat.le_refl _, hm, .inr ⟨g, [], rfl, by simp, by rw [List.append_nil]; exact hh⟩⟩) h

theorem e_slfacts {s : Nat} {e : TypeId} {a : Option Addr} {cap n : Nat} {cs : List Value} {S : WP} (p : Pick L (Sl s e a cap n cs) L')
    (h : cs.length = n * s → n ≤ cap → cap ≤ maxLen → (0 < n → ∃ g, a = some ⟨g, 0, none⟩) → Ent W L S) : Ent W L S := fun w hw => by
  obtain ⟨f, ⟨h1, h2, h3, h4⟩, _⟩ := (hw.pick p).fst
  refine h h1 h2 h3 (fun hn => ?_) w hw
  rcases h4 with ⟨rfl, rfl⟩ | ⟨g, rest, rfl, _⟩
  · omega
  · exact ⟨g, rfl⟩
theorem e_slsome {s : Nat} {e : TypeId} {a : Option Addr} {cap n : Nat} {cs : List Value} {S : WP} (p : Pick L (Sl s e a cap n cs) L') (hn : 0 < n)
    (h : ∀ g, a = some ⟨g, 0, none⟩ → Ent W L S) : Ent W L S := e_slfacts p fun _ _ _ h4 => by obtain ⟨g, hg⟩ := h4 hn; exact h g hg

theorem sl_row {s : Nat} {e : TypeId} {g cap n : Nat} {cs : List Value} {w : World} (H : sat W (Sl s e (some ⟨g, 0, none⟩) cap n cs :: L) w) :
    ∃ rest, rest.length = (cap - n) * s ∧ cs.length = n * s ∧ n ≤ cap ∧ cap ≤ maxLen ∧ sat W (pt g (.cells (cs ++ rest).toArray e (0, 0)) :: L) w := by
  obtain ⟨f, ⟨h1, h2, ⟨l1, l2, l3, hd⟩, r⟩, b⟩ := H.heap
  rcases hd with ⟨c, _⟩ | ⟨g', rest, c, e1, e2⟩
  · cases c
  · injection c with c; injection c with c; subst c
    exact ⟨rest, e1, l1, l2, l3, H.base, f, ⟨h1, h2, e2, r⟩, b⟩
theorem sl_back {s : Nat} {e : TypeId} {g cap n : Nat} {cs rest : List Value} {w : World} (hr : rest.length = (cap - n) * s) (hc : cs.length = n * s) (hn : n ≤ cap) (hm : cap ≤ maxLen)
    (H : sat W (pt g (.cells (cs ++ rest).toArray e (0, 0)) :: L) w) : sat W (Sl s e (some ⟨g, 0, none⟩) cap n cs :: L) w := by
  obtain ⟨f, ⟨h1, h2, ha, r⟩, b⟩ := H.heap
  exact ⟨H.base, f, ⟨h1, h2, ⟨hc, hn, hm, .inr ⟨g, rest, rfl, hr, ha⟩⟩, r⟩, b⟩

theorem v_len {t e ty : TypeId} {s b : Nat} {a : Option Addr} {n cap : Nat} [ht : SlT P t e s b] : RunV P W [] (sLen #[t] ty [.slice a n cap]) (.int .i64 (n : Int)) := fun w _ => by
  simp [sLen, Builtin.len_, run_underlying ht.ut, goInt]
theorem v_lens {t ty : TypeId} {s : ByteArray} (ht : P.underlying t = some .string) : RunV P W [] (sLen #[t] ty [.string s]) (.int .i64 (s.size : Int)) := fun w _ => by
  simp [sLen, Builtin.len_, run_underlying ht, goInt]
theorem sizeOf_run {e : TypeId} {i : TypeInfo} (h : P.info? e = some i) (w : World) : (sizeOf e).run P w = .ok i.size w := by
  simp [sizeOf, typeInfo, h]
theorem v_ia {t e : TypeId} {s b : Nat} {g o n cap : Nat} {q : IntKind} {i : Int} (j : Nat) [ht : SlT P t e s b] (hi : i = (j : Int)) (hlt : j < n) : RunV P W [] (sIA t (.slice (some ⟨g, o, none⟩) n cap) (.int q i)) (.pointer (some ⟨g, o + j * s, none⟩)) := fun w _ => by
  obtain ⟨inf, z, h1, _, h3, _⟩ := ht.info
  subst hi
  have hl : (j : Int) < (n : Int) := by omega
  have hn : ¬ ((n : Int) ≤ 1 ∧ False) := by simp
  simp [sIA, Instr.indexAt, asIntOf, run_underlying ht.ut, sizeOf_run h1, h3, hlt, Addr.add]
theorem v_ia1 {t e : TypeId} {b : Nat} {g o n cap : Nat} {q : IntKind} {i : Int} (j : Nat) [ht : SlT P t e 1 b] (hi : i = (j : Int)) (hlt : j < n) : RunV P W [] (sIA t (.slice (some ⟨g, o, none⟩) n cap) (.int q i)) (.pointer (some ⟨g, o + j, none⟩)) := by
  have := v_ia (P := P) (W := W) (g := g) (o := o) (cap := cap) (q := q) (t := t) j hi hlt
  rwa [Nat.mul_one] at this
theorem v_ldSl {t e : TypeId} {s : Nat} {g j cap n : Nat} {cs : List Value} {v : Value} [ht : OneT P t] (hc : cs[j]? = some v) : RunV P W [Sl s e (some ⟨g, 0, none⟩) cap n cs] (sLoad t (.pointer (some ⟨g, j, none⟩))) v := fun w hw => by
  obtain ⟨rest, _, _, _, _, hw'⟩ := sl_row hw
  refine v_ld (fz := (0, 0)) ?_ w hw'
  have hj : j < cs.length := by
    rcases Nat.lt_or_ge j cs.length with h | h
    · exact h
    · rw [List.getElem?_eq_none h] at hc; cases hc
  simpa [List.getElem?_append_left hj] using hc
theorem e_stSl {t e : TypeId} {s : Nat} {g j cap n : Nat} {cs : List Value} {v : Value} [ht : OneT P t] [hv : OC v] (p : Pick L (Sl s e (some ⟨g, 0, none⟩) cap n cs) L') (hj : j < cs.length)
    (h : Ent W (Sl s e (some ⟨g, 0, none⟩) cap n (cs.set j v) :: L') (k undef)) : Ent W L (opN P (sStore t (.pointer (some ⟨g, j, none⟩)) v) Kp k) := fun w hw => by
  obtain ⟨rest, r1, r2, r3, r4, hw'⟩ := sl_row (hw.pick p)
  refine e_st (L := pt g (.cells (cs ++ rest).toArray e (0, 0)) :: L') .here (by simp; omega) ?_ w hw'
  intro w'' hw''
  refine h w'' (sl_back r1 (by simpa using r2) r3 r4 ?_)
  have he : ((cs ++ rest).toArray.setIfInBounds j v) = (cs.set j v ++ rest).toArray := by
    simp [hj]
  rwa [he] at hw''

/-! ### append -/
theorem setCells_world (g o : Nat) : ∀ (vs : List Value) (w : World) (cs : Array Value) (T : TypeId), sat W (pt g (.cells cs T (0, 0)) :: L) w → ∃ cs' : Array Value, sat W (pt g (.cells cs' T (0, 0)) :: L) (w.setCells g o vs) ∧ cs'.size = cs.size ∧ ∀ i, cs'[i]? = if o ≤ i ∧ i < o + vs.length ∧ i < cs.size then vs[i - o]? else cs[i]? := by
  intro vs
  induction vs generalizing o with
  | nil => intro w cs T H; exact ⟨cs, H, rfl, fun i => by rw [if_neg (by simp; omega)]⟩
  | cons v vs ih =>
    intro w cs T H
    obtain ⟨cs', h1, h2, h3⟩ := ih (o + 1) _ _ _ (H.setCell (o := o) v)
    refine ⟨cs', h1, by simpa using h2, fun i => ?_⟩
    rw [h3]
    simp only [Array.size_setIfInBounds, List.length_cons]
    by_cases hi : i = o
    · subst hi
      rw [if_neg (by omega)]
      by_cases hs : i < cs.size
      · rw [if_pos ⟨Nat.le_refl _, by omega, hs⟩]; simp [hs]
      · rw [if_neg (fun c => hs c.2.2)]; simp [hs]
    · by_cases hc : o + 1 ≤ i ∧ i < o + 1 + vs.length ∧ i < cs.size
      · rw [if_pos hc, if_pos ⟨by omega, by omega, hc.2.2⟩]
        rw [show i - o = (i - (o + 1)) + 1 from by omega, List.getElem?_cons_succ]
      · rw [if_neg hc, if_neg (fun c => hc ⟨by omega, by omega, c.2.2⟩), Array.getElem?_setIfInBounds_ne (fun c => hi c.symm)]

theorem e_app {t tx ty e : TypeId} {s bytes : Nat} {a : Option Addr} {cap n m : Nat} {cs news : List Value} {y : Value} [ht : SlT P t e s bytes] (p : Pick L (Sl s e a cap n cs) L')
    (hsrc : ∀ w, sat W L w → Src P s tx y m news w) (h1 : (n + m) * bytes ≤ 140737488355328) (h2 : n + m ≤ 4611686018427387904)
    (h : ∀ a' cap', Ent W (Sl s e a' cap' (n + m) (cs ++ news) :: L') (k (.slice a' (n + m) cap'))) : Ent W L (opN P (sApp #[t, tx] ty [.slice a n cap, y]) Kp k) := fun w hw => by
  obtain ⟨i, z, hi, hz, hs, hb, hzs⟩ := ht.info
  subst hs; subst hb
  have S := hsrc w hw
  have hw' := hw.pick p
  have hnl := S.newsLen
  refine ⟨?_⟩
  have hrun : ∃ a' cap' w', (Builtin.append_ #[t, tx] ty #[.slice a n cap, y]).run P w = .ok (.slice a' (n + m) cap') w' ∧ sat W (Sl i.size e a' cap' (n + m) (cs ++ news) :: L') w' := by
    obtain ⟨f, ⟨l1, l2, l3, hd⟩, _⟩ := hw'.fst
    have grow : cap < n + m → (Builtin.firstCells i.size n (.slice a n cap)).run P w.drew = .ok cs.toArray w.drew → ∃ a' cap' w', (Builtin.append_ #[t, tx] ty #[.slice a n cap, y]).run P w = .ok (.slice a' (n + m) cap') w' ∧ sat W (Sl i.size e a' cap' (n + m) (cs ++ news) :: L') w' := by
      intro hg hold
      have hr := run_append_grow_src (P := P) w t tx ty e i z ht.ut hi hz a n cap cs hold y m news S hg (by omega) (growslice_fits hg h1)
      refine ⟨_, _, _, hr, ?_⟩
      have hge := grownCap_ge w (n + m) cap e
      have hle := grownCap_le_maxLen w (n + m) cap e (by unfold maxLen; omega)
      have ha := (hw'.drop.drew).alloc (.cells ((cs ++ news).toArray ++ Builtin.zeroCells z.cells (grownCap w (n + m) cap e - (n + m))) e)
      have he : (cs ++ news).toArray ++ Builtin.zeroCells z.cells (grownCap w (n + m) cap e - (n + m)) = (cs ++ news ++ (Builtin.zeroCells z.cells (grownCap w (n + m) cap e - (n + m))).toList).toArray := by
        apply Array.ext'; simp
      rw [he] at ha ⊢
      refine sl_back (g := w.heap.size) ?_ ?_ hge hle ha
      · rw [Array.length_toList, size_zeroCells, hzs]
      · rw [List.length_append, l1, hnl, Nat.add_mul]
    by_cases hfit : n + m ≤ cap
    · rcases hd with ⟨rfl, hc0⟩ | ⟨g, rest, rfl, _, _⟩
      · -- nothing is appended onto nothing
        have hn0 : n = 0 := by omega
        have hm0 : m = 0 := by omega
        subst hn0; subst hm0; subst hc0
        have hnews : news = [] := List.eq_nil_of_length_eq_zero (by simpa using hnl)
        have hcs : cs = [] := List.eq_nil_of_length_eq_zero (by simpa using l1)
        subst hnews; subst hcs
        refine ⟨none, 0, w, ?_, hw'⟩
        rcases S.kind with ⟨e', hk⟩ | hk <;> simp [Builtin.append_, run_underlying ht.ut, run_underlying hk, sizeOf, typeInfo, hi, S.len, S.cells]
      · obtain ⟨rest, r1, r2, r3, r4, hp⟩ := sl_row hw'
        have hsz : (cs ++ rest).length = cap * i.size := by rw [List.length_append, r1, r2, ← Nat.add_mul]; congr 1; omega
        have hrl : rest.length + n * i.size = cap * i.size := by rw [r1, ← Nat.add_mul]; congr 1; omega
        have hbnd : (n + m) * i.size ≤ cap * i.size := Nat.mul_le_mul_right _ hfit
        rw [Nat.add_mul] at hbnd
        have hr := run_append_room_src (P := P) w t tx ty e i ht.ut hi g 0 n cap y m news S hfit (fun j hj => by
            rw [hp.cell, Array.getElem?_eq_getElem (by simp only [List.size_toArray, hsz]; omega)]; rfl) (fun j _ => hp.free)
        refine ⟨_, _, _, hr, ?_⟩
        obtain ⟨cs', c1, c2, c3⟩ := setCells_world g (0 + n * i.size) news w _ _ hp
        have he : cs' = (cs ++ news ++ rest.drop news.length).toArray := by
          apply Array.ext_getElem?
          intro j
          rw [c3]
          simp only [List.size_toArray, hsz, List.getElem?_toArray, Nat.zero_add]
          by_cases hj : n * i.size ≤ j ∧ j < n * i.size + news.length ∧ j < cap * i.size
          · rw [if_pos hj, List.getElem?_append_left (by simp; omega), List.getElem?_append_right (by omega), r2]
          · rw [if_neg hj]
            by_cases hj1 : j < n * i.size
            · rw [List.getElem?_append_left (by omega), List.append_assoc, List.getElem?_append_left (by omega)]
            · rw [List.getElem?_append_right (by omega), List.getElem?_append_right (by simp; omega), List.getElem?_drop]
              by_cases hj2 : j < cap * i.size
              · congr 1; simp; omega
              · rw [List.getElem?_eq_none (by omega), List.getElem?_eq_none (by simp; omega)]
        rw [he] at c1
        refine sl_back ?_ ?_ hfit r4 c1
        · rw [List.length_drop, r1, hnl, ← Nat.sub_mul]; congr 1; omega
        · rw [List.length_append, r2, hnl, Nat.add_mul]
    · refine grow (by omega) ?_
      rcases hd with ⟨rfl, hc0⟩ | ⟨g, rest, rfl, _, _⟩
      · have hcs : cs = [] := List.eq_nil_of_length_eq_zero (by rw [l1, show n = 0 by omega]; simp)
        subst hcs
        simp [Builtin.firstCells]
      · obtain ⟨rest, r1, r2, r3, r4, hp⟩ := sl_row hw'
        refine run_firstCells_some w.drew i.size n ⟨g, 0, none⟩ n cap cs l1 fun j u hu => ?_
        have : (⟨g, 0, none⟩ : Addr).add j = ⟨g, j, none⟩ := by unfold Addr.add; split <;> simp_all
        rw [this]
        show w.cell? ⟨g, j, none⟩ = some u
        rw [hp.cell]
        have hj : j < cs.length := by
          rcases Nat.lt_or_ge j cs.length with c | c
          · exact c
          · rw [List.getElem?_eq_none c] at hu; cases hu
        simpa [List.getElem?_append_left hj] using hu
  obtain ⟨a', cap', w', hr, hs⟩ := hrun
  have : (sApp #[t, tx] ty [.slice a n cap, y]).run P w = .ok (.value (.slice a' (n + m) cap')) w' := by simp [sApp, hr]
  rw [this]
  exact h a' cap' w' hs

/-! ### what is appended -/
theorem src_pt {tx e' T : TypeId} {s g m c : Nat} {cs : Array Value} {fz : Nat × Nat} (hk : P.underlying tx = some (.slice e')) (p : Pick L (pt g (.cells cs T fz)) L') (hl : cs.size = m * s) (h1 : ∀ u ∈ cs.toList, u.oneCell' = true) :
    ∀ w, sat W L w → Src P s tx (.slice (some ⟨g, 0, none⟩) m c) m cs.toList w := fun w hw =>
  Src.ofSlice w hk _ _ _ _ (by simpa using hl) (fun j u hu => by
    have : (⟨g, 0, none⟩ : Addr).add j = ⟨g, j, none⟩ := by unfold Addr.add; split <;> simp_all
    rw [this, (hw.pick p).cell]; simpa using hu) h1
theorem src_sl {tx e' e : TypeId} {s : Nat} {a : Option Addr} {cap m : Nat} {cs : List Value} (hk : P.underlying tx = some (.slice e')) (p : Pick L (Sl s e a cap m cs) L') (h1 : ∀ u ∈ cs, u.oneCell' = true) :
    ∀ w, sat W L w → Src P s tx (.slice a m cap) m cs w := fun w hw => by
  have hw' := hw.pick p
  obtain ⟨f, ⟨l1, l2, l3, hd⟩, _⟩ := hw'.fst
  rcases hd with ⟨rfl, hc0⟩ | ⟨g, rest, rfl, _, _⟩
  · have hm : m = 0 := by omega
    subst hm
    have hcs : cs = [] := List.eq_nil_of_length_eq_zero (by simpa using l1)
    subst hcs
    exact Src.ofNil w hk cap
  · obtain ⟨rest, r1, r2, r3, r4, hp⟩ := sl_row hw'
    refine Src.ofSlice w hk _ _ _ _ l1 (fun j u hu => ?_) h1
    have : (⟨g, 0, none⟩ : Addr).add j = ⟨g, j, none⟩ := by unfold Addr.add; split <;> simp_all
    rw [this, hp.cell]
    have hj : j < cs.length := by
      rcases Nat.lt_or_ge j cs.length with c | c
      · exact c
      · rw [List.getElem?_eq_none c] at hu; cases hu
    simpa [List.getElem?_append_left hj] using hu

/-! ### new memory -/
theorem e_box {t : TypeId} {v : Value} (h : ∀ g, Ent W (pt g (.cells v.cells t) :: L) (k (.pointer (some ⟨g, 0, none⟩)))) : Ent W L (opN P (sBox t v) Kp k) := fun w hw => by
  refine ⟨?_⟩
  have : (sBox t v).run P w = .ok (.value (.pointer (some ⟨w.heap.size, 0, none⟩))) (w.alloc (.cells v.cells t)) := by
    simp [sBox, Instr.box, newVar, newRow]
  rw [this]
  exact h _ _ (hw.alloc _)
theorem e_new {t : TypeId} {z : Value} (hz : ∀ w, (zeroValue t).run P w = .ok z w) (h : ∀ g, Ent W (pt g (.cells z.cells t) :: L) (k (.pointer (some ⟨g, 0, none⟩)))) : Ent W L (opN P (sAlloc t) Kp k) := fun w hw => by
  refine ⟨?_⟩
  have : (sAlloc t).run P w = .ok (.value (.pointer (some ⟨w.heap.size, 0, none⟩))) (w.alloc (.cells z.cells t)) := by
    simp [sAlloc, Instr.alloc, hz, newVar, newRow]
  rw [this]
  exact h _ _ (hw.alloc _)
theorem e_bsl1 {t e : TypeId} {b : Nat} {v : Value} [ht : SlT P t e 1 b] [hv : OC v] (h : ∀ g, Ent W (pt g (.cells #[v] e) :: L) (k (.slice (some ⟨g, 0, none⟩) 1 1))) : Ent W L (opN P (sBuildSl t 1 [(0, v)]) Kp k) := fun w hw => by
  refine ⟨?_⟩
  obtain ⟨i, z, hi, hz, hs, hb, hzs⟩ := ht.info
  have hc : v.cells = #[v] := cells_one hv.one
  have hr : Array.range 1 = #[0] := rfl
  have : (sBuildSl t 1 [(0, v)]).run P w = .ok (.value (.slice (some ⟨w.heap.size, 0, none⟩) 1 1)) (w.alloc (.cells #[v] e)) := by
    simp [sBuildSl, Instr.buildSlice, run_underlying ht.ut, sizeOf_run hi, hs, zeroValue, typeInfo, hi, hz, Instr.fill, hc, hr, newRow]
  rw [this]
  exact h _ _ (hw.alloc _)

/-! ### arrays, structs as values -/
class AggT (P : Program) (t : TypeId) (n : outParam Nat) : Prop where
  agg : ∀ w, (isAgg t).run P w = .ok true w
  size : ∀ w, (sizeOf t).run P w = .ok n w
class ArrT (P : Program) (t : TypeId) (len : outParam Nat) (e : outParam TypeId) (s : outParam Nat) : Prop where
  ut : ∀ w, (underlying t).run P w = .ok (.array len e) w
  size : ∀ w, (sizeOf e).run P w = .ok s w
theorem v_iaA {t e : TypeId} {s len : Nat} {g o : Nat} {q : IntKind} {i : Int} (j : Nat) [ht : ArrT P t len e s] (hi : i = (j : Int)) (hlt : j < len) : RunV P W [] (sIA t (.pointer (some ⟨g, o, none⟩)) (.int q i)) (.pointer (some ⟨g, o + j * s, none⟩)) := fun w _ => by
  subst hi
  simp [sIA, Instr.indexAt, asIntOf, ht.ut, ht.size, hlt, Addr.add, Instr.sureAddr]
theorem v_ldAgg {t : TypeId} {n g : Nat} {cs : Array Value} {T : TypeId} {fz : Nat × Nat} [ht : AggT P t n] (hn : cs.size = n) : RunV P W [pt g (.cells cs T fz)] (sLoad t (.pointer (some ⟨g, 0, none⟩))) (.agg cs) := fun w hw => by
  have h : (loadCells ⟨g, 0, none⟩ n).run P w = .ok cs w := by
    subst hn
    have := run_loadCells_list (P := P) w ⟨g, 0, none⟩ cs.toList (fun j v hv => by
      have e : (⟨g, 0, none⟩ : Addr).add j = ⟨g, j, none⟩ := by unfold Addr.add; split <;> simp_all
      rw [e, hw.cell]; simpa using hv)
    simpa using this
  simp [sLoad, Instr.loadAt, Instr.sureAddr, loadVar, ht.agg, ht.size, h]
theorem run_storeAll {g : Nat} {T : TypeId} (vs : List Value) (w : World) {cs : Array Value} (H : sat W (pt g (.cells cs T (0, 0)) :: L) w) (hn : cs.size = vs.length) (h1 : ∀ u ∈ vs, u.oneCell' = true) :
    ∃ w', (storeCells ⟨g, 0, none⟩ vs).run P w = .ok () w' ∧ sat W (pt g (.cells vs.toArray T (0, 0)) :: L) w' := by
  have hst := run_storeCells_cells (P := P) g 0 vs 0 w (fun j hj => by rw [H.cell, Array.getElem?_eq_getElem (by omega)]; rfl) (fun j _ => H.free) h1
  obtain ⟨cs', c1, c2, c3⟩ := setCells_world g (0 + 0) vs w cs T H
  refine ⟨_, hst, ?_⟩
  have he : cs' = vs.toArray := by
    apply Array.ext_getElem?
    intro j
    rw [c3]
    simp only [Nat.add_zero, Nat.zero_le, true_and, Nat.zero_add, Nat.sub_zero, List.getElem?_toArray]
    by_cases hj : j < vs.length ∧ j < cs.size
    · rw [if_pos hj]
    · rw [if_neg hj, Array.getElem?_eq_none (by omega), List.getElem?_eq_none (by omega)]
  rwa [he] at c1
theorem e_stAgg {t T : TypeId} {n g : Nat} {cs vs : Array Value} [ht : AggT P t n] (p : Pick L (pt g (.cells cs T (0, 0))) L') (hn : cs.size = n) (hv : vs.size = n) (h1 : ∀ u ∈ vs.toList, u.oneCell' = true)
    (h : Ent W (pt g (.cells vs T (0, 0)) :: L') (k undef)) : Ent W L (opN P (sStore t (.pointer (some ⟨g, 0, none⟩)) (.agg vs)) Kp k) := fun w hw => by
  obtain ⟨w', hr, hs⟩ := run_storeAll (P := P) vs.toList w (hw.pick p) (by simp; omega) h1
  refine ⟨?_⟩
  have : (sStore t (.pointer (some ⟨g, 0, none⟩)) (.agg vs)).run P w = .ok .skip w' := by
    simp [sStore, Instr.storeAt, Instr.sureAddr, storeVar, ht.size, Value.cells, hv, hr]
  rw [this]
  exact h w' (by simpa using hs)
class ZeroT (P : Program) (t : TypeId) (z : outParam Value) : Prop where
  run : ∀ w, (zeroValue t).run P w = .ok z w
theorem e_newA {t : TypeId} {cs : Array Value} [hz : ZeroT P t (.agg cs)] (h : ∀ g, Ent W (pt g (.cells cs t (0, 0)) :: L) (k (.pointer (some ⟨g, 0, none⟩)))) : Ent W L (opN P (sAlloc t) Kp k) := e_new hz.run h
theorem e_new1 {t : TypeId} {z : Value} [hz : ZeroT P t z] [hc : OC z] (h : ∀ g, Ent W (pt g (.cells #[z] t (0, 0)) :: L) (k (.pointer (some ⟨g, 0, none⟩)))) : Ent W L (opN P (sAlloc t) Kp k) := e_new hz.run (by rw [cells_one hc.one]; exact h)
theorem e_boxA {t : TypeId} {cs : Array Value} (h : ∀ g, Ent W (pt g (.cells cs t (0, 0)) :: L) (k (.pointer (some ⟨g, 0, none⟩)))) : Ent W L (opN P (sBox t (.agg cs)) Kp k) := e_box h
theorem e_box1 {t : TypeId} {v : Value} [hc : OC v] (h : ∀ g, Ent W (pt g (.cells #[v] t (0, 0)) :: L) (k (.pointer (some ⟨g, 0, none⟩)))) : Ent W L (opN P (sBox t v) Kp k) := e_box (by rw [cells_one hc.one]; exact h)
theorem v_resA {t : TypeId} {n g : Nat} {cs : Array Value} {T : TypeId} {fz : Nat × Nat} [ht : AggT P t n] (hn : cs.size = n) : RunV P W [pt g (.cells cs T fz)] (sRes t (.pointer (some ⟨g, 0, none⟩))) (.agg cs) := fun w hw => by
  have := v_ldAgg (P := P) (t := t) hn w hw
  simp [sLoad, Instr.loadAt, Instr.sureAddr] at this
  simp [sRes, asAddr, this]
theorem v_res1 {t : TypeId} {g o : Nat} {cs : List Value} {T : TypeId} {fz : Nat × Nat} {v : Value} [ht : OneT P t] (hc : Nth cs o v) : RunV P W [pt g (.cells cs.toArray T fz)] (sRes t (.pointer (some ⟨g, o, none⟩))) v := fun w hw => by
  have := v_ldN (P := P) (t := t) hc w hw
  simp [sLoad, Instr.loadAt, Instr.sureAddr] at this
  simp [sRes, asAddr, this]
end Go.Proofs.Ytehfblkpbadikaa.Sl
