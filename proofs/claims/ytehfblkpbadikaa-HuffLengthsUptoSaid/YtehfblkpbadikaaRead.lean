/- Slices that are read: a call's own, or what came in; bytes as texts. No conditions but those that each names. -/
import Derived.Test.YtehfblkpbadikaaSlice
import Derived.Laws.BytesString
import Derived.Laws.Strings
namespace Go.Proofs.Ytehfblkpbadikaa.Sl
open Go Go.RowKit Go.Proofs.Ytehfblkpbadikaa.Sh
set_option linter.unusedVariables false
variable {P : Program} {W : World} {L L' L'' : List HP} {Kp : PK} {k : Value → WP} {A : HP}

/-- wherever A holds, the first n cells from address a on hold cs -/
structure RdB (W : World) (A : HP) (a : Option Addr) (n : Nat) (cs : List Value) : Prop where
  len : cs.length = n
  at_ : 0 < n → ∃ g o, a = some ⟨g, o, none⟩ ∧ ∀ w L, sat W (A :: L) w → ∀ j v, cs[j]? = some v → w.cell? ⟨g, o + j, none⟩ = some v

theorem sat.only {w : World} (h : sat W (A :: L) w) : sat W [A] w := (Imp.pick (L' := L) .here .nil).sat h
theorem addr_add (g o j : Nat) : (⟨g, o, none⟩ : Addr).add j = ⟨g, o + j, none⟩ := by unfold Addr.add; split <;> simp_all

theorem RdB.ofSl {e : TypeId} {a : Option Addr} {cap n : Nat} {cs : List Value} (hl : cs.length = n) : 0 < n → RdB W (Sl 1 e a cap n cs) a n cs → True := fun _ _ => trivial
theorem rd_sl {e : TypeId} {a : Option Addr} {cap n : Nat} {cs : List Value} (hl : cs.length = n) (ha : 0 < n → ∃ g, a = some ⟨g, 0, none⟩) : RdB W (Sl 1 e a cap n cs) a n cs := ⟨hl, fun hn => by
  obtain ⟨g, rfl⟩ := ha hn
  refine ⟨g, 0, rfl, fun w L hw j v hv => ?_⟩
  obtain ⟨rest, r1, r2, r3, r4, hp⟩ := sl_row hw
  rw [Nat.zero_add, hp.cell]
  have hj : j < cs.length := by
    rcases Nat.lt_or_ge j cs.length with c | c
    · exact c
    · rw [List.getElem?_eq_none c] at hv; cases hv
  simpa [List.getElem?_append_left hj] using hv⟩
theorem rd_nil {n : Nat} (h : n = 0) {a : Option Addr} : RdB W A a n [] := ⟨by simp [h], fun c => by omega⟩
theorem rd_pt {g n : Nat} {cs : List Value} {T : TypeId} {fz : Nat × Nat} (h : cs.length = n) : RdB W (pt g (.cells cs.toArray T fz)) (some ⟨g, 0, none⟩) n cs := ⟨h, fun _ => ⟨g, 0, rfl, fun w L hw j v hv => by rw [Nat.zero_add, hw.cell]; simpa using hv⟩⟩
/-- what lay there when all began -/
theorem rd_old {g o n : Nat} {cs : List Value} (hl : cs.length = n) (hg : g < W.heap.size) (hc : ∀ j v, cs[j]? = some v → W.cell? ⟨g, o + j, none⟩ = some v) : RdB W A (some ⟨g, o, none⟩) n cs :=
  ⟨hl, fun _ => ⟨g, o, rfl, fun w L hw j v hv => by rw [hw.base.cell (p := ⟨g, o + j, none⟩) hg]; exact hc j v hv⟩⟩
theorem RdB.cut {a : Option Addr} {n cap l h : Nat} {cs : List Value} (H : RdB W A a n cs) (h1 : l ≤ h) (h2 : h ≤ n) (h3 : n ≤ cap) : RdB W A (if cap = l then a else a.map (·.add (l * 1))) (h - l) ((cs.drop l).take (h - l)) := by
  have hl := H.len
  refine ⟨by simp; omega, fun hn => ?_⟩
  obtain ⟨g, o, rfl, hc⟩ := H.at_ (by omega)
  rw [if_neg (by omega)]
  refine ⟨g, o + l, by simp [addr_add], fun w L hw j v hv => ?_⟩
  rw [Nat.add_assoc]
  refine hc w L hw (l + j) v ?_
  rw [List.getElem?_take] at hv
  split at hv
  · rwa [List.getElem?_drop] at hv
  · cases hv

theorem src_rd {tx e' : TypeId} {a : Option Addr} {n cap : Nat} {cs : List Value} (hk : P.underlying tx = some (.slice e')) (p : Pick L A L') (H : RdB W A a n cs) (ha : a = none → n = 0) (h1 : ∀ u ∈ cs, u.oneCell' = true) :
    ∀ w, sat W L w → Src P 1 tx (.slice a n cap) n cs w := fun w hw => by
  have hl := H.len
  rcases Nat.eq_zero_or_pos n with h0 | hn
  · subst h0
    have hcs : cs = [] := List.eq_nil_of_length_eq_zero hl
    subst hcs
    cases a with
    | none => exact Src.ofNil w hk cap
    | some ad => exact Src.ofSlice w hk ad 0 cap [] (by simp) (fun j u hu => by simp at hu) (by simp)
  · obtain ⟨g, o, rfl, hc⟩ := H.at_ hn
    exact Src.ofSlice w hk _ _ _ _ (by omega) (fun j u hu => by rw [addr_add]; exact hc w L' (hw.pick p) j u hu) h1
theorem v_ldRd {t : TypeId} {g o n j : Nat} {cs : List Value} {v : Value} [ht : OneT P t] (H : RdB W A (some ⟨g, o, none⟩) n cs) (hv : cs[j]? = some v) : RunV P W [A] (sLoad t (.pointer (some ⟨g, o + j, none⟩))) v := fun w hw => by
  have hl := H.len
  have hj : j < cs.length := by
    rcases Nat.lt_or_ge j cs.length with c | c
    · exact c
    · rw [List.getElem?_eq_none c] at hv; cases hv
  obtain ⟨g', o', e, hc⟩ := H.at_ (by omega)
  injection e with e; injection e with e1 e2; subst e1; subst e2
  have h := hc w [] hw j v hv
  simp [sLoad, Instr.loadAt, Instr.sureAddr, loadVar, ht.agg, h]

/-! ### cuts of slices -/
theorem run_bound {q : IntKind} {i : Int} {y : Nat} {c : BoundsCode} (j : Nat) (hi : i = (j : Int)) (h : j ≤ y) (w : World) : (Instr.sliceBound (.int q i) y c).run P w = .ok j w := by
  subst hi
  have : (0 : Int) ≤ j ∧ (j : Int) ≤ y := ⟨by omega, by omega⟩
  simp [Instr.sliceBound, asIntOf, this]
theorem v_sl2 {t e : TypeId} {s b n cap : Nat} {a : Option Addr} {q r : IntKind} {i j : Int} (l h : Nat) [ht : SlT P t e s b] (hi : i = (l : Int)) (hj : j = (h : Int)) (h1 : l ≤ h) (h2 : h ≤ cap) :
    RunV P W [] (sSl t (.slice a n cap) (some (.int q i)) (some (.int r j)) none) (.slice (if cap = l then a else a.map (·.add (l * s))) (h - l) (cap - l)) := fun w _ => by
  obtain ⟨inf, z, k1, _, k3, _⟩ := ht.info
  simp [sSl, Instr.sliceAt, Instr.slice, Instr.sliceBounds, run_underlying ht.ut, run_bound h hj h2, run_bound l hi h1, sizeOf_run k1, k3]
theorem v_slh {t e : TypeId} {s b n cap : Nat} {a : Option Addr} {r : IntKind} {j : Int} (h : Nat) [ht : SlT P t e s b] (hj : j = (h : Int)) (h2 : h ≤ cap) :
    RunV P W [] (sSl t (.slice a n cap) none (some (.int r j)) none) (.slice (if cap = 0 then a else a.map (·.add (0 * s))) h cap) := fun w _ => by
  obtain ⟨inf, z, k1, _, k3, _⟩ := ht.info
  simp [sSl, Instr.sliceAt, Instr.slice, Instr.sliceBounds, run_underlying ht.ut, run_bound h hj h2, sizeOf_run k1, k3]
theorem v_sll {t e : TypeId} {s b n cap : Nat} {a : Option Addr} {q : IntKind} {i : Int} (l : Nat) [ht : SlT P t e s b] (hi : i = (l : Int)) (h1 : l ≤ n) :
    RunV P W [] (sSl t (.slice a n cap) (some (.int q i)) none none) (.slice (if cap = l then a else a.map (·.add (l * s))) (n - l) (cap - l)) := fun w _ => by
  obtain ⟨inf, z, k1, _, k3, _⟩ := ht.info
  simp [sSl, Instr.sliceAt, Instr.slice, Instr.sliceBounds, run_underlying ht.ut, run_bound l hi h1, sizeOf_run k1, k3]

/-! ### texts -/
/-- a byte as the model holds it -/
def B (c : UInt8) : Value := .int .u8 (c.toNat : Int)
instance {c : UInt8} : OC (B c) := ⟨rfl⟩
theorem B_one {l : List UInt8} : ∀ u ∈ l.map B, u.oneCell' = true := by
  intro u hu; obtain ⟨c, _, rfl⟩ := List.mem_map.1 hu; rfl
theorem B_get {l : List UInt8} {j : Nat} (h : j < l.length) : (l.map B)[j]? = some (B l[j]) := by simp [h]
def txt (l : List UInt8) : Value := .string ⟨l.toArray⟩
instance {l : List UInt8} : OC (txt l) := ⟨rfl⟩
class StrT (P : Program) (t : TypeId) : Prop where
  ut : P.underlying t = some .string
class BytesT (P : Program) (t : TypeId) : Prop where
  ut : ∃ e, P.underlying t = some (.slice e) ∧ P.underlying e = some (.int .u8)
theorem v_str {s t : TypeId} {a : Option Addr} {n cap : Nat} {l : List UInt8} [hs : BytesT P s] [ht : StrT P t] (H : RdB W A a n (l.map B)) (ha : a = none → n = 0) : RunV P W [A] (sConv s t (.slice a n cap)) (txt l) := fun w hw => by
  obtain ⟨e, h1, h2⟩ := hs.ut
  have hl : l.length = n := by simpa using H.len
  have key : (Conv.bytesToString (.slice a n cap)).run P w = .ok (txt l) w := by
    rcases Nat.eq_zero_or_pos n with h0 | hn
    · subst h0
      have hl0 : l = [] := List.eq_nil_of_length_eq_zero hl
      subst hl0
      cases a with
      | none => simp [Conv.bytesToString, txt]; rfl
      | some ad =>
        rw [run_bytesToString w ad 0 cap [] (by simp [loadCells, loadCellsFrom])]
        rfl
    · obtain ⟨g, o, rfl, hc⟩ := H.at_ hn
      have hlc := run_loadCells_list (P := P) w ⟨g, o, none⟩ (l.map B) (fun j v hv => by rw [addr_add]; exact hc w [] hw j v hv)
      rw [List.length_map, hl] at hlc
      have hm : l.map B = (l.map fun c => (c.toNat : Int)).map (Value.int .u8) := by simp [B, Function.comp_def]
      rw [hm] at hlc
      rw [run_bytesToString w _ n cap _ hlc]
      have hf : ∀ (m : List UInt8) (s : ByteArray), (m.map fun c => (c.toNat : Int)).foldl (fun r n => r.push (UInt8.ofNat n.toNat)) s = ⟨s.data ++ m.toArray⟩ := by
        intro m
        induction m with
        | nil => intro s; simp
        | cons c m ih =>
          intro s
          simp only [List.map_cons, List.foldl_cons, ih]
          simp [ByteArray.push]
      rw [hf]
      simp [txt, ByteArray.empty, ByteArray.emptyWithCapacity]
      rfl
  have hcv := run_convert_bytes_string (P := P) w s t e a n cap h1 h2 ht.ut
  simp [sConv, hcv, key]
theorem txt_eq {l m : List UInt8} : ((⟨l.toArray⟩ : ByteArray).toList == (⟨m.toArray⟩ : ByteArray).toList) = decide (l = m) := by
  rw [ByteArray.toList_mk, ByteArray.toList_mk]
  by_cases h : l = m <;> simp [h]
theorem v_streq {t : TypeId} {ox oy : Operand} {l m : List UInt8} : RunV P W [] (sEq .eql t ox oy (txt l) (txt m)) (.bool (decide (l = m))) := fun w _ => by
  simp [sEq, sv, eqGuard, txt, binOp_string_eql]
  by_cases h : l = m <;> simp [h]
theorem v_strne {t : TypeId} {ox oy : Operand} {l m : List UInt8} : RunV P W [] (sEq .neq t ox oy (txt l) (txt m)) (.bool (decide (l ≠ m))) := fun w _ => by
  simp [sEq, sv, eqGuard, txt, binOp_string_neq]
  by_cases h : l = m <;> simp [h]
theorem v_lent {t ty : TypeId} {l : List UInt8} [ht : StrT P t] : RunV P W [] (sLen #[t] ty [txt l]) (.int .i64 (l.length : Int)) := by
  have := v_lens (P := P) (W := W) (t := t) (ty := ty) (s := ⟨l.toArray⟩) ht.ut
  simpa [txt, ByteArray.size] using this
theorem e_nil {s : Nat} {e : TypeId} {S : WP} (h : Ent W (Sl s e none 0 0 [] :: L) S) : Ent W L S := e_imp (imp_nil .refl) h
end Go.Proofs.Ytehfblkpbadikaa.Sl
