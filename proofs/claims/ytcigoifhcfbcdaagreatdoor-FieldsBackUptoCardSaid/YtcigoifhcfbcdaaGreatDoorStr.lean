/- Strings: joined, cut, asked by place; their bytes as a new row; arrays as values. No conditions but those that each names. -/
import Derived.Test.YtcigoifhcfbcdaaGreatDoorAggs
import Derived.Laws.IdiomStrings
set_option linter.unusedVariables false
namespace Go.Proofs.YtcigoifhcfbcdaaGreatDoor.Sl
open Go Go.RowKit Go.Proofs.YtcigoifhcfbcdaaGreatDoor.Sh
variable {P : Program} {W : World} {L L' : List HP} {Kp : PK} {k : Value → WP}
theorem v_cat {t : TypeId} {a b : List UInt8} (h : a.length + b.length ≤ 9223372036854775807) : RunV P W [] (sBin .add t (txt a) (txt b)) (txt (a ++ b)) := fun w _ => by
  have hm : ¬ (((a.length + b.length : Nat) : Int) > IntKind.i64.max) := by
    have : IntKind.i64.max = 9223372036854775807 := by decide
    rw [this]; omega
  have e : (⟨a.toArray⟩ : ByteArray) ++ ⟨b.toArray⟩ = ⟨(a ++ b).toArray⟩ := by
    apply ByteArray.ext
    simp
  simp [sBin, sv, eqGuard, txt, binOp_string_add, Op.stringOp, e, ByteArray.size]
  omega
theorem run_sb {q : IntKind} {w : World} {i : Int} {y : Nat} {c : BoundsCode} (h : Nat) (hi : i = (h : Int)) (hy : h ≤ y) : (Instr.sliceBound (.int q i) y c).run P w = .ok h w := by
  subst hi
  simp [Instr.sliceBound, asIntOf, hy]
theorem ext_take {l : List UInt8} {h : Nat} (hh : h ≤ l.length) : (⟨l.toArray⟩ : ByteArray).extract 0 h = ⟨(l.take h).toArray⟩ := by
  apply ByteArray.ext
  rw [ByteArray.data_extract]
  simp
theorem ext_drop {l : List UInt8} {h : Nat} : (⟨l.toArray⟩ : ByteArray).extract h l.length = ⟨(l.drop h).toArray⟩ := by
  apply ByteArray.ext
  rw [ByteArray.data_extract]
  simp
  exact List.take_of_length_le (by rw [List.length_drop]; omega)
theorem v_ssh {t : TypeId} {l : List UInt8} {q : IntKind} {i : Int} (h : Nat) [ht : StrT P t] (hi : i = (h : Int)) (hh : h ≤ l.length) : RunV P W [] (sSl t (txt l) none (some (.int q i)) none) (txt (l.take h)) := fun w _ => by
  have e : (⟨l.toArray⟩ : ByteArray).size = l.length := rfl
  simp [sSl, Instr.sliceAt, Instr.slice, Instr.sliceBounds, run_underlying ht.ut, txt, e, run_sb h hi hh, ext_take hh]
theorem v_ssl {t : TypeId} {l : List UInt8} {q : IntKind} {i : Int} (h : Nat) [ht : StrT P t] (hi : i = (h : Int)) (hh : h ≤ l.length) : RunV P W [] (sSl t (txt l) (some (.int q i)) none none) (txt (l.drop h)) := fun w _ => by
  have e : (⟨l.toArray⟩ : ByteArray).size = l.length := rfl
  simp [sSl, Instr.sliceAt, Instr.slice, Instr.sliceBounds, run_underlying ht.ut, txt, e, run_sb h hi hh, ext_drop]
theorem v_ixS {t : TypeId} {l : List UInt8} {q : IntKind} {i : Int} (j : Nat) [ht : StrT P t] (hi : i = (j : Int)) (hh : j < l.length) : RunV P W [] (sIx t (txt l) (.int q i)) (B l[j]) := fun w _ => by
  subst hi
  have h2 : j < (⟨l.toArray⟩ : ByteArray).size := hh
  have e : (⟨l.toArray⟩ : ByteArray)[j] = l[j] := by simp [ByteArray.getElem_eq_getElem_data]
  have := run_index_string (P := P) w t ⟨l.toArray⟩ q (j : Int) ht.ut
  rw [dif_pos ⟨by omega, by simpa using h2⟩] at this
  simp [sIx, txt, this, B]
  exact congrArg (fun c : UInt8 => (c.toNat : Int)) e
theorem v_ixA {t e : TypeId} {n : Nat} {cs : Array Value} {v : Value} {q : IntKind} {i : Int} (j : Nat) [ht : ArrT P t n e 1] [ho : OneT P e] (hi : i = (j : Int)) (hj : j < n) (hv : cs[j]? = some v) : RunV P W [] (sIx t (.agg cs) (.int q i)) v := fun w _ => by
  subst hi
  simp [sIx, Instr.index, asIntOf, ht.ut, ht.size, hj, part, ho.agg, hv]
/-- a string's bytes in a new row -/
theorem e_sbytes {s t e : TypeId} {l : List UInt8} [hs : StrT P s] (ht : P.underlying t = some (.slice e)) (he : P.underlying e = some (.int .u8))
    (h : ∀ g c (rest : List Value) fz, Ent W (pt g (.cells (l.map B ++ rest).toArray e fz) :: L) (k (.slice (some ⟨g, 0, none⟩) l.length c))) : Ent W L (opN P (sConv s t (txt l)) Kp k) := fun w hw => by
  refine ⟨?_⟩
  have hr := run_bytes_of_string (P := P) w s t e ⟨l.toArray⟩ hs.ut ht he
  have hb : bytesRow ⟨l.toArray⟩ (grownCap w l.length 0 e) = (l.map B ++ (Array.replicate (grownCap w l.length 0 e - l.length) (Value.int .u8 0)).toList).toArray := by
    apply Array.ext'
    simp [bytesRow, B, ByteArray.size]
  have : (sConv s t (txt l)).run P w = .ok (.value (.slice (some ⟨w.heap.size, 0, none⟩) l.length (grownCap w l.length 0 e))) (w.drew.alloc (.cells (bytesRow ⟨l.toArray⟩ (grownCap w l.length 0 e)) e ((bytesRow ⟨l.toArray⟩ (grownCap w l.length 0 e)).size, (bytesRow ⟨l.toArray⟩ (grownCap w l.length 0 e)).size + 1))) := by
    simp [sConv, txt, hr, ByteArray.size]
  rw [this]
  have h2 := (hw.drew).alloc (.cells (bytesRow ⟨l.toArray⟩ (grownCap w l.length 0 e)) e ((bytesRow ⟨l.toArray⟩ (grownCap w l.length 0 e)).size, (bytesRow ⟨l.toArray⟩ (grownCap w l.length 0 e)).size + 1))
  rw [hb] at h2 ⊢
  exact h _ _ _ _ _ h2
theorem rd_row {g : Nat} {e : TypeId} {fz : Nat × Nat} {cs rest : List Value} : RdB W (pt g (.cells (cs ++ rest).toArray e fz)) (some ⟨g, 0, none⟩) cs.length cs :=
  ⟨rfl, fun _ => ⟨g, 0, rfl, fun w L hw j v hv => by
    rw [Nat.zero_add, hw.cell]
    have hj : j < cs.length := by
      rcases Nat.lt_or_ge j cs.length with c | c
      · exact c
      · rw [List.getElem?_eq_none c] at hv; cases hv
    simpa [List.getElem?_append_left hj] using hv⟩⟩
end Go.Proofs.YtcigoifhcfbcdaaGreatDoor.Sl
