/- What reads a date. No conditions but those that each names. -/
import Derived.Test.YtcmpkkkigmheoaaDate6
import Derived.Laws.Externs
set_option linter.unusedVariables false
set_option linter.unusedSimpArgs false
namespace Go.Proofs.Ytcmpkkkigmheoaa.D
open Go Go.Proofs Go.RowKit Go.Proofs.Ytcmpkkkigmheoaa.Sh Go.Proofs.Ytcmpkkkigmheoaa.Sl Go.Proofs.Ytcmpkkkigmheoaa.T
theorem firstIdx_eq {l : List UInt8} {c : UInt8} (h : c ∈ l) : firstIdx ⟨l.toArray⟩ c = ((l.findIdx (· == c) : Nat) : Int) := by
  have hlt : l.findIdx (· == c) < l.length := List.findIdx_lt_length_of_exists ⟨c, h, by simp⟩
  have hf : (List.range (⟨l.toArray⟩ : ByteArray).size).find? (fun i => (⟨l.toArray⟩ : ByteArray)[i]! == c) = some (l.findIdx (· == c)) := by
    have e : ∀ i, i < l.length → ((⟨l.toArray⟩ : ByteArray)[i]! == c) = (l.getD i 0 == c) := fun i hi => by
      have h2 : i < (⟨l.toArray⟩ : ByteArray).size := hi
      rw [getElem!_pos _ i h2]
      simp [ByteArray.getElem_eq_getElem_data, List.getD_eq_getElem?_getD, hi]
    rw [List.find?_eq_some_iff_getElem]
    refine ⟨?_, l.findIdx (· == c), by simpa [ByteArray.size] using hlt, by simp, fun j hj => ?_⟩
    · rw [e _ hlt]
      have := List.findIdx_getElem (w := hlt)
      simpa [List.getD_eq_getElem?_getD, hlt] using this
    · have hjl : j < l.length := by omega
      simp only [List.getElem_range]
      rw [e _ hjl]
      have := List.not_of_lt_findIdx hj
      simpa [List.getD_eq_getElem?_getD, hjl] using this
  unfold firstIdx
  rw [hf]
theorem indexByte {W : World} {l : List UInt8} {c : UInt8} (h : c ∈ l) : Cn Try.prog 48 [txt l, Sl.B c] W [] (fun _ : Unit => .int .i64 ((l.findIdx (· == c) : Nat) : Int)) (fun _ => []) := by
  have ext : RunV Try.prog W [] (sCall (fn 52) [txt l, Sl.B c]) (.int .i64 ((l.findIdx (· == c) : Nat) : Int)) := fun w _ => by
    have hr : (callFunc 52 #[txt l, Sl.B c]).run Try.prog w = .ok (.value (.int .i64 ((l.findIdx (· == c) : Nat) : Int))) w := by
      rw [run_callFunc_extern Try.func52 (by kernel_rfl) (by kernel_rfl) (by kernel_rfl) (e := Extern.BytealgIndexByte.indexByte) (by kernel_rfl)]
      have := run_indexByte_string (P := Try.prog) ⟨l.toArray⟩ (c.toNat : Int) w
      unfold txt Sl.B
      rw [this]
      have hc : ((c.toNat : Int).toNat).toUInt8 = c := by simp
      simp only [Result.andThen_ok]
      rw [show (↑c.toNat : Int).toNat.toUInt8 = c from hc, firstIdx_eq h]
    simp [sCall, Deferred.ofValue, invoke, fn, hr]
  have inner : Cn Try.prog 51 [txt l, Sl.B c] W [] (fun _ : Unit => .int .i64 ((l.findIdx (· == c) : Nat) : Int)) (fun _ => []) := by
    (refine S.stringslite_IndexByte_cn fun F => ?_; unfold S.stringslite_IndexByte; simp only [List.cons_append, List.nil_append])
    refine e_opN ext Imp.nil ?_
    (first | refine e_ret (()) rfl ?_ | refine e_retT (()) ?_)
    (repeat (first | exact Imp.refl | exact Imp.nil | (apply Imp.pick; (focus ((repeat constructor); done))) | refine Imp.drop ?_))
  (refine S.strings_IndexByte_cn fun F => ?_; unfold S.strings_IndexByte; simp only [List.cons_append, List.nil_append])
  (refine' e_call (inner) ?hp fun _ => ?_; (case hp => (repeat (first | exact Picks.nil | (apply Picks.cons; (focus (repeat constructor)))))); (try simp only [List.cons_append, List.nil_append, Bool.not_true, Bool.not_false]))
  (first | refine e_ret (()) rfl ?_ | refine e_retT (()) ?_)
  (repeat (first | exact Imp.refl | exact Imp.nil | (apply Imp.pick; (focus ((repeat constructor); done))) | refine Imp.drop ?_))
end Go.Proofs.Ytcmpkkkigmheoaa.D
