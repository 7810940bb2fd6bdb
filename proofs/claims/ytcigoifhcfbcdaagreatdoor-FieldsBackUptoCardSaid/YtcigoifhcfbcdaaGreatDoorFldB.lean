/- Two conditions joined; a store in a row of bytes that a string may share; where a byte is found. No conditions but those that each names. -/
import Derived.Test.YtcigoifhcfbcdaaGreatDoorFldP
import Derived.Test.YtcigoifhcfbcdaaGreatDoorInts
import Derived.Test.YtcigoifhcfbcdaaGreatDoorShapes
import Derived.Laws.Externs
set_option linter.unusedVariables false
set_option linter.unusedSimpArgs false
namespace Go.Proofs.YtcigoifhcfbcdaaGreatDoor.FD
open Go Go.Proofs Go.RowKit Go.Proofs.YtcigoifhcfbcdaaGreatDoor.Sh Go.Proofs.YtcigoifhcfbcdaaGreatDoor.Sl Go.Proofs.YtcigoifhcfbcdaaGreatDoor.T
section
variable {P : Program} {W : World} {L L' : List HP} {Kp : PK} {k : Value → WP}
theorem e_and {a b : Bool} {y : Value} {s : Value → Sem Next} (h2 : a = true → RunV P W [] (s y) (.bool b)) (h : Ent W L (k (.bool (a && b)))) :
    Ent W L (gdK (.bool a) true (fun k => k y) fun x => gdK (.bool a) true (opN P (s x) Kp) fun x2 => opN P (sPick (.bool a) x2 (.bool false)) Kp k) := by
  cases a with
  | true =>
    refine e_gdT ?_
    refine e_gdT ?_
    refine e_opN (h2 rfl) Imp.nil ?_
    refine e_opN v_pickT Imp.nil ?_
    simpa using h
  | false =>
    refine e_gdF2 ?_
    refine e_gdF2 ?_
    refine e_opN v_pickF Imp.nil ?_
    simpa using h
theorem e_orand {a b c : Bool} {y : Value} {s1 s2 : Value → Sem Next} (h1 : a = false → RunV P W [] (s1 y) (.bool b)) (h2 : a = false → b = true → RunV P W [] (s2 y) (.bool c)) (h : Ent W L (k (.bool (a || (b && c))))) :
    Ent W L (gdK (.bool a) false (fun k => k y) fun x14 => gdK (.bool a) false (opN P (s1 x14) Kp) fun x15 => gdK (.bool a) false (fun k => k x15) fun x16 => gdK x16 true (fun k => k y) fun x17 => gdK x16 true (opN P (s2 x17) Kp) fun x18 =>
      gdK (.bool a) false (opN P (sPick x16 x18 (.bool false)) Kp) fun x19 => opN P (sPick (.bool a) (.bool true) x19) Kp k) := by
  cases a with
  | true =>
    refine e_gdF1 ?_
    refine e_gdF1 ?_
    refine e_gdF1 ?_
    refine e_gdU ?_
    refine e_gdU ?_
    refine e_gdF1 ?_
    refine e_opN v_pickT Imp.nil ?_
    simpa using h
  | false =>
    refine e_gdT ?_
    refine e_gdT ?_
    refine e_opN (h1 rfl) Imp.nil ?_
    refine e_gdT ?_
    cases b with
    | true =>
      refine e_gdT ?_
      refine e_gdT ?_
      refine e_opN (h2 rfl rfl) Imp.nil ?_
      refine e_gdT ?_
      refine e_opN v_pickT Imp.nil ?_
      refine e_opN v_pickF Imp.nil ?_
      simpa using h
    | false =>
      refine e_gdF2 ?_
      refine e_gdF2 ?_
      refine e_gdT ?_
      refine e_opN v_pickF Imp.nil ?_
      refine e_opN v_pickF Imp.nil ?_
      simpa using h
theorem e_stF {t : TypeId} {g o : Nat} {cs : Array Value} {T : TypeId} {fz : Nat × Nat} {v : Value} [ht : OneT P t] [hv : OC v] (p : Pick L (pt g (.cells cs T fz)) L') (ho : o < cs.size) (hfz : ¬ (fz.1 ≤ o ∧ o < fz.2))
    (h : Ent W (pt g (.cells (cs.setIfInBounds o v) T fz) :: L') (k undef)) : Ent W L (opN P (sStore t (.pointer (some ⟨g, o, none⟩)) v) Kp k) := fun w hw => by
  have hw' := hw.pick p
  have hc : w.cell? ⟨g, o, none⟩ = some cs[o] := by rw [hw'.cell, Array.getElem?_eq_getElem ho]
  have hf : w.frozen? ⟨g, o, none⟩ = false := by
    simp only [World.frozen?, hw'.pt_.1]
    simp
    intro h1
    by_cases c : o < fz.2
    · exact absurd ⟨h1, c⟩ hfz
    · omega
  have hcells : v.cells = #[v] := by exact cells_one hv.one
  refine ⟨?_⟩
  have hr : (sStore t (.pointer (some ⟨g, o, none⟩)) v).run P w = .ok .skip (w.setCell ⟨g, o, none⟩ v) := by
    simp [sStore, Instr.storeAt, Instr.sureAddr, storeVar, ht.size, hcells, storeCells, Addr.add, run_store, hv.one, hc, hf]
  rw [hr]
  exact h _ (hw'.setCell v)
theorem e_sbytesF {s t e : TypeId} {l : List UInt8} [hs : StrT P s] (ht : P.underlying t = some (.slice e)) (he : P.underlying e = some (.int .u8))
    (h : ∀ g c (rest : List Value), Ent W (pt g (.cells (l.map B ++ rest).toArray e (l.length + rest.length, l.length + rest.length + 1)) :: L) (k (.slice (some ⟨g, 0, none⟩) l.length c))) : Ent W L (opN P (sConv s t (txt l)) Kp k) := fun w hw => by
  refine ⟨?_⟩
  have hr := run_bytes_of_string (P := P) w s t e ⟨l.toArray⟩ hs.ut ht he
  have hb : bytesRow ⟨l.toArray⟩ (grownCap w l.length 0 e) = (l.map B ++ (Array.replicate (grownCap w l.length 0 e - l.length) (Value.int .u8 0)).toList).toArray := by
    apply Array.ext'
    simp [bytesRow, B, ByteArray.size]
  have : (sConv s t (txt l)).run P w = .ok (.value (.slice (some ⟨w.heap.size, 0, none⟩) l.length (grownCap w l.length 0 e))) (w.drew.alloc (.cells (bytesRow ⟨l.toArray⟩ (grownCap w l.length 0 e)) e ((bytesRow ⟨l.toArray⟩ (grownCap w l.length 0 e)).size, (bytesRow ⟨l.toArray⟩ (grownCap w l.length 0 e)).size + 1))) := by
    simp [sConv, txt, hr, ByteArray.size]
  rw [this]
  have h2 := (hw.drew).alloc (.cells (bytesRow ⟨l.toArray⟩ (grownCap w l.length 0 e)) e ((bytesRow ⟨l.toArray⟩ (grownCap w l.length 0 e)).size, (bytesRow ⟨l.toArray⟩ (grownCap w l.length 0 e)).size + 1))
  rw [hb] at h2 ⊢
  have hz : ((l.map B ++ (Array.replicate (grownCap w l.length 0 e - l.length) (Value.int .u8 0)).toList).toArray).size = l.length + ((Array.replicate (grownCap w l.length 0 e - l.length) (Value.int .u8 0)).toList).length := by simp
  rw [hz] at h2 ⊢
  exact h _ _ _ _ h2
end
/-- where a byte is found -/
def ixF (l : List UInt8) (c : UInt8) : Int := if c ∈ l then ((l.findIdx (· == c) : Nat) : Int) else -1
theorem firstIdx_eq {l : List UInt8} {c : UInt8} : firstIdx ⟨l.toArray⟩ c = ixF l c := by
  have e : ∀ i, i < l.length → ((⟨l.toArray⟩ : ByteArray)[i]! == c) = (l.getD i 0 == c) := fun i hi => by
    have h2 : i < (⟨l.toArray⟩ : ByteArray).size := hi
    rw [getElem!_pos _ i h2]
    simp [ByteArray.getElem_eq_getElem_data, List.getD_eq_getElem?_getD, hi]
  unfold ixF
  by_cases h : c ∈ l
  · rw [if_pos h]
    have hlt : l.findIdx (· == c) < l.length := List.findIdx_lt_length_of_exists ⟨c, h, by simp⟩
    have hf : (List.range (⟨l.toArray⟩ : ByteArray).size).find? (fun i => (⟨l.toArray⟩ : ByteArray)[i]! == c) = some (l.findIdx (· == c)) := by
      rw [List.find?_eq_some_iff_getElem]
      refine ⟨?_, l.findIdx (· == c), by simpa [ByteArray.size] using hlt, by simp, fun j hj => ?_⟩
      · rw [e _ hlt]
        have := List.findIdx_getElem (w := hlt)
        simpa [List.getD_eq_getElem?_getD, hlt] using this
      · have hjl : j < l.length := by omega
        simp only [List.getElem_range]
        rw [e _ hjl]
        have := List.not_of_lt_findIdx hj
        simpa [List.getD_eq_getElem?_getD, hjl] using this
    unfold firstIdx
    rw [hf]
  · rw [if_neg h]
    have hf : (List.range (⟨l.toArray⟩ : ByteArray).size).find? (fun i => (⟨l.toArray⟩ : ByteArray)[i]! == c) = none := by
      rw [List.find?_eq_none]
      intro i hi
      have hil : i < l.length := by simpa [ByteArray.size] using hi
      rw [e i hil]
      simp [List.getD_eq_getElem?_getD, hil]
      rintro rfl
      exact h (List.getElem_mem hil)
    unfold firstIdx
    rw [hf]
theorem ixF_nn {l : List UInt8} {c : UInt8} : (0 ≤ ixF l c) ↔ c ∈ l := by
  unfold ixF
  by_cases h : c ∈ l
  · rw [if_pos h]; simp [h]
  · rw [if_neg h]; simp [h]
theorem indexByte0 {W : World} {l : List UInt8} {c : UInt8} : Cn Tryz.prog 63 [txt l, Sl.B c] W [] (fun _ : Unit => .int .i64 (ixF l c)) (fun _ => []) := by
  have ext : RunV Tryz.prog W [] (sCall (fn 77) [txt l, Sl.B c]) (.int .i64 (ixF l c)) := fun w _ => by
    have hr : (callFunc 77 #[txt l, Sl.B c]).run Tryz.prog w = .ok (.value (.int .i64 (ixF l c))) w := by
      rw [run_callFunc_extern Tryz.func77 (by kernel_rfl) (by kernel_rfl) (by kernel_rfl) (e := Extern.BytealgIndexByte.indexByte) (by kernel_rfl)]
      have := run_indexByte_string (P := Tryz.prog) ⟨l.toArray⟩ (c.toNat : Int) w
      unfold txt Sl.B
      rw [this]
      simp only [Result.andThen_ok]
      rw [show (↑c.toNat : Int).toNat.toUInt8 = c by simp, firstIdx_eq]
    simp [sCall, Deferred.ofValue, invoke, fn, hr]
  (refine S.stringslite_IndexByte_cn fun F => ?_; unfold S.stringslite_IndexByte; simp only [List.cons_append, List.nil_append])
  refine e_opN ext Imp.nil ?_
  (first | refine e_ret (()) rfl ?_ | refine e_retT (()) ?_)
  (repeat (first | exact Imp.refl | exact Imp.nil | (apply Imp.pick; (focus ((repeat constructor); done))) | refine Imp.drop ?_))
theorem indexByte {W : World} {l : List UInt8} {c : UInt8} : Cn Tryz.prog 48 [txt l, Sl.B c] W [] (fun _ : Unit => .int .i64 (ixF l c)) (fun _ => []) := by
  (refine S.strings_IndexByte_cn fun F => ?_; unfold S.strings_IndexByte; simp only [List.cons_append, List.nil_append])
  (refine' e_call (indexByte0) ?hp fun _ => ?_; (case hp => (repeat (first | exact Picks.nil | (apply Picks.cons; (focus (repeat constructor)))))); (try simp only [List.cons_append, List.nil_append, Bool.not_true, Bool.not_false]))
  (first | refine e_ret (()) rfl ?_ | refine e_retT (()) ?_)
  (repeat (first | exact Imp.refl | exact Imp.nil | (apply Imp.pick; (focus ((repeat constructor); done))) | refine Imp.drop ?_))
end Go.Proofs.YtcigoifhcfbcdaaGreatDoor.FD
