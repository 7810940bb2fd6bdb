/- The elements of a list: lengths, places; conditions joined. No conditions but those that each names. -/
import Derived.Test.YtcigoifhcfbcdaaGreatDoorFld2
set_option linter.unusedVariables false
set_option linter.unusedSimpArgs false
namespace Go.Proofs.YtcigoifhcfbcdaaGreatDoor.FD
open Go Go.Proofs Go.RowKit Go.Proofs.YtcigoifhcfbcdaaGreatDoor.Sh Go.Proofs.YtcigoifhcfbcdaaGreatDoor.Sl Go.Proofs.YtcigoifhcfbcdaaGreatDoor.T
section
variable {P : Program} {W : World} {L L' : List HP} {Kp : PK} {k : Value → WP}
theorem e_and0 {a b : Bool} (h : Ent W L (k (.bool (a && b)))) : Ent W L (gdK (.bool a) true (fun k => k (.bool b)) fun x2 => opN P (sPick (.bool a) x2 (.bool false)) Kp k) := by
  cases a with
  | true =>
    refine e_gdT ?_
    refine e_opN v_pickT Imp.nil ?_
    simpa using h
  | false =>
    refine e_gdF2 ?_
    refine e_opN v_pickF Imp.nil ?_
    simpa using h
theorem e_and2 {a b : Bool} {A : List HP} {s1 : Sem Next} {v1 : Value} {s2 : Value → Sem Next} (h1 : RunV P W [] s1 v1) (h2 : RunV P W A (s2 v1) (.bool b)) (i : Imp W L A) (h : Ent W L (k (.bool (a && b)))) :
    Ent W L (gdK (.bool a) true (opN P s1 Kp) fun x => gdK (.bool a) true (opN P (s2 x) Kp) fun x2 => opN P (sPick (.bool a) x2 (.bool false)) Kp k) := by
  cases a with
  | true =>
    refine e_gdT ?_
    refine e_opN h1 Imp.nil ?_
    refine e_gdT ?_
    refine e_opN h2 i ?_
    refine e_opN v_pickT Imp.nil ?_
    simpa using h
  | false =>
    refine e_gdF2 ?_
    refine e_gdF2 ?_
    refine e_opN v_pickF Imp.nil ?_
    simpa using h
theorem e_cond {φ : Prop} [Decidable φ] {b : Bool} {X Y : WP} (hb : b = decide φ) (ht : φ → Ent W L X) (hf : ¬ φ → Ent W L Y) : Ent W L (condS (.bool b) X Y) := by
  subst hb
  by_cases h : φ
  · rw [decide_eq_true h]; exact e_condT (ht h)
  · rw [decide_eq_false h]; exact e_condF (hf h)
theorem v_sslh {t : TypeId} {l : List UInt8} {q r : IntKind} {i j : Int} (a b : Nat) [ht : StrT P t] (hi : i = (a : Int)) (hj : j = (b : Int)) (hab : a ≤ b) (hb : b ≤ l.length) : RunV P W [] (sSl t (txt l) (some (.int q i)) (some (.int r j)) none) (txt (sub l a b)) := fun w _ => by
  have e : (⟨l.toArray⟩ : ByteArray).size = l.length := rfl
  have e2 : (⟨l.toArray⟩ : ByteArray).extract a b = ⟨(sub l a b).toArray⟩ := by
    apply ByteArray.ext
    rw [ByteArray.data_extract]
    simp [sub]
  simp [sSl, Instr.sliceAt, Instr.slice, Instr.sliceBounds, run_underlying ht.ut, txt, e, run_sb b hj hb, run_sb a hi hab, e2]
theorem B_eq {t : TypeId} {ox oy : Operand} {c : UInt8} {n : Int} (d : UInt8) (hn : n = (d.toNat : Int)) : RunV P W [] (sEq .eql t ox oy (Sl.B c) (.int .u8 n)) (.bool (decide (c = d))) := by
  have e : decide (c = d) = decide ((c.toNat : Int) = n) := by
    rw [decide_eq_decide, hn]
    constructor
    · rintro rfl; rfl
    · intro h
      exact UInt8.toNat_inj.1 (by omega)
  rw [e]
  exact v_eql
theorem B_ne {t : TypeId} {ox oy : Operand} {c : UInt8} {n : Int} (d : UInt8) (hn : n = (d.toNat : Int)) : RunV P W [] (sEq .neq t ox oy (Sl.B c) (.int .u8 n)) (.bool (decide (c ≠ d))) := by
  have e : decide (c ≠ d) = decide ((c.toNat : Int) ≠ n) := by
    rw [decide_eq_decide, hn]
    constructor
    · intro h1 h2
      exact h1 (UInt8.toNat_inj.1 (by omega))
    · rintro h rfl
      exact h rfl
  rw [e]
  exact v_neq
end
theorem els_len (q e : Bool) : ∀ (n : Nat) (l : List UInt8), l.length ≤ n → ∀ (inn : Bool) (cur p : List UInt8), p ∈ els q e inn cur l → p.length ≤ cur.length + l.length
  | _, [], _, inn, cur, p, h => by
    have : p = cur := by simpa [els] using h
    subst this; simp
  | n + 1, c :: r, hn, inn, cur, p, h => by
    have hr : r.length ≤ n := by simpa using hn
    rw [els_cons] at h
    split at h
    · cases r with
      | nil =>
        have : p = cur ++ [c] := by simpa using h
        subst this; simp
      | cons d r' =>
        have := els_len q e n r' (by simp at hr; omega) _ _ _ h
        simp at this ⊢; omega
    · split at h
      · have := els_len q e n r hr _ _ _ h
        simp at this ⊢; omega
      · split at h
        · rcases List.mem_cons.1 h with h | h
          · subst h; simp
          · have := els_len q e n r hr _ _ _ h
            simp at this ⊢; omega
        · have := els_len q e n r hr _ _ _ h
          simp at this ⊢; omega
theorem elems_len {q e : Bool} {l w : List UInt8} (h : w ∈ elemsF q e l) : w.length ≤ l.length := by
  obtain ⟨_, v, hv, rfl⟩ := tidy_mem h
  have := els_len q e _ _ (Nat.le_refl _) _ _ _ hv
  have h2 := trim_len v
  simp [sub] at this
  omega
theorem els_num (q e : Bool) : ∀ (n : Nat) (l : List UInt8), l.length ≤ n → ∀ (inn : Bool) (cur : List UInt8), (els q e inn cur l).length ≤ l.length + 1
  | _, [], _, inn, cur => by simp [els]
  | n + 1, c :: r, hn, inn, cur => by
    have hr : r.length ≤ n := by simpa using hn
    rw [els_cons]
    split
    · cases r with
      | nil => simp
      | cons d r' =>
        have := els_num q e n r' (by simp at hr; omega) inn (cur ++ [c, d])
        simp; omega
    · split
      · have := els_num q e n r hr (!inn) (cur ++ [c])
        simp; omega
      · split
        · have := els_num q e n r hr false []
          simp; omega
        · have := els_num q e n r hr inn (cur ++ [c])
          simp; omega
theorem elems_num {q e : Bool} {l : List UInt8} : (elemsF q e l).length ≤ l.length + 1 := by
  have h1 := tidy_len (stE l q e false 0 0)
  have h2 := els_num q e _ (l.drop 0) (Nat.le_refl _) false (sub l 0 0)
  rw [List.length_drop] at h2
  unfold elemsF
  unfold stE at h1 ⊢
  omega
theorem at_drop {α : Type} {xs r : List α} {k : Nat} {x : α} (h : xs.drop k = x :: r) : xs[k]? = some x ∧ xs.drop (k + 1) = r ∧ k < xs.length := by
  have hk : k < xs.length := by
    rcases Nat.lt_or_ge k xs.length with c | c
    · exact c
    · rw [List.drop_of_length_le c] at h; cases h
  rw [List.drop_eq_getElem_cons hk] at h
  injection h with h1 h2
  exact ⟨by rw [List.getElem?_eq_getElem hk, h1], h2, hk⟩
/-- what is handed in, round by round -/
def ewv (q e : Bool) (l : List UInt8) : List (List Value) := (elemsF q e l).map fun w => [txt w]
theorem ewv_at {q e : Bool} {l w : List UInt8} {k : Nat} (h : (elemsF q e l)[k]? = some w) : (ewv q e l)[k]? = some [txt w] := by simp [ewv, h]
theorem ewv_len {q e : Bool} {l : List UInt8} : (ewv q e l).length = (elemsF q e l).length := by simp [ewv]
end Go.Proofs.YtcigoifhcfbcdaaGreatDoor.FD
