/- As many assertions as there are numbers below n; shorter slices. No conditions but those that each names. -/
import Derived.Test.YtehfblkpbadikaaRead
set_option linter.unusedVariables false
namespace Go.Proofs.Ytehfblkpbadikaa.Sl
open Go Go.RowKit Go.Proofs.Ytehfblkpbadikaa.Sh
variable {P : Program} {W : World} {L L' L'' : List HP} {Kp : PK} {k : Value → WP}
theorem big_out {F : Nat → HP} {i : Nat} : ∀ (l : List Nat), i ∈ l → l.Nodup → ∀ {h : Frag}, all (l.map F) W h → star (F i) (all ((l.filter fun j => decide (j ≠ i)).map F)) W h
  | [], hi, _, _, _ => by simp at hi
  | j :: l, hi, hn, h, H => by
    rw [List.nodup_cons] at hn
    by_cases c : j = i
    · subst c
      have e : (List.filter (fun x => decide (x ≠ j)) (j :: l)) = l := by
        rw [List.filter_cons_of_neg (by simp)]
        exact List.filter_eq_self.2 fun x hx => by
          simp only [ne_eq, decide_not, Bool.not_eq_eq_eq_not, Bool.not_true, decide_eq_false_iff_not]
          rintro rfl
          exact hn.1 hx
      rw [e]
      exact H
    · have hi' : i ∈ l := by
        rcases List.mem_cons.1 hi with e | e
        · exact absurd e.symm c
        · exact e
      rw [List.filter_cons_of_pos (by simpa using c), List.map_cons]
      have := star_mono (fun h => big_out (i := i) l hi' hn.2 (h := h)) H
      exact star_swap this
theorem big_in {F : Nat → HP} {i : Nat} : ∀ (l : List Nat), i ∈ l → l.Nodup → ∀ {h : Frag}, star (F i) (all ((l.filter fun j => decide (j ≠ i)).map F)) W h → all (l.map F) W h
  | [], hi, _, _, _ => by simp at hi
  | j :: l, hi, hn, h, H => by
    rw [List.nodup_cons] at hn
    by_cases c : j = i
    · subst c
      have e : (List.filter (fun x => decide (x ≠ j)) (j :: l)) = l := by
        rw [List.filter_cons_of_neg (by simp)]
        exact List.filter_eq_self.2 fun x hx => by
          simp only [ne_eq, decide_not, Bool.not_eq_eq_eq_not, Bool.not_true, decide_eq_false_iff_not]
          rintro rfl
          exact hn.1 hx
      rw [e] at H
      exact H
    · have hi' : i ∈ l := by
        rcases List.mem_cons.1 hi with e | e
        · exact absurd e.symm c
        · exact e
      rw [List.filter_cons_of_pos (by simpa using c), List.map_cons] at H
      exact star_mono (fun h => big_in (i := i) l hi' hn.2 (h := h)) (star_swap H)
def BS (n : Nat) (F : Nat → HP) : HP := all ((List.range n).map F)
/-- all but one -/
def BH (n : Nat) (F : Nat → HP) (i : Nat) : HP := all (((List.range n).filter fun j => decide (j ≠ i)).map F)
theorem BH.congr {n i : Nat} {F F' : Nat → HP} (h : ∀ j, j < n → j ≠ i → F j = F' j) : BH n F i = BH n F' i := by
  unfold BH
  congr 1
  exact List.map_congr_left fun j hj => by
    rw [List.mem_filter] at hj
    exact h j (List.mem_range.1 hj.1) (by simpa using hj.2)
theorem e_big {n : Nat} {F : Nat → HP} {S : WP} (p : Pick L (BS n F) L') (i : Nat) (hi : i < n) (h : Ent W (F i :: BH n F i :: L') S) : Ent W L S := fun w hw => by
  refine h w (sat.map (L := BS n F :: L') (fun f H => ?_) (hw.pick p))
  have H2 : star (all [F i, BH n F i]) (all L') W f := by
    obtain ⟨h1, h2, ha, r⟩ := H
    refine ⟨h1, h2, ?_, r⟩
    obtain ⟨k1, k2, b1, b2, d, t1, t2⟩ := big_out (List.range n) (List.mem_range.2 hi) List.nodup_range ha
    exact ⟨k1, k2, b1, ⟨k2, fun _ => none, b2, trivial, fun _ => .inr rfl, fun _ _ c => c, fun _ _ c => by cases c⟩, d, t1, t2⟩
  exact all_append' H2
theorem imp_big {n : Nat} {F F' : Nat → HP} {M : List HP} (i : Nat) (hi : i < n) (hF : ∀ j, j < n → j ≠ i → F j = F' j) (h : Imp W L (F' i :: BH n F i :: M)) : Imp W L (BS n F' :: M) := by
  refine .conv (B := all [F' i, BH n F i]) (fun f H => ?_) (.all h)
  refine big_in (List.range n) (List.mem_range.2 hi) List.nodup_range ?_
  have e := BH.congr hF
  obtain ⟨k1, k2, b1, ⟨k3, k4, b2, _, _, t3, _⟩, d, t1, t2⟩ := H
  rw [e] at b2
  refine ⟨k1, k3, b1, b2, fun j => ?_, t1, fun j o c => t2 j o (t3 j o c)⟩
  rcases d j with c | c
  · exact .inl c
  · right
    cases c' : k3 j with
    | none => rfl
    | some o => rw [t3 j o c'] at c; cases c
theorem imp_bs0 {F : Nat → HP} {M : List HP} (h : Imp W L M) : Imp W L (BS 0 F :: M) := .all (M := M) (N := []) h
theorem imp_bsS {n : Nat} {F F' : Nat → HP} {M : List HP} (hF : ∀ j, j < n → F j = F' j) (h : Imp W L (BS n F :: F' n :: M)) : Imp W L (BS (n + 1) F' :: M) := by
  refine .conv (B := all [BS n F, F' n]) (fun f H => ?_) (.all h)
  unfold BS
  rw [List.range_succ, List.map_append]
  refine all_append' ?_
  obtain ⟨k1, k2, b1, b2, d, t1, t2⟩ := H
  refine ⟨k1, k2, ?_, b2, d, t1, t2⟩
  have e : (List.range n).map F' = (List.range n).map F := List.map_congr_left fun j hj => (hF j (List.mem_range.1 hj)).symm
  rw [e]; exact b1
/-- a slice's first elements -/
theorem e_slcut {s : Nat} {e : TypeId} {a : Option Addr} {cap n m : Nat} {cs : List Value} {S : WP} (p : Pick L (Sl s e a cap n cs) L') (hm : m ≤ n) (h : Ent W (Sl s e a cap m (cs.take (m * s)) :: L') S) : Ent W L S := by
  refine e_conv p (fun f H => ?_) h
  obtain ⟨h1, h2, h3, h4⟩ := H
  have hms : m * s ≤ n * s := Nat.mul_le_mul_right _ hm
  refine ⟨by rw [List.length_take]; omega, by omega, h3, ?_⟩
  rcases h4 with ⟨rfl, rfl⟩ | ⟨g, rest, rfl, hr, hg⟩
  · exact .inl ⟨rfl, rfl⟩
  · refine .inr ⟨g, cs.drop (m * s) ++ rest, rfl, ?_, ?_⟩
    · rw [List.length_append, List.length_drop, hr, h1, ← Nat.sub_mul, ← Nat.add_mul]; congr 1; omega
    · rw [← List.append_assoc, List.take_append_drop]; exact hg
theorem v_slh0 {t e : TypeId} {s b n cap : Nat} {g : Nat} {r : IntKind} {j : Int} (h : Nat) [ht : SlT P t e s b] (hj : j = (h : Int)) (h2 : h ≤ cap) :
    RunV P W [] (sSl t (.slice (some ⟨g, 0, none⟩) n cap) none (some (.int r j)) none) (.slice (some ⟨g, 0, none⟩) h cap) := by
  have := v_slh (P := P) (W := W) (t := t) (n := n) (a := some ⟨g, 0, none⟩) (r := r) h hj h2
  have e : (if cap = 0 then some (⟨g, 0, none⟩ : Addr) else (some (⟨g, 0, none⟩ : Addr)).map (·.add (0 * s))) = some ⟨g, 0, none⟩ := by
    split
    · rfl
    · simp [addr_add]
  rwa [e] at this
theorem v_ldRd2 {t : TypeId} {g o n i j : Nat} {cs : List Value} {v : Value} {A : HP} [ht : OneT P t] (H : RdB W A (some ⟨g, o, none⟩) n cs) (hv : cs[i + j]? = some v) : RunV P W [A] (sLoad t (.pointer (some ⟨g, o + i + j, none⟩))) v := by
  rw [Nat.add_assoc]; exact v_ldRd H hv
end Go.Proofs.Ytehfblkpbadikaa.Sl
