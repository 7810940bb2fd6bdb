/- The document's elements of a list. A text of at most 2097152 bytes. -/
import Derived.Test.YtcigoifhcfbcdaaGreatDoorFldR1
import Derived.Test.YtcigoifhcfbcdaaGreatDoorFld5
set_option linter.unusedVariables false
set_option linter.unusedSimpArgs false
namespace Go.Proofs.YtcigoifhcfbcdaaGreatDoor.FD
open Go Go.Proofs Go.RowKit Go.Proofs.YtcigoifhcfbcdaaGreatDoor.Sh Go.Proofs.YtcigoifhcfbcdaaGreatDoor.Sl Go.Proofs.YtcigoifhcfbcdaaGreatDoor.T
section
variable {P : Program} {W : World} {L L' : List HP} {Kp : PK} {k : Value → WP}
theorem e_and12 {a b : Bool} {y1 y2 v : Value} {s1 : Value → Value → Sem Next} {s2 : Value → Sem Next} (h1 : a = true → RunV P W [] (s1 y1 y2) v) (h2 : a = true → RunV P W [] (s2 v) (.bool b)) (h : Ent W L (k (.bool (a && b)))) :
    Ent W L (gdK (.bool a) true (fun k => k y1) fun x1 => gdK (.bool a) true (fun k => k y2) fun x2 => gdK (.bool a) true (opN P (s1 x1 x2) Kp) fun x3 => gdK (.bool a) true (opN P (s2 x3) Kp) fun x4 => opN P (sPick (.bool a) x4 (.bool false)) Kp k) := by
  cases a with
  | true =>
    refine e_gdT ?_
    refine e_gdT ?_
    refine e_gdT ?_
    refine e_opN (h1 rfl) Imp.nil ?_
    refine e_gdT ?_
    refine e_opN (h2 rfl) Imp.nil ?_
    refine e_opN v_pickT Imp.nil ?_
    simpa using h
  | false =>
    refine e_gdF2 ?_
    refine e_gdF2 ?_
    refine e_gdF2 ?_
    refine e_gdF2 ?_
    refine e_opN v_pickF Imp.nil ?_
    simpa using h
theorem e_and12or {a b c : Bool} {y1 y2 v : Value} {s1 : Value → Value → Sem Next} {s2 : Value → Sem Next} (h1 : a = true → RunV P W [] (s1 y1 y2) v) (h2 : a = true → RunV P W [] (s2 v) (.bool b)) (h : Ent W L (k (.bool (a && (b || c))))) :
    Ent W L (gdK (.bool a) true (fun k => k y1) fun x1 => gdK (.bool a) true (fun k => k y2) fun x2 => gdK (.bool a) true (opN P (s1 x1 x2) Kp) fun x3 => gdK (.bool a) true (opN P (s2 x3) Kp) fun x4 => gdK (.bool a) true (fun k => k x4) fun x5 => gdK x5 false (fun k => k (.bool c)) fun x6 =>
      gdK (.bool a) true (opN P (sPick x5 (.bool true) x6) Kp) fun x7 => opN P (sPick (.bool a) x7 (.bool false)) Kp k) := by
  cases a with
  | true =>
    refine e_gdT ?_
    refine e_gdT ?_
    refine e_gdT ?_
    refine e_opN (h1 rfl) Imp.nil ?_
    refine e_gdT ?_
    refine e_opN (h2 rfl) Imp.nil ?_
    refine e_gdT ?_
    cases b with
    | true =>
      refine e_gdF1 ?_
      refine e_gdT ?_
      refine e_opN v_pickT Imp.nil ?_
      refine e_opN v_pickT Imp.nil ?_
      simpa using h
    | false =>
      refine e_gdT ?_
      refine e_gdT ?_
      refine e_opN v_pickF Imp.nil ?_
      refine e_opN v_pickT Imp.nil ?_
      simpa using h
  | false =>
    refine e_gdF2 ?_
    refine e_gdF2 ?_
    refine e_gdF2 ?_
    refine e_gdF2 ?_
    refine e_gdF2 ?_
    refine e_gdU ?_
    refine e_gdF2 ?_
    refine e_opN v_pickF Imp.nil ?_
    simpa using h
end
theorem map_txt (l : List (List UInt8)) : l.map txt = l.flatMap pstring := by
  induction l with
  | nil => rfl
  | cons x r ih => rw [List.map_cons, List.flatMap_cons, ih]; rfl
def gt (l : List UInt8) (i : Nat) : UInt8 := l.getD i 0
theorem gt_at {l : List UInt8} {i : Nat} (h : i < l.length) : gt l i = l[i] := by simp [gt, List.getD_eq_getElem?_getD, h]
theorem v_gt {P : Program} {W : World} {t : TypeId} {l : List UInt8} {q : IntKind} {i : Nat} [ht : StrT P t] (h : i < l.length) : RunV P W [] (sIx t (txt l) (.int q (i : Int))) (B (gt l i)) := by
  rw [gt_at h]
  exact v_ixS i rfl h
def phA (l : List UInt8) (q e : Bool) (out : List (List UInt8)) (inn : Bool) (a i : Nat) : Prop := i ≤ l.length ∧ a ≤ i ∧ elemsF q e l = out ++ tidy (stE l q e inn a i)
def phB (l : List UInt8) (q e : Bool) (out : List (List UInt8)) (i : Nat) : Prop := i = l.length + 1 ∧ elemsF q e l = out
theorem relements {W : World} {l : List UInt8} {q e : Bool} (hl : l.length ≤ 2097152) : Cn Tryz.prog 20 [txt l, .bool q, .bool e] W [] (fun r : Option Addr × Nat => .slice r.1 (elemsF q e l).length r.2)
    (fun r => [Sl 1 9 r.1 r.2 (elemsF q e l).length ((elemsF q e l).map txt)]) := by
  have hnum := elems_num (q := q) (e := e) (l := l)
  have hle : ∀ out r, elemsF q e l = out ++ r → out.length ≤ 2097153 := fun out r h => by
    have := congrArg List.length h
    rw [List.length_append] at this; omega
  (refine S.ref10_elements_cn fun F => ?_; unfold S.ref10_elements; simp only [List.cons_append, List.nil_append])
  refine e_loop4 (fun m y7 y8 y9 y10 => [ex fun st : (List (List UInt8) × Option Addr × Nat) × Bool × Nat × Nat => all [pu (m + st.2.2.2 = l.length + 1 ∧ y7 = .slice st.1.2.1 st.1.1.length st.1.2.2 ∧ y8 = .bool st.2.1 ∧ y9 = .int .i64 (st.2.2.1 : Int) ∧ y10 = .int .i64 (st.2.2.2 : Int) ∧ (phA l q e st.1.1 st.2.1 st.2.2.1 st.2.2.2 ∨ phB l q e st.1.1 st.2.2.2)),
      Sl 1 9 st.1.2.1 st.1.2.2 st.1.1.length (st.1.1.map txt)]] ++ F) (l.length + 1) ?_ ?_
  · refine Imp.ex (([], none, 0), false, 0, 0) (.all ?_)
    (try simp only [List.cons_append, List.nil_append, -eq_self])
    refine .pu ⟨rfl, rfl, rfl, rfl, rfl, .inl ⟨Nat.zero_le _, Nat.le_refl _, rfl⟩⟩ ?_
    exact imp_nil .refl
  intro m ds y7 y8 y9 y10
  (try simp only [List.cons_append, List.nil_append, -eq_self])
  refine e_ex Pick.here fun st => e_all Pick.here ?_
  obtain ⟨⟨out, sa, sc⟩, inn, a, i⟩ := st
  (try simp only [List.cons_append, List.nil_append, -eq_self])
  refine e_pu Pick.here fun hi => ?_
  (try dsimp only at hi)
  obtain ⟨hmi, rfl, rfl, rfl, rfl, hph⟩ := hi
  refine e_opN v_lent Imp.nil ?_
  refine e_ask v_leq Imp.nil (fun hil => ?_) (fun hil => ?_)
  rotate_left
  · refine e_condF ?_
    rcases hph with h | h
    · exact absurd h.1 (by omega)
    · rw [h.2]
      refine e_ret (sa, sc) rfl ?_
      exact .refl
  obtain ⟨hil2, hai, hel⟩ : phA l q e out inn a i := by
    rcases hph with h | h
    · exact h
    · exact absurd h.1 (by omega)
  have hol := hle _ _ hel
  refine e_condT ?_
  refine e_cut1 (fun z => (ex fun i2 : Nat => pu (z = .int .i64 (i2 : Int) ∧ i ≤ i2 ∧ i2 ≤ l.length ∧ elemsF q e l = out ++ tidy (stE l q e inn a i2) ∧ ¬ (i2 < l.length ∧ gt l i2 = 92 ∧ inn = true ∧ e = true))) :: Sl 1 9 sa sc out.length (out.map txt) :: F) ?_ ?_
  rotate_left
  · refine e_opN v_lent Imp.nil ?_
    refine e_opN v_lss Imp.nil ?_
    refine e_and0 ?_
    refine e_and0 ?_
    refine e_and12 (v := B (gt l i)) (b := decide (gt l i = 92)) (fun h => v_gt (by simp at h; omega)) (fun _ => B_eq 92 rfl) ?_
    refine e_cond (φ := i < l.length ∧ gt l i = 92 ∧ inn = true ∧ e = true) (by
      have e3 : decide ((i : Int) < (l.length : Int)) = decide (i < l.length) := by rw [decide_eq_decide]; omega
      rw [e3]
      by_cases h1 : i < l.length <;> by_cases h2 : gt l i = 92 <;> cases inn <;> cases e <;> simp [h1, h2]) (fun h => ?_) (fun h => ?_)
    · obtain ⟨h1, h2, h3, h4⟩ := h
      rw [gt_at h1] at h2
      have hes := stE_esc (q := q) h1 hai h2 h3 h4
      rw [hes] at hel
      refine e_opN (v_add (by omega) (by omega)) Imp.nil ?_
      refine e_opN v_lent Imp.nil ?_
      refine e_ask v_lss Imp.nil (fun h5 => ?_) (fun h5 => ?_)
      · refine e_condT ?_
        refine e_opN (v_add (by omega) (by omega)) Imp.nil ?_
        refine e_next4 (m - 2) (by omega) (.ex ((out, sa, sc), inn, a, i + 2) (.all ?_))
        (try simp only [List.cons_append, List.nil_append, -eq_self])
        refine .pu ⟨by (try dsimp only); omega, rfl, rfl, rfl, by (try dsimp only); rw [Int.add_assoc]; rfl, .inl ⟨by (try dsimp only); omega, by (try dsimp only); omega, hel⟩⟩ ?_
        exact .refl
      · refine e_condF ?_
        refine e_sat (.ex (i + 1) (.pu ⟨rfl, by omega, by omega, ?_, by omega⟩ .refl))
        rw [hel, stE_end (by omega), stE_end (by omega)]
    · refine e_sat (.ex i (.pu ⟨rfl, by omega, by omega, hel, h⟩ .refl))
  intro ds2 z
  refine e_ex .here fun j => e_pu .here fun hz => ?_
  obtain ⟨rfl, hij, hjl, hel, hne⟩ := hz
  have haj : a ≤ j := by omega
  refine e_cut1 (fun z => (ex fun i2 : Bool => pu (z = .bool i2 ∧ ((j < l.length ∧ gt l j = 34 ∧ q = true ∧ i2 = !inn) ∨ (¬ (j < l.length ∧ gt l j = 34 ∧ q = true) ∧ i2 = inn)))) :: Sl 1 9 sa sc out.length (out.map txt) :: F) ?_ ?_
  rotate_left
  · refine e_opN v_lent Imp.nil ?_
    refine e_opN v_lss Imp.nil ?_
    refine e_and0 ?_
    refine e_and12 (v := B (gt l j)) (b := decide (gt l j = 34)) (fun h => v_gt (by simp at h; omega)) (fun _ => B_eq 34 rfl) ?_
    refine e_cond (φ := j < l.length ∧ gt l j = 34 ∧ q = true) (by
      have e3 : decide ((j : Int) < (l.length : Int)) = decide (j < l.length) := by rw [decide_eq_decide]; omega
      rw [e3]
      by_cases h1 : j < l.length <;> by_cases h2 : gt l j = 34 <;> cases q <;> simp [h1, h2]) (fun h => ?_) (fun h => ?_)
    · refine e_opN v_not Imp.nil ?_
      refine e_sat (.ex (!inn) (.pu ⟨rfl, .inl ⟨h.1, h.2.1, h.2.2, rfl⟩⟩ .refl))
    · refine e_sat (.ex inn (.pu ⟨rfl, .inr ⟨h, rfl⟩⟩ .refl))
  intro ds3 z
  refine e_ex .here fun in2 => e_pu .here fun hz => ?_
  obtain ⟨rfl, hq⟩ := hz
  refine e_opN v_lent Imp.nil ?_
  refine e_opN v_lss Imp.nil ?_
  refine e_and12or (v := B (gt l j)) (b := decide (gt l j ≠ 44)) (fun h => v_gt (by simp at h; omega)) (fun _ => B_ne 44 rfl) ?_
  refine e_cond (φ := j < l.length ∧ (gt l j ≠ 44 ∨ in2 = true)) (by
    have e3 : decide ((j : Int) < (l.length : Int)) = decide (j < l.length) := by rw [decide_eq_decide]; omega
    rw [e3]
    by_cases h1 : j < l.length <;> by_cases h2 : gt l j = 44 <;> cases in2 <;> simp [h1, h2]) (fun h => ?_) (fun h => ?_)
  · obtain ⟨hj, h⟩ := h
    have hel2 : elemsF q e l = out ++ tidy (stE l q e in2 a (j + 1)) := by
      rcases hq with ⟨_, h2, h3, rfl⟩ | ⟨h1, rfl⟩
      · rw [gt_at hj] at h2
        rw [hel, stE_q hj haj (by rw [h2]; rintro ⟨c, _⟩; exact absurd c (by decide)) h2 h3]
      · rw [gt_at hj] at h h1 hne
        rw [hel, stE_o hj haj (fun c => hne ⟨hj, c⟩) (fun c => h1 ⟨hj, c⟩) (fun c => by rcases h with h | h; exact h c.1; rw [c.2] at h; cases h)]
    refine e_opN (v_add (by omega) (by omega)) Imp.nil ?_
    refine e_next4 (m - (j + 1 - i)) (by omega) (.ex ((out, sa, sc), in2, a, j + 1) (.all ?_))
    (try simp only [List.cons_append, List.nil_append, -eq_self])
    refine .pu ⟨by (try dsimp only); omega, rfl, rfl, rfl, rfl, .inl ⟨by (try dsimp only); omega, by (try dsimp only); omega, hel2⟩⟩ ?_
    exact .refl
  · have h44 : j < l.length → gt l j = 44 ∧ in2 = false := fun hj => by
      refine ⟨Decidable.byContradiction fun c => h ⟨hj, .inl c⟩, ?_⟩
      cases hx : in2 with
      | false => rfl
      | true => exact absurd ⟨hj, .inr hx⟩ h
    have hin : in2 = inn := by
      rcases hq with ⟨h1, h2, _, _⟩ | ⟨_, h2⟩
      · have := (h44 h1).1
        rw [h2] at this
        exact absurd this (by decide)
      · exact h2
    subst hin
    have hel2 : ∃ r, elemsF q e l = out ++ tidy (sub l a j :: r) ∧ (j < l.length → r = stE l q e in2 (j + 1) (j + 1)) ∧ (j = l.length → r = []) := by
      by_cases hj : j < l.length
      · have h4 := h44 hj
        rw [gt_at hj] at h4
        refine ⟨_, by rw [hel, stE_c hj haj h4.1 h4.2], fun _ => by rw [h4.2], fun c => by omega⟩
      · have hje : j = l.length := by omega
        refine ⟨[], by rw [hel, stE_end (by omega), sub_end (by omega)], fun c => absurd c hj, fun _ => rfl⟩
    obtain ⟨r, hel2, hr1, hr2⟩ := hel2
    rw [tidy_cons] at hel2
    refine e_opN v_lent Imp.nil ?_
    refine e_opN v_min Imp.nil ?_
    rw [show (if (l.length : Int) < (j : Int) then (l.length : Int) else (j : Int)) = (j : Int) from if_neg (by omega)]
    refine e_opN (v_sslh a j rfl rfl haj hjl) Imp.nil ?_
    refine e_call (rtrim (l := sub l a j) (by simp [sub]; omega)) .nil fun _ => ?_
    (try simp only [List.cons_append, List.nil_append, -eq_self])
    have e0 : (Value.string ⟨#[]⟩) = txt [] := rfl
    rw [e0]
    refine e_cut1 (fun z => [ex fun w : List (List UInt8) × Option Addr × Nat => all [pu (z = .slice w.2.1 w.1.length w.2.2 ∧ elemsF q e l = w.1 ++ tidy r), Sl 1 9 w.2.1 w.2.2 w.1.length (w.1.map txt)]] ++ F) ?_ ?_
    · intro ds4 z
      (try simp only [List.cons_append, List.nil_append, -eq_self])
      refine e_ex .here fun w => e_all .here ?_
      obtain ⟨out2, sa2, sc2⟩ := w
      (try simp only [List.cons_append, List.nil_append, -eq_self])
      refine e_pu .here fun hz => ?_
      obtain ⟨rfl, hz⟩ := hz
      refine e_opN (v_add (by omega) (by omega)) Imp.nil ?_
      refine e_opN (v_add (by omega) (by omega)) Imp.nil ?_
      refine e_next4 (m - (j + 1 - i)) (by omega) (.ex ((out2, sa2, sc2), in2, j + 1, j + 1) (.all ?_))
      (try simp only [List.cons_append, List.nil_append, -eq_self])
      refine .pu ⟨by (try dsimp only); omega, rfl, rfl, rfl, rfl, ?_⟩ ?_
      · by_cases hj : j < l.length
        · left
          refine ⟨by (try dsimp only); omega, by (try dsimp only); omega, ?_⟩
          rw [← hr1 hj]; exact hz
        · right
          have hje : j = l.length := by omega
          refine ⟨by (try dsimp only); omega, ?_⟩
          rw [hr2 hje, tidy_nil, List.append_nil] at hz
          exact hz
      · exact .refl
    · refine e_opN v_strne Imp.nil ?_
      by_cases ht : trimB (sub l a j) = []
      · rw [decide_eq_false (fun c => c ht)]
        rw [if_pos ht] at hel2
        refine e_condF ?_
        refine e_sat (.ex (out, sa, sc) (.all ?_))
        (try simp only [List.cons_append, List.nil_append, -eq_self])
        exact .pu ⟨rfl, hel2⟩ .refl
      · rw [decide_eq_true ht]
        rw [if_neg ht] at hel2
        refine e_condT ?_
        refine e_bsl1 fun gb => ?_
        refine e_app (m := 1) (news := [txt (trimB (sub l a j))]) (by (repeat constructor)) (src_pt (e' := 9) (by kernel_rfl) .here (by rfl) (by intro u hu; rw [List.mem_singleton.1 hu]; rfl)) (by omega) (by omega) fun a' c' => ?_
        refine e_sat (.ex (out ++ [trimB (sub l a j)], a', c') (.all ?_))
        (try simp only [List.cons_append, List.nil_append, -eq_self])
        refine .pu ⟨by simp, by rw [List.append_assoc]; exact hel2⟩ ?_
        rw [List.length_append, List.map_append]
        simp only [List.length_singleton, List.map_cons, List.map_nil]
        (repeat (first | exact Imp.refl | exact Imp.nil | (apply Imp.pick; (focus ((repeat constructor); done))) | refine Imp.drop ?_))
end Go.Proofs.YtcigoifhcfbcdaaGreatDoor.FD
