/- A tag, and a directive's value, written and read back: the law, walked. The library's own error can be read ('Gl'); texts of together at most 1048574 bytes. -/
import Derived.Test.YtcigoifhcfbcdaaGreatDoorFldZ7
set_option linter.unusedVariables false
set_option linter.unusedSimpArgs false
namespace Go.Proofs.YtcigoifhcfbcdaaGreatDoor.FD
open Go Go.Proofs Go.RowKit Go.Proofs.YtcigoifhcfbcdaaGreatDoor.Sh Go.Proofs.YtcigoifhcfbcdaaGreatDoor.Sl Go.Proofs.YtcigoifhcfbcdaaGreatDoor.T
section
variable {P : Program} {W : World} {L : List HP} {Kp : PK} {k : Value → WP}
theorem e_and12or12 {a b c : Bool} {y1 y2 y3 y4 v v' : Value} {s1 s3 : Value → Value → Sem Next} {s2 s4 : Value → Sem Next} (h1 : a = true → RunV P W [] (s1 y1 y2) v) (h2 : a = true → RunV P W [] (s2 v) (.bool b)) (h3 : a = true → b = false → RunV P W [] (s3 y3 y4) v') (h4 : a = true → b = false → RunV P W [] (s4 v') (.bool c))
    (h : Ent W L (k (.bool (a && (b || c))))) :
    Ent W L (gdK (.bool a) true (fun k => k y1) fun x1 => gdK (.bool a) true (fun k => k y2) fun x2 => gdK (.bool a) true (opN P (s1 x1 x2) Kp) fun x3 => gdK (.bool a) true (opN P (s2 x3) Kp) fun x4 => gdK (.bool a) true (fun k => k x4) fun x5 =>
      gdK x5 false (fun k => k y3) fun x6 => gdK x5 false (fun k => k y4) fun x7 => gdK x5 false (opN P (s3 x6 x7) Kp) fun x8 => gdK x5 false (opN P (s4 x8) Kp) fun x9 => gdK (.bool a) true (opN P (sPick x5 (.bool true) x9) Kp) fun x10 => opN P (sPick (.bool a) x10 (.bool false)) Kp k) := by
  cases a with
  | true =>
    refine e_gdT ?_
    refine e_gdT ?_
    refine e_gdT ?_
    refine e_opN (h1 rfl) Imp.nil ?_
    refine e_gdT ?_
    refine e_opN (h2 rfl) Imp.nil ?_
    refine e_gdT ?_
    cases b with
    | true =>
      refine e_gdF1 ?_
      refine e_gdF1 ?_
      refine e_gdF1 ?_
      refine e_gdF1 ?_
      refine e_gdT ?_
      refine e_opN v_pickT Imp.nil ?_
      refine e_opN v_pickT Imp.nil ?_
      simpa using h
    | false =>
      refine e_gdT ?_
      refine e_gdT ?_
      refine e_gdT ?_
      refine e_opN (h3 rfl rfl) Imp.nil ?_
      refine e_gdT ?_
      refine e_opN (h4 rfl rfl) Imp.nil ?_
      refine e_gdT ?_
      refine e_opN v_pickF Imp.nil ?_
      refine e_opN v_pickT Imp.nil ?_
      simpa using h
  | false =>
    ((with_reducible refine e_gdF2 ?_)); ((with_reducible refine e_gdF2 ?_)); ((with_reducible refine e_gdF2 ?_)); ((with_reducible refine e_gdF2 ?_)); ((with_reducible refine e_gdF2 ?_)); ((with_reducible refine e_gdU ?_)); ((with_reducible refine e_gdU ?_)); ((with_reducible refine e_gdU ?_)); ((with_reducible refine e_gdU ?_)); ((with_reducible refine e_gdF2 ?_)); (((with_reducible refine e_opN v_pickF Imp.nil ?_)))
    simpa using h
end
theorem badT_k (c : UInt8) : ((decide ((c.toNat : Int) < 33) || decide (c = 34)) || decide (c = 127)) = badT c := by
  rw [badT_i]
  have e : decide ((c.toNat : Int) < 33) = decide ((c.toNat : Int) ≤ 32) := by rw [decide_eq_decide]; omega
  rw [e]
theorem any_take {l : List UInt8} {p : UInt8 → Bool} {i : Nat} (h : i < l.length) : (l.take (i + 1)).any p = ((l.take i).any p || p l[i]) := by
  rw [List.take_succ_eq_append_getElem h, List.any_append]
  simp
theorem fieldsBack {W : World} [hG : Gl W] {weak : Bool} {s name : List UInt8} (hl : s.length + name.length ≤ 1048574) : Cn Tryz.prog 4 [.bool weak, txt s, txt name] W [] (fun _ : Unit => .bool true) (fun _ => []) := by
  (refine S.law10_FieldsBack_cn fun F => ?_; unfold S.law10_FieldsBack; simp only [List.cons_append, List.nil_append])
  refine e_loop2 (fun m x y => (ex fun i : Nat => pu (m + i = s.length ∧ x = .bool (!(s.take i).any badT) ∧ y = .int .i64 (i : Int))) :: F) s.length ?_ ?_
  · exact .ex 0 (.pu ⟨rfl, rfl, rfl⟩ .refl)
  intro m ds x y
  refine e_ex .here fun i => e_pu .here fun hi => ?_
  obtain ⟨hmi, rfl, rfl⟩ := hi
  refine e_opN v_lent Imp.nil ?_
  refine e_ask v_lss Imp.nil (fun h => ?_) (fun h => ?_)
  · have hil : i < s.length := by omega
    refine e_condT ?_
    refine e_opN (v_ixS i rfl hil) Imp.nil ?_
    refine e_opN (v_lss (q := .u8) (a := (s[i].toNat : Int)) (b := 33)) Imp.nil ?_
    refine e_or12 (fun _ => v_ixS i rfl hil) (fun _ => B_eq (c := s[i]) 34 rfl) ?_
    refine e_or12 (fun _ => v_ixS i rfl hil) (fun _ => B_eq (c := s[i]) 127 rfl) ?_
    rw [badT_k]
    have ha := any_take (p := badT) hil
    cases hb : badT s[i] with
    | true =>
      rw [hb, Bool.or_true] at ha
      refine e_condT ?_
      refine e_opN (v_add (by omega) (by omega)) Imp.nil ?_
      exact e_next2 (m - 1) (by omega) (.ex (i + 1) (.pu ⟨by omega, by rw [ha]; rfl, rfl⟩ .refl))
    | false =>
      rw [hb, Bool.or_false] at ha
      refine e_condF ?_
      refine e_opN (v_add (by omega) (by omega)) Imp.nil ?_
      exact e_next2 (m - 1) (by omega) (.ex (i + 1) (.pu ⟨by omega, by rw [ha], rfl⟩ .refl))
  have hie : i = s.length := by omega
  subst hie
  rw [List.take_length]
  refine e_condF ?_
  refine e_opN v_rv Imp.nil ?_
  refine e_newA fun b9 => ?_
  refine e_stAgg .here (by rfl) (by rfl) (by intro u hu; simp at hu; rcases hu with rfl | rfl <;> rfl) ?_
  refine e_opN (v_ldAgg (cs := #[.bool weak, txt s]) rfl) (.pick .here .nil) ?_
  refine e_call (tagText (x := (weak, s)) (by (try dsimp only); omega)) .nil fun _ => ?_
  (try simp only [List.cons_append, List.nil_append, -eq_self])
  have htl : (tagT (weak, s)).length ≤ s.length + 4 := by
    unfold tagT
    cases weak <;> simp
  refine e_call (parseTag (l := tagT (weak, s)) (by omega)) .nil fun _ => ?_
  (try simp only [List.cons_append, List.nil_append, -eq_self])
  refine e_opN (v_extN (vs := [_, _]) .here) Imp.nil ?_
  refine e_opN (v_extN (vs := [_, _]) (.there .here)) Imp.nil ?_
  rw [tag_back]
  generalize hS : (loop2 _ (Value.bool true) (Value.int .i64 0) : WP) = S
  have hT : Ent W F S := by
    rw [← hS]
    refine e_loop2 (fun m x y => (ex fun i : Nat => pu (m + i = s.length ∧ x = .bool (!(s.take i).any badQ) ∧ y = .int .i64 (i : Int))) :: F) s.length ?_ ?_
    · exact .ex 0 (.pu ⟨rfl, rfl, rfl⟩ .refl)
    intro m ds x y
    refine e_ex .here fun i => e_pu .here fun hi => ?_
    obtain ⟨hmi, rfl, rfl⟩ := hi
    refine e_opN v_lent Imp.nil ?_
    refine e_ask v_lss Imp.nil (fun h => ?_) (fun h => ?_)
    · have hil : i < s.length := by omega
      refine e_condT ?_
      refine e_opN (v_ixS i rfl hil) Imp.nil ?_
      refine e_opN (B_ne 9 rfl) Imp.nil ?_
      refine e_and12or12 (fun _ => v_ixS i rfl hil) (fun _ => v_lss (q := .u8) (a := (s[i].toNat : Int)) (b := 32)) (fun _ _ => v_ixS i rfl hil) (fun _ _ => B_eq (c := s[i]) 127 rfl) ?_
      rw [badQ_j]
      have ha := any_take (p := badQ) hil
      cases hb : badQ s[i] with
      | true =>
        rw [hb, Bool.or_true] at ha
        refine e_condT ?_
        refine e_opN (v_add (by omega) (by omega)) Imp.nil ?_
        exact e_next2 (m - 1) (by omega) (.ex (i + 1) (.pu ⟨by omega, by rw [ha]; rfl, rfl⟩ .refl))
      | false =>
        rw [hb, Bool.or_false] at ha
        refine e_condF ?_
        refine e_opN (v_add (by omega) (by omega)) Imp.nil ?_
        exact e_next2 (m - 1) (by omega) (.ex (i + 1) (.pu ⟨by omega, by rw [ha], rfl⟩ .refl))
    have hie : i = s.length := by omega
    subst hie
    rw [List.take_length]
    refine e_condF ?_
    refine e_call (token (l := name) (by omega)) .nil fun _ => ?_
    (try simp only [List.cons_append, List.nil_append, -eq_self])
    cases ht : tokF name with
    | false =>
      (((with_reducible refine e_opN v_notF Imp.nil ?_))); ((with_reducible refine e_gdF1 ?_)); ((with_reducible refine e_gdF1 ?_)); (((with_reducible refine e_opN v_pickT Imp.nil ?_))); ((with_reducible refine e_condT ?_))
      refine e_call knows .nil fun _ => ?_
      (try simp only [List.cons_append, List.nil_append, -eq_self])
      (first | refine e_ret (()) rfl ?_ | refine e_retT (()) ?_)
      (repeat (first | exact Imp.refl | exact Imp.nil | (apply Imp.pick; (focus ((repeat constructor); done))) | refine Imp.drop ?_))
    | true =>
      cases hb : s.any badQ with
      | true =>
        (((with_reducible refine e_opN v_notT Imp.nil ?_))); ((with_reducible refine e_gdT ?_)); ((with_reducible refine e_gdT ?_)); (((with_reducible refine e_opN v_notF Imp.nil ?_))); (((with_reducible refine e_opN v_pickF Imp.nil ?_))); ((with_reducible refine e_condT ?_))
        refine e_call knows .nil fun _ => ?_
        (try simp only [List.cons_append, List.nil_append, -eq_self])
        (first | refine e_ret (()) rfl ?_ | refine e_retT (()) ?_)
        (repeat (first | exact Imp.refl | exact Imp.nil | (apply Imp.pick; (focus ((repeat constructor); done))) | refine Imp.drop ?_))
      | false =>
        have hq : (quoF s).length ≤ 2 * s.length + 2 := by
          have h1 := escF_len s
          have h2 := cntE_le s
          rw [quo_esc]
          simp only [List.cons_append, List.length_cons, List.length_append, List.length_nil]
          omega
        (((with_reducible refine e_opN v_notT Imp.nil ?_))); ((with_reducible refine e_gdT ?_)); ((with_reducible refine e_gdT ?_)); (((with_reducible refine e_opN v_notT Imp.nil ?_))); (((with_reducible refine e_opN v_pickF Imp.nil ?_))); ((with_reducible refine e_condF ?_))
        refine e_opN (v_cat (b := [61]) (by simp; omega)) Imp.nil ?_
        refine e_call (quote (l := s) (by omega)) .nil fun _ => ?_
        (try simp only [List.cons_append, List.nil_append, -eq_self])
        refine e_opN (v_cat (by simp; omega)) Imp.nil ?_
        refine e_call (directives (l := name ++ [61] ++ quoF s) (by simp; omega)) .nil fun r => ?_
        obtain ⟨a1, c1⟩ := r
        rw [dirs_back ht hb, show lsF (some [(⟨lowF name, s, true⟩ : Dir)]) = ([⟨lowF name, s, true⟩], 0) from rfl]
        (try dsimp only)
        (try simp only [List.cons_append, List.nil_append, -eq_self])
        refine e_opN (v_extN (vs := [_, _]) .here) Imp.nil ?_
        refine e_opN (v_extN (vs := [_, _]) (.there .here)) Imp.nil ?_
        refine e_slsome (a := a1) .here (Nat.zero_lt_one) fun g hg => ?_
        subst hg
        have hat := dir_at (xs := [(⟨lowF name, s, true⟩ : Dir)]) (i := 0) (Nat.zero_lt_one)
        have l0 : RunV Tryz.prog W [Sl 3 44 (some ⟨g, 0, none⟩) c1 ([(⟨lowF name, s, true⟩ : Dir)]).length ([(⟨lowF name, s, true⟩ : Dir)].flatMap pDir)] (sLoad 9 (.pointer (some ⟨g, 0 + 0 * 3 + 0, none⟩))) (txt (lowF name)) := v_ldSl hat.1
        have l1 : RunV Tryz.prog W [Sl 3 44 (some ⟨g, 0, none⟩) c1 ([(⟨lowF name, s, true⟩ : Dir)]).length ([(⟨lowF name, s, true⟩ : Dir)].flatMap pDir)] (sLoad 9 (.pointer (some ⟨g, 0 + 0 * 3 + 1, none⟩))) (txt s) := v_ldSl hat.2.1
        have l2 : RunV Tryz.prog W [Sl 3 44 (some ⟨g, 0, none⟩) c1 ([(⟨lowF name, s, true⟩ : Dir)]).length ([(⟨lowF name, s, true⟩ : Dir)].flatMap pDir)] (sLoad 4 (.pointer (some ⟨g, 0 + 0 * 3 + 2, none⟩))) (.bool true) := v_ldSl hat.2.2
        have hX : ([(⟨lowF name, s, true⟩ : Dir)]).length = 1 := rfl
        generalize ([(⟨lowF name, s, true⟩ : Dir)]) = X at l0 l1 l2 hX ⊢
        refine e_drS ?_
        refine e_call num .nil fun _ => ?_
        (try simp only [List.cons_append, List.nil_append, -eq_self])
        refine e_stS v_eql Imp.nil ?_
        rw [decide_eq_true rfl]
        refine e_gdT ?_
        refine e_gdT ?_
        refine e_stS v_len Imp.nil ?_
        refine e_gdT ?_
        refine e_stS v_eql Imp.nil ?_
        rw [decide_eq_true (by omega)]
        refine e_stS v_pickT Imp.nil ?_
        refine e_gdT ?_
        refine e_gdDT ?_
        refine e_stD (v_ia 0 rfl (by omega)) Imp.nil ?_
        refine e_gdDT ?_
        refine e_stD v_fa Imp.nil ?_
        refine e_gdDT ?_
        refine e_stD l0 (.pick (by (repeat constructor)) .nil) ?_
        refine e_gdT ?_
        refine e_gdT ?_
        refine e_call (lower (l := name) (by omega)) .nil fun _ => ?_
        (try simp only [List.cons_append, List.nil_append, -eq_self])
        refine e_obl (by (repeat (first | exact Imp.refl | exact Imp.nil | (apply Imp.pick; (focus ((repeat constructor); done))) | refine Imp.drop ?_))) ?_
        refine e_obl (by (repeat (first | exact Imp.refl | exact Imp.nil | (apply Imp.pick; (focus ((repeat constructor); done))) | refine Imp.drop ?_))) ?_
        refine e_obl (by (repeat (first | exact Imp.refl | exact Imp.nil | (apply Imp.pick; (focus ((repeat constructor); done))) | refine Imp.drop ?_))) ?_
        refine e_gdT ?_
        refine e_stS v_streq Imp.nil ?_
        rw [decide_eq_true rfl]
        refine e_stS v_pickT Imp.nil ?_
        refine e_gdT ?_
        refine e_gdT ?_
        refine e_stS (v_ia 0 rfl (by omega)) Imp.nil ?_
        refine e_gdT ?_
        refine e_stS v_fa Imp.nil ?_
        refine e_gdT ?_
        refine e_stS l2 (.pick (by (repeat constructor)) .nil) ?_
        refine e_stS v_pickT Imp.nil ?_
        refine e_gdT ?_
        refine e_gdT ?_
        refine e_stS (v_ia 0 rfl (by omega)) Imp.nil ?_
        refine e_gdT ?_
        refine e_stS v_fa Imp.nil ?_
        refine e_gdT ?_
        refine e_stS l1 (.pick (by (repeat constructor)) .nil) ?_
        refine e_gdT ?_
        refine e_gdT ?_
        refine e_stS v_streq Imp.nil ?_
        rw [decide_eq_true rfl]
        (((with_reducible refine e_stS v_pickT Imp.nil ?_))); ((with_reducible refine e_gdT ?_))
        refine e_call knows .nil fun _ => ?_
        (try simp only [List.cons_append, List.nil_append, -eq_self])
        (((with_reducible refine e_stS v_pickT Imp.nil ?_)))
        (first | refine e_ret (()) rfl ?_ | refine e_retT (()) ?_)
        (repeat (first | exact Imp.refl | exact Imp.nil | (apply Imp.pick; (focus ((repeat constructor); done))) | refine Imp.drop ?_))
  cases hb : s.any badT with
  | true =>
    refine e_newA fun b10 => ?_
    refine e_stAgg .here (by rfl) (by rfl) (by intro u hu; simp at hu; rcases hu with rfl | rfl <;> rfl) ?_
    refine e_call num .nil fun _ => ?_
    (try simp only [List.cons_append, List.nil_append, -eq_self])
    rw [if_pos (rfl : true = true), show (!true) = false from rfl]
    (try dsimp only)
    rw [if_neg (by decide)]
    refine e_opN v_eql Imp.nil ?_
    refine e_opN v_bne Imp.nil ?_
    rw [decide_eq_false (by decide)]
    refine e_gdT ?_
    refine e_gdT ?_
    ((with_reducible refine e_gdF2 ?_)); ((with_reducible refine e_gdF2 ?_)); ((with_reducible refine e_gdF2 ?_)); ((with_reducible refine e_gdT ?_)); (((with_reducible refine e_opN v_pickF Imp.nil ?_))); (((with_reducible refine e_opN v_pickF Imp.nil ?_))); ((with_reducible refine e_condF ?_))
    exact e_imp (M := F) (by (repeat (first | exact Imp.refl | exact Imp.nil | (apply Imp.pick; (focus ((repeat constructor); done))) | refine Imp.drop ?_))) hT
  | false =>
    refine e_newA fun b10 => ?_
    refine e_stAgg .here (by rfl) (by rfl) (by intro u hu; simp at hu; rcases hu with rfl | rfl <;> rfl) ?_
    refine e_call num .nil fun _ => ?_
    (try simp only [List.cons_append, List.nil_append, -eq_self])
    rw [if_neg (by decide : ¬ (false = true)), show (!false) = true from rfl]
    (try dsimp only)
    rw [if_pos (rfl : true = true)]
    refine e_opN v_eql Imp.nil ?_
    refine e_opN v_bne Imp.nil ?_
    rw [decide_eq_false (by decide)]
    refine e_gdT ?_
    refine e_gdT ?_
    ((with_reducible refine e_gdT ?_)); (((with_reducible refine' e_opN (v_ldAgg ?hn) ?hi ?_); (case hi => (repeat (first | exact Imp.refl | exact Imp.nil | (apply Imp.pick; (focus ((repeat constructor); done))) | refine Imp.drop ?_))); (case hn => rfl))); ((with_reducible refine e_gdT ?_)); (((with_reducible refine' e_opN (v_ldAgg ?hn) ?hi ?_); (case hi => (repeat (first | exact Imp.refl | exact Imp.nil | (apply Imp.pick; (focus ((repeat constructor); done))) | refine Imp.drop ?_))); (case hn => rfl))); ((with_reducible refine e_gdT ?_))
    refine e_opN (v_tagNe (weak, s) (weak, s)) Imp.nil ?_
    rw [decide_eq_true ⟨rfl, rfl⟩, show (!true) = false from rfl]
    ((with_reducible refine e_gdT ?_)); (((with_reducible refine e_opN v_pickT Imp.nil ?_))); (((with_reducible refine e_opN v_pickF Imp.nil ?_))); ((with_reducible refine e_condF ?_))
    exact e_imp (M := F) (by (repeat (first | exact Imp.refl | exact Imp.nil | (apply Imp.pick; (focus ((repeat constructor); done))) | refine Imp.drop ?_))) hT
end Go.Proofs.YtcigoifhcfbcdaaGreatDoor.FD
