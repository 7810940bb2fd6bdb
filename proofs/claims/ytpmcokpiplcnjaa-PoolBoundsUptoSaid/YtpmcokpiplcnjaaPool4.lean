/- A pool: its peers from the next one on, as an iterator. No conditions but those that each names. -/
import Derived.Test.YtpmcokpiplcnjaaPool3
set_option linter.unusedVariables false
set_option linter.unusedSimpArgs false
namespace Go.Proofs.Ytpmcokpiplcnjaa.PL
open Go Go.Proofs Go.RowKit Go.Proofs.Ytpmcokpiplcnjaa.Sh Go.Proofs.Ytpmcokpiplcnjaa.Sl Go.Proofs.Ytpmcokpiplcnjaa.T
theorem round {W : World} {p : Nat} : Cn Try.prog 48 [pv p] W [] (fun c : Nat => .func (.func 60) #[] [pv c].toArray) (fun c => [pt c (.cells #[pv p] 29)]) := by
  (refine S.pool_Pool_round_cn fun F => ?_; unfold S.pool_Pool_round; simp only [List.cons_append, List.nil_append])
  refine e_box1 fun c => ?_
  refine e_opN v_mkF Imp.nil ?_
  (first | refine e_ret (c) rfl ?_ | refine e_retT (c) ?_)
  exact .refl
/-- the k-th in turn -/
def ord (Z : Pl) (k : Nat) : Nat := (Z.at_ + k) % Z.n
theorem ord_lt {Z : Pl} (hz : Wf Z) (k : Nat) : ord Z k < Z.n := Nat.mod_lt _ hz.n1
def turns (gs : Nat → Nat) (Z : Pl) : List (List Value) := (List.range Z.n).map fun k => [.int .i64 (ord Z k : Int), pv (gs (ord Z k))]
theorem turns_get {gs : Nat → Nat} {Z : Pl} {k : Nat} (h : k < Z.n) : (turns gs Z)[k]? = some [.int .i64 (ord Z k : Int), pv (gs (ord Z k))] := by simp [turns, h]
theorem turns_len {gs : Nat → Nat} {Z : Pl} : (turns gs Z).length = Z.n := by simp [turns]
theorem round1 {W : World} {p c l : Nat} {gs : Nat → Nat} {Z : Pl} {G : Nat → HP} {Gx T T' : HP} (hz : Wf Z)
    (hy : YieldC Try.prog l (turns gs Z) (fun k => all [T, all [pt c (.cells #[pv p] 29), IsPl p gs Z, G k]]) (all [T', Gx]) W) :
    Cn Try.prog 60 [yv l, pv c] W [all [T, all [pt c (.cells #[pv p] 29), IsPl p gs Z, G 0]]] (fun _ : Bool => .tuple #[]) (fun b => [if b then all [T, all [pt c (.cells #[pv p] 29), IsPl p gs Z, G Z.n]] else all [T', Gx]]) := by
  obtain ⟨n1, n2, at1⟩ : 1 ≤ Z.n ∧ Z.n ≤ 16 ∧ Z.at_ < Z.n := ⟨hz.n1, hz.n2, hz.at_⟩
  have upv : ∀ g, pv g = .pointer (some ⟨g, 0, none⟩) := fun _ => rfl
  (refine S.pool_Pool_round_1_cn fun F => ?_; unfold S.pool_Pool_round_1; simp only [List.cons_append, List.nil_append])
  refine e_all .here ?_
  (try simp only [List.cons_append, List.nil_append, -eq_self])
  refine e_all (.there .here) ?_
  (try simp only [List.cons_append, List.nil_append, -eq_self])
  refine e_ex (.there .here) fun q => e_all Pick.here ?_
  obtain ⟨⟨a, cc⟩, mb, mi⟩ := q
  (try simp only [List.cons_append, List.nil_append, -eq_self])
  rw [upv c, upv p]
  (((with_reducible refine' e_opN (v_ldN ?hc) ?hi ?_); (case hi => (repeat (first | exact Imp.refl | exact Imp.nil | (apply Imp.pick; (focus ((repeat constructor); done))) | refine Imp.drop ?_))); (case hc => (repeat (first | exact Nth.here | apply Nth.there))))); (((with_reducible refine e_opN v_nil Imp.nil ?_))); (((with_reducible refine e_opN v_fa0 Imp.nil ?_))); (((with_reducible refine' e_opN (v_ldN ?hc) ?hi ?_); (case hi => (repeat (first | exact Imp.refl | exact Imp.nil | (apply Imp.pick; (focus ((repeat constructor); done))) | refine Imp.drop ?_))); (case hc => (repeat (first | exact Nth.here | apply Nth.there))))); (((with_reducible refine e_opN v_len Imp.nil ?_)))
  refine e_loop1 (fun m y => [ex fun k : Nat => all [pu (m + k = Z.n ∧ y = .int .i64 (k : Int)), all [T, all [pt c (.cells #[pv p] 29), IsPl p gs Z, G k]]]] ++ F) Z.n ?_ ?_
  · refine .ex 0 (.all ?_)
    (try simp only [List.cons_append, List.nil_append, -eq_self])
    refine .pu ⟨by omega, rfl⟩ (.all ?_)
    (try simp only [List.cons_append, List.nil_append, -eq_self])
    refine .pick (by (repeat constructor)) (.all ?_)
    (try simp only [List.cons_append, List.nil_append, -eq_self])
    refine .pick (by (repeat constructor)) (.ex ((a, cc), mb, mi) (.all ?_))
    (try simp only [List.cons_append, List.nil_append, -eq_self])
    (repeat (first | exact Imp.refl | exact Imp.nil | (apply Imp.pick; (focus ((repeat constructor); done))) | refine Imp.drop ?_))
  intro m ds y
  (try simp only [List.cons_append, List.nil_append, -eq_self])
  refine e_ex Pick.here fun k => e_all Pick.here ?_
  (try simp only [List.cons_append, List.nil_append, -eq_self])
  refine e_pu Pick.here fun hi => ?_
  obtain ⟨hmi, rfl⟩ := hi
  (refine e_ask v_lss Imp.nil (fun h => ?_) (fun h => ?_))
  · have hkl : k < Z.n := by omega
    have hol := ord_lt hz k
    refine e_condT ?_
    refine e_drS ?_
    refine e_all .here ?_
    (try simp only [List.cons_append, List.nil_append, -eq_self])
    refine e_all (.there .here) ?_
    (try simp only [List.cons_append, List.nil_append, -eq_self])
    refine e_ex (.there .here) fun q => e_all Pick.here ?_
    obtain ⟨⟨a, cc⟩, mb, mi⟩ := q
    (try simp only [List.cons_append, List.nil_append, -eq_self])
    rw [upv p]
    (((with_reducible refine' e_stS (v_ldN ?hc) ?hi ?_); (case hi => (repeat (first | exact Imp.refl | exact Imp.nil | (apply Imp.pick; (focus ((repeat constructor); done))) | refine Imp.drop ?_))); (case hc => (repeat (first | exact Nth.here | apply Nth.there))))); (((with_reducible refine e_stS v_nil Imp.nil ?_))); (((with_reducible refine e_stS v_fa0 Imp.nil ?_))); (((with_reducible refine' e_stS (v_ldN ?hc) ?hi ?_); (case hi => (repeat (first | exact Imp.refl | exact Imp.nil | (apply Imp.pick; (focus ((repeat constructor); done))) | refine Imp.drop ?_))); (case hc => (repeat (first | exact Nth.here | apply Nth.there))))); (((with_reducible refine e_stS (v_add ?h1 ?h2) Imp.nil ?_); (case h1 => omega); (case h2 => omega))); (((with_reducible refine' e_stS (v_ldN ?hc) ?hi ?_); (case hi => (repeat (first | exact Imp.refl | exact Imp.nil | (apply Imp.pick; (focus ((repeat constructor); done))) | refine Imp.drop ?_))); (case hc => (repeat (first | exact Nth.here | apply Nth.there))))); (((with_reducible refine e_stS v_nil Imp.nil ?_))); (((with_reducible refine e_stS v_fa0 Imp.nil ?_))); (((with_reducible refine' e_stS (v_ldN ?hc) ?hi ?_); (case hi => (repeat (first | exact Imp.refl | exact Imp.nil | (apply Imp.pick; (focus ((repeat constructor); done))) | refine Imp.drop ?_))); (case hc => (repeat (first | exact Nth.here | apply Nth.there))))); (((with_reducible refine e_stS v_len Imp.nil ?_))); (((with_reducible refine e_stS (v_rem ?h1 ?h2) Imp.nil ?_); (case h1 => omega); (case h2 => omega))); (((with_reducible refine' e_opN (v_ldN ?hc) ?hi ?_); (case hi => (repeat (first | exact Imp.refl | exact Imp.nil | (apply Imp.pick; (focus ((repeat constructor); done))) | refine Imp.drop ?_))); (case hc => (repeat (first | exact Nth.here | apply Nth.there))))); (((with_reducible refine e_opN v_nil Imp.nil ?_))); (((with_reducible refine e_opN v_fa0 Imp.nil ?_))); (((with_reducible refine' e_opN (v_ldN ?hc) ?hi ?_); (case hi => (repeat (first | exact Imp.refl | exact Imp.nil | (apply Imp.pick; (focus ((repeat constructor); done))) | refine Imp.drop ?_))); (case hc => (repeat (first | exact Nth.here | apply Nth.there)))))
    have e1 : ((Z.at_ : Int) + (k : Int)) % (Z.n : Int) = (ord Z k : Int) := by unfold ord; norm_cast
    rw [e1]
    refine e_slsome (.there .here) (by omega) fun g hg => ?_
    subst hg
    refine e_opN (v_ia1 (ord Z k) (by rfl) hol) Imp.nil ?_
    refine e_opN (v_ldSl (v := pv (gs (ord Z k))) (by rw [Nat.zero_add]; exact ptrs_get hol)) (.pick (by (repeat constructor)) .nil) ?_
    refine e_imp (M := all [T, all [pt c (.cells #[pv p] 29), IsPl p gs Z, G k]] :: F) ?_ ?_
    · refine .all ?_
      (try simp only [List.cons_append, List.nil_append, -eq_self])
      refine .pick (by (repeat constructor)) (.all ?_)
      (try simp only [List.cons_append, List.nil_append, -eq_self])
      refine .pick (by (repeat constructor)) (.ex ((some ⟨g, 0, none⟩, cc), mb, mi) (.all ?_))
      (try simp only [List.cons_append, List.nil_append, -eq_self])
      (repeat (first | exact Imp.refl | exact Imp.nil | (apply Imp.pick; (focus ((repeat constructor); done))) | refine Imp.drop ?_))
    refine e_yield hy k (turns_get hkl) .here ?_ ?_
    · refine e_opN v_notT Imp.nil ?_
      ((with_reducible refine e_condF ?_)); (((with_reducible refine e_opN (v_add ?h1 ?h2) Imp.nil ?_); (case h1 => omega); (case h2 => omega)))
      refine e_next1 (m - 1) (by omega) (.ex (k + 1) (.all ?_))
      (try simp only [List.cons_append, List.nil_append, -eq_self])
      exact .pu ⟨by omega, rfl⟩ .refl
    · refine e_opN v_notF Imp.nil ?_
      refine e_condT ?_
      (first | refine e_ret (false) rfl ?_ | refine e_retT (false) ?_)
      exact .refl
  · have : k = Z.n := by omega
    subst this
    refine e_condF ?_
    (first | refine e_ret (true) rfl ?_ | refine e_retT (true) ?_)
    exact .refl
end Go.Proofs.Ytpmcokpiplcnjaa.PL
