/- A pool's numbers stay small; the law's first answers. No conditions but those that each names. -/
import Derived.Test.YtpmcokpiplcnjaaPool7
set_option linter.unusedVariables false
set_option linter.unusedSimpArgs false
namespace Go.Proofs.Ytpmcokpiplcnjaa.PL
open Go Go.Proofs Go.RowKit Go.Proofs.Ytpmcokpiplcnjaa.Sh Go.Proofs.Ytpmcokpiplcnjaa.Sl Go.Proofs.Ytpmcokpiplcnjaa.T
structure WfB (Z : Pl) (N : Nat) : Prop where
  n1 : 1 ≤ Z.n
  n2 : Z.n ≤ 16
  at_ : Z.at_ < Z.n
  num : 0 ≤ Z.num ∧ Z.num ≤ N
  tmo : 1 ≤ Z.tmo ∧ Z.tmo ≤ 3600
  pr : ∀ i, i < Z.n → -(N : Int) ≤ (Z.pr i).busy ∧ (Z.pr i).busy ≤ N ∧ (Z.pr i).idle.length ≤ N ∧ 1 ≤ (Z.pr i).max ∧ (Z.pr i).max ≤ 64
  bm : ∀ q i, Z.bm q = some i → i < Z.n
  im : ∀ q i, Z.im q = some i → i < Z.n
theorem WfB.wf {Z : Pl} {N : Nat} (h : WfB Z N) (hN : N ≤ 1099511627776) : Wf Z :=
  ⟨h.n1, h.n2, h.at_, ⟨h.num.1, by have := h.num.2; omega⟩, h.tmo, fun i hi => by have := h.pr i hi; omega, h.bm, h.im⟩
theorem newI_wf {us : List (Int × Int)} {tmo : Int} (h : okU us tmo) : WfB (newI us tmo us.length) 0 := by
  obtain ⟨h1, h2, h3, h4, h5⟩ := h
  refine ⟨by show 1 ≤ us.length; omega, h2, by show 0 < us.length; omega, ⟨Int.le_refl _, Int.le_refl _⟩, ⟨h3, h4⟩, fun i hi => ?_, fun q i c => (by cases c), fun q i c => (by cases c)⟩
  have hb := h5 i hi
  unfold badU at hb
  refine ⟨by show -((0 : Nat) : Int) ≤ 0; omega, by show (0 : Int) ≤ ((0 : Nat) : Int); omega, Nat.le_refl _, ?_, ?_⟩
  · show 1 ≤ (us.getD i (0, 0)).2
    by_cases c : (us.getD i (0, 0)).2 < 1
    · exact absurd (.inl c) hb
    · omega
  · show (us.getD i (0, 0)).2 ≤ 64
    by_cases c : 64 < (us.getD i (0, 0)).2
    · exact absurd (.inr (.inl c)) hb
    · omega
theorem updO_some {f : Int → Option Nat} {q x : Int} {v : Option Nat} {i : Nat} (h : updO f q v x = some i) : v = some i ∨ f x = some i := by
  unfold updO at h
  split at h
  · exact .inl h
  · exact .inr h
theorem took_wfb {Z : Pl} {N i : Nat} (h : WfB Z N) (hi : i < Z.n) : WfB (took Z i) (N + 1) := by
  have hn := h.n1
  refine ⟨h.n1, h.n2, Nat.mod_lt _ hn, ?_, h.tmo, fun j hj => ?_, fun q j c => ?_, fun q j c => ?_⟩
  · have := h.num
    show 0 ≤ (if 0 < (Z.pr i).idle.length then Z.num else Z.num + 1) ∧ (if 0 < (Z.pr i).idle.length then Z.num else Z.num + 1) ≤ ((N + 1 : Nat) : Int)
    split <;> omega
  · have hj' := h.pr j hj
    show -((N + 1 : Nat) : Int) ≤ (setP Z.pr i _ j).busy ∧ (setP Z.pr i _ j).busy ≤ ((N + 1 : Nat) : Int) ∧ (setP Z.pr i _ j).idle.length ≤ N + 1 ∧ 1 ≤ (setP Z.pr i _ j).max ∧ (setP Z.pr i _ j).max ≤ 64
    unfold setP
    by_cases c : j = i
    · subst c
      simp only [if_true, List.length_take]
      omega
    · simp only [if_neg c]
      omega
  · rcases updO_some c with e | e
    · cases e; exact hi
    · exact h.bm _ _ e
  · have c : (if 0 < (Z.pr i).idle.length then updO Z.im (tkId Z i) none else Z.im) q = some j := c
    split at c
    · rcases updO_some c with e | e
      · cases e
      · exact h.im _ _ e
    · exact h.im _ _ c
theorem pkI_lt {Z : Pl} {now : Int} : ∀ {k j : Nat}, pkI Z now k = some j → j < k ∧ avail Z now (ord Z j)
  | 0, _, h => by cases h
  | k + 1, j, h => by
    rw [pkI] at h
    cases hk : pkI Z now k with
    | some i =>
      rw [hk] at h
      cases h
      have := pkI_lt hk
      exact ⟨by omega, this.2⟩
    | none =>
      rw [hk] at h
      simp only at h
      split at h
      · cases h; exact ⟨by omega, by assumption⟩
      · cases h
theorem WfB.up {Z : Pl} {N M : Nat} (h : WfB Z N) (hm : N ≤ M) : WfB Z M :=
  ⟨h.n1, h.n2, h.at_, ⟨h.num.1, by have := h.num.2; omega⟩, h.tmo, fun i hi => by have := h.pr i hi; omega, h.bm, h.im⟩
theorem take_wfb {Z : Pl} {N : Nat} {now : Int} (h : WfB Z N) : WfB (takeF Z now).2 (N + 1) := by
  unfold takeF
  cases hk : pkI Z now Z.n with
  | none => exact h.up (by omega)
  | some k => exact took_wfb h (Nat.mod_lt _ h.n1)
theorem done_wfb {Z : Pl} {N : Nat} {id : Int} {keep : Bool} (h : WfB Z N) : WfB (done Z id keep) (N + 1) := by
  unfold done
  cases hb : Z.bm id with
  | none => exact h.up (by omega)
  | some i =>
    have hi := h.bm _ _ hb
    refine ⟨h.n1, h.n2, h.at_, ⟨h.num.1, by have := h.num.2; show Z.num ≤ _; omega⟩, h.tmo, fun j hj => ?_, fun q j c => ?_, fun q j c => ?_⟩
    · have hj' := h.pr j hj
      simp only [setP]
      by_cases c : j = i
      · subst c
        simp only [if_true]
        cases keep with
        | true => simp only [if_true, List.length_append, List.length_singleton]; omega
        | false => simp only [Bool.false_eq_true, if_false]; omega
      · simp only [if_neg c]
        omega
    · rcases updO_some c with e | e
      · cases e
      · exact h.bm _ _ e
    · have c : (if keep = true then updO Z.im id (some i) else Z.im) q = some j := c
      split at c
      · rcases updO_some c with e | e
        · cases e; exact hi
        · exact h.im _ _ e
      · exact h.im _ _ c
theorem delL_some {f : Int → Option Nat} {x : Int} {i : Nat} : ∀ {l : List Int}, delL f l x = some i → f x = some i := by
  intro l
  induction l generalizing f with
  | nil => exact fun h => h
  | cons y l ih =>
    intro h
    have h : delL (updO f y none) l x = some i := h
    rcases updO_some (ih h) with e | e
    · cases e
    · exact e
theorem failAt_wfb {Z : Pl} {N i : Nat} {now : Int} (h : WfB Z N) : WfB (failAt Z i now) N := by
  refine ⟨h.n1, h.n2, h.at_, h.num, h.tmo, fun j hj => ?_, h.bm, fun q j c => h.im _ _ (delL_some c)⟩
  have hj' := h.pr j hj
  simp only [failAt, setP]
  by_cases c : j = i
  · subst c
    simp only [if_true, List.length_nil]
    omega
  · simp only [if_neg c]
    omega
theorem fail_wfb {Z : Pl} {N : Nat} {id now : Int} (h : WfB Z N) : WfB (failF Z id now) (N + 1) := by
  unfold failF
  split
  · exact failAt_wfb (done_wfb h)
  · split
    · exact (failAt_wfb h).up (by omega)
    · exact h.up (by omega)
theorem WfB.idle {Z : Pl} {N : Nat} (h : WfB Z N) (hN : N ≤ 1099511627776) : ∀ i, i < Z.n → (Z.pr i).idle.length ≤ 1099511627776 := fun i hi => by have := h.pr i hi; omega
theorem two {W : World} : Cn Try.prog 46 [] W [] (fun g : Nat => .agg #[.string .empty, .slice (some ⟨g, 0, none⟩) 2 2, .int .i64 10, .int .i64 0]) (fun g => [pt g (.cells #[.int .i64 1, .int .i64 1, .int .i64 2, .int .i64 1] 39)]) := by
  (refine S.law22_two_cn fun F => ?_; unfold S.law22_two; simp only [List.cons_append, List.nil_append])
  (((with_reducible refine e_newA fun g => ?_))); (((with_reducible refine e_opN v_rv Imp.nil ?_))); (((with_reducible refine e_opN v_rv Imp.nil ?_)))
  refine e_bslS (n := 2) (vs := [.agg #[.int .i64 1, .int .i64 1], .agg #[.int .i64 2, .int .i64 1]]) rfl (by omega) rfl (by intro v hv; simp at hv; rcases hv with rfl | rfl <;> rfl) (by omega) fun gb => ?_
  (((with_reducible refine e_opN v_rv Imp.nil ?_))); (((with_reducible refine' e_stAgg ?hp ?hn ?hv ?h1 ?_); (case hp => (repeat constructor)); (case hn => rfl); (case hv => rfl); (case h1 => simp [Value.oneCell']))); (((with_reducible refine' e_stS (v_resA ?hn) ?hi ?_); (case hi => (repeat (first | exact Imp.refl | exact Imp.nil | (apply Imp.pick; (focus ((repeat constructor); done))) | refine Imp.drop ?_))); (case hn => rfl)))
  (first | refine e_ret (gb) rfl ?_ | refine e_retT (gb) ?_)
  (repeat (first | exact Imp.refl | exact Imp.nil | (apply Imp.pick; (focus ((repeat constructor); done))) | refine Imp.drop ?_))
def u2 : List (Int × Int) := [(1, 1), (2, 1)]
def k0 : Pl := newI u2 10 u2.length
def k1 : Pl := (takeF k0 0).2
def k2 : Pl := (takeF k1 0).2
def k3 : Pl := (takeF k2 0).2
def k4 : Pl := done k3 0 true
theorem ok2 : okU u2 10 := by
  refine ⟨by decide, by decide, by decide, by decide, fun i hi => ?_⟩
  have : i = 0 ∨ i = 1 := by have : i < 2 := hi; omega
  rcases this with rfl | rfl <;> decide
theorem w0 : WfB k0 0 := newI_wf ok2
theorem w1 : WfB k1 1 := take_wfb w0
theorem w2 : WfB k2 2 := take_wfb w1
theorem w3 : WfB k3 3 := take_wfb w2
theorem w4 : WfB k4 4 := done_wfb w3
theorem Tk.ext' {t : Tk} {p i : Int} {f : Bool} {e : Int} (h : t.peer = p ∧ t.id = i ∧ t.fresh = f ∧ t.e = e) : t = ⟨p, i, f, e⟩ := by
  obtain ⟨rfl, rfl, rfl, rfl⟩ := h; rfl
theorem t0 : (takeF k0 0).1 = ⟨1, 0, true, 0⟩ := Tk.ext' (by decide +kernel)
theorem t1 : (takeF k1 0).1 = ⟨2, 1, true, 0⟩ := Tk.ext' (by decide +kernel)
theorem t2 : (takeF k2 0).1 = ⟨0, 0, false, 63⟩ := Tk.ext' (by decide +kernel)
theorem t3 : doneR k3 0 = 0 := by decide +kernel
theorem t4 : (takeF k4 0).1 = ⟨1, 0, false, 0⟩ := Tk.ext' (by decide +kernel)
end Go.Proofs.Ytpmcokpiplcnjaa.PL
