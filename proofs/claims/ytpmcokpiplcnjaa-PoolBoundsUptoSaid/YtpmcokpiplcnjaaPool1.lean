/- A pool of connections: what it holds; what it is asked. No conditions but those that each names. -/
import Derived.Test.YtpmcokpiplcnjaaShapes
import Derived.Test.YtpmcokpiplcnjaaTypes
import Derived.Test.YtpmcokpiplcnjaaMapF
import Derived.Test.YtpmcokpiplcnjaaBig
import Derived.Test.YtpmcokpiplcnjaaInts
set_option linter.unusedVariables false
set_option linter.unusedSimpArgs false
namespace Go.Proofs.Ytpmcokpiplcnjaa.PL
open Go Go.Proofs Go.RowKit Go.Proofs.Ytpmcokpiplcnjaa.Sh Go.Proofs.Ytpmcokpiplcnjaa.Sl Go.Proofs.Ytpmcokpiplcnjaa.T
structure Pr where
  id : Int
  max : Int
  idle : List Int
  busy : Int
  til : Int
structure Pl where
  n : Nat
  pr : Nat → Pr
  bm : Int → Option Nat
  im : Int → Option Nat
  at_ : Nat
  num : Int
  tmo : Int
def pv (g : Nat) : Value := .pointer (some ⟨g, 0, none⟩)
instance {g : Nat} : OC (pv g) := ⟨rfl⟩
theorem key3 : KeyLaw Try.prog 3 encI := keyI (by kernel_rfl)
def IsPr (g : Nat) (x : Pr) : HP := ex fun q : Option Addr × Nat => all [pt g (.cells #[.int .i64 x.id, .int .i64 x.max, .slice q.1 x.idle.length q.2, .int .i64 x.busy, .int .i64 x.til] 100), Sl 1 3 q.1 q.2 x.idle.length (x.idle.map I)]
def mv (gs : Nat → Nat) (f : Int → Option Nat) : Int → Option Value := fun k => (f k).map fun i => pv (gs i)
def ptrs (gs : Nat → Nat) (n : Nat) : List Value := (List.range n).map fun i => pv (gs i)
def IsPl (p : Nat) (gs : Nat → Nat) (Z : Pl) : HP := ex fun q : (Option Addr × Nat) × Nat × Nat => all [pt p (.cells #[.slice q.1.1 Z.n q.1.2, .map (some q.2.1), .map (some q.2.2), .int .i64 (Z.at_ : Int), .int .i64 Z.num, .int .i64 Z.tmo] 95), Sl 1 97 q.1.1 q.1.2 Z.n (ptrs gs Z.n), MapFn q.2.1 encI (mv gs Z.bm), MapFn q.2.2 encI (mv gs Z.im), BS Z.n (fun i => IsPr (gs i) (Z.pr i))]
theorem ptrs_get {gs : Nat → Nat} {n i : Nat} (h : i < n) : (ptrs gs n)[i]? = some (pv (gs i)) := by simp [ptrs, h]
/-- a peer's numbers, where they lie -/
def fldP (x : Pr) : Nat → Option Value
  | 0 => some (.int .i64 x.id)
  | 1 => some (.int .i64 x.max)
  | 3 => some (.int .i64 x.busy)
  | 4 => some (.int .i64 x.til)
  | _ => none
theorem v_pr {P : Program} {W : World} {t : TypeId} {gs : Nat → Nat} {n off : Nat} {pr : Nat → Pr} {v : Value} [ht : OneT P t] (i : Nat) (hi : i < n) (hf : fldP (pr i) off = some v) : RunV P W [BS n (fun i => IsPr (gs i) (pr i))] (sLoad t (.pointer (some ⟨gs i, off, none⟩))) v := by
  refine (e_big .here i hi (e_ex .here fun q => e_all .here ?_) : Ent W [BS n (fun i => IsPr (gs i) (pr i))] (fun w => (sLoad t (.pointer (some ⟨gs i, off, none⟩))).run P w = .ok (.value v) w))
  intro w hw
  have hw2 := hw.only
  match off, hf with
  | 0, hf => cases hf; exact v_ld (by rfl) w hw2
  | 1, hf => cases hf; exact v_ld (by rfl) w hw2
  | 3, hf => cases hf; exact v_ld (by rfl) w hw2
  | 4, hf => cases hf; exact v_ld (by rfl) w hw2
/-- bounds that keep numbers small -/
structure Wf (Z : Pl) : Prop where
  n1 : 1 ≤ Z.n
  n2 : Z.n ≤ 16
  at_ : Z.at_ < Z.n
  num : 0 ≤ Z.num ∧ Z.num ≤ 1099511627776
  tmo : 1 ≤ Z.tmo ∧ Z.tmo ≤ 3600
  pr : ∀ i, i < Z.n → -1099511627776 ≤ (Z.pr i).busy ∧ (Z.pr i).busy ≤ 1099511627776 ∧ (Z.pr i).idle.length ≤ 1099511627776 ∧ 1 ≤ (Z.pr i).max ∧ (Z.pr i).max ≤ 64
  bm : ∀ q i, Z.bm q = some i → i < Z.n
  im : ∀ q i, Z.im q = some i → i < Z.n
theorem num_ {W : World} {n : Int} : Cn Try.prog 16 [.int .i64 n] W [] (fun _ : Unit => .int .i64 n) (fun _ => []) := by
  (refine S.law22_num_cn fun F => ?_; unfold S.law22_num; simp only [List.cons_append, List.nil_append])
  (first | refine e_ret (()) rfl ?_ | refine e_retT (()) ?_)
  exact .refl
theorem none_ {W : World} {p : Nat} {gs : Nat → Nat} {Z : Pl} : Cn Try.prog 47 [pv p] W [IsPl p gs Z] (fun _ : Unit => .bool false) (fun _ => [IsPl p gs Z]) := by
  unfold pv
  (refine S.pool_Pool_none_cn fun F => ?_; unfold S.pool_Pool_none; simp only [List.cons_append, List.nil_append])
  refine e_ex Pick.here fun q => e_all Pick.here ?_
  obtain ⟨⟨a, c⟩, mb, mi⟩ := q
  (try simp only [List.cons_append, List.nil_append, -eq_self])
  (((with_reducible refine e_opN v_eqNil1 Imp.nil ?_))); ((with_reducible refine e_gdT ?_)); ((with_reducible refine e_gdT ?_)); (((with_reducible refine e_opN v_nil Imp.nil ?_))); ((with_reducible refine e_gdT ?_)); (((with_reducible refine e_opN v_fa0 Imp.nil ?_))); ((with_reducible refine e_gdT ?_)); (((with_reducible refine' e_opN (v_ldN ?hc) ?hi ?_); (case hi => (repeat (first | exact Imp.refl | exact Imp.nil | (apply Imp.pick; (focus ((repeat constructor); done))) | refine Imp.drop ?_))); (case hc => (repeat (first | exact Nth.here | apply Nth.there))))); ((with_reducible refine e_gdT ?_))
  refine e_opN v_eqMap Imp.nil ?_
  (((with_reducible refine e_opN v_pickF Imp.nil ?_)))
  (first | refine e_ret (()) rfl ?_ | refine e_retT (()) ?_)
  exact .ex ((a, c), mb, mi) (.all (by (repeat (first | exact Imp.refl | exact Imp.nil | (apply Imp.pick; (focus ((repeat constructor); done))) | refine Imp.drop ?_))))
def far : Int := 1099511627776
def clk (n : Int) : Int := if -far < (if far < n then far else n) then (if far < n then far else n) else -far
theorem clock {W : World} {n : Int} : Cn Try.prog 49 [.int .i64 n] W [] (fun _ : Unit => .int .i64 (clk n)) (fun _ => []) := by
  (refine S.pool_clock_cn fun F => ?_; unfold S.pool_clock; simp only [List.cons_append, List.nil_append])
  refine e_opN v_min Imp.nil ?_
  refine e_opN v_max Imp.nil ?_
  (first | refine e_ret (()) rfl ?_ | refine e_retT (()) ?_)
  exact .refl
/-- which peer has an ID: the first one -/
def fdI (Z : Pl) (id : Int) : Nat → Option Nat
  | 0 => none
  | k + 1 => match fdI Z id k with
    | some j => some j
    | none => if (Z.pr k).id = id then some k else none
def fd (Z : Pl) (id : Int) : Option Nat := fdI Z id Z.n
theorem fdI_up {Z : Pl} {id : Int} {k j : Nat} (h : fdI Z id k = some j) : ∀ m, fdI Z id (k + m) = some j
  | 0 => h
  | m + 1 => by rw [← Nat.add_assoc, fdI, fdI_up h m]
theorem fdI_some {Z : Pl} {id : Int} : ∀ {k j : Nat}, fdI Z id k = some j → j < k ∧ (Z.pr j).id = id
  | 0, j, h => by cases h
  | k + 1, j, h => by
    rw [fdI] at h
    cases hk : fdI Z id k with
    | some i =>
      rw [hk] at h
      have := fdI_some hk
      cases h
      exact ⟨by omega, this.2⟩
    | none =>
      rw [hk] at h
      simp only at h
      split at h
      · cases h; exact ⟨by omega, by assumption⟩
      · cases h
def pvo (gs : Nat → Nat) : Option Nat → Value
  | some i => pv (gs i)
  | none => .pointer none
theorem peer {W : World} {p : Nat} {gs : Nat → Nat} {Z : Pl} {id : Int} (hn : Z.n ≤ 1024) : Cn Try.prog 45 [pv p, .int .i64 id] W [IsPl p gs Z] (fun _ : Unit => pvo gs (fd Z id)) (fun _ => [IsPl p gs Z]) := by
  have upv : ∀ g, pv g = .pointer (some ⟨g, 0, none⟩) := fun _ => rfl
  rw [upv p]
  (refine S.pool_Pool_peer_cn fun F => ?_; unfold S.pool_Pool_peer; simp only [List.cons_append, List.nil_append])
  refine e_ex Pick.here fun q => e_all Pick.here ?_
  obtain ⟨⟨a, c⟩, mb, mi⟩ := q
  (try simp only [List.cons_append, List.nil_append, -eq_self])
  (((with_reducible refine e_opN v_nil Imp.nil ?_))); (((with_reducible refine e_opN v_fa0 Imp.nil ?_))); (((with_reducible refine' e_opN (v_ldN ?hc) ?hi ?_); (case hi => (repeat (first | exact Imp.refl | exact Imp.nil | (apply Imp.pick; (focus ((repeat constructor); done))) | refine Imp.drop ?_))); (case hc => (repeat (first | exact Nth.here | apply Nth.there))))); (((with_reducible refine e_opN v_len Imp.nil ?_)))
  obtain ⟨n, hnE⟩ : ∃ n, n = Z.n := ⟨_, rfl⟩
  refine e_loop1 (fun m y => [ex fun i : Nat => pu (m + i = Z.n ∧ y = .int .i64 (i : Int) ∧ fdI Z id i = none), pt p (.cells #[.slice a Z.n c, .map (some mb), .map (some mi), .int .i64 (Z.at_ : Int), .int .i64 Z.num, .int .i64 Z.tmo] 95), Sl 1 97 a c Z.n (ptrs gs Z.n), MapFn mb encI (mv gs Z.bm), MapFn mi encI (mv gs Z.im), BS Z.n (fun i => IsPr (gs i) (Z.pr i))] ++ F) Z.n ?_ ?_
  · refine .ex 0 (.pu ⟨by omega, rfl, rfl⟩ ?_)
    (repeat (first | exact Imp.refl | exact Imp.nil | (apply Imp.pick; (focus ((repeat constructor); done))) | refine Imp.drop ?_))
  intro m ds y
  (try simp only [List.cons_append, List.nil_append, -eq_self])
  refine e_ex Pick.here fun i => e_pu Pick.here fun hi => ?_
  obtain ⟨hmi, rfl, hf⟩ := hi
  (refine e_ask v_lss Imp.nil (fun h => ?_) (fun h => ?_))
  · have hil : i < Z.n := by omega
    refine e_condT ?_
    refine e_slsome (.there .here) (by omega) fun g hg => ?_
    subst hg
    refine e_opN (v_ia1 i (by rfl) hil) Imp.nil ?_
    refine e_opN (v_ldSl (v := pv (gs i)) (by rw [Nat.zero_add]; exact ptrs_get hil)) (.pick (by (repeat constructor)) .nil) ?_
    rw [upv (gs i)]
    (((with_reducible refine e_opN v_nil Imp.nil ?_))); (((with_reducible refine e_opN v_fa0 Imp.nil ?_))); (((with_reducible refine e_opN v_fa0 Imp.nil ?_)))
    refine e_opN (v_pr i hil (v := .int .i64 (Z.pr i).id) rfl) (.pick (by (repeat constructor)) .nil) ?_
    (refine e_ask v_eql Imp.nil (fun h => ?_) (fun h => ?_))
    · refine e_condT ?_
      have : fd Z id = some i := by
        have h1 : fdI Z id (i + 1) = some i := by rw [fdI, hf]; simp [h]
        have := fdI_up h1 (Z.n - (i + 1))
        rwa [show i + 1 + (Z.n - (i + 1)) = Z.n by omega] at this
      rw [this]
      refine e_ret () rfl ?_
      exact .ex ((some ⟨g, 0, none⟩, c), mb, mi) (.all (by (repeat (first | exact Imp.refl | exact Imp.nil | (apply Imp.pick; (focus ((repeat constructor); done))) | refine Imp.drop ?_))))
    · ((with_reducible refine e_condF ?_)); (((with_reducible refine e_opN (v_add ?h1 ?h2) Imp.nil ?_); (case h1 => omega); (case h2 => omega)))
      refine e_next1 (m - 1) (by omega) (.ex (i + 1) (.pu ⟨by omega, rfl, by rw [fdI, hf]; simp [h]⟩ ?_))
      (repeat (first | exact Imp.refl | exact Imp.nil | (apply Imp.pick; (focus ((repeat constructor); done))) | refine Imp.drop ?_))
  · have : i = Z.n := by omega
    subst this
    rw [show fd Z id = none from hf]
    refine e_condF ?_
    refine e_ret () rfl ?_
    exact .ex ((a, c), mb, mi) (.all (by (repeat (first | exact Imp.refl | exact Imp.nil | (apply Imp.pick; (focus ((repeat constructor); done))) | refine Imp.drop ?_))))
end Go.Proofs.Ytpmcokpiplcnjaa.PL
