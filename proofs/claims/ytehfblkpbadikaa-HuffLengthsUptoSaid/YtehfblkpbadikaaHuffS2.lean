/- Two parts of a row, each in order, put in order as one; what is alike stays as it was. Rows of at most 2^30 items. -/
import Derived.Test.YtehfblkpbadikaaHuffS1
set_option linter.unusedVariables false
set_option linter.unusedSimpArgs false
namespace Go.Proofs.Ytehfblkpbadikaa.HF
open Go Go.Proofs Go.RowKit Go.Proofs.Ytehfblkpbadikaa.Sh Go.Proofs.Ytehfblkpbadikaa.Sl Go.Proofs.Ytehfblkpbadikaa.T
theorem half_shr (n : Nat) : ((n : Int).fdiv (2 ^ (min ((1 : Int)).toNat IntKind.u64.bits))) = ((n / 2 : Nat) : Int) := by
  have : ((2 : Int) ^ (min ((1 : Int)).toNat IntKind.u64.bits)) = 2 := by decide
  rw [this]
  rw [Int.fdiv_eq_ediv_of_nonneg _ (by omega)]
  omega
theorem wrap_i {n : Nat} (h : n < 9223372036854775808) : IntKind.i64.wrap (n : Int) = n := w64 (by omega) (by omega)
theorem cmp_lt {a b : Int} : (if a < b then (-1 : Int) else if b < a then 1 else 0) < 0 ↔ a < b := by
  constructor
  · intro h
    split at h
    · assumption
    · split at h <;> omega
  · intro h
    rw [if_pos h]; omega
theorem gU {α : Type} {P U V R : List α} {q : Nat} (h : q < U.length) (h2 : P.length + q < (P ++ U ++ V ++ R).length) : (P ++ U ++ V ++ R)[P.length + q] = U[q] := by
  simp only [List.append_assoc]
  rw [List.getElem_append_right (by omega)]
  simp only [Nat.add_sub_cancel_left]
  rw [List.getElem_append_left h]
theorem gV {α : Type} {P U V R : List α} {q : Nat} (h : q < V.length) (h2 : P.length + U.length + q < (P ++ U ++ V ++ R).length) : (P ++ U ++ V ++ R)[P.length + U.length + q] = V[q] := by
  have e : P ++ U ++ V ++ R = (P ++ U) ++ (V ++ R) := by simp
  simp only [e]
  rw [List.getElem_append_right (by rw [List.length_append]; omega)]
  simp only [List.length_append, Nat.add_sub_cancel_left]
  rw [List.getElem_append_left h]
theorem up_at {U : List It} (h : Upk It.n U) {i j : Nat} (hij : i ≤ j) (hj : j < U.length) : U[i].n ≤ U[j].n := by
  rcases Nat.lt_or_ge i j with c | c
  · exact List.pairwise_iff_getElem.1 h i j (by omega) hj c
  · have : i = j := by omega
    subst this; omega
theorem mrg_one {u : It} {V : List It} {s : Nat} (hs : s ≤ V.length) (h1 : ∀ k (h : k < V.length), k < s → V[k].n < u.n) (h2 : ∀ k (h : k < V.length), s ≤ k → ¬ V[k].n < u.n) : mrg It.n [u] V = V.take s ++ u :: V.drop s := by
  have e1 := mrg_cut It.n _ [] [u] (V.take s) (V.drop s) rfl (by simp) (fun v hv x hx => by
    obtain ⟨k, hk, rfl⟩ := List.getElem_of_mem hv
    rw [List.length_take] at hk
    rw [List.mem_singleton.1 hx, List.getElem_take]
    exact h1 k (by omega) (by omega))
  have e2 := mrg_cut It.n _ [u] [] [] (V.drop s) rfl (fun x hx v hv => by
    obtain ⟨k, hk, rfl⟩ := List.getElem_of_mem hv
    rw [List.length_drop] at hk
    rw [List.mem_singleton.1 hx, List.getElem_drop]
    have := h2 (s + k) (by omega) (by omega)
    omega) (by simp)
  rw [List.nil_append, List.take_append_drop] at e1
  rw [List.append_nil, List.nil_append, mrg_nil] at e2
  rw [e1, e2]
  rfl
theorem mrg_last {v : It} {U : List It} {s : Nat} (hs : s ≤ U.length) (h1 : ∀ k (h : k < U.length), k < s → ¬ v.n < U[k].n) (h2 : ∀ k (h : k < U.length), s ≤ k → v.n < U[k].n) : mrg It.n U [v] = U.take s ++ v :: U.drop s := by
  have := mrg_skip It.n (x := v) (U.take s) (U.drop s) fun x hx => by
    obtain ⟨k, hk, rfl⟩ := List.getElem_of_mem hx
    rw [List.length_take] at hk
    rw [List.getElem_take]
    have := h1 k (by omega) (by omega)
    omega
  rw [List.take_append_drop] at this
  rw [this, mrg_stop It.n _ fun x hx => by
    obtain ⟨k, hk, rfl⟩ := List.getElem_of_mem hx
    rw [List.length_drop] at hk
    rw [List.getElem_drop]
    exact h2 (s + k) (by omega) (by omega)]
theorem symMerge {W : World} {g cap n c : Nat} (hm : n ≤ 1073741824) : ∀ (N : Nat) {P U V R : List It} {i j k : Int}, U.length + V.length ≤ N → (P ++ U ++ V ++ R).length = n → 0 < U.length → 0 < V.length → Upk It.n U → Upk It.n V → i = (P.length : Int) → j = (P.length + U.length : Nat) → k = (P.length + U.length + V.length : Nat) →
    Cn Try.prog 81 [.slice (some ⟨g, 0, none⟩) n c, .int .i64 i, .int .i64 j, .int .i64 k, fn 44] W [ItS g cap n (P ++ U ++ V ++ R)] (fun _ : Unit => .tuple #[]) (fun _ => [ItS g cap n (P ++ mrg It.n U V ++ R)]) := by
  intro N
  induction N with
  | zero => intro P U V R i j k h _ hU hV; omega
  | succ N ih =>
  intro P U V R i j k hN hn hU hV uU uV hi hj hk
  subst hi; subst hj; subst hk
  have hn2 : P.length + U.length + V.length + R.length = n := by rw [← hn]; simp only [List.length_append]
  have ldU : ∀ q (h : q < U.length), RunV Try.prog W [ItS g cap n (P ++ U ++ V ++ R)] (sLoad 86 (.pointer (some ⟨g, 0 + (P.length + q) * 2, none⟩))) (av U[q]) := fun q h => by
    have := ld_it (W := W) (g := g) (cap := cap) hn (j := P.length + q) (by omega)
    rwa [gU h] at this
  have ldV : ∀ q (h : q < V.length), RunV Try.prog W [ItS g cap n (P ++ U ++ V ++ R)] (sLoad 86 (.pointer (some ⟨g, 0 + (P.length + U.length + q) * 2, none⟩))) (av V[q]) := fun q h => by
    have := ld_it (W := W) (g := g) (cap := cap) hn (j := P.length + U.length + q) (by omega)
    rwa [gV h] at this
  (refine S.slices_symMergeCmpFunc_huff_weighed_int_cn fun F => ?_; unfold S.slices_symMergeCmpFunc_huff_weighed_int; simp only [List.cons_append, List.nil_append])
  refine e_opN (v_sub (by omega) (by omega)) Imp.nil ?_
  refine e_opN v_eql Imp.nil ?_
  by_cases hU1 : U.length = 1
  · rw [decide_eq_true (by omega)]
    refine e_condT ?_
    obtain ⟨u, rfl⟩ := List.length_eq_one_iff.1 hU1
    refine e_loop2 (fun m x y => (ex fun q : Nat × Nat => pu (m + q.1 = q.2 ∧ x = .int .i64 (P.length + 1 + q.1 : Nat) ∧ y = .int .i64 (P.length + 1 + q.2 : Nat) ∧ q.2 ≤ V.length ∧ (∀ k (h : k < V.length), k < q.1 → V[k].n < u.n) ∧ (∀ k (h : k < V.length), q.2 ≤ k → ¬ V[k].n < u.n))) :: ItS g cap n (P ++ [u] ++ V ++ R) :: F) V.length ?_ ?_
    · refine .ex (0, V.length) (.pu ⟨rfl, rfl, rfl, Nat.le_refl _, fun k _ h => absurd h (by omega), fun k h h2 => absurd h2 (by (try dsimp only); omega)⟩ ?_)
      exact .refl
    intro m ds x y
    refine e_ex .here fun q => e_pu .here fun hq => ?_
    obtain ⟨s, t⟩ := q
    (try dsimp only at hq)
    obtain ⟨hmq, rfl, rfl, htV, hlo, hhi⟩ := hq
    refine e_ask v_lss Imp.nil (fun h => ?_) (fun h => ?_)
    · refine e_condT ?_
      refine e_opN (v_add (by omega) (by omega)) Imp.nil ?_
      refine e_opN v_conv Imp.nil ?_
      rw [show (((P.length + 1 + s : Nat) : Int) + ((P.length + 1 + t : Nat) : Int)) = ((P.length + 1 + s + (P.length + 1 + t) : Nat) : Int) by push_cast; rfl, wrapu64' (by omega) (by omega)]
      refine e_opN (v_shr (by omega)) Imp.nil ?_
      rw [half_shr]
      refine e_opN v_conv Imp.nil ?_
      rw [wrap_i (by omega)]
      obtain ⟨d, hd⟩ : ∃ d, d = (s + t) / 2 := ⟨_, rfl⟩
      rw [show (P.length + 1 + s + (P.length + 1 + t)) / 2 = P.length + [u].length + d by simp; omega]
      refine e_drS ?_
      refine e_stS (v_ia (P.length + [u].length + d) rfl (by omega)) Imp.nil ?_
      refine e_stS (ldV d (by omega)) (.pick .here .nil) ?_
      refine e_stS (v_ia (P.length + 0) rfl (by omega)) Imp.nil ?_
      refine e_stS (ldU 0 (by simp)) (.pick .here .nil) ?_
      refine e_call cmpIt .nil fun _ => ?_
      (try simp only [List.cons_append, List.nil_append, -eq_self])
      rw [show ([u] : List It)[0] = u from rfl]
      refine e_askS v_lss Imp.nil (fun h2 => ?_) (fun h2 => ?_)
      · have h3 := cmp_lt.1 h2
        refine e_condT ?_
        refine e_opN (v_add (by omega) (by omega)) Imp.nil ?_
        refine e_next2 (t - (d + 1)) (by omega) (.ex (d + 1, t) (.pu ⟨by (try dsimp only); omega, by simp; omega, rfl, htV, fun k hk hk2 => ?_, hhi⟩ ?_))
        · have := up_at uV (i := k) (j := d) (by (try dsimp only at hk2); omega) (by omega)
          omega
        · exact .refl
      · have h3 : ¬ V[d].n < u.n := fun c => h2 (cmp_lt.2 c)
        refine e_condF ?_
        refine e_next2 (d - s) (by omega) (.ex (s, d) (.pu ⟨by (try dsimp only); omega, rfl, by simp, by (try dsimp only); omega, hlo, fun k hk hk2 => ?_⟩ ?_))
        · have := up_at uV (i := d) (j := k) (by (try dsimp only at hk2); omega) hk
          omega
        · exact .refl
    · have hst : s = t := by omega
      subst hst
      refine e_condF ?_
      rw [mrg_one htV hlo hhi]
      refine e_loop1 (fun m y => (ex fun t : Nat => all [pu (m + t = s ∧ y = .int .i64 (P.length + t : Nat)), ItS g cap n ((P ++ V.take t) ++ u :: (V.drop t ++ R))]) :: F) s ?_ ?_
      · refine .ex 0 (.all ?_)
        (try simp only [List.cons_append, List.nil_append, -eq_self])
        refine .pu ⟨by omega, rfl⟩ ?_
        rw [show (P ++ V.take 0) ++ u :: (V.drop 0 ++ R) = P ++ [u] ++ V ++ R by simp]
        exact .refl
      intro m2 ds2 y2
      refine e_ex .here fun t => e_all .here ?_
      (try simp only [List.cons_append, List.nil_append, -eq_self])
      refine e_pu .here fun ht => ?_
      obtain ⟨hmt, rfl⟩ := ht
      refine e_opN (v_sub (by omega) (by omega)) Imp.nil ?_
      refine e_ask v_lss Imp.nil (fun h3 => ?_) (fun h3 => ?_)
      · have hts : t < s := by omega
        have htV2 : t < V.length := by omega
        have hD : (P ++ V.take t) ++ u :: (V.drop t ++ R) = (P ++ V.take t) ++ u :: ([] ++ V[t] :: (V.drop (t + 1) ++ R)) := by
          rw [List.drop_eq_getElem_cons htV2]; rfl
        have hD2 : (P ++ V.take (t + 1)) ++ u :: (V.drop (t + 1) ++ R) = (P ++ V.take t) ++ V[t] :: ([] ++ u :: (V.drop (t + 1) ++ R)) := by
          rw [List.take_succ_eq_append_getElem htV2]; simp only [List.append_assoc, List.cons_append, List.nil_append]
        have hl1 : (P ++ V.take t).length = P.length + t := by rw [List.length_append, List.length_take]; omega
        rw [hD]
        have hlen : ((P ++ V.take t) ++ u :: ([] ++ V[t] :: (V.drop (t + 1) ++ R))).length = n := by
          simp only [List.length_append, List.length_take, List.length_drop, List.length_cons, List.length_nil] at hn2 ⊢; omega
        obtain ⟨s1, s2, s3, s4⟩ := swap2 (p := P ++ V.take t) (m := []) (q := V.drop (t + 1) ++ R) (x := u) (y := V[t]) (i := P.length + t) (j := P.length + t + 1) (by omega) (by rw [hl1]; rfl) (by omega) (by omega)
        obtain ⟨D, hDe⟩ : ∃ D, D = (P ++ V.take t) ++ u :: ([] ++ V[t] :: (V.drop (t + 1) ++ R)) := ⟨_, rfl⟩
        simp only [← hDe] at s1 s2 s3 s4 hlen ⊢
        have ld1 := ld_it (W := W) (g := g) (cap := cap) hlen (j := P.length + t + 1) (by omega)
        have ld0 := ld_it (W := W) (g := g) (cap := cap) hlen (j := P.length + t) (by omega)
        rw [s2] at ld1
        rw [s1] at ld0
        refine e_condT ?_
        refine e_drS ?_
        refine e_stD (v_add (by omega) (by omega)) Imp.nil ?_
        refine e_stS (v_add (by omega) (by omega)) Imp.nil ?_
        refine e_stS (v_ia (P.length + t + 1) (by omega) (by omega)) Imp.nil ?_
        refine e_stS ld1 (.pick .here .nil) ?_
        refine e_stS (v_ia (P.length + t) (by omega) (by omega)) Imp.nil ?_
        refine e_stS ld0 (.pick .here .nil) ?_
        refine e_stS (v_ia (P.length + t) (by omega) (by omega)) Imp.nil ?_
        refine e_stIt .here (by omega) ?_
        refine e_obl (by (repeat (first | exact Imp.refl | exact Imp.nil | (apply Imp.pick; (focus ((repeat constructor); done))) | refine Imp.drop ?_))) ?_
        refine e_stS (v_ia (P.length + t + 1) (by omega) (by omega)) Imp.nil ?_
        refine e_stIt .here (by rw [List.length_set]; omega) ?_
        rw [s3]
        refine e_opN (v_add (by omega) (by omega)) Imp.nil ?_
        refine e_next1 (m2 - 1) (by omega) (.ex (t + 1) (.all ?_))
        (try simp only [List.cons_append, List.nil_append, -eq_self])
        refine .pu ⟨by omega, by norm_cast⟩ ?_
        rw [hD2]
        exact .refl
      · have hts : t = s := by omega
        subst hts
        refine e_condF ?_
        rw [show P ++ (V.take t ++ u :: V.drop t) ++ R = (P ++ V.take t) ++ u :: (V.drop t ++ R) by simp]
        (first | refine e_ret (()) rfl ?_ | refine e_retT (()) ?_)
        exact .refl
  rw [decide_eq_false (by omega)]
  refine e_condF ?_
  refine e_opN (v_sub (by omega) (by omega)) Imp.nil ?_
  refine e_opN v_eql Imp.nil ?_
  by_cases hV1 : V.length = 1
  · rw [decide_eq_true (by omega)]
    refine e_condT ?_
    obtain ⟨v, rfl⟩ := List.length_eq_one_iff.1 hV1
    refine e_loop2 (fun m x y => (ex fun q : Nat × Nat => pu (m + q.1 = q.2 ∧ x = .int .i64 (P.length + q.1 : Nat) ∧ y = .int .i64 (P.length + q.2 : Nat) ∧ q.2 ≤ U.length ∧ (∀ k (h : k < U.length), k < q.1 → ¬ v.n < U[k].n) ∧ (∀ k (h : k < U.length), q.2 ≤ k → v.n < U[k].n))) :: ItS g cap n (P ++ U ++ [v] ++ R) :: F) U.length ?_ ?_
    · refine .ex (0, U.length) (.pu ⟨rfl, rfl, rfl, Nat.le_refl _, fun k _ h => absurd h (by omega), fun k h h2 => absurd h2 (by (try dsimp only); omega)⟩ ?_)
      exact .refl
    intro m ds x y
    refine e_ex .here fun q => e_pu .here fun hq => ?_
    obtain ⟨s, t⟩ := q
    (try dsimp only at hq)
    obtain ⟨hmq, rfl, rfl, htU, hlo, hhi⟩ := hq
    refine e_ask v_lss Imp.nil (fun h => ?_) (fun h => ?_)
    · refine e_condT ?_
      refine e_opN (v_add (by omega) (by omega)) Imp.nil ?_
      refine e_opN v_conv Imp.nil ?_
      rw [show (((P.length + s : Nat) : Int) + ((P.length + t : Nat) : Int)) = ((P.length + s + (P.length + t) : Nat) : Int) by push_cast; rfl, wrapu64' (by omega) (by omega)]
      refine e_opN (v_shr (by omega)) Imp.nil ?_
      rw [half_shr]
      refine e_opN v_conv Imp.nil ?_
      rw [wrap_i (by omega)]
      obtain ⟨d, hd⟩ : ∃ d, d = (s + t) / 2 := ⟨_, rfl⟩
      rw [show (P.length + s + (P.length + t)) / 2 = P.length + d by omega]
      refine e_drS ?_
      refine e_stS (v_ia (P.length + U.length + 0) (by omega) (by omega)) Imp.nil ?_
      refine e_stS (ldV 0 (by simp)) (.pick .here .nil) ?_
      refine e_stS (v_ia (P.length + d) rfl (by omega)) Imp.nil ?_
      refine e_stS (ldU d (by omega)) (.pick .here .nil) ?_
      refine e_call cmpIt .nil fun _ => ?_
      (try simp only [List.cons_append, List.nil_append, -eq_self])
      rw [show ([v] : List It)[0] = v from rfl]
      refine e_stS v_lss Imp.nil ?_
      refine e_stS v_not Imp.nil ?_
      by_cases h3 : v.n < U[d].n
      · rw [decide_eq_true (cmp_lt.2 h3)]
        refine e_condF ?_
        refine e_next2 (d - s) (by omega) (.ex (s, d) (.pu ⟨by (try dsimp only); omega, rfl, rfl, by (try dsimp only); omega, hlo, fun k hk hk2 => ?_⟩ ?_))
        · have := up_at uU (i := d) (j := k) (by (try dsimp only at hk2); omega) hk
          omega
        · exact .refl
      · rw [decide_eq_false (fun c => h3 (cmp_lt.1 c))]
        refine e_condT ?_
        refine e_opN (v_add (by omega) (by omega)) Imp.nil ?_
        refine e_next2 (t - (d + 1)) (by omega) (.ex (d + 1, t) (.pu ⟨by (try dsimp only); omega, by norm_cast, rfl, htU, fun k hk hk2 => ?_, hhi⟩ ?_))
        · have := up_at uU (i := k) (j := d) (by (try dsimp only at hk2); omega) (by omega)
          omega
        · exact .refl
    · have hst : s = t := by omega
      subst hst
      refine e_condF ?_
      rw [mrg_last htU hlo hhi]
      refine e_loop1 (fun m y => (ex fun t : Nat => all [pu (m + s = t ∧ t ≤ U.length ∧ y = .int .i64 (P.length + t : Nat)), ItS g cap n ((P ++ U.take t) ++ v :: (U.drop t ++ R))]) :: F) (U.length - s) ?_ ?_
      · refine .ex U.length (.all ?_)
        (try simp only [List.cons_append, List.nil_append, -eq_self])
        refine .pu ⟨by omega, Nat.le_refl _, rfl⟩ ?_
        rw [show (P ++ U.take U.length) ++ v :: (U.drop U.length ++ R) = P ++ U ++ [v] ++ R by simp]
        exact .refl
      intro m2 ds2 y2
      refine e_ex .here fun t => e_all .here ?_
      (try simp only [List.cons_append, List.nil_append, -eq_self])
      refine e_pu .here fun ht => ?_
      obtain ⟨hmt, htl, rfl⟩ := ht
      refine e_ask v_gtr Imp.nil (fun h3 => ?_) (fun h3 => ?_)
      · obtain ⟨r, rfl⟩ : ∃ r, t = r + 1 := ⟨t - 1, by omega⟩
        have hrU : r < U.length := by omega
        have hD : (P ++ U.take (r + 1)) ++ v :: (U.drop (r + 1) ++ R) = (P ++ U.take r) ++ U[r] :: ([] ++ v :: (U.drop (r + 1) ++ R)) := by
          rw [List.take_succ_eq_append_getElem hrU]; simp only [List.append_assoc, List.cons_append, List.nil_append]
        have hD2 : (P ++ U.take r) ++ v :: (U.drop r ++ R) = (P ++ U.take r) ++ v :: ([] ++ U[r] :: (U.drop (r + 1) ++ R)) := by
          rw [List.drop_eq_getElem_cons hrU]; rfl
        have hl1 : (P ++ U.take r).length = P.length + r := by rw [List.length_append, List.length_take]; omega
        rw [hD]
        have hlen : ((P ++ U.take r) ++ U[r] :: ([] ++ v :: (U.drop (r + 1) ++ R))).length = n := by
          simp only [List.length_append, List.length_take, List.length_drop, List.length_cons, List.length_nil] at hn2 ⊢; omega
        obtain ⟨s1, s2, s3, s4⟩ := swap2 (p := P ++ U.take r) (m := []) (q := U.drop (r + 1) ++ R) (x := U[r]) (y := v) (i := P.length + r) (j := P.length + r + 1) (by omega) (by rw [hl1]; rfl) (by omega) (by omega)
        obtain ⟨D, hDe⟩ : ∃ D, D = (P ++ U.take r) ++ U[r] :: ([] ++ v :: (U.drop (r + 1) ++ R)) := ⟨_, rfl⟩
        simp only [← hDe] at s1 s2 s3 s4 hlen ⊢
        have ld1 := ld_it (W := W) (g := g) (cap := cap) hlen (j := P.length + r + 1) (by omega)
        have ld0 := ld_it (W := W) (g := g) (cap := cap) hlen (j := P.length + r) (by omega)
        rw [s2] at ld1
        rw [s1] at ld0
        refine e_condT ?_
        refine e_drS ?_
        refine e_stD (v_sub (by omega) (by omega)) Imp.nil ?_
        refine e_stS (v_sub (by omega) (by omega)) Imp.nil ?_
        refine e_stS (v_ia (P.length + r) (by omega) (by omega)) Imp.nil ?_
        refine e_stS ld0 (.pick .here .nil) ?_
        refine e_stS (v_ia (P.length + r + 1) (by omega) (by omega)) Imp.nil ?_
        refine e_stS ld1 (.pick .here .nil) ?_
        refine e_stS (v_ia (P.length + r + 1) (by omega) (by omega)) Imp.nil ?_
        refine e_stIt .here (by omega) ?_
        refine e_obl (by (repeat (first | exact Imp.refl | exact Imp.nil | (apply Imp.pick; (focus ((repeat constructor); done))) | refine Imp.drop ?_))) ?_
        refine e_stS (v_ia (P.length + r) (by omega) (by omega)) Imp.nil ?_
        refine e_stIt .here (by rw [List.length_set]; omega) ?_
        rw [s4]
        refine e_opN (v_sub (by omega) (by omega)) Imp.nil ?_
        refine e_next1 (m2 - 1) (by omega) (.ex r (.all ?_))
        (try simp only [List.cons_append, List.nil_append, -eq_self])
        refine .pu ⟨by omega, by omega, by congr 1; omega⟩ ?_
        rw [hD2]
        exact .refl
      · have hts : t = s := by omega
        subst hts
        refine e_condF ?_
        rw [show P ++ (U.take t ++ v :: U.drop t) ++ R = (P ++ U.take t) ++ v :: (U.drop t ++ R) by simp]
        (first | refine e_ret (()) rfl ?_ | refine e_retT (()) ?_)
        exact .refl
  rw [decide_eq_false (by omega)]
  refine e_condF ?_
  obtain ⟨K, hK⟩ : ∃ K, K = (U.length + V.length) / 2 := ⟨_, rfl⟩
  refine e_opN (v_add (by omega) (by omega)) Imp.nil ?_
  refine e_opN v_conv Imp.nil ?_
  rw [show ((P.length : Int) + ((P.length + U.length + V.length : Nat) : Int)) = ((P.length + (P.length + U.length + V.length) : Nat) : Int) by push_cast; rfl, wrapu64' (by omega) (by omega)]
  refine e_opN (v_shr (by omega)) Imp.nil ?_
  rw [half_shr]
  refine e_opN v_conv Imp.nil ?_
  rw [wrap_i (by omega), show (P.length + (P.length + U.length + V.length)) / 2 = P.length + K by omega]
  refine e_opN (v_add (by omega) (by omega)) Imp.nil ?_
  refine e_cut2 (fun x y => pu (x = .int .i64 (P.length + (K - V.length) : Nat) ∧ y = .int .i64 (P.length + min K U.length : Nat)) :: ItS g cap n (P ++ U ++ V ++ R) :: F) ?_ ?_
  rotate_left
  · refine e_ask v_gtr Imp.nil (fun h => ?_) (fun h => ?_)
    · refine e_condT ?_
      refine e_opN (v_sub (by omega) (by omega)) Imp.nil ?_
      refine e_sat (.pu ⟨by congr 1; omega, by congr 1; omega⟩ ?_)
      exact .refl
    · refine e_condF ?_
      refine e_sat (.pu ⟨by congr 1; omega, by congr 1; omega⟩ ?_)
      exact .refl
  intro ds z1 z2
  refine e_pu .here fun hz => ?_
  obtain ⟨rfl, rfl⟩ := hz
  refine e_opN (v_sub (by omega) (by omega)) Imp.nil ?_
  refine e_loop2 (fun m x y => (ex fun q : Nat × Nat => pu (m + q.1 = q.2 ∧ x = .int .i64 (P.length + q.1 : Nat) ∧ y = .int .i64 (P.length + q.2 : Nat) ∧ K - V.length ≤ q.1 ∧ q.2 ≤ min K U.length ∧ (∀ k (h : k < U.length) (h' : K - 1 - k < V.length), K - V.length ≤ k → k < q.1 → ¬ V[K - 1 - k].n < U[k].n) ∧ (∀ k (h : k < U.length) (h' : K - 1 - k < V.length), q.2 ≤ k → k < min K U.length → V[K - 1 - k].n < U[k].n))) :: ItS g cap n (P ++ U ++ V ++ R) :: F) (min K U.length - (K - V.length)) ?_ ?_
  · refine .ex (K - V.length, min K U.length) (.pu ⟨by (try dsimp only); omega, rfl, rfl, Nat.le_refl _, Nat.le_refl _, fun k _ _ h1 h2 => absurd h2 (by (try dsimp only); omega), fun k _ _ h1 h2 => absurd h2 (by (try dsimp only at h1); omega)⟩ ?_)
    exact .refl
  intro m ds2 x y
  refine e_ex .here fun q => e_pu .here fun hq => ?_
  obtain ⟨s, t⟩ := q
  (try dsimp only at hq)
  obtain ⟨hmq, rfl, rfl, hs0, ht0, hlo, hhi⟩ := hq
  refine e_ask v_lss Imp.nil (fun h => ?_) (fun h => ?_)
  · refine e_condT ?_
    refine e_opN (v_add (by omega) (by omega)) Imp.nil ?_
    refine e_opN v_conv Imp.nil ?_
    rw [show (((P.length + s : Nat) : Int) + ((P.length + t : Nat) : Int)) = ((P.length + s + (P.length + t) : Nat) : Int) by push_cast; rfl, wrapu64' (by omega) (by omega)]
    refine e_opN (v_shr (by omega)) Imp.nil ?_
    rw [half_shr]
    refine e_opN v_conv Imp.nil ?_
    rw [wrap_i (by omega)]
    obtain ⟨d, hd⟩ : ∃ d, d = (s + t) / 2 := ⟨_, rfl⟩
    rw [show (P.length + s + (P.length + t)) / 2 = P.length + d by omega]
    have hdU : d < U.length := by omega
    have hdV : K - 1 - d < V.length := by omega
    refine e_drS ?_
    refine e_stS (v_sub (by omega) (by omega)) Imp.nil ?_
    refine e_stS (v_ia (P.length + U.length + (K - 1 - d)) (by omega) (by omega)) Imp.nil ?_
    refine e_stS (ldV (K - 1 - d) hdV) (.pick .here .nil) ?_
    refine e_stS (v_ia (P.length + d) rfl (by omega)) Imp.nil ?_
    refine e_stS (ldU d hdU) (.pick .here .nil) ?_
    refine e_call cmpIt .nil fun _ => ?_
    (try simp only [List.cons_append, List.nil_append, -eq_self])
    refine e_stS v_lss Imp.nil ?_
    refine e_stS v_not Imp.nil ?_
    by_cases h3 : V[K - 1 - d].n < U[d].n
    · rw [decide_eq_true (cmp_lt.2 h3)]
      refine e_condF ?_
      refine e_next2 (d - s) (by omega) (.ex (s, d) (.pu ⟨by (try dsimp only); omega, rfl, rfl, hs0, by (try dsimp only); omega, hlo, fun k hk hk' hk2 hk3 => ?_⟩ ?_))
      · (try dsimp only at hk2)
        have a1 := up_at uU (i := d) (j := k) (by omega) hk
        have a2 := up_at uV (i := K - 1 - k) (j := K - 1 - d) (by omega) hdV
        omega
      · exact .refl
    · rw [decide_eq_false (fun c => h3 (cmp_lt.1 c))]
      refine e_condT ?_
      refine e_opN (v_add (by omega) (by omega)) Imp.nil ?_
      refine e_next2 (t - (d + 1)) (by omega) (.ex (d + 1, t) (.pu ⟨by (try dsimp only); omega, by norm_cast, rfl, by (try dsimp only); omega, ht0, fun k hk hk' hk2 hk3 => ?_, hhi⟩ ?_))
      · (try dsimp only at hk3)
        have a1 := up_at uU (i := k) (j := d) (by omega) hdU
        have a2 := up_at uV (i := K - 1 - d) (j := K - 1 - k) (by omega) hk'
        omega
      · exact .refl
  · have hst : s = t := by omega
    subst hst
    refine e_condF ?_
    obtain ⟨U1, hU1'⟩ : ∃ U1, U1 = U.take s := ⟨_, rfl⟩
    obtain ⟨U2, hU2'⟩ : ∃ U2, U2 = U.drop s := ⟨_, rfl⟩
    obtain ⟨V1, hV1'⟩ : ∃ V1, V1 = V.take (K - s) := ⟨_, rfl⟩
    obtain ⟨V2, hV2'⟩ : ∃ V2, V2 = V.drop (K - s) := ⟨_, rfl⟩
    have eU : U1 ++ U2 = U := by rw [hU1', hU2', List.take_append_drop]
    have eV : V1 ++ V2 = V := by rw [hV1', hV2', List.take_append_drop]
    have lU1 : U1.length = s := by rw [hU1', List.length_take]; omega
    have lU2 : U2.length = U.length - s := by rw [hU2', List.length_drop]
    have lV1 : V1.length = K - s := by rw [hV1', List.length_take]; omega
    have lV2 : V2.length = V.length - (K - s) := by rw [hV2', List.length_drop]
    have up1 : Upk It.n U1 ∧ Upk It.n U2 := by
      have := uU
      rw [← eU] at this
      exact ⟨(List.pairwise_append.1 this).1, (List.pairwise_append.1 this).2.1⟩
    have up2 : Upk It.n V1 ∧ Upk It.n V2 := by
      have := uV
      rw [← eV] at this
      exact ⟨(List.pairwise_append.1 this).1, (List.pairwise_append.1 this).2.1⟩
    have f1 : ∀ u ∈ U1, ∀ v ∈ V2, u.n ≤ v.n := fun u hu v hv => by
      obtain ⟨a, ha, rfl⟩ := List.getElem_of_mem hu
      obtain ⟨b, hb, rfl⟩ := List.getElem_of_mem hv
      simp only [hU1', hV2', List.length_take, List.length_drop] at ha hb
      simp only [hU1', hV2', List.getElem_take, List.getElem_drop]
      have h4 := hlo (s - 1) (by omega) (by omega) (by omega) (by omega)
      have a1 := up_at uU (i := a) (j := s - 1) (by omega) (by omega)
      have a2 := up_at uV (i := K - 1 - (s - 1)) (j := K - s + b) (by omega) (by omega)
      omega
    have f2 : ∀ v ∈ V1, ∀ u ∈ U2, v.n < u.n := fun v hv u hu => by
      obtain ⟨a, ha, rfl⟩ := List.getElem_of_mem hv
      obtain ⟨b, hb, rfl⟩ := List.getElem_of_mem hu
      simp only [hV1', hU2', List.length_take, List.length_drop] at ha hb
      simp only [hV1', hU2', List.getElem_take, List.getElem_drop]
      have h4 := hhi s (by omega) (by omega) (Nat.le_refl _) (by omega)
      have a1 := up_at uV (i := a) (j := K - 1 - s) (by omega) (by omega)
      have a2 := up_at uU (i := s) (j := s + b) (by omega) (by omega)
      omega
    have hM : mrg It.n U V = mrg It.n U1 V1 ++ mrg It.n U2 V2 := by
      rw [← eU, ← eV]
      exact mrg_cut It.n _ U1 U2 V1 V2 rfl f1 f2
    have lM : (mrg It.n U1 V1).length = K := by
      rw [mrg_len', lU1, lV1]; omega
    rw [hM]
    have eD : P ++ U ++ V ++ R = (P ++ U1) ++ U2 ++ V1 ++ (V2 ++ R) := by
      rw [← eU, ← eV]; simp
    rw [eD]
    rw [eD] at hn
    refine e_opN (v_sub (by omega) (by omega)) Imp.nil ?_
    refine e_cut0 (ItS g cap n (P ++ U1 ++ V1 ++ (U2 ++ V2 ++ R)) :: F) ?_ ?_
    rotate_left
    · have out : (U2.length = 0 ∨ V1.length = 0) → Ent W (ItS g cap n ((P ++ U1) ++ U2 ++ V1 ++ (V2 ++ R)) :: F) (fun w => sat W (ItS g cap n (P ++ U1 ++ V1 ++ (U2 ++ V2 ++ R)) :: F) w) := by
        intro h
        have e : (P ++ U1) ++ U2 ++ V1 ++ (V2 ++ R) = P ++ U1 ++ V1 ++ (U2 ++ V2 ++ R) := by
          rcases h with h | h
          · rw [List.eq_nil_of_length_eq_zero h]; simp
          · rw [List.eq_nil_of_length_eq_zero h]; simp
        rw [e]
        exact e_sat .refl
      refine e_ask v_lss Imp.nil (fun h1 => ?_) (fun h1 => ?_)
      · refine e_gdT ?_
        refine e_gdT ?_
        refine e_gdT ?_
        refine e_ask v_lss Imp.nil (fun h2 => ?_) (fun h2 => ?_)
        · refine e_opN v_pickT Imp.nil ?_
          refine e_condT ?_
          refine e_call (rotate (P := P ++ U1) (U := U2) (V := V1) (R := V2 ++ R) hn hm (by omega) (by omega) (by rw [List.length_append]; omega) (by rw [List.length_append]; omega) (by rw [List.length_append]; omega)) (.cons .here .nil) fun _ => ?_
          (try simp only [List.cons_append, List.nil_append, -eq_self])
          rw [show P ++ U1 ++ V1 ++ U2 ++ (V2 ++ R) = P ++ U1 ++ V1 ++ (U2 ++ V2 ++ R) by simp]
          exact e_sat .refl
        · refine e_opN v_pickT Imp.nil ?_
          refine e_condF ?_
          exact out (.inr (by omega))
      · ((with_reducible refine e_gdF2 ?_)); ((with_reducible refine e_gdF2 ?_)); ((with_reducible refine e_gdF2 ?_)); (((with_reducible refine e_opN v_pickF Imp.nil ?_))); ((with_reducible refine e_condF ?_))
        exact out (.inl (by omega))
    intro ds3
    have hn3 : (P ++ U1 ++ V1 ++ (U2 ++ V2 ++ R)).length = n := by rw [← hn]; simp only [List.length_append]; omega
    refine e_cut0 (ItS g cap n (P ++ mrg It.n U1 V1 ++ (U2 ++ V2 ++ R)) :: F) ?_ ?_
    rotate_left
    · have out : (U1.length = 0 ∨ V1.length = 0) → Ent W (ItS g cap n (P ++ U1 ++ V1 ++ (U2 ++ V2 ++ R)) :: F) (fun w => sat W (ItS g cap n (P ++ mrg It.n U1 V1 ++ (U2 ++ V2 ++ R)) :: F) w) := by
        intro h
        have e : P ++ U1 ++ V1 ++ (U2 ++ V2 ++ R) = P ++ mrg It.n U1 V1 ++ (U2 ++ V2 ++ R) := by
          rcases h with h | h
          · rw [List.eq_nil_of_length_eq_zero h]; simp [mrg]
          · rw [List.eq_nil_of_length_eq_zero h, mrg_nil]; simp
        rw [e]
        exact e_sat .refl
      refine e_ask v_lss Imp.nil (fun h1 => ?_) (fun h1 => ?_)
      · refine e_gdT ?_
        refine e_gdT ?_
        refine e_gdT ?_
        refine e_ask v_lss Imp.nil (fun h2 => ?_) (fun h2 => ?_)
        · refine e_opN v_pickT Imp.nil ?_
          refine e_condT ?_
          refine e_call (ih (P := P) (U := U1) (V := V1) (R := U2 ++ V2 ++ R) (by omega) hn3 (by omega) (by omega) up1.1 up2.1 rfl (by omega) (by omega)) (.cons .here .nil) fun _ => ?_
          (try simp only [List.cons_append, List.nil_append, -eq_self])
          exact e_sat .refl
        · refine e_opN v_pickT Imp.nil ?_
          refine e_condF ?_
          exact out (.inr (by omega))
      · ((with_reducible refine e_gdF2 ?_)); ((with_reducible refine e_gdF2 ?_)); ((with_reducible refine e_gdF2 ?_)); (((with_reducible refine e_opN v_pickF Imp.nil ?_))); ((with_reducible refine e_condF ?_))
        exact out (.inl (by omega))
    intro ds4
    have e4 : P ++ mrg It.n U1 V1 ++ (U2 ++ V2 ++ R) = (P ++ mrg It.n U1 V1) ++ U2 ++ V2 ++ R := by simp
    rw [e4]
    have hn4 : ((P ++ mrg It.n U1 V1) ++ U2 ++ V2 ++ R).length = n := by
      simp only [List.length_append] at hn3 ⊢
      omega
    have e5 : P ++ (mrg It.n U1 V1 ++ mrg It.n U2 V2) ++ R = (P ++ mrg It.n U1 V1) ++ mrg It.n U2 V2 ++ R := by simp
    rw [e5]
    have out : (U2.length = 0 ∨ V2.length = 0) → (P ++ mrg It.n U1 V1) ++ U2 ++ V2 ++ R = (P ++ mrg It.n U1 V1) ++ mrg It.n U2 V2 ++ R := by
      intro h
      rcases h with h | h
      · rw [List.eq_nil_of_length_eq_zero h]; simp [mrg]
      · rw [List.eq_nil_of_length_eq_zero h, mrg_nil]; simp
    refine e_ask v_lss Imp.nil (fun h1 => ?_) (fun h1 => ?_)
    · refine e_gdT ?_
      refine e_gdT ?_
      refine e_gdT ?_
      refine e_ask v_lss Imp.nil (fun h2 => ?_) (fun h2 => ?_)
      · refine e_opN v_pickT Imp.nil ?_
        refine e_condT ?_
        refine e_call (ih (P := P ++ mrg It.n U1 V1) (U := U2) (V := V2) (R := R) (by omega) hn4 (by omega) (by omega) up1.2 up2.2 (by rw [List.length_append]; omega) (by rw [List.length_append]; omega) (by rw [List.length_append]; omega)) (.cons .here .nil) fun _ => ?_
        (try simp only [List.cons_append, List.nil_append, -eq_self])
        (first | refine e_ret (()) rfl ?_ | refine e_retT (()) ?_)
        exact .refl
      · refine e_opN v_pickT Imp.nil ?_
        refine e_condF ?_
        rw [out (.inr (by omega))]
        (first | refine e_ret (()) rfl ?_ | refine e_retT (()) ?_)
        exact .refl
    · ((with_reducible refine e_gdF2 ?_)); ((with_reducible refine e_gdF2 ?_)); ((with_reducible refine e_gdF2 ?_)); (((with_reducible refine e_opN v_pickF Imp.nil ?_))); ((with_reducible refine e_condF ?_))
      rw [out (.inl (by omega))]
      (first | refine e_ret (()) rfl ?_ | refine e_retT (()) ?_)
      exact .refl
end Go.Proofs.Ytehfblkpbadikaa.HF
