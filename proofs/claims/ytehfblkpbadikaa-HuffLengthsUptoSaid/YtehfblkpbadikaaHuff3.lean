/- Whether lengths leave nothing; what the document weighs. No conditions but those that each names. -/
import Derived.Test.YtehfblkpbadikaaHuff2
set_option linter.unusedVariables false
set_option linter.unusedSimpArgs false
namespace Go.Proofs.Ytehfblkpbadikaa.HF
open Go Go.Proofs Go.Proofs.Ytehfblkpbadikaa.Sh Go.Proofs.Ytehfblkpbadikaa.Sl Go.Proofs.Ytehfblkpbadikaa.T Go.Proofs.Ytehfblkpbadikaa.HM
def rm (f : Nat → Int) : Nat → Int
  | 0 => 1
  | k + 1 => 2 * rm f k - f (k + 1)
theorem rm_room {l : List Int} {f : Nat → Int} (h : ∀ j, j < 16 → f j = cnt l j) : ∀ k, k ≤ 15 → rm f k = room l k
  | 0, _ => rfl
  | k + 1, hk => by rw [rm, room, rm_room h k (by omega), h (k + 1) (by omega)]
theorem rm_bound {f : Nat → Int} (h : ∀ j, 0 ≤ f j ∧ f j ≤ 320) : ∀ k, rm f k ≤ (2 ^ k : Nat) ∧ -(320 * ((2 ^ k : Nat) : Int)) ≤ rm f k - 320
  | 0 => by simp [rm]
  | k + 1 => by
    have ih := rm_bound h k
    have hf := h (k + 1)
    have e : (2 : Nat) ^ (k + 1) = 2 * 2 ^ k := by rw [Nat.pow_succ]; omega
    rw [e, rm]
    push_cast
    push_cast at ih
    omega
def fullB (l : List Int) : Bool := decide (okL l) && decide (wk l 15 = 32768)
theorem full {W : World} {a : Option Addr} {cap : Nat} {l : List Int} {A : HP} (hr : RdB W A a l.length (l.map I)) (hl : l.length ≤ 4611686018427387904) :
    Cn Try.prog 22 [.slice a l.length cap] W [A] (fun _ : Unit => .bool (fullB l)) (fun _ => [A]) := by
  (refine S.huff_Full_cn fun F => ?_; unfold S.huff_Full; simp only [List.cons_append, List.nil_append])
  (refine' e_call (counts hr hl) ?hp fun _ => ?_; (case hp => (repeat (first | exact Picks.nil | (apply Picks.cons; (focus (repeat constructor)))))); (try simp only [List.cons_append, List.nil_append, Bool.not_true, Bool.not_false]))
  rename_i f
  refine e_pu Pick.here fun hf => ?_
  obtain ⟨hf1, hf2⟩ := hf
  refine e_opN (v_ext (v := .agg (A16 f)) rfl) Imp.nil ?_
  refine e_opN (v_ext (v := .bool (decide (okL l))) rfl) Imp.nil ?_
  refine e_newA fun g => ?_
  refine e_stAgg .here (by rfl) (An_size 16 f) one16 ?_
  refine e_opN (v_slA (l := 1) (by rfl) (by omega)) Imp.nil ?_
  (((with_reducible refine e_opN v_len Imp.nil ?_)))
  have hrd : RdB W (pt g (.cells (A16 f) 97 (0, 0))) (some ⟨g, 1 * 1, none⟩) 15 ((List.range 15).map fun j => I (f (1 + j))) := rd_cut (n := 16) (f := f) (rd_pt (by simp)) (by omega)
  refine e_loop2 (fun m x y => [all [pu (∃ i : Nat, m + i = 15 ∧ i ≤ 15 ∧ y = .int .i64 (i : Int) ∧ x = .int .i64 (rm f i)), pt g (.cells (A16 f) 97 (0, 0)), A]] ++ F) 15 ?_ ?_
  · refine Imp.all ?_
    (try simp only [List.cons_append, List.nil_append, -eq_self])
    exact .pu ⟨0, by omega, by omega, rfl, rfl⟩ .refl
  intro m ds x y
  (try simp only [List.cons_append, List.nil_append, -eq_self])
  refine e_all Pick.here ?_
  (try simp only [List.cons_append, List.nil_append, -eq_self])
  refine e_pu Pick.here fun hi => ?_
  obtain ⟨i, hmi, hi15, rfl, rfl⟩ := hi
  have hb := rm_bound hf2 i
  have h15 := pow15 hi15
  (refine e_ask v_lss Imp.nil (fun h => ?_) (fun h => ?_))
  · have hi14 : i < 15 := by omega
    refine e_condT ?_
    refine e_opN (v_ia1 i (by rfl) (by omega)) Imp.nil ?_
    refine e_opN (v_ldRd hrd (v := I (f (1 + i))) (by rw [List.getElem?_map, List.getElem?_range hi14]; rfl)) (.pick .here .nil) ?_
    have hc := hf2 (1 + i)
    (((with_reducible refine e_opN (v_mul ?h1 ?h2) Imp.nil ?_); (case h1 => omega); (case h2 => omega))); (((with_reducible refine e_opN (v_sub ?h1 ?h2) Imp.nil ?_); (case h1 => omega); (case h2 => omega))); (((with_reducible refine e_opN (v_add ?h1 ?h2) Imp.nil ?_); (case h1 => omega); (case h2 => omega)))
    refine e_next2 (m - 1) (by omega) (.all ?_)
    (try simp only [List.cons_append, List.nil_append, -eq_self])
    exact .pu ⟨i + 1, by omega, by omega, by norm_cast, by rw [rm, Nat.add_comm 1 i]⟩ .refl
  · have hie : i = 15 := by omega
    subst hie
    refine e_condF ?_
    by_cases hok : okL l
    · have hrr := rm_room (hf1 hok) 15 (by omega)
      rw [decide_eq_true hok]
      ((with_reducible refine e_gdT ?_)); ((with_reducible refine e_gdT ?_))
      refine e_opN v_eql Imp.nil ?_
      rw [show decide (rm f 15 = 0) = fullB l by unfold fullB; rw [decide_eq_true hok, Bool.true_and]; exact decide_eq_decide.2 (by rw [hrr]; exact room0_iff)]
      (((with_reducible refine e_opN v_pickT Imp.nil ?_)))
      (first | refine e_ret (()) rfl ?_ | refine e_retT (()) ?_)
      (repeat (first | exact Imp.refl | exact Imp.nil | (apply Imp.pick; (focus ((repeat constructor); done))) | refine Imp.drop ?_))
    · rw [decide_eq_false hok]
      ((with_reducible refine e_gdF2 ?_)); ((with_reducible refine e_gdF2 ?_)); (((with_reducible refine e_opN v_pickF Imp.nil ?_)))
      rw [show fullB l = false by unfold fullB; rw [decide_eq_false hok, Bool.false_and]]
      (first | refine e_ret (()) rfl ?_ | refine e_retT (()) ?_)
      (repeat (first | exact Imp.refl | exact Imp.nil | (apply Imp.pick; (focus ((repeat constructor); done))) | refine Imp.drop ?_))
def wsm (l : List Int) : Int := if inL l then (wk l 15 : Int) else 0
theorem wk_append (k : Nat) : ∀ l m : List Int, wk (l ++ m) k = wk l k + wk m k
  | [], m => by simp [wk]
  | x :: l, m => by simp only [List.cons_append, wk, wk_append k l m]; omega
theorem wk_le : ∀ l : List Int, wk l 15 ≤ 16384 * l.length
  | [] => by simp [wk]
  | x :: l => by
    have := wk_le l
    simp only [wk, List.length_cons]
    split
    · rename_i h
      have h2 : 2 ^ (15 - x.toNat) ≤ 2 ^ 14 := Nat.pow_le_pow_right (by omega) (by omega)
      have e : (2 : Nat) ^ 14 = 16384 := by decide
      omega
    · omega
theorem wk_take {l : List Int} {i : Nat} (h : i < l.length) (hp : 0 < l[i] ∧ l[i] ≤ 15) : wk (l.take (i + 1)) 15 = wk (l.take i) 15 + 2 ^ (15 - l[i].toNat) := by
  rw [List.take_succ_eq_append_getElem h, wk_append]
  simp only [wk]
  rw [if_pos ⟨hp.1, by omega⟩]; omega
theorem wk_take0 {l : List Int} {i : Nat} (h : i < l.length) (hp : ¬ 0 < l[i]) : wk (l.take (i + 1)) 15 = wk (l.take i) 15 := by
  rw [List.take_succ_eq_append_getElem h, wk_append]
  simp only [wk]
  rw [if_neg (by omega)]; omega
theorem wrapu64' {n : Int} (h0 : 0 ≤ n) (h : n < 18446744073709551616) : IntKind.u64.wrap n = n := by
  obtain ⟨N, rfl⟩ := Int.eq_ofNat_of_zero_le h0
  simp only [IntKind.wrap, IntKind.bits, IntKind.signed]
  simp; omega
theorem shl64 {a : Int} {k : Nat} (hk : k ≤ 32) (h0 : 0 ≤ a) (h : a ≤ 65536) : IntKind.i64.wrap (a * 2 ^ (min ((k : Int)).toNat IntKind.i64.bits)) = a * ((2 ^ k : Nat) : Int) := by
  have h2 : (2 : Nat) ^ k ≤ 2 ^ 32 := Nat.pow_le_pow_right (by omega) hk
  have e : (2 : Nat) ^ 32 = 4294967296 := by decide
  rw [show min ((k : Int)).toNat IntKind.i64.bits = k by simp only [IntKind.bits, Int.toNat_natCast]; omega, show (2 : Int) ^ k = ((2 ^ k : Nat) : Int) from (Int.natCast_pow 2 k).symm]
  obtain ⟨E, hE⟩ : ∃ E : Nat, E = 2 ^ k := ⟨_, rfl⟩
  rw [← hE] at h2 ⊢
  have h3 : a * (E : Int) ≤ 65536 * 4294967296 := Int.mul_le_mul h (by omega) (by omega) (by omega)
  have h4 : 0 ≤ a * (E : Int) := Int.mul_nonneg h0 (by omega)
  exact w64 (by omega) (by omega)
theorem weight {W : World} {a : Option Addr} {cap : Nat} {l : List Int} {A : HP} (hr : RdB W A a l.length (l.map I)) (hl : l.length ≤ 1099511627776) :
    Cn Try.prog 51 [.slice a l.length cap] W [A] (fun _ : Unit => .tuple #[.int .i64 (wsm l), .bool (decide (okL l))]) (fun _ => [A]) := by
  (refine S.ref03_weight_cn fun F => ?_; unfold S.ref03_weight; simp only [List.cons_append, List.nil_append])
  refine e_loop2 (fun m x y => [all [pu (∃ i : Nat, m + i = l.length ∧ y = .int .i64 (i : Int) ∧ x = .int .i64 (wk (l.take i) 15 : Int) ∧ ∀ k (hk : k < l.length), k < i → 0 ≤ l[k] ∧ l[k] ≤ 15), A]] ++ F) l.length ?_ ?_
  · refine Imp.all ?_
    (try simp only [List.cons_append, List.nil_append, -eq_self])
    exact .pu ⟨0, by omega, rfl, rfl, fun k hk h => by omega⟩ .refl
  intro m ds x y
  (try simp only [List.cons_append, List.nil_append, -eq_self])
  refine e_all Pick.here ?_
  (try simp only [List.cons_append, List.nil_append, -eq_self])
  refine e_pu Pick.here fun hi => ?_
  obtain ⟨i, hmi, rfl, rfl, hin⟩ := hi
  have hwl := wk_le (l.take i)
  rw [List.length_take] at hwl
  (((with_reducible refine e_opN v_len Imp.nil ?_)))
  (refine e_ask v_lss Imp.nil (fun h => ?_) (fun h => ?_))
  · have hil : i < l.length := by omega
    obtain ⟨ga, oa, rfl, _⟩ := hr.at_ (by omega)
    have bad : ¬ (0 ≤ l[i] ∧ l[i] ≤ 15) → ¬ inL l := fun hn c => hn (c l[i] (List.getElem_mem hil))
    refine e_condT ?_
    refine e_opN (v_ia1 i (by rfl) hil) Imp.nil ?_
    refine e_opN (v_ldRd hr (I_get hil)) (.pick .here .nil) ?_
    (refine e_ask v_lss Imp.nil (fun h => ?_) (fun h => ?_))
    · have hb := bad (by omega)
      rw [show wsm l = 0 from if_neg hb, decide_eq_false (fun c => hb c.ins)]
      ((with_reducible refine e_gdF1 ?_)); ((with_reducible refine e_gdF1 ?_)); ((with_reducible refine e_gdF1 ?_)); ((with_reducible refine e_gdF1 ?_)); ((with_reducible refine e_gdF1 ?_)); (((with_reducible refine e_opN v_pickT Imp.nil ?_))); ((with_reducible refine e_condT ?_))
      (first | refine e_ret (()) rfl ?_ | refine e_retT (()) ?_)
      (repeat (first | exact Imp.refl | exact Imp.nil | (apply Imp.pick; (focus ((repeat constructor); done))) | refine Imp.drop ?_))
    have h0 := h
    ((with_reducible refine e_gdT ?_)); ((with_reducible refine e_gdT ?_)); ((with_reducible refine e_gdT ?_))
    refine e_opN (v_ia1 i (by rfl) hil) Imp.nil ?_
    ((with_reducible refine e_gdT ?_))
    refine e_opN (v_ldRd hr (I_get hil)) (.pick .here .nil) ?_
    ((with_reducible refine e_gdT ?_))
    (refine e_ask v_gtr Imp.nil (fun h => ?_) (fun h => ?_))
    · have hb := bad (by omega)
      rw [show wsm l = 0 from if_neg hb, decide_eq_false (fun c => hb c.ins)]
      (((with_reducible refine e_opN v_pickF Imp.nil ?_))); ((with_reducible refine e_condT ?_))
      (first | refine e_ret (()) rfl ?_ | refine e_retT (()) ?_)
      (repeat (first | exact Imp.refl | exact Imp.nil | (apply Imp.pick; (focus ((repeat constructor); done))) | refine Imp.drop ?_))
    have h1 := h
    (((with_reducible refine e_opN v_pickF Imp.nil ?_))); ((with_reducible refine e_condF ?_))
    refine e_opN (v_ia1 i (by rfl) hil) Imp.nil ?_
    refine e_opN (v_ldRd hr (I_get hil)) (.pick .here .nil) ?_
    have hin' : ∀ k (hk : k < l.length), k < i + 1 → 0 ≤ l[k] ∧ l[k] ≤ 15 := fun k hk hki => by
      by_cases c : k = i
      · subst c; omega
      · exact hin k hk (by omega)
    (refine e_ask v_gtr Imp.nil (fun h => ?_) (fun h => ?_))
    · refine e_condT ?_
      refine e_opN (v_ia1 i (by rfl) hil) Imp.nil ?_
      refine e_opN (v_ldRd hr (I_get hil)) (.pick .here .nil) ?_
      refine e_opN (v_sub (by omega) (by omega)) Imp.nil ?_
      refine e_opN v_conv Imp.nil ?_
      obtain ⟨x, hx⟩ := Int.eq_ofNat_of_zero_le (show 0 ≤ l[i] by omega)
      rw [wrapu64' (by omega) (by omega), show (15 : Int) - l[i] = ((15 - x : Nat) : Int) by omega]
      refine e_opN (v_shl (by omega)) Imp.nil ?_
      rw [shl64 (by omega) (by omega) (by omega), Int.one_mul]
      have h15 := pow15 (show 15 - x ≤ 15 by omega)
      obtain ⟨E, hE⟩ : ∃ E : Nat, E = 2 ^ (15 - x) := ⟨_, rfl⟩
      rw [← hE] at h15 ⊢
      refine e_opN (v_add (by omega) (by omega)) Imp.nil ?_
      (((with_reducible refine e_opN (v_add ?h1 ?h2) Imp.nil ?_); (case h1 => omega); (case h2 => omega)))
      refine e_next2 (m - 1) (by omega) (.all ?_)
      (try simp only [List.cons_append, List.nil_append, -eq_self])
      refine .pu ⟨i + 1, by omega, by norm_cast, ?_, hin'⟩ .refl
      rw [wk_take hil (by omega), hx, Int.toNat_natCast, ← hE]; push_cast; rfl
    · ((with_reducible refine e_condF ?_)); (((with_reducible refine e_opN (v_add ?h1 ?h2) Imp.nil ?_); (case h1 => omega); (case h2 => omega)))
      refine e_next2 (m - 1) (by omega) (.all ?_)
      (try simp only [List.cons_append, List.nil_append, -eq_self])
      refine .pu ⟨i + 1, by omega, by norm_cast, ?_, hin'⟩ .refl
      rw [wk_take0 hil h]
  · have hie : i = l.length := by omega
    subst hie
    rw [List.take_length]
    rw [List.take_length] at hwl
    have hins : inL l := fun x hx => by
      obtain ⟨k, hk, rfl⟩ := List.mem_iff_getElem.1 hx
      exact hin k hk (by omega)
    rw [show wsm l = (wk l 15 : Int) from if_pos hins]
    refine e_condF ?_
    (((with_reducible refine e_opN v_len Imp.nil ?_)))
    (refine e_ask v_leq Imp.nil (fun h => ?_) (fun h => ?_))
    · ((with_reducible refine e_gdT ?_)); ((with_reducible refine e_gdT ?_))
      refine e_opN v_leq Imp.nil ?_
      rw [show decide ((wk l 15 : Int) ≤ 32768) = decide (okL l) from decide_eq_decide.2 ⟨fun c => okL_iff.2 ⟨by omega, hins, by omega⟩, fun c => by have := (okL_iff.1 c).2.2; omega⟩]
      (((with_reducible refine e_opN v_pickT Imp.nil ?_)))
      (first | refine e_ret (()) rfl ?_ | refine e_retT (()) ?_)
      (repeat (first | exact Imp.refl | exact Imp.nil | (apply Imp.pick; (focus ((repeat constructor); done))) | refine Imp.drop ?_))
    · ((with_reducible refine e_gdF2 ?_)); ((with_reducible refine e_gdF2 ?_)); (((with_reducible refine e_opN v_pickF Imp.nil ?_)))
      rw [decide_eq_false (fun c : okL l => by have := c.len; omega)]
      (first | refine e_ret (()) rfl ?_ | refine e_retT (()) ?_)
      (repeat (first | exact Imp.refl | exact Imp.nil | (apply Imp.pick; (focus ((repeat constructor); done))) | refine Imp.drop ?_))
theorem refFull {W : World} {a : Option Addr} {cap : Nat} {l : List Int} {A : HP} (hr : RdB W A a l.length (l.map I)) (hl : l.length ≤ 1099511627776) :
    Cn Try.prog 23 [.slice a l.length cap] W [A] (fun _ : Unit => .bool (fullB l)) (fun _ => [A]) := by
  (refine S.ref03_Full_cn fun F => ?_; unfold S.ref03_Full; simp only [List.cons_append, List.nil_append])
  (refine' e_call (weight hr hl) ?hp fun _ => ?_; (case hp => (repeat (first | exact Picks.nil | (apply Picks.cons; (focus (repeat constructor)))))); (try simp only [List.cons_append, List.nil_append, Bool.not_true, Bool.not_false]))
  refine e_opN (v_ext (v := .int .i64 (wsm l)) rfl) Imp.nil ?_
  refine e_opN (v_ext (v := .bool (decide (okL l))) rfl) Imp.nil ?_
  by_cases hok : okL l
  · rw [decide_eq_true hok]
    ((with_reducible refine e_gdT ?_)); ((with_reducible refine e_gdT ?_))
    refine e_opN v_eql Imp.nil ?_
    rw [show decide (wsm l = 32768) = fullB l by unfold fullB wsm; rw [decide_eq_true hok, Bool.true_and, if_pos hok.ins]; exact decide_eq_decide.2 (by omega)]
    (((with_reducible refine e_opN v_pickT Imp.nil ?_)))
    (first | refine e_ret (()) rfl ?_ | refine e_retT (()) ?_)
    (repeat (first | exact Imp.refl | exact Imp.nil | (apply Imp.pick; (focus ((repeat constructor); done))) | refine Imp.drop ?_))
  · rw [decide_eq_false hok]
    ((with_reducible refine e_gdF2 ?_)); ((with_reducible refine e_gdF2 ?_)); (((with_reducible refine e_opN v_pickF Imp.nil ?_)))
    rw [show fullB l = false by unfold fullB; rw [decide_eq_false hok, Bool.false_and]]
    (first | refine e_ret (()) rfl ?_ | refine e_retT (()) ?_)
    (repeat (first | exact Imp.refl | exact Imp.nil | (apply Imp.pick; (focus ((repeat constructor); done))) | refine Imp.drop ?_))
theorem num {W : World} {n : Int} : Cn Try.prog 18 [.int .i64 n] W [] (fun _ : Unit => .int .i64 n) (fun _ => []) := by
  (refine S.law03_num_cn fun F => ?_; unfold S.law03_num; simp only [List.cons_append, List.nil_append])
  (first | refine e_ret (()) rfl ?_ | refine e_retT (()) ?_)
  exact .refl
theorem sameInts {W : World} {a b : Option Addr} {c1 c2 : Nat} {x y : List Int} {A B : HP} (hx : RdB W A a x.length (x.map I)) (hy : RdB W B b y.length (y.map I)) (hl : x.length ≤ 4611686018427387904) :
    Cn Try.prog 17 [.slice a x.length c1, .slice b y.length c2] W [A, B] (fun _ : Unit => .bool (decide (x = y))) (fun _ => [A, B]) := by
  (refine S.law03_SameInts_cn fun F => ?_; unfold S.law03_SameInts; simp only [List.cons_append, List.nil_append])
  (((with_reducible refine e_opN v_len Imp.nil ?_))); (((with_reducible refine e_opN v_len Imp.nil ?_)))
  (refine e_ask v_neq Imp.nil (fun h => ?_) (fun h => ?_))
  · rw [decide_eq_false (fun c => by subst c; exact h rfl)]
    ((with_reducible refine e_condT ?_))
    (first | refine e_ret (()) rfl ?_ | refine e_retT (()) ?_)
    (repeat (first | exact Imp.refl | exact Imp.nil | (apply Imp.pick; (focus ((repeat constructor); done))) | refine Imp.drop ?_))
  have hlen : x.length = y.length := by omega
  ((with_reducible refine e_condF ?_))
  refine e_loop1 (fun m z => [all [pu (∃ i : Nat, m + i = x.length ∧ z = .int .i64 (i : Int) ∧ x.take i = y.take i), A, B]] ++ F) x.length ?_ ?_
  · refine Imp.all ?_
    (try simp only [List.cons_append, List.nil_append, -eq_self])
    exact .pu ⟨0, by omega, rfl, rfl⟩ .refl
  intro m ds z
  (try simp only [List.cons_append, List.nil_append, -eq_self])
  refine e_all Pick.here ?_
  (try simp only [List.cons_append, List.nil_append, -eq_self])
  refine e_pu Pick.here fun hi => ?_
  obtain ⟨i, hmi, rfl, he⟩ := hi
  (((with_reducible refine e_opN v_len Imp.nil ?_)))
  (refine e_ask v_lss Imp.nil (fun h => ?_) (fun h => ?_))
  · have hix : i < x.length := by omega
    have hiy : i < y.length := by omega
    obtain ⟨ga, oa, rfl, _⟩ := hx.at_ (by omega)
    obtain ⟨gb, ob, rfl, _⟩ := hy.at_ (by omega)
    ((with_reducible refine e_condT ?_)); ((with_reducible refine e_drS ?_))
    refine e_stS (v_ia1 i (by rfl) hix) Imp.nil ?_
    refine e_stS (v_ldRd hx (I_get hix)) (.pick .here .nil) ?_
    refine e_stS (v_ia1 i (by rfl) hiy) Imp.nil ?_
    refine e_stS (v_ldRd hy (I_get hiy)) (.pick (.there .here) .nil) ?_
    refine e_askS v_neq Imp.nil (fun h => ?_) (fun h => ?_)
    · rw [decide_eq_false (fun c => by subst c; exact h rfl)]
      ((with_reducible refine e_condT ?_))
      (first | refine e_ret (()) rfl ?_ | refine e_retT (()) ?_)
      (repeat (first | exact Imp.refl | exact Imp.nil | (apply Imp.pick; (focus ((repeat constructor); done))) | refine Imp.drop ?_))
    · ((with_reducible refine e_condF ?_)); (((with_reducible refine e_opN (v_add ?h1 ?h2) Imp.nil ?_); (case h1 => omega); (case h2 => omega)))
      refine e_next1 (m - 1) (by omega) (.all ?_)
      (try simp only [List.cons_append, List.nil_append, -eq_self])
      refine .pu ⟨i + 1, by omega, by norm_cast, ?_⟩ .refl
      rw [List.take_succ_eq_append_getElem hix, List.take_succ_eq_append_getElem hiy, he, Decidable.not_not.1 h]
  · have hie : i = x.length := by omega
    subst hie
    rw [List.take_length, hlen, List.take_length] at he
    rw [decide_eq_true he]
    ((with_reducible refine e_condF ?_))
    (first | refine e_ret (()) rfl ?_ | refine e_retT (()) ?_)
    (repeat (first | exact Imp.refl | exact Imp.nil | (apply Imp.pick; (focus ((repeat constructor); done))) | refine Imp.drop ?_))
end Go.Proofs.Ytehfblkpbadikaa.HF
