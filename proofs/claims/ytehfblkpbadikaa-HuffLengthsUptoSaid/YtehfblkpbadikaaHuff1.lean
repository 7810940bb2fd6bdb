/- The counts of lengths and the codes, the program's. No conditions but those that each names. -/
import Derived.Test.YtehfblkpbadikaaTypes
import Derived.Test.YtehfblkpbadikaaShapes
import Derived.Test.YtehfblkpbadikaaInts
import Derived.Test.YtehfblkpbadikaaHuffM
set_option linter.unusedVariables false
set_option linter.unusedSimpArgs false
namespace Go.Proofs.Ytehfblkpbadikaa.HF
open Go Go.Proofs Go.Proofs.Ytehfblkpbadikaa.Sh Go.Proofs.Ytehfblkpbadikaa.Sl Go.Proofs.Ytehfblkpbadikaa.T Go.Proofs.Ytehfblkpbadikaa.HM
def A16 (f : Nat → Int) : Array Value := An 16 f
theorem z16 : (#[.int .i64 0, .int .i64 0, .int .i64 0, .int .i64 0, .int .i64 0, .int .i64 0, .int .i64 0, .int .i64 0, .int .i64 0, .int .i64 0, .int .i64 0, .int .i64 0, .int .i64 0, .int .i64 0, .int .i64 0, .int .i64 0] : Array Value) = A16 fun _ => 0 := by rfl
theorem one16 {f : Nat → Int} : ∀ u ∈ (A16 f).toList, u.oneCell' = true := by
  intro u hu
  simp only [A16, An] at hu
  obtain ⟨j, _, rfl⟩ := List.mem_map.1 hu
  rfl
theorem counts {W : World} {a : Option Addr} {cap : Nat} {l : List Int} {A : HP} (hr : RdB W A a l.length (l.map I)) (hl : l.length ≤ 4611686018427387904) :
    Cn Try.prog 50 [.slice a l.length cap] W [A] (fun f : Nat → Int => .tuple #[.agg (A16 f), .bool (decide (okL l))]) (fun f => [pu ((okL l → ∀ j, j < 16 → f j = cnt l j) ∧ ∀ j, 0 ≤ f j ∧ f j ≤ 320), A]) := by
  (refine S.huff_counts_cn fun F => ?_; unfold S.huff_counts; simp only [List.cons_append, List.nil_append])
  (((with_reducible refine e_newA fun g => ?_))); (((with_reducible refine e_opN v_len Imp.nil ?_)))
  rw [z16]
  have fin : ∀ (f : Nat → Int) (b : Bool), b = decide (okL l) → (okL l → ∀ j, j < 16 → f j = cnt l j) → (∀ j, 0 ≤ f j ∧ f j ≤ 320) → Ent W (pt g (.cells (A16 f) 97 (0, 0)) :: A :: F) (opN Try.prog (sStore 97 (.pointer (some ⟨g, 0, none⟩)) (.agg (A16 f))) noP fun _ =>
      (stS Try.prog (sRes 97 (.pointer (some ⟨g, 0, none⟩))) fun r0 => fun w => ∃ x : Nat → Int, (.tuple #[r0, (.bool b)] : Value) = .tuple #[.agg (A16 x), .bool (decide (okL l))] ∧ sat W ([pu ((okL l → ∀ j, j < 16 → x j = cnt l j) ∧ ∀ j, 0 ≤ x j ∧ x j ≤ 320), A] ++ F) w)) := by
    intro f b hb h1 h2
    refine e_stAgg .here (An_size 16 f) (An_size 16 f) one16 ?_
    refine e_stS (v_resA (An_size 16 f)) (.pick .here .nil) ?_
    subst hb
    refine e_ret f rfl ?_
    exact .pu ⟨h1, h2⟩ (.drop .refl)
  (refine e_ask v_gtr Imp.nil (fun h => ?_) (fun h => ?_))
  · ((with_reducible refine e_condT ?_)); (((with_reducible refine' e_opN (v_ldAgg ?hn) ?hi ?_); (case hi => (repeat (first | exact Imp.refl | exact Imp.nil | (apply Imp.pick; (focus ((repeat constructor); done))) | refine Imp.drop ?_))); (case hn => rfl)))
    refine fin _ _ (by rw [decide_eq_false (fun c => by have := c.len; omega)]) (fun c => by have := c.len; omega) (fun j => by omega)
  refine e_condF ?_
  (((with_reducible refine e_opN v_len Imp.nil ?_)))
  have hlen : l.length ≤ 320 := by omega
  refine e_loop1 (fun m y => [ex fun i : Nat => all [pu (m + i = l.length ∧ y = .int .i64 (i : Int) ∧ ∀ k (hk : k < l.length), k < i → 0 ≤ l[k] ∧ l[k] ≤ 15), pt g (.cells (A16 fun j => (cnt (l.take i) j : Int)) 97 (0, 0)), A]] ++ F) l.length ?_ ?_
  · refine Imp.ex 0 (.all ?_)
    (try simp only [List.cons_append, List.nil_append, -eq_self])
    exact .pu ⟨by omega, rfl, fun k hk h => by omega⟩ .refl
  intro m ds y
  (try simp only [List.cons_append, List.nil_append, -eq_self])
  refine e_ex Pick.here fun i => e_all Pick.here ?_
  (try simp only [List.cons_append, List.nil_append, -eq_self])
  refine e_pu Pick.here fun hi => ?_
  obtain ⟨hmi, rfl, hin⟩ := hi
  have hb320 : ∀ j, (0 : Int) ≤ (cnt (l.take i) j : Int) ∧ (cnt (l.take i) j : Int) ≤ 320 := fun j => by
    have := cnt_le j (l.take i)
    rw [List.length_take] at this; omega
  (refine e_ask v_lss Imp.nil (fun h => ?_) (fun h => ?_))
  · have hil : i < l.length := by omega
    obtain ⟨ga, oa, rfl, _⟩ := hr.at_ (by omega)
    refine e_condT ?_
    refine e_opN (v_ia1 i (by rfl) hil) Imp.nil ?_
    refine e_opN (v_ldRd hr (I_get hil)) (.pick (.there .here) .nil) ?_
    (refine e_ask v_lss Imp.nil (fun h => ?_) (fun h => ?_))
    · ((with_reducible refine e_gdF1 ?_)); ((with_reducible refine e_gdF1 ?_)); (((with_reducible refine e_opN v_pickT Imp.nil ?_))); ((with_reducible refine e_condT ?_)); (((with_reducible refine' e_opN (v_ldAgg ?hn) ?hi ?_); (case hi => (repeat (first | exact Imp.refl | exact Imp.nil | (apply Imp.pick; (focus ((repeat constructor); done))) | refine Imp.drop ?_))); (case hn => rfl)))
      exact fin _ _ (by rw [decide_eq_false (fun c => by have := c.ins l[i] (List.getElem_mem hil); omega)]) (fun c => by have := c.ins l[i] (List.getElem_mem hil); omega) hb320
    have h0 := h
    ((with_reducible refine e_gdT ?_)); ((with_reducible refine e_gdT ?_))
    (refine e_ask v_gtr Imp.nil (fun h => ?_) (fun h => ?_))
    · (((with_reducible refine e_opN v_pickF Imp.nil ?_))); ((with_reducible refine e_condT ?_)); (((with_reducible refine' e_opN (v_ldAgg ?hn) ?hi ?_); (case hi => (repeat (first | exact Imp.refl | exact Imp.nil | (apply Imp.pick; (focus ((repeat constructor); done))) | refine Imp.drop ?_))); (case hn => rfl)))
      exact fin _ _ (by rw [decide_eq_false (fun c => by have := c.ins l[i] (List.getElem_mem hil); omega)]) (fun c => by have := c.ins l[i] (List.getElem_mem hil); omega) hb320
    have h1 := h
    obtain ⟨x, hx⟩ := Int.eq_ofNat_of_zero_le (show 0 ≤ l[i] by omega)
    have hx15 : x < 16 := by omega
    (((with_reducible refine e_opN v_pickF Imp.nil ?_))); ((with_reducible refine e_condF ?_))
    refine e_opN (v_iaA x hx hx15) Imp.nil ?_
    rw [Nat.zero_add, Nat.mul_one]
    refine e_opN (v_ld (An_get hx15)) (.pick .here .nil) ?_
    refine e_opN (v_add (by have := hb320 x; omega) (by have := hb320 x; omega)) Imp.nil ?_
    refine e_opN (v_iaA x hx hx15) Imp.nil ?_
    rw [Nat.zero_add, Nat.mul_one]
    refine e_st .here (by rw [A16, An_size]; exact hx15) ?_
    (((with_reducible refine e_opN (v_add ?h1 ?h2) Imp.nil ?_); (case h1 => omega); (case h2 => omega)))
    refine e_next1 (m - 1) (by omega) (.ex (i + 1) (.all ?_))
    (try simp only [List.cons_append, List.nil_append, -eq_self])
    refine .pu ⟨by omega, by norm_cast, fun k hk hki => ?_⟩ ?_
    · by_cases c : k = i
      · subst c; omega
      · exact hin k hk (by omega)
    · have e : (A16 fun j => (cnt (l.take i) j : Int)).setIfInBounds x (.int .i64 ((cnt (l.take i) x : Int) + 1)) = A16 fun j => (cnt (l.take (i + 1)) j : Int) := by
        refine An_set.trans (An_congr fun j hj => ?_)
        rw [cnt_take_succ hil]
        by_cases c : j = x
        · subst c; rw [if_pos rfl, if_pos hx]; push_cast; rfl
        · rw [if_neg c, if_neg (by omega)]; simp
      rw [e]
      (repeat (first | exact Imp.refl | exact Imp.nil | (apply Imp.pick; (focus ((repeat constructor); done))) | refine Imp.drop ?_))
  · have hie : i = l.length := by omega
    subst hie
    rw [List.take_length]
    rw [List.take_length] at hb320
    have hins : inL l := fun x hx => by
      obtain ⟨k, hk, rfl⟩ := List.mem_iff_getElem.1 hx
      exact hin k hk (by omega)
    refine e_condF ?_
    refine e_opN (v_slA (l := 1) (by rfl) (by omega)) Imp.nil ?_
    (((with_reducible refine e_opN v_len Imp.nil ?_)))
    have hrd : RdB W (pt g (.cells (A16 fun j => (cnt l j : Int)) 97 (0, 0))) (some ⟨g, 1 * 1, none⟩) 15 ((List.range 15).map fun j => I (cnt l (1 + j))) := rd_cut (n := 16) (f := fun j => (cnt l j : Int)) (rd_pt (by simp)) (by omega)
    refine e_loop2 (fun m x y => [all [pu (∃ i : Nat, m + i = 15 ∧ i ≤ 15 ∧ y = .int .i64 (i : Int) ∧ x = .int .i64 (room l i) ∧ ∀ k, k ≤ i → 0 ≤ room l k), pt g (.cells (A16 fun j => (cnt l j : Int)) 97 (0, 0)), A]] ++ F) 15 ?_ ?_
    · refine Imp.all ?_
      (try simp only [List.cons_append, List.nil_append, -eq_self])
      exact .pu ⟨0, by omega, by omega, rfl, rfl, fun k hk => by rw [show k = 0 by omega]; simp [room]⟩ .refl
    intro m ds x y
    (try simp only [List.cons_append, List.nil_append, -eq_self])
    refine e_all Pick.here ?_
    (try simp only [List.cons_append, List.nil_append, -eq_self])
    refine e_pu Pick.here fun hi => ?_
    obtain ⟨i, hmi, hi15, rfl, rfl, hrm⟩ := hi
    have hr0 := hrm i (Nat.le_refl _)
    have hr1 := room_le l i
    have h2i : (2 : Int) ^ i ≤ 32768 := by
      have h1 : (2 : Nat) ^ i ≤ 32768 := Nat.le_trans (Nat.pow_le_pow_right (by omega) hi15) (by decide)
      have h2 : ((2 ^ i : Nat) : Int) = 2 ^ i := Int.natCast_pow 2 i
      omega
    (refine e_ask v_lss Imp.nil (fun h => ?_) (fun h => ?_))
    · have hi14 : i < 15 := by omega
      refine e_condT ?_
      refine e_opN (v_ia1 i (by rfl) (by omega)) Imp.nil ?_
      refine e_opN (v_ldRd hrd (v := I (cnt l (1 + i))) (by rw [List.getElem?_map, List.getElem?_range hi14]; rfl)) (.pick .here .nil) ?_
      have hc := hb320 (1 + i)
      (((with_reducible refine e_opN (v_mul ?h1 ?h2) Imp.nil ?_); (case h1 => omega); (case h2 => omega))); (((with_reducible refine e_opN (v_sub ?h1 ?h2) Imp.nil ?_); (case h1 => omega); (case h2 => omega)))
      have hroom : 2 * room l i - (cnt l (1 + i) : Int) = room l (i + 1) := by rw [room, Nat.add_comm 1 i]
      rw [hroom]
      (refine e_ask v_lss Imp.nil (fun h => ?_) (fun h => ?_))
      · ((with_reducible refine e_condT ?_)); (((with_reducible refine' e_opN (v_ldAgg ?hn) ?hi ?_); (case hi => (repeat (first | exact Imp.refl | exact Imp.nil | (apply Imp.pick; (focus ((repeat constructor); done))) | refine Imp.drop ?_))); (case hn => rfl)))
        exact fin _ _ (by rw [decide_eq_false (fun c => by have := room_nonneg c.room (show i + 1 ≤ 15 by omega); omega)]) (fun _ j _ => rfl) hb320
      · refine e_condF ?_
        (((with_reducible refine e_opN (v_add ?h1 ?h2) Imp.nil ?_); (case h1 => omega); (case h2 => omega)))
        refine e_next2 (m - 1) (by omega) (.all ?_)
        (try simp only [List.cons_append, List.nil_append, -eq_self])
        refine .pu ⟨i + 1, by omega, by omega, by norm_cast, rfl, fun k hk => ?_⟩ .refl
        by_cases c : k = i + 1
        · subst c; omega
        · exact hrm k (by omega)
    · have hie : i = 15 := by omega
      subst hie
      ((with_reducible refine e_condF ?_)); (((with_reducible refine' e_opN (v_ldAgg ?hn) ?hi ?_); (case hi => (repeat (first | exact Imp.refl | exact Imp.nil | (apply Imp.pick; (focus ((repeat constructor); done))) | refine Imp.drop ?_))); (case hn => rfl)))
      exact fin _ _ (by rw [decide_eq_true ⟨hlen, hins, hr0⟩]) (fun _ j _ => rfl) hb320
end Go.Proofs.Ytehfblkpbadikaa.HF
