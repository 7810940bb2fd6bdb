/- The codes of lengths, the program's; whether they leave nothing. No conditions but those that each names. -/
import Derived.Test.YtehfblkpbadikaaHuff1
set_option linter.unusedVariables false
set_option linter.unusedSimpArgs false
namespace Go.Proofs.Ytehfblkpbadikaa.HF
open Go Go.Proofs Go.Proofs.Ytehfblkpbadikaa.Sh Go.Proofs.Ytehfblkpbadikaa.Sl Go.Proofs.Ytehfblkpbadikaa.T Go.Proofs.Ytehfblkpbadikaa.HM
/-- n numbers, by their places -/
def Ln (n : Nat) (f : Nat → Int) : List Value := (List.range n).map fun j => I (f j)
theorem Ln_len (n : Nat) (f : Nat → Int) : (Ln n f).length = n := by simp [Ln]
theorem Ln_get {n j : Nat} {f : Nat → Int} (h : j < n) : (Ln n f)[j]? = some (I (f j)) := by simp [Ln, h]
theorem Ln_ext {n : Nat} {f : Nat → Int} {m : List Value} (hm : m.length = n) (h : ∀ j, j < n → m[j]? = some (I (f j))) : Ln n f = m := by
  apply List.ext_getElem?
  intro j
  by_cases c : j < n
  · rw [Ln_get c, h j c]
  · rw [List.getElem?_eq_none (by rw [Ln_len]; omega), List.getElem?_eq_none (by omega)]
theorem Ln_congr {n : Nat} {f g : Nat → Int} (h : ∀ j, j < n → f j = g j) : Ln n f = Ln n g := Ln_ext (Ln_len n g) fun j hj => by rw [Ln_get hj, h j hj]
theorem Ln_set {n j : Nat} {f : Nat → Int} {v : Int} : (Ln n f).set j (I v) = Ln n fun i => if i = j then v else f i := by
  refine (Ln_ext (by simp [Ln_len]) fun i hi => ?_).symm
  rw [List.getElem?_set, Ln_len]
  by_cases c : j = i
  · subst c; simp [hi]
  · rw [if_neg c, Ln_get hi, if_neg (fun e => c e.symm)]
theorem Ln_zero (n : Nat) : List.replicate n (.int .i64 0) = Ln n fun _ => 0 := (Ln_ext (by simp) fun j hj => by rw [List.getElem?_replicate, if_pos hj]; rfl).symm
def cdR (l : List Int) : Int := if okL l then 0 else 30
def cdL (l : List Int) : List Int := if okL l then codes l else []
theorem Ln_codes (l : List Int) : Ln l.length (fun k => if k < l.length then (codeAt l k : Int) else 0) = (codes l).map I := Ln_ext (by rw [List.length_map, length_codes]) fun j hj => by
  rw [if_pos hj, List.getElem?_map, codes, List.getElem?_map, List.getElem?_range hj]; rfl
theorem pow15 {i : Nat} (h : i ≤ 15) : (2 : Nat) ^ i ≤ 32768 := Nat.le_trans (Nat.pow_le_pow_right (by omega) h) (by decide)
theorem nx_small {l : List Int} (h : okL l) {k : Nat} (hk : k ≤ 15) : nx l k ≤ 32768 := by
  match k, hk with
  | 0, _ => simp [nx]
  | k + 1, hk => have := h.fit hk; have := pow15 hk; omega
theorem codes_ {W : World} {a : Option Addr} {cap : Nat} {l : List Int} {A : HP} (hr : RdB W A a l.length (l.map I)) (hl : l.length ≤ 4611686018427387904) :
    Cn Try.prog 20 [.slice a l.length cap] W [A] (fun q : Option Addr × Nat => .tuple #[.slice q.1 (cdL l).length q.2, .int .i64 (cdR l)]) (fun q => [Sl 1 3 q.1 q.2 (cdL l).length ((cdL l).map I), A]) := by
  (refine S.huff_Codes_cn fun F => ?_; unfold S.huff_Codes; simp only [List.cons_append, List.nil_append])
  (refine' e_call (counts hr hl) ?hp fun _ => ?_; (case hp => (repeat (first | exact Picks.nil | (apply Picks.cons; (focus (repeat constructor)))))); (try simp only [List.cons_append, List.nil_append, Bool.not_true, Bool.not_false]))
  rename_i f
  refine e_pu Pick.here fun hf => ?_
  obtain ⟨hf1, hf2⟩ := hf
  refine e_opN (v_ext (v := .agg (A16 f)) rfl) Imp.nil ?_
  refine e_opN (v_ext (v := .bool (decide (okL l))) rfl) Imp.nil ?_
  refine e_newA fun g => ?_
  refine e_stAgg .here (by rfl) (An_size 16 f) one16 ?_
  by_cases hok : ¬ okL l
  · rw [decide_eq_false hok]
    have hR : cdR l = 30 := by simp [cdR, hok]
    have hB : cdL l = [] := by simp [cdL, hok]
    rw [hR, hB]
    (((with_reducible refine e_opN v_notF Imp.nil ?_))); ((with_reducible refine e_condT ?_))
    (first | refine e_ret ((none, 0)) rfl ?_ | refine e_retT ((none, 0)) ?_)
    refine imp_nil ?_
    (repeat (first | exact Imp.refl | exact Imp.nil | (apply Imp.pick; (focus ((repeat constructor); done))) | refine Imp.drop ?_))
  have hok := Decidable.not_not.1 hok
  rw [decide_eq_true hok]
  have hR : cdR l = 0 := by simp [cdR, hok]
  have hB : cdL l = codes l := by simp [cdL, hok]
  have hlen := hok.len
  have hcl := length_codes l
  rw [hR, hB]
  have hf := hf1 hok
  refine e_opN v_not Imp.nil ?_
  refine e_condF ?_
  refine e_opN (v_iaA 0 (by rfl) (by omega)) Imp.nil ?_
  refine e_st .here (by rw [A16, An_size]; omega) ?_
  rw [show (A16 f).setIfInBounds (0 + 0 * 1) (.int .i64 0) = A16 (fun j => if j = 0 then 0 else (cnt l j : Int)) from An_set.trans (An_congr fun j hj => by
    by_cases c : j = 0
    · rw [if_pos c, if_pos c]
    · rw [if_neg c, if_neg c, hf j hj])]
  refine e_newA fun g2 => ?_
  rw [z16]
  refine e_loop1 (fun m y => [ex fun i : Nat => all [pu (m + i = 16 ∧ 1 ≤ i ∧ y = .int .i64 (i : Int)), pt g2 (.cells (A16 fun j => if j < i then (nx l j : Int) else 0) 97 (0, 0)), pt g (.cells (A16 fun j => if j = 0 then 0 else (cnt l j : Int)) 97 (0, 0)), A]] ++ F) 15 ?_ ?_
  · refine Imp.ex 1 (.all ?_)
    (try simp only [List.cons_append, List.nil_append, -eq_self])
    refine .pu ⟨by omega, by omega, rfl⟩ ?_
    rw [show A16 (fun j => if j < 1 then (nx l j : Int) else 0) = A16 (fun _ => 0) from An_congr fun j hj => by
      by_cases c : j < 1
      · rw [if_pos c, show j = 0 by omega]; simp [nx]
      · rw [if_neg c]]
    (repeat (first | exact Imp.refl | exact Imp.nil | (apply Imp.pick; (focus ((repeat constructor); done))) | refine Imp.drop ?_))
  · intro m ds y
    (try simp only [List.cons_append, List.nil_append, -eq_self])
    refine e_ex Pick.here fun i => e_all Pick.here ?_
    (try simp only [List.cons_append, List.nil_append, -eq_self])
    refine e_pu Pick.here fun hi => ?_
    obtain ⟨hmi, hi1, rfl⟩ := hi
    (refine e_ask v_leq Imp.nil (fun h => ?_) (fun h => ?_))
    · have hi15 : i ≤ 15 := by omega
      obtain ⟨k, rfl⟩ : ∃ k, i = k + 1 := ⟨i - 1, by omega⟩
      have hk1 := nx_small hok (show k ≤ 15 by omega)
      have hk2 := nx_small hok hi15
      have hk3 := cnt_le k l
      ((with_reducible refine e_condT ?_)); ((with_reducible refine e_drS ?_)); (((with_reducible refine e_stS (v_sub ?h1 ?h2) Imp.nil ?_); (case h1 => omega); (case h2 => omega)))
      refine e_stS (v_iaA k (by omega) (by omega)) Imp.nil ?_
      refine e_stS (v_ld (v := I (nx l k)) (by rw [Nat.zero_add, Nat.mul_one, A16, An_get (by omega), if_pos (by omega)])) (.pick .here .nil) ?_
      (((with_reducible refine e_stS (v_sub ?h1 ?h2) Imp.nil ?_); (case h1 => omega); (case h2 => omega)))
      refine e_stS (v_iaA k (by omega) (by omega)) Imp.nil ?_
      refine e_stS (v_ld (v := I (if k = 0 then 0 else (cnt l k : Int))) (by rw [Nat.zero_add, Nat.mul_one, A16, An_get (by omega)])) (.pick (.there .here) .nil) ?_
      have hs : ((nx l k : Int) + (if k = 0 then 0 else (cnt l k : Int))) * 2 = (nx l (k + 1) : Int) := by
        match k with
        | 0 => simp [nx]
        | k + 1 => rw [if_neg (by omega), nx]; push_cast; omega
      obtain ⟨c, hc⟩ : ∃ c, c = (if k = 0 then 0 else (cnt l k : Int)) := ⟨_, rfl⟩
      rw [← hc] at hs ⊢
      refine e_stS (v_add (by omega) (by omega)) Imp.nil ?_
      refine e_stS (v_shl (by omega)) Imp.nil ?_
      rw [show ((nx l k : Int) + c) * 2 ^ (min ((1 : Int)).toNat IntKind.i64.bits) = (nx l (k + 1) : Int) by rw [← hs]; rfl, w64 (by omega) (by omega)]
      refine e_stS (v_iaA (k + 1) (by norm_cast) (by omega)) Imp.nil ?_
      refine e_st .here (by rw [A16, An_size]; omega) ?_
      rw [show (A16 fun j => if j < k + 1 then (nx l j : Int) else 0).setIfInBounds (0 + (k + 1) * 1) (.int .i64 (nx l (k + 1) : Int)) = A16 (fun j => if j < k + 1 + 1 then (nx l j : Int) else 0) from by
        rw [Nat.zero_add, Nat.mul_one]
        refine An_set.trans (An_congr fun j hj => ?_)
        by_cases e : j = k + 1
        · subst e; rw [if_pos rfl, if_pos (by omega)]
        · rw [if_neg e]
          by_cases e2 : j < k + 1
          · rw [if_pos e2, if_pos (by omega)]
          · rw [if_neg e2, if_neg (by omega)]]
      (((with_reducible refine e_opN (v_add ?h1 ?h2) Imp.nil ?_); (case h1 => omega); (case h2 => omega)))
      refine e_next1 (m - 1) (by omega) (.ex (k + 1 + 1) (.all ?_))
      (try simp only [List.cons_append, List.nil_append, -eq_self])
      exact .pu ⟨by omega, by omega, by norm_cast⟩ .refl
    · have : i = 16 := by omega
      subst this
      ((with_reducible refine e_condF ?_)); (((with_reducible refine e_opN v_len Imp.nil ?_)))
      refine e_mksl l.length l.length (by rfl) (by rfl) (by omega) (by omega) (by unfold maxLen; omega) fun g3 => ?_
      rw [Ln_zero]
      (((with_reducible refine e_opN v_len Imp.nil ?_)))
      refine e_loop1 (fun m y => [ex fun i : Nat => all [pu (m + i = l.length ∧ y = .int .i64 (i : Int)), Sl 1 3 (some ⟨g3, 0, none⟩) l.length l.length (Ln l.length fun k => if k < i then (codeAt l k : Int) else 0), pt g2 (.cells (A16 fun j => if j = 0 then 0 else (cur l j i : Int)) 97 (0, 0)), A]] ++ F) l.length ?_ ?_
      · refine Imp.ex 0 (.all ?_)
        (try simp only [List.cons_append, List.nil_append, -eq_self])
        refine .pu ⟨by omega, rfl⟩ ?_
        rw [show A16 (fun j => if j = 0 then 0 else (cur l j 0 : Int)) = A16 (fun j => if j < 16 then (nx l j : Int) else 0) from An_congr fun j hj => by
          rw [if_pos hj]
          by_cases c : j = 0
          · rw [if_pos c, c]; simp [nx]
          · rw [if_neg c]; simp [cur, cnt]]
        (repeat (first | exact Imp.refl | exact Imp.nil | (apply Imp.pick; (focus ((repeat constructor); done))) | refine Imp.drop ?_))
      · intro m ds y
        (try simp only [List.cons_append, List.nil_append, -eq_self])
        refine e_ex Pick.here fun i => e_all Pick.here ?_
        (try simp only [List.cons_append, List.nil_append, -eq_self])
        refine e_pu Pick.here fun hi => ?_
        obtain ⟨hmi, rfl⟩ := hi
        (refine e_ask v_lss Imp.nil (fun h => ?_) (fun h => ?_))
        · have hil : i < l.length := by omega
          obtain ⟨ga, oa, rfl, _⟩ := hr.at_ (by omega)
          refine e_condT ?_
          refine e_opN (v_ia1 i (by rfl) hil) Imp.nil ?_
          refine e_opN (v_ldRd hr (I_get hil)) (.pick (.there (.there .here)) .nil) ?_
          have hin := hok.ins l[i] (List.getElem_mem hil)
          (refine e_ask v_gtr Imp.nil (fun h => ?_) (fun h => ?_))
          · obtain ⟨x, hx⟩ := Int.eq_ofNat_of_zero_le (show 0 ≤ l[i] by omega)
            have hx15 : x < 16 := by omega
            have hcu := hok.cur_lt' hil hx (by omega) (by omega)
            have h15 := pow15 (show x ≤ 15 by omega)
            ((with_reducible refine e_condT ?_))
            refine e_opN (v_iaA x hx hx15) Imp.nil ?_
            refine e_opN (v_ld (v := I (cur l x i)) (by rw [Nat.zero_add, Nat.mul_one, A16, An_get hx15, if_neg (by omega)])) (.pick (.there .here) .nil) ?_
            refine e_opN (v_ia1 i (by rfl) hil) Imp.nil ?_
            refine e_stSl .here (by rw [Ln_len]; omega) ?_
            rw [show (Ln l.length fun k => if k < i then (codeAt l k : Int) else 0).set (0 + i) (I (cur l x i)) = Ln l.length (fun k => if k < i + 1 then (codeAt l k : Int) else 0) from by
              rw [Nat.zero_add]
              refine Ln_set.trans (Ln_congr fun j hj => ?_)
              by_cases e : j = i
              · subst e; rw [if_pos rfl, if_pos (by omega), codeAt_pos hil hx (by omega)]
              · rw [if_neg e]
                by_cases e2 : j < i
                · rw [if_pos e2, if_pos (by omega)]
                · rw [if_neg e2, if_neg (by omega)]]
            refine e_opN (v_iaA x hx hx15) Imp.nil ?_
            refine e_opN (v_ld (v := I (cur l x i)) (by rw [Nat.zero_add, Nat.mul_one, A16, An_get hx15, if_neg (by omega)])) (.pick (.there .here) .nil) ?_
            refine e_opN (v_add (by omega) (by omega)) Imp.nil ?_
            refine e_opN (v_iaA x hx hx15) Imp.nil ?_
            refine e_st (.there .here) (by rw [A16, An_size]; omega) ?_
            rw [show (A16 fun j => if j = 0 then 0 else (cur l j i : Int)).setIfInBounds (0 + x * 1) (.int .i64 ((cur l x i : Int) + 1)) = A16 (fun j => if j = 0 then 0 else (cur l j (i + 1) : Int)) from by
              rw [Nat.zero_add, Nat.mul_one]
              refine An_set.trans (An_congr fun j hj => ?_)
              rw [cur_succ hil]
              by_cases e : j = x
              · subst e; rw [if_pos rfl, if_neg (by omega), if_pos hx]; push_cast; rfl
              · rw [if_neg e, if_neg (show ¬ l[i] = (j : Int) by omega)]; simp]
            (((with_reducible refine e_opN (v_add ?h1 ?h2) Imp.nil ?_); (case h1 => omega); (case h2 => omega)))
            refine e_next1 (m - 1) (by omega) (.ex (i + 1) (.all ?_))
            (try simp only [List.cons_append, List.nil_append, -eq_self])
            refine .pu ⟨by omega, by norm_cast⟩ ?_
            (repeat (first | exact Imp.refl | exact Imp.nil | (apply Imp.pick; (focus ((repeat constructor); done))) | refine Imp.drop ?_))
          · ((with_reducible refine e_condF ?_)); (((with_reducible refine e_opN (v_add ?h1 ?h2) Imp.nil ?_); (case h1 => omega); (case h2 => omega)))
            refine e_next1 (m - 1) (by omega) (.ex (i + 1) (.all ?_))
            (try simp only [List.cons_append, List.nil_append, -eq_self])
            refine .pu ⟨by omega, by norm_cast⟩ ?_
            rw [show (Ln l.length fun k => if k < i + 1 then (codeAt l k : Int) else 0) = Ln l.length (fun k => if k < i then (codeAt l k : Int) else 0) from Ln_congr fun j hj => by
              by_cases e : j = i
              · subst e; rw [if_pos (by omega), if_neg (by omega), codeAt_zero hil (by omega)]; rfl
              · by_cases e2 : j < i
                · rw [if_pos e2, if_pos (by omega)]
                · rw [if_neg e2, if_neg (by omega)]]
            rw [show A16 (fun j => if j = 0 then 0 else (cur l j (i + 1) : Int)) = A16 (fun j => if j = 0 then 0 else (cur l j i : Int)) from An_congr fun j hj => by
              by_cases e : j = 0
              · rw [if_pos e, if_pos e]
              · rw [if_neg e, if_neg e, cur_succ hil, if_neg (by omega)]; simp]
            (repeat (first | exact Imp.refl | exact Imp.nil | (apply Imp.pick; (focus ((repeat constructor); done))) | refine Imp.drop ?_))
        · have : i = l.length := by omega
          subst this
          refine e_condF ?_
          rw [Ln_codes]
          refine e_ret (some ⟨g3, 0, none⟩, l.length) (by rw [hcl]) ?_
          rw [hcl]
          (repeat (first | exact Imp.refl | exact Imp.nil | (apply Imp.pick; (focus ((repeat constructor); done))) | refine Imp.drop ?_))
end Go.Proofs.Ytehfblkpbadikaa.HF
