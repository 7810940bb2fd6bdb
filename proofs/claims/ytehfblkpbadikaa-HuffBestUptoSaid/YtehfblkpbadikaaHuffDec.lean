/- Decoders, the program's and the document's. No conditions but those that each names. -/
import Derived.Test.YtehfblkpbadikaaBitsRef2
import Derived.Test.YtehfblkpbadikaaHuff4
import Derived.Test.YtehfblkpbadikaaMapF
import Derived.Laws.StructEq
set_option linter.unusedVariables false
set_option linter.unusedSimpArgs false
namespace Go.Proofs.Ytehfblkpbadikaa.HF
open Go Go.Proofs Go.RowKit Go.Proofs.Ytehfblkpbadikaa.Sh Go.Proofs.Ytehfblkpbadikaa.Sl Go.Proofs.Ytehfblkpbadikaa.T Go.Proofs.Ytehfblkpbadikaa.HM Go.Proofs.Ytehfblkpbadikaa.B Go.Proofs.Ytehfblkpbadikaa.M
def encC (p : Int × Int) : Value := .agg #[.int .i64 p.1, .int .i64 p.2]
theorem keyC : KeyLaw Try.prog 109 encC where
  check := fun b k w => by
    unfold encC Instr.checkKey
    simp only [Sem.run_bind, Try.runUnderlying109, Result.andThen_ok]
    have hk : ∀ (v : Int) (w : World), (Instr.checkKey b 9999 3 (.int .i64 v)).run Try.prog w = .ok () w := fun v w => MapKept.run_checkKey (n := 9998) (d := .int .i64) (by kernel_rfl) (by simp [MapKept.IsKey]) b
    simp [part, Try.isAgg3, hk, Result.andThen]
  eq := fun k k' w => by
    have hs : Try.prog.stoodInHeld 109 = false := by kernel_rfl
    unfold encC Op.equal Op.maxDepth Op.equalIn
    have hp : (program).run Try.prog w = .ok Try.prog w := rfl
    simp only [Sem.run_bind, Try.runUnderlying109, Result.andThen_ok, hp, hs]
    have he : ∀ (a b : Int) (w : World), (Op.equalIn 9999 3 (.int .i64 a) (.int .i64 b)).run Try.prog w = .ok (a == b) w := fun a b w => run_equalIn_int w 9998 3 .i64 .i64 a b (by kernel_rfl)
    obtain ⟨k1, k2⟩ := k
    obtain ⟨l1, l2⟩ := k'
    simp [part, Try.isAgg3, he, Result.andThen]
    by_cases h1 : k1 = l1
    · subst h1
      by_cases h2 : k2 = l2
      · subst h2
        simp [Try.isAgg3, he, Result.andThen]
      · simp [Try.isAgg3, he, Result.andThen, h2]
    · simp [h1, Result.andThen]
  now := ⟨.struct (Try.prog.fieldsOf 109), by kernel_rfl, fun k k' => .inl rfl⟩
  same := fun k => by
    unfold encC Instr.sameBits
    simp [Instr.sameBits]
/-- the first symbol of a length with a code -/
def fL (l : List Int) (n c : Int) : Nat → Option Nat
  | 0 => none
  | k + 1 => match fL l n c k with
    | some j => some j
    | none => if 0 < n ∧ l[k]? = some n ∧ (codeAt l k : Int) = c then some k else none
theorem fL_up {l : List Int} {n c : Int} {k j : Nat} (h : fL l n c k = some j) : ∀ m, fL l n c (k + m) = some j
  | 0 => h
  | m + 1 => by rw [← Nat.add_assoc, fL, fL_up h m]
theorem fL_sound {l : List Int} {n c : Int} : ∀ {k j : Nat}, fL l n c k = some j → j < k ∧ 0 < n ∧ l[j]? = some n ∧ (codeAt l j : Int) = c
  | 0, j, h => by cases h
  | k + 1, j, h => by
    unfold fL at h
    cases hk : fL l n c k with
    | some i =>
      rw [hk] at h
      have := Option.some.inj h
      subst this
      obtain ⟨h1, h2⟩ := fL_sound hk
      exact ⟨by omega, h2⟩
    | none =>
      rw [hk] at h
      simp only at h
      by_cases hc : 0 < n ∧ l[k]? = some n ∧ (codeAt l k : Int) = c
      · rw [if_pos hc] at h
        have := Option.some.inj h
        subst this
        exact ⟨by omega, hc⟩
      · rw [if_neg hc] at h; cases h
theorem fL_none {l : List Int} {n c : Int} : ∀ {k : Nat}, fL l n c k = none → ∀ j, j < k → ¬ (0 < n ∧ l[j]? = some n ∧ (codeAt l j : Int) = c)
  | 0, h, j, hj => by omega
  | k + 1, h, j, hj => by
    unfold fL at h
    cases hk : fL l n c k with
    | some i => rw [hk] at h; cases h
    | none =>
      rw [hk] at h
      simp only at h
      by_cases c1 : j = k
      · subst c1
        intro hc
        rw [if_pos hc] at h; cases h
      · exact fL_none hk j (by omega)
/-- codes are apart, as the search sees them -/
theorem fL_apart {l : List Int} (hin : inL l) {k : Nat} (hk : k < l.length) (hp : 0 < l[k]) : fL l l[k] (codeAt l k) k = none := by
  cases h : fL l l[k] (codeAt l k) k with
  | none => rfl
  | some j =>
    obtain ⟨h1, h2, h3, h4⟩ := fL_sound h
    obtain ⟨n, hn⟩ := Int.eq_ofNat_of_zero_le (show 0 ≤ l[k] by omega)
    have hj : j < l.length := by omega
    rw [List.getElem?_eq_getElem hj] at h3
    have h3 := Option.some.inj h3
    have := apart hj hk (by omega) (h3.trans hn) hn (by omega) (Nat.le_refl n)
    rw [Nat.sub_self, Nat.pow_zero, Nat.div_one] at this
    exact absurd (by exact_mod_cast h4.symm) this
def pos (l : List Int) : Prop := ∃ x ∈ l, 0 < x
instance (l : List Int) : Decidable (pos l) := by unfold pos; infer_instance
theorem wk_pos {l : List Int} (h : inL l) : 0 < wk l 15 ↔ pos l := by
  induction l with
  | nil => exact ⟨fun c => by simp [wk] at c, fun ⟨x, hx, _⟩ => by cases hx⟩
  | cons x l ih =>
    have ih := ih (fun y hy => h y (List.mem_cons_of_mem _ hy))
    have hx := h x List.mem_cons_self
    simp only [wk]
    by_cases c : 0 < x
    · rw [if_pos ⟨c, by omega⟩]
      have := Nat.two_pow_pos (15 - x.toNat)
      exact ⟨fun _ => ⟨x, List.mem_cons_self, c⟩, fun _ => by omega⟩
    · rw [if_neg (by omega), Nat.zero_add, ih]
      constructor
      · rintro ⟨y, hy, h2⟩; exact ⟨y, List.mem_cons_of_mem _ hy, h2⟩
      · rintro ⟨y, hy, h2⟩
        rcases List.mem_cons.1 hy with rfl | hy
        · exact absurd h2 c
        · exact ⟨y, hy, h2⟩
structure DecOK (l : List Int) (i : Nat) (m : List ((Int × Int) × Value)) : Prop where
  get : ∀ n c, getM (n, c) m = (fL l n c i).map fun j : Nat => Value.int .i64 (j : Int)
  emp : m = [] ↔ ¬ ∃ k, k < i ∧ ∃ x, l[k]? = some x ∧ 0 < x
/-- the program's decoder at p -/
def IsDec (p : Nat) (l : List Int) : HP := ex fun g : Nat => ex fun m : List ((Int × Int) × Value) => all [pt p (.cells #[.map (some g)] 82), MapIs g encC m, pu (DecOK l l.length m)]
/-- the document's -/
def IsDoc (p : Nat) (l : List Int) : HP := ex fun q : (Option Addr × Nat) × (Option Addr × Nat) => all [pt p (.cells #[.slice q.1.1 l.length q.1.2, .slice q.2.1 l.length q.2.2, .bool (decide (pos l))] 111), Sl 1 3 q.1.1 q.1.2 l.length (l.map I), Sl 1 3 q.2.1 q.2.2 l.length ((codes l).map I)]
section
variable {W : World} {A : HP} {a : Option Addr} {cap : Nat} {l : List Int}
theorem newDec (hr : RdB W A a l.length (l.map I)) (hok : okL l) :
    Cn Try.prog 35 [.slice a l.length cap] W [A] (fun p : Nat => .tuple #[.pointer (some ⟨p, 0, none⟩), .int .i64 0]) (fun p => [IsDec p l, A]) := by
  (refine S.huff_NewDecoder_cn fun F => ?_; unfold S.huff_NewDecoder; simp only [List.cons_append, List.nil_append])
  have hlen := hok.len
  have hR : cdR l = 0 := by simp [cdR, hok]
  have hB : cdL l = codes l := by simp [cdL, hok]
  have hcl := length_codes l
  (refine' e_call (codes_ hr (by omega)) ?hp fun _ => ?_; (case hp => (repeat (first | exact Picks.nil | (apply Picks.cons; (focus (repeat constructor)))))); (try simp only [List.cons_append, List.nil_append, Bool.not_true, Bool.not_false]))
  rename_i q
  obtain ⟨qa, qc⟩ := q
  rw [hR, hB, hcl]
  (try dsimp only)
  (((with_reducible refine' e_opN (v_extN ?hc) Imp.nil ?_); (case hc => (repeat (first | exact Nth.here | apply Nth.there))))); (((with_reducible refine' e_opN (v_extN ?hc) Imp.nil ?_); (case hc => (repeat (first | exact Nth.here | apply Nth.there)))))
  refine e_opN v_neq Imp.nil ?_
  rw [decide_eq_false (by omega)]
  ((with_reducible refine e_condF ?_))
  refine e_mkmap encC fun gm => ?_
  (((with_reducible refine e_opN v_rv Imp.nil ?_))); (((with_reducible refine e_boxA fun g => ?_))); (((with_reducible refine e_opN v_len Imp.nil ?_)))
  refine e_slfacts (.there (.there .here)) fun f1 f2 f3 f4 => ?_
  refine e_loop1 (fun m y => [ex fun i : Nat => ex fun mp : List ((Int × Int) × Value) => all [pu (m + i = l.length ∧ y = .int .i64 (i : Int) ∧ DecOK l i mp), MapIs gm encC mp, pt g (.cells #[.map (some gm)] 82), Sl 1 3 qa qc l.length ((codes l).map I), A]] ++ F) l.length ?_ ?_
  · refine .ex 0 (.ex [] (.all ?_))
    (try simp only [List.cons_append, List.nil_append, -eq_self])
    refine .pu ⟨by omega, rfl, fun n c => rfl, ⟨fun _ ⟨k, hk, _⟩ => by omega, fun _ => rfl⟩⟩ ?_
    exact .pick (by (repeat constructor)) (.pick (by (repeat constructor)) (.pick (by (repeat constructor)) (.pick (by (repeat constructor)) .refl)))
  intro m ds y
  (try simp only [List.cons_append, List.nil_append, -eq_self])
  refine e_ex Pick.here fun i => e_ex Pick.here fun mp => e_all Pick.here ?_
  (try simp only [List.cons_append, List.nil_append, -eq_self])
  refine e_pu Pick.here fun hi => ?_
  obtain ⟨hmi, rfl, hdec⟩ := hi
  (refine e_ask v_lss Imp.nil (fun h => ?_) (fun h => ?_))
  · have hil : i < l.length := by omega
    obtain ⟨ga, oa, rfl, _⟩ := hr.at_ (by omega)
    obtain ⟨gq, rfl⟩ := f4 (by omega)
    refine e_condT ?_
    refine e_opN (v_ia1 i (by rfl) hil) Imp.nil ?_
    refine e_opN (v_ldRd hr (I_get hil)) (.pick (by (repeat constructor)) .nil) ?_
    have hli : l[i]? = some l[i] := List.getElem?_eq_getElem hil
    (refine e_ask v_gtr Imp.nil (fun h => ?_) (fun h => ?_))
    · have hap := fL_apart hok.ins hil h
      have gi : ((codes l).map I)[0 + i]? = some (I (codeAt l i)) := by rw [Nat.zero_add, List.getElem?_map, codes, List.getElem?_map, List.getElem?_range hil]; rfl
      ((with_reducible refine e_condT ?_)); ((with_reducible refine e_drS ?_)); (((with_reducible refine e_stS v_nil Imp.nil ?_))); (((with_reducible refine e_stS v_fa0 Imp.nil ?_))); (((with_reducible refine' e_stS (v_ldN ?hc) ?hi ?_); (case hi => (repeat (first | exact Imp.refl | exact Imp.nil | (apply Imp.pick; (focus ((repeat constructor); done))) | refine Imp.drop ?_))); (case hc => (repeat (first | exact Nth.here | apply Nth.there)))))
      refine e_stS (v_ia1 i (by rfl) hil) Imp.nil ?_
      refine e_stS (v_ldSl gi) (.pick (by (repeat constructor)) .nil) ?_
      (((with_reducible refine e_stS v_rv Imp.nil ?_)))
      refine e_mapset (q := (l[i], (codeAt l i : Int))) keyC (by (repeat constructor)) ?_
      (((with_reducible refine e_opN (v_add ?h1 ?h2) Imp.nil ?_); (case h1 => omega); (case h2 => omega)))
      refine e_next1 (m - 1) (by omega) (.ex (i + 1) (.ex (setM (l[i], (codeAt l i : Int)) (.int .i64 (i : Int)) mp) (.all ?_)))
      (try simp only [List.cons_append, List.nil_append, -eq_self])
      refine .pu ⟨by omega, by norm_cast, fun n c => ?_, ⟨fun c => ?_, fun c => absurd ⟨i, by omega, l[i], hli, h⟩ c⟩⟩ ?_
      · rw [getM_setM, fL]
        by_cases e : (n, c) = (l[i], (codeAt l i : Int))
        · injection e with e1 e2
          subst e1; subst e2
          rw [if_pos rfl, hap]
          simp only
          rw [if_pos ⟨h, hli, by first | trivial | rfl⟩]; rfl
        · rw [if_neg e, hdec.get]
          cases hf : fL l n c i with
          | some j => rfl
          | none =>
            simp only
            rw [if_neg (fun d => e (by
              have d2 := d.2.1
              rw [hli] at d2
              rw [← Option.some.inj d2, ← d.2.2]))]
      · exfalso
        have : ∀ m : List ((Int × Int) × Value), setM (l[i], (codeAt l i : Int)) (.int .i64 (i : Int)) m ≠ [] := fun m => by
          cases m with
          | nil => simp [setM]
          | cons p m => unfold setM; split <;> simp
        exact this mp c
      · exact .pick (by (repeat constructor)) (.pick (by (repeat constructor)) (.pick (by (repeat constructor)) (.pick (by (repeat constructor)) .refl)))
    · ((with_reducible refine e_condF ?_)); (((with_reducible refine e_opN (v_add ?h1 ?h2) Imp.nil ?_); (case h1 => omega); (case h2 => omega)))
      refine e_next1 (m - 1) (by omega) (.ex (i + 1) (.ex mp (.all ?_)))
      (try simp only [List.cons_append, List.nil_append, -eq_self])
      refine .pu ⟨by omega, by norm_cast, fun n c => ?_, ?_⟩ ?_
      · rw [hdec.get, fL]
        cases hf : fL l n c i with
        | some j => rfl
        | none =>
          simp only
          rw [if_neg (fun d => by
            have d2 := d.2.1
            rw [hli] at d2
            have := Option.some.inj d2
            omega)]
      · rw [hdec.emp]
        constructor
        · rintro hn ⟨k, hk, x, hx, hx0⟩
          by_cases c : k = i
          · subst c
            rw [hli] at hx
            have := Option.some.inj hx
            omega
          · exact hn ⟨k, by omega, x, hx, hx0⟩
        · rintro hn ⟨k, hk, x, hx, hx0⟩
          exact hn ⟨k, by omega, x, hx, hx0⟩
      · exact .pick (by (repeat constructor)) (.pick (by (repeat constructor)) (.pick (by (repeat constructor)) (.pick (by (repeat constructor)) .refl)))
  · have hie : i = l.length := by omega
    subst hie
    ((with_reducible refine e_condF ?_))
    refine e_ret g rfl ?_
    refine .ex gm (.ex mp (.all ?_))
    (try simp only [List.cons_append, List.nil_append, -eq_self])
    exact .pick (by (repeat constructor)) (.pick (by (repeat constructor)) (.pu hdec (by (repeat (first | exact Imp.refl | exact Imp.nil | (apply Imp.pick; (focus ((repeat constructor); done))) | refine Imp.drop ?_)))))
theorem newDec0 (hr : RdB W A a l.length (l.map I)) (hl : l.length ≤ 4611686018427387904) (hok : ¬ okL l) :
    Cn Try.prog 35 [.slice a l.length cap] W [A] (fun _ : Unit => .tuple #[.pointer none, .int .i64 30]) (fun _ => [A]) := by
  (refine S.huff_NewDecoder_cn fun F => ?_; unfold S.huff_NewDecoder; simp only [List.cons_append, List.nil_append])
  have hR : cdR l = 30 := by simp [cdR, hok]
  (refine' e_call (codes_ hr hl) ?hp fun _ => ?_; (case hp => (repeat (first | exact Picks.nil | (apply Picks.cons; (focus (repeat constructor)))))); (try simp only [List.cons_append, List.nil_append, Bool.not_true, Bool.not_false]))
  rename_i q
  obtain ⟨qa, qc⟩ := q
  rw [hR]
  (try dsimp only)
  (((with_reducible refine' e_opN (v_extN ?hc) Imp.nil ?_); (case hc => (repeat (first | exact Nth.here | apply Nth.there))))); (((with_reducible refine' e_opN (v_extN ?hc) Imp.nil ?_); (case hc => (repeat (first | exact Nth.here | apply Nth.there)))))
  refine e_opN v_neq Imp.nil ?_
  rw [decide_eq_true (by omega)]
  ((with_reducible refine e_condT ?_))
  (first | refine e_ret (()) rfl ?_ | refine e_retT (()) ?_)
  (repeat (first | exact Imp.refl | exact Imp.nil | (apply Imp.pick; (focus ((repeat constructor); done))) | refine Imp.drop ?_))
theorem newDoc0 (hr : RdB W A a l.length (l.map I)) (hl : l.length ≤ 1099511627776) (hok : ¬ okL l) :
    Cn Try.prog 36 [.slice a l.length cap] W [A] (fun _ : Unit => .tuple #[.pointer none, .int .i64 30]) (fun _ => [A]) := by
  (refine S.ref03_NewDecoder_cn fun F => ?_; unfold S.ref03_NewDecoder; simp only [List.cons_append, List.nil_append])
  have hR : cdR l = 30 := by simp [cdR, hok]
  (refine' e_call (refCodes hr hl) ?hp fun _ => ?_; (case hp => (repeat (first | exact Picks.nil | (apply Picks.cons; (focus (repeat constructor)))))); (try simp only [List.cons_append, List.nil_append, Bool.not_true, Bool.not_false]))
  rename_i q
  obtain ⟨qa, qc⟩ := q
  rw [hR]
  (try dsimp only)
  (((with_reducible refine' e_opN (v_extN ?hc) Imp.nil ?_); (case hc => (repeat (first | exact Nth.here | apply Nth.there))))); (((with_reducible refine' e_opN (v_extN ?hc) Imp.nil ?_); (case hc => (repeat (first | exact Nth.here | apply Nth.there)))))
  refine e_opN v_neq Imp.nil ?_
  rw [decide_eq_true (by omega)]
  ((with_reducible refine e_condT ?_))
  (first | refine e_ret (()) rfl ?_ | refine e_retT (()) ?_)
  (repeat (first | exact Imp.refl | exact Imp.nil | (apply Imp.pick; (focus ((repeat constructor); done))) | refine Imp.drop ?_))
theorem newDoc (hr : RdB W A a l.length (l.map I)) (hok : okL l) :
    Cn Try.prog 36 [.slice a l.length cap] W [A] (fun p : Nat => .tuple #[.pointer (some ⟨p, 0, none⟩), .int .i64 0]) (fun p => [IsDoc p l, A]) := by
  (refine S.ref03_NewDecoder_cn fun F => ?_; unfold S.ref03_NewDecoder; simp only [List.cons_append, List.nil_append])
  have hlen := hok.len
  have hR : cdR l = 0 := by simp [cdR, hok]
  have hB : cdL l = codes l := by simp [cdL, hok]
  have hcl := length_codes l
  (refine' e_call (refCodes hr (by omega)) ?hp fun _ => ?_; (case hp => (repeat (first | exact Picks.nil | (apply Picks.cons; (focus (repeat constructor)))))); (try simp only [List.cons_append, List.nil_append, Bool.not_true, Bool.not_false]))
  rename_i q
  obtain ⟨qa, qc⟩ := q
  rw [hR, hB, hcl]
  (try dsimp only)
  refine e_opN (v_ext (v := .slice qa l.length qc) rfl) Imp.nil ?_
  refine e_opN (v_ext (v := .int .i64 0) rfl) Imp.nil ?_
  refine e_opN v_neq Imp.nil ?_
  rw [decide_eq_false (by omega)]
  ((with_reducible refine e_condF ?_))
  (refine' e_call (weight hr (by omega)) ?hp fun _ => ?_; (case hp => (repeat (first | exact Picks.nil | (apply Picks.cons; (focus (repeat constructor)))))); (try simp only [List.cons_append, List.nil_append, Bool.not_true, Bool.not_false]))
  refine e_opN (v_ext (v := .int .i64 (wsm l)) rfl) Imp.nil ?_
  refine e_opN (v_ext (v := .bool (decide (okL l))) rfl) Imp.nil ?_
  refine e_bslN (vs := []) rfl rfl (by simp) (by omega) fun g0 => ?_
  refine e_own (s := 1) (n := 0) .here (by rfl) (by unfold maxLen; omega) ?_
  refine e_app (m := l.length) (news := l.map I) .here (src_rd (A := A) (e' := 3) (by kernel_rfl) (by (repeat constructor)) hr (fun c => RdB.none hr c) I_one) (by omega) (by omega) fun a' c' => ?_
  rw [Nat.zero_add, List.nil_append]
  refine e_opN v_gtr Imp.nil ?_
  rw [show decide (0 < wsm l) = decide (pos l) from decide_eq_decide.2 (by rw [wsm, if_pos hok.ins, ← wk_pos hok.ins]; omega)]
  (((with_reducible refine e_opN v_rv Imp.nil ?_))); (((with_reducible refine e_boxA fun g => ?_)))
  refine e_ret g rfl ?_
  refine .ex ((a', c'), (qa, qc)) (.all ?_)
  (try simp only [List.cons_append, List.nil_append, -eq_self])
  exact .pick (by (repeat constructor)) (.pick (by (repeat constructor)) (.pick (by (repeat constructor)) (by (repeat (first | exact Imp.refl | exact Imp.nil | (apply Imp.pick; (focus ((repeat constructor); done))) | refine Imp.drop ?_)))))
end
end Go.Proofs.Ytehfblkpbadikaa.HF
