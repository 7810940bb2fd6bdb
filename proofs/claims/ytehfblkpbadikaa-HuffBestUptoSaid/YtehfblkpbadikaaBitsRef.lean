/- The Writer and the Reader of the document (package gatehouseref02). No conditions but those that each names. -/
import Derived.Test.YtehfblkpbadikaaBits3
import Derived.Test.YtehfblkpbadikaaMake
set_option linter.unusedVariables false
set_option linter.unusedSimpArgs false
namespace Go.Proofs.Ytehfblkpbadikaa.B
open Go Go.Proofs Go.Proofs.Ytehfblkpbadikaa.Sh Go.Proofs.Ytehfblkpbadikaa.Sl Go.Proofs.Ytehfblkpbadikaa.T Go.Proofs.Ytehfblkpbadikaa.M
def bb (b : Bool) : UInt8 := if b then 1 else 0
theorem B_bb (b : Bool) : B (bb b) = .int .u8 (b.toNat : Int) := by cases b <;> rfl
/-- the document's Writer at p has the bits l -/
def IsX (p : Nat) (l : List Bool) : HP := ex fun q : Option Addr × Nat => all [pt p (.cells #[.slice q.1 l.length q.2] 59), Sl 1 5 q.1 q.2 l.length (l.map fun b => B (bb b)), pu (l.length ≤ 8388608)]
theorem xNew {W : World} {p : Nat} : Imp W [pt p (.cells #[.slice none 0 0] 59)] [IsX p []] := by
  refine .ex (none, 0) (.all ?_)
  (try simp only [List.cons_append, List.nil_append])
  exact .pick .here (imp_nil (.pu (by simp) .refl))
theorem bad_iff {n k : Int} (h1 : ¬ k < 0) (h2 : ¬ 32 < k) (h3 : ¬ n < 0) : badP n k ↔ (((2 ^ k.toNat : Nat)) : Int) ≤ n := by
  unfold badP
  have : (2 : Int) ^ k.toNat = ((2 ^ k.toNat : Nat) : Int) := by norm_cast
  rw [this]
  constructor
  · rintro (h | h | h | h)
    · omega
    · omega
    · omega
    · exact h
  · exact fun h => .inr (.inr (.inr h))
theorem xPut {W : World} {p : Nat} {l : List Bool} {n k : Int} : Cn Try.prog 56 [.pointer (some ⟨p, 0, none⟩), .int .i64 n, .int .i64 k] W [IsX p l] (fun _ : Unit => .int .i64 (putR l n k)) (fun _ => [IsX p (putL l n k)]) := by
  (refine S.ref02_Writer_Put_cn fun F => ?_; unfold S.ref02_Writer_Put; simp only [List.cons_append, List.nil_append])
  have bad : badP n k → putR l n k = 1 ∧ putL l n k = l := fun hb => by
    have hR : putR l n k = 1 := by simp [putR, hb]
    exact ⟨hR, by simp [putL, hR]⟩
  (refine e_ask v_lss Imp.nil (fun h => ?_) (fun h => ?_))
  · ((with_reducible refine e_gdF1 ?_)); ((with_reducible refine e_gdF1 ?_)); (((with_reducible refine e_opN v_pickT Imp.nil ?_))); ((with_reducible refine e_gdF1 ?_)); ((with_reducible refine e_gdF1 ?_)); (((with_reducible refine e_opN v_pickT Imp.nil ?_))); ((with_reducible refine e_gdF1 ?_)); ((with_reducible refine e_gdF1 ?_)); ((with_reducible refine e_gdF1 ?_)); ((with_reducible refine e_gdF1 ?_)); ((with_reducible refine e_gdF1 ?_)); (((with_reducible refine e_opN v_pickT Imp.nil ?_))); ((with_reducible refine e_condT ?_))
    obtain ⟨e1, e2⟩ := bad (.inl h)
    rw [e1, e2]
    (first | refine e_ret (()) rfl ?_ | refine e_retT (()) ?_)
    (repeat (first | exact Imp.refl | exact Imp.nil | (apply Imp.pick; (focus ((repeat constructor); done))) | refine Imp.drop ?_))
  have h1 := h
  ((with_reducible refine e_gdT ?_)); ((with_reducible refine e_gdT ?_))
  (refine e_ask v_gtr Imp.nil (fun h => ?_) (fun h => ?_))
  · (((with_reducible refine e_opN v_pickF Imp.nil ?_))); ((with_reducible refine e_gdF1 ?_)); ((with_reducible refine e_gdF1 ?_)); (((with_reducible refine e_opN v_pickT Imp.nil ?_))); ((with_reducible refine e_gdF1 ?_)); ((with_reducible refine e_gdF1 ?_)); ((with_reducible refine e_gdF1 ?_)); ((with_reducible refine e_gdF1 ?_)); ((with_reducible refine e_gdF1 ?_)); (((with_reducible refine e_opN v_pickT Imp.nil ?_))); ((with_reducible refine e_condT ?_))
    obtain ⟨e1, e2⟩ := bad (.inr (.inl h))
    rw [e1, e2]
    (first | refine e_ret (()) rfl ?_ | refine e_retT (()) ?_)
    (repeat (first | exact Imp.refl | exact Imp.nil | (apply Imp.pick; (focus ((repeat constructor); done))) | refine Imp.drop ?_))
  have h2 := h
  (((with_reducible refine e_opN v_pickF Imp.nil ?_))); ((with_reducible refine e_gdT ?_)); ((with_reducible refine e_gdT ?_))
  (refine e_ask v_lss Imp.nil (fun h => ?_) (fun h => ?_))
  · (((with_reducible refine e_opN v_pickF Imp.nil ?_))); ((with_reducible refine e_gdF1 ?_)); ((with_reducible refine e_gdF1 ?_)); ((with_reducible refine e_gdF1 ?_)); ((with_reducible refine e_gdF1 ?_)); ((with_reducible refine e_gdF1 ?_)); (((with_reducible refine e_opN v_pickT Imp.nil ?_))); ((with_reducible refine e_condT ?_))
    obtain ⟨e1, e2⟩ := bad (.inr (.inr (.inl h)))
    rw [e1, e2]
    (first | refine e_ret (()) rfl ?_ | refine e_retT (()) ?_)
    (repeat (first | exact Imp.refl | exact Imp.nil | (apply Imp.pick; (focus ((repeat constructor); done))) | refine Imp.drop ?_))
  have h3 := h
  (((with_reducible refine e_opN v_pickF Imp.nil ?_))); ((with_reducible refine e_gdT ?_)); ((with_reducible refine e_gdT ?_)); ((with_reducible refine e_gdT ?_))
  have hbi := bad_iff h1 h2 h3
  obtain ⟨K, rfl⟩ := Int.eq_ofNat_of_zero_le (show 0 ≤ k by omega)
  obtain ⟨N, rfl⟩ := Int.eq_ofNat_of_zero_le (show 0 ≤ n by omega)
  refine e_opN v_conv Imp.nil ?_
  rw [wrapu64 (by omega)]
  ((with_reducible refine e_gdT ?_))
  refine e_opN (v_shl (by omega)) Imp.nil ?_
  have hm : min ((K : Int)).toNat IntKind.i64.bits = K := by simp only [IntKind.bits, Int.toNat_natCast]; omega
  have h32 : 2 ^ K ≤ 2 ^ 32 := Nat.pow_le_pow_right (by omega) (by omega)
  have hc : (2 : Int) ^ K = ((2 ^ K : Nat) : Int) := by norm_cast
  rw [Int.toNat_natCast] at hbi
  obtain ⟨E, hE⟩ : ∃ E, E = 2 ^ K := ⟨_, rfl⟩
  rw [← hE] at hc h32 hbi
  rw [hm, Int.one_mul, hc, w64 (by omega) (by omega)]
  ((with_reducible refine e_gdT ?_))
  (refine e_ask v_geq Imp.nil (fun h => ?_) (fun h => ?_))
  · (((with_reducible refine e_opN v_pickF Imp.nil ?_))); ((with_reducible refine e_condT ?_))
    obtain ⟨e1, e2⟩ := bad (hbi.2 h)
    rw [e1, e2]
    (first | refine e_ret (()) rfl ?_ | refine e_retT (()) ?_)
    (repeat (first | exact Imp.refl | exact Imp.nil | (apply Imp.pick; (focus ((repeat constructor); done))) | refine Imp.drop ?_))
  have h4 := h
  have hb : ¬ badP N K := fun c => h4 (hbi.1 c)
  refine e_ex Pick.here fun q => ?_
  obtain ⟨qa, qc⟩ := q
  refine e_all Pick.here ?_
  (try simp only [List.cons_append, List.nil_append])
  refine e_pu (.there (.there .here)) fun hL => ?_
  (((with_reducible refine e_opN v_pickF Imp.nil ?_))); ((with_reducible refine e_condF ?_)); (((with_reducible refine e_opN v_nil Imp.nil ?_))); (((with_reducible refine e_opN v_fa0 Imp.nil ?_))); (((with_reducible refine' e_opN (v_ldN ?hc) ?hi ?_); (case hi => (repeat (first | exact Imp.refl | exact Imp.nil | (apply Imp.pick; (focus ((repeat constructor); done))) | refine Imp.drop ?_))); (case hc => (repeat (first | exact Nth.here | apply Nth.there))))); (((with_reducible refine e_opN v_len Imp.nil ?_))); (((with_reducible refine e_opN (v_sub ?h1 ?h2) Imp.nil ?_); (case h1 => omega); (case h2 => omega)))
  (refine e_ask v_gtr Imp.nil (fun h => ?_) (fun h => ?_))
  · ((with_reducible refine e_condT ?_))
    have hR : putR l N K = 6 := by simp [putR, hb, h]
    rw [hR, show putL l N K = l by simp [putL, hR]]
    (first | refine e_ret (()) rfl ?_ | refine e_retT (()) ?_)
    refine .ex (qa, qc) (.all ?_)
    (try simp only [List.cons_append, List.nil_append])
    exact .pick .here (.pick .here (.pu hL .refl))
  have h5 := h
  ((with_reducible refine e_condF ?_))
  have hR : putR l N K = 0 := by simp [putR, hb, h5]
  have hPL : putL l N K = l ++ bitsOf N K := by simp [putL, hR]
  rw [hR, hPL]
  have hN : N < 4294967296 := by omega
  clear hR hPL hb bad hbi
  refine e_loop1 (fun m y => [ex fun i : Nat => all [pu (m + i = K ∧ y = .int .i64 (i : Int)), IsX p (l ++ bitsOf N i)]] ++ F) K ?_ ?_
  · refine Imp.ex 0 (.all ?_)
    (try simp only [List.cons_append, List.nil_append])
    refine .pu (by refine ⟨by omega, ?_⟩; first | trivial | rfl) (.ex (qa, qc) (.all ?_))
    (try simp only [List.cons_append, List.nil_append])
    rw [show l ++ bitsOf N 0 = l by simp [bitsOf]]
    exact .pick .here (.pick .here (.pu hL .refl))
  · intro m ds y
    (try simp only [List.cons_append, List.nil_append])
    refine e_ex Pick.here fun i => e_all Pick.here ?_
    (try simp only [List.cons_append, List.nil_append])
    refine e_pu Pick.here fun hi => ?_
    obtain ⟨hmi, rfl⟩ := hi
    obtain ⟨L, hLe⟩ : ∃ L, L = l ++ bitsOf N i := ⟨_, rfl⟩
    have hLl : L.length = l.length + i := by rw [hLe, List.length_append, length_bitsOf]
    rw [← hLe]
    (refine e_ask v_lss Imp.nil (fun h => ?_) (fun h => ?_))
    · have hik : i < K := by omega
      refine e_ex Pick.here fun q2 => ?_
      obtain ⟨xa, xc⟩ := q2
      refine e_all Pick.here ?_
      (try simp only [List.cons_append, List.nil_append])
      refine e_pu (.there (.there .here)) fun hL2 => ?_
      ((with_reducible refine e_condT ?_)); (((with_reducible refine e_opN v_nil Imp.nil ?_))); (((with_reducible refine e_opN v_fa0 Imp.nil ?_))); (((with_reducible refine' e_opN (v_ldN ?hc) ?hi ?_); (case hi => (repeat (first | exact Imp.refl | exact Imp.nil | (apply Imp.pick; (focus ((repeat constructor); done))) | refine Imp.drop ?_))); (case hc => (repeat (first | exact Nth.here | apply Nth.there)))))
      refine e_opN v_conv Imp.nil ?_
      rw [wrapu64 (by omega)]
      refine e_opN (v_shr (by omega)) Imp.nil ?_
      rw [shr_nat (by omega)]
      refine e_opN v_and Imp.nil ?_
      have hdiv : N / 2 ^ i ≤ N := Nat.div_le_self _ _
      rw [and1 (by omega), testBit_mod]
      refine e_opN v_conv Imp.nil ?_
      have hbt := Bool.toNat_le (N.testBit i)
      rw [wrap8 (by omega), ← B_bb]
      (((with_reducible refine e_bsl1 fun g => ?_)))
      refine e_app (m := 1) (news := [B (bb (N.testBit i))]) (.there (.there .here)) (src_pt (e' := 5) (by kernel_rfl) .here (by rfl) (B_one (l := [bb (N.testBit i)]))) (by omega) (by omega) fun a' c' => ?_
      (((with_reducible refine e_opN v_nil Imp.nil ?_))); (((with_reducible refine e_opN v_fa0 Imp.nil ?_))); (((with_reducible refine' e_stN ?hp ?ho ?_); (case hp => (repeat constructor)); (case ho => (repeat (first | exact Put.here | apply Put.there))))); (((with_reducible refine e_opN (v_add ?h1 ?h2) Imp.nil ?_); (case h1 => omega); (case h2 => omega)))
      refine e_next1 (m - 1) (by omega) (.ex (i + 1) (.all ?_))
      (try simp only [List.cons_append, List.nil_append])
      refine .pu (by refine ⟨by omega, ?_⟩; first | trivial | norm_cast) (.ex (a', c') (.all ?_))
      (try simp only [List.cons_append, List.nil_append])
      have e1 : l ++ bitsOf N (i + 1) = L ++ [N.testBit i] := by rw [hLe, bitsOf_succ, List.append_assoc]
      rw [e1]
      simp only [List.length_append, List.length_singleton, List.map_append, List.map_cons, List.map_nil]
      exact .pick (by (repeat constructor)) (.pick (by (repeat constructor)) (.pu (by omega) (by (repeat (first | exact Imp.refl | exact Imp.nil | (apply Imp.pick; (focus ((repeat constructor); done))) | refine Imp.drop ?_)))))
    · have : i = K := by omega
      subst this
      ((with_reducible refine e_condF ?_))
      (first | refine e_ret (()) rfl ?_ | refine e_retT (()) ?_)
      rw [← hLe]
      (repeat (first | exact Imp.refl | exact Imp.nil | (apply Imp.pick; (focus ((repeat constructor); done))) | refine Imp.drop ?_))
def pz (L : List Bool) (i : Nat) : List UInt8 := (List.range ((L.length + 7) / 8)).map fun j => UInt8.ofNat (byteAt (L.take i) j)
theorem length_pz (L : List Bool) (i : Nat) : (pz L i).length = (L.length + 7) / 8 := by simp [pz]
theorem pz_zero (L : List Bool) : (pz L 0).map B = List.replicate ((L.length + 7) / 8) (.int .u8 0) := by
  apply List.ext_getElem
  · simp [pz]
  · intro i h1 h2
    simp [pz, byteAt, val]
    rfl
theorem pz_last (L : List Bool) : pz L L.length = pk L := by simp [pz, pk, pkn]
theorem pz_get {L : List Bool} {i : Nat} (h : i < L.length) : (pz L i)[i / 8]? = some (UInt8.ofNat (byteAt (L.take i) (i / 8))) := by
  unfold pz
  rw [List.getElem?_map, List.getElem?_range (by omega)]; rfl
theorem byteAt_snoc_gt {L : List Bool} {b : Bool} {i : Nat} (h : L.length / 8 < i) : byteAt (L ++ [b]) i = byteAt L i := by
  unfold byteAt
  rw [List.drop_eq_nil_of_le (by simp; omega), List.drop_eq_nil_of_le (by omega)]
theorem pz_succ {L : List Bool} {i : Nat} (h : i < L.length) : pz L (i + 1) = (pz L i).set (i / 8) (UInt8.ofNat (byteAt (L.take i) (i / 8) + 2 ^ (i % 8) * L[i].toNat)) := by
  have ht : L.take (i + 1) = L.take i ++ [L[i]] := List.take_succ_eq_append_getElem h
  have hl : (L.take i).length = i := by rw [List.length_take]; omega
  apply List.ext_getElem?
  intro j
  unfold pz
  rw [ht, List.getElem?_set]
  simp only [List.length_map, List.length_range, List.getElem?_map]
  by_cases h1 : i / 8 = j
  · subst h1
    rw [if_pos rfl, if_pos (by omega), List.getElem?_range (by omega)]
    have := byteAt_snoc_eq (L := L.take i) (b := L[i])
    rw [hl] at this
    rw [Option.map_some, this]
  · rw [if_neg h1]
    by_cases hj : j < (L.length + 7) / 8
    · rw [List.getElem?_range hj]
      simp only [Option.map_some]
      rcases Nat.lt_or_ge j (i / 8) with c | c
      · rw [byteAt_snoc_lt (by rw [hl]; exact c)]
      · rw [byteAt_snoc_gt (by rw [hl]; omega)]
    · rw [List.getElem?_eq_none (by simp; omega)]; rfl
theorem or8b {a r : Nat} {b : Bool} (hr : r < 8) (h : a < 2 ^ r) : bitOp .or .u8 (a : Int) ((b.toNat * 2 ^ r : Nat) : Int) = ((a + 2 ^ r * b.toNat : Nat) : Int) := by
  cases b with
  | true => simpa using or8 hr h
  | false =>
    have hp : 2 ^ r ≤ 128 := by
      have : 2 ^ r ≤ 2 ^ 7 := Nat.pow_le_pow_right (by omega) (by omega)
      simpa using this
    unfold bitOp
    have h1 : (BitVec.ofInt IntKind.u8.bits (a : Int)).toNat = a := by
      rw [BitVec.ofInt_natCast, BitVec.toNat_ofNat]; exact Nat.mod_eq_of_lt (by simp only [IntKind.bits]; omega)
    simp only [Bool.toNat_false, Nat.zero_mul, Nat.mul_zero, Nat.add_zero]
    have h2 : (BitVec.ofInt IntKind.u8.bits ((0 : Nat) : Int)).toNat = 0 := by decide
    simp only [BitVec.toNat_or, h1, h2, Nat.or_zero]
    exact wrap8 (by omega)
theorem xBytes {W : World} {p : Nat} {l : List Bool} : Cn Try.prog 34 [.pointer (some ⟨p, 0, none⟩)] W [IsX p l] (fun q : Option Addr × Nat => .slice q.1 (pk l).length q.2) (fun q => [Sl 1 5 q.1 q.2 (pk l).length ((pk l).map B), IsX p l]) := by
  (refine S.ref02_Writer_Bytes_cn fun F => ?_; unfold S.ref02_Writer_Bytes; simp only [List.cons_append, List.nil_append])
  refine e_ex Pick.here fun q => ?_
  obtain ⟨qa, qc⟩ := q
  refine e_all Pick.here ?_
  (try simp only [List.cons_append, List.nil_append])
  refine e_pu (.there (.there .here)) fun hL => ?_
  have hpk := length_pk l
  (((with_reducible refine e_opN v_nil Imp.nil ?_))); (((with_reducible refine e_opN v_fa0 Imp.nil ?_))); (((with_reducible refine' e_opN (v_ldN ?hc) ?hi ?_); (case hi => (repeat (first | exact Imp.refl | exact Imp.nil | (apply Imp.pick; (focus ((repeat constructor); done))) | refine Imp.drop ?_))); (case hc => (repeat (first | exact Nth.here | apply Nth.there))))); (((with_reducible refine e_opN v_len Imp.nil ?_))); (((with_reducible refine e_opN (v_add ?h1 ?h2) Imp.nil ?_); (case h1 => omega); (case h2 => omega))); (((with_reducible refine e_opN (v_quo ?h1 ?h2 ?h3) Imp.nil ?_); (case h1 => omega); (case h2 => omega); (case h3 => omega)))
  refine e_mksl ((l.length + 7) / 8) ((l.length + 7) / 8) (by norm_cast) (by norm_cast) (by omega) (by omega) (by unfold maxLen; omega) fun g => ?_
  rw [← pz_zero]
  refine e_loop1 (fun m y => [ex fun i : Nat => all [pu (m + i = l.length ∧ y = .int .i64 (i : Int)), Sl 1 5 (some ⟨g, 0, none⟩) ((l.length + 7) / 8) ((l.length + 7) / 8) ((pz l i).map B), pt p (.cells #[.slice qa l.length qc] 59), Sl 1 5 qa qc l.length (l.map fun b => B (bb b))]] ++ F) l.length ?_ ?_
  · refine Imp.ex 0 (.all ?_)
    (try simp only [List.cons_append, List.nil_append])
    refine .pu (by refine ⟨by omega, ?_⟩; first | trivial | rfl) ?_
    (repeat (first | exact Imp.refl | exact Imp.nil | (apply Imp.pick; (focus ((repeat constructor); done))) | refine Imp.drop ?_))
  · intro m ds y
    (try simp only [List.cons_append, List.nil_append])
    refine e_ex Pick.here fun i => e_all Pick.here ?_
    (try simp only [List.cons_append, List.nil_append])
    refine e_pu Pick.here fun hi => ?_
    obtain ⟨hmi, rfl⟩ := hi
    (((with_reducible refine e_opN v_nil Imp.nil ?_))); (((with_reducible refine e_opN v_fa0 Imp.nil ?_))); (((with_reducible refine' e_opN (v_ldN ?hc) ?hi ?_); (case hi => (repeat (first | exact Imp.refl | exact Imp.nil | (apply Imp.pick; (focus ((repeat constructor); done))) | refine Imp.drop ?_))); (case hc => (repeat (first | exact Nth.here | apply Nth.there))))); (((with_reducible refine e_opN v_len Imp.nil ?_)))
    (refine e_ask v_lss Imp.nil (fun h => ?_) (fun h => ?_))
    · have hil : i < l.length := by omega
      refine e_slsome (.there (.there .here)) (by omega) fun g2 hg2 => ?_
      subst hg2
      ((with_reducible refine e_condT ?_)); ((with_reducible refine e_drS ?_)); (((with_reducible refine e_stS (v_quo ?h1 ?h2 ?h3) Imp.nil ?_); (case h1 => omega); (case h2 => omega); (case h3 => omega))); (((with_reducible refine e_stS (v_quo ?h1 ?h2 ?h3) Imp.nil ?_); (case h1 => omega); (case h2 => omega); (case h3 => omega)))
      refine e_stS (v_ia1 (i / 8) (by norm_cast) (by omega)) Imp.nil ?_
      refine e_stS (v_ldSl (v := B (UInt8.ofNat (byteAt (l.take i) (i / 8)))) (by rw [Nat.zero_add, List.getElem?_map, pz_get hil]; rfl)) (.pick .here .nil) ?_
      (((with_reducible refine e_stS v_nil Imp.nil ?_))); (((with_reducible refine e_stS v_fa0 Imp.nil ?_))); (((with_reducible refine' e_stS (v_ldN ?hc) ?hi ?_); (case hi => (repeat (first | exact Imp.refl | exact Imp.nil | (apply Imp.pick; (focus ((repeat constructor); done))) | refine Imp.drop ?_))); (case hc => (repeat (first | exact Nth.here | apply Nth.there)))))
      refine e_stS (v_ia1 i (by norm_cast) (by omega)) Imp.nil ?_
      refine e_stS (v_ldSl (v := B (bb l[i])) (by rw [Nat.zero_add, List.getElem?_map, List.getElem?_eq_getElem hil]; rfl)) (.pick (.there (.there .here)) .nil) ?_
      (((with_reducible refine e_stS (v_rem ?h1 ?h2) Imp.nil ?_); (case h1 => omega); (case h2 => omega)))
      refine e_stS v_conv Imp.nil ?_
      rw [show ((i : Int) % 8) = ((i % 8 : Nat) : Int) by norm_cast, wrapu64 (by omega), B_bb]
      refine e_stS (v_shl (by omega)) Imp.nil ?_
      have hmin : min (((i % 8 : Nat) : Int)).toNat IntKind.u8.bits = i % 8 := by simp only [IntKind.bits, Int.toNat_natCast]; omega
      have hp : 2 ^ (i % 8) ≤ 2 ^ 7 := Nat.pow_le_pow_right (by omega) (by omega)
      have hcc : (l[i].toNat : Int) * 2 ^ (i % 8) = ((l[i].toNat * 2 ^ (i % 8) : Nat) : Int) := by norm_cast
      have hle : l[i].toNat * 2 ^ (i % 8) ≤ 2 ^ (i % 8) := by cases l[i] <;> simp
      obtain ⟨E, hE⟩ : ∃ E, E = l[i].toNat * 2 ^ (i % 8) := ⟨_, rfl⟩
      rw [hmin, hcc, ← hE, wrap8 (by omega)]
      rw [B_ofNat (byteAt_lt _ _)]
      refine e_stS v_or Imp.nil ?_
      have hlast : byteAt (l.take i) (i / 8) < 2 ^ (i % 8) := by
        have := byteAt_last (l.take i)
        rwa [List.length_take, Nat.min_eq_left (by omega)] at this
      rw [hE, or8b (by omega) hlast]
      refine e_stS (v_ia1 (i / 8) (by norm_cast) (by omega)) Imp.nil ?_
      have e4 : byteAt (l.take i) (i / 8) + 2 ^ (i % 8) * l[i].toNat < 256 := by
        have := byteAt_lt (l.take (i + 1)) (i / 8)
        rw [List.take_succ_eq_append_getElem hil] at this
        have e5 := byteAt_snoc_eq (L := l.take i) (b := l[i])
        rw [List.length_take, Nat.min_eq_left (by omega)] at e5
        rwa [e5] at this
      refine e_stSl .here (by simp [length_pz]; omega) ?_
      rw [← B_ofNat e4, Nat.zero_add, ← List.map_set, ← pz_succ hil]
      (((with_reducible refine e_opN (v_add ?h1 ?h2) Imp.nil ?_); (case h1 => omega); (case h2 => omega)))
      refine e_next1 (m - 1) (by omega) (.ex (i + 1) (.all ?_))
      (try simp only [List.cons_append, List.nil_append])
      refine .pu (by refine ⟨by omega, ?_⟩; first | trivial | norm_cast) ?_
      (repeat (first | exact Imp.refl | exact Imp.nil | (apply Imp.pick; (focus ((repeat constructor); done))) | refine Imp.drop ?_))
    · have : i = l.length := by omega
      subst this
      ((with_reducible refine e_condF ?_))
      rw [pz_last]
      refine e_ret (some ⟨g, 0, none⟩, (l.length + 7) / 8) (by rw [hpk]) ?_
      rw [hpk]
      refine .pick .here (.ex (qa, qc) (.all ?_))
      (try simp only [List.cons_append, List.nil_append])
      exact .pick .here (.pick .here (.pu hL .refl))
end Go.Proofs.Ytehfblkpbadikaa.B
