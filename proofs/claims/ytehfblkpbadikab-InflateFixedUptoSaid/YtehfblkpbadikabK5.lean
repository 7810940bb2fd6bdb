/- Pieces that are written symbol by symbol in fixed codes are the text that they are: the law, walked. Rows of at most 2^20 pieces. (3 texts made one; each says below what it is.) -/
import Derived.Test.YtehfblkpbadikabK4
import Derived.Test.YtehfblkpbadikabK3
import Derived.KernelRfl
import Derived.Test.YtehfblkpbadikabK1
import Derived.Test.YtehfblkpbadikabRows
set_option linter.unusedVariables false
set_option linter.unusedSimpArgs false
set_option linter.unusedSectionVars false
/-! Pieces that are written symbol by symbol in fixed codes are the text that they are: the law, walked. Rows of at most 2^20 pieces. -/
set_option maxRecDepth 4000
namespace Go.Proofs.Ytehfblkpbadikab.IF
open Go Go.Proofs Go.RowKit Go.Proofs.Ytehfblkpbadikab.Sh Go.Proofs.Ytehfblkpbadikab.Sl Go.Proofs.Ytehfblkpbadikab.T Go.Proofs.Ytehfblkpbadikab.HM Go.Proofs.Ytehfblkpbadikab.HF Go.Proofs.Ytehfblkpbadikab.B Go.Proofs.Ytehfblkpbadikab.M
def toP (p : Pz) : Pc := ⟨p.len.toNat, p.dist.toNat, p.c⟩
/-- what expands is pieces that may be -/
theorem ex_ok {most : Int} : ∀ (l : List Pz) (out o : List UInt8), exF most l out = .ok o → (out.length : Int) ≤ most → okPs out (l.map toP) ∧ (l.map toP).foldl expP out = o ∧ (o.length : Int) ≤ most ∧ ∀ p ∈ l, (p.len = 0 ∧ p.dist = 0) ∨ (3 ≤ p.len ∧ p.len ≤ 258 ∧ 1 ≤ p.dist ∧ p.dist ≤ 32768)
  | [], out, o, h, h0 => by
    have := Except.ok.inj h
    subst this
    exact ⟨trivial, rfl, h0, fun p hp => by cases hp⟩
  | p :: l, out, o, h, h0 => by
    rw [exF] at h
    by_cases c : p.len = 0 ∧ p.dist = 0
    · rw [if_pos c] at h
      by_cases d : (out.length : Int) = most
      · rw [if_pos d] at h; cases h
      rw [if_neg d] at h
      obtain ⟨i1, i2, i3, i4⟩ := ex_ok l (out ++ [p.c]) o h (by simp; omega)
      have hl : (toP p).len = 0 := by unfold toP; simp [c.1]
      have hd : (toP p).dist = 0 := by unfold toP; simp [c.2]
      have he : expP out (toP p) = out ++ [p.c] := by unfold expP; rw [if_pos hl]; rfl
      refine ⟨⟨.inl ⟨hl, hd⟩, by rw [he]; exact i1⟩, ?_, i3, fun q hq => ?_⟩
      · rw [List.map_cons, List.foldl_cons, he]; exact i2
      · rcases List.mem_cons.1 hq with rfl | hq
        · exact .inl c
        · exact i4 q hq
    · rw [if_neg c] at h
      by_cases b : badZ out.length p
      · rw [if_pos b] at h; cases h
      rw [if_neg b] at h
      by_cases d : most - out.length < p.len
      · rw [if_pos d] at h; cases h
      rw [if_neg d] at h
      unfold badZ at b
      have b1 : ¬ (p.len < 3) := fun x => b (.inl (.inl (.inl (.inl x))))
      have b2 : ¬ (258 < p.len) := fun x => b (.inl (.inl (.inl (.inr x))))
      have b3 : ¬ (p.dist < 1) := fun x => b (.inl (.inl (.inr x)))
      have b4 : ¬ ((if (out.length : Int) < 32768 then (out.length : Int) else 32768) < p.dist) := fun x => b (.inl (.inr x))
      have b5 : p.c = 0 := Decidable.byContradiction fun x => b (.inr x)
      have b6 : p.dist ≤ out.length ∧ p.dist ≤ 32768 := by split at b4 <;> omega
      obtain ⟨i1, i2, i3, i4⟩ := ex_ok l _ o h (by rw [copyL_len]; omega)
      have hl : (toP p).len ≠ 0 := by unfold toP; simp only; omega
      have he : expP out (toP p) = copyL out p.dist.toNat p.len.toNat := by unfold expP; rw [if_neg hl]; rfl
      refine ⟨⟨.inr ⟨?_, ?_, ?_, ?_, ?_, b5⟩, by rw [he]; exact i1⟩, ?_, i3, fun q hq => ?_⟩
      · show 3 ≤ p.len.toNat; omega
      · show p.len.toNat ≤ 258; omega
      · show 1 ≤ p.dist.toNat; omega
      · show p.dist.toNat ≤ 32768; omega
      · show p.dist.toNat ≤ out.length; omega
      · rw [List.map_cons, List.foldl_cons, he]; exact i2
      · rcases List.mem_cons.1 hq with rfl | hq
        · exact .inr (by omega)
        · exact i4 q hq
theorem hasC_of {l : List Int} {N : Nat} (hok : okL l) (hN : N < l.length) (h1 : 1 ≤ l[N]) : hasC l N := by
  have hNc : N < (codes l).length := by rw [length_codes]; exact hN
  have hin := hok.ins l[N] (List.getElem_mem hN)
  obtain ⟨n, hn⟩ := Int.eq_ofNat_of_zero_le (show 0 ≤ l[N] by omega)
  have hcode : (codes l)[N] = (codeAt l N : Int) := by simp [codes]
  have hlt : codeAt l N < 2 ^ n := by
    rw [codeAt_pos hN hn (by omega)]
    exact hok.cur_lt' hN hn (by omega) (by omega)
  refine ⟨((codes l)[N], l[N].toNat), ?_⟩
  rw [sym_at hNc hN, if_pos ⟨h1, hin.2, by rw [hcode]; omega, by
    rw [hcode, hn, Int.toNat_natCast]
    exact_mod_cast hlt⟩]
theorem lit_has {s : Nat} (h : s < 288) : hasC litL s := by
  have hl : s < litL.length := by rw [lit_len]; exact h
  refine hasC_of ok_lit hl ?_
  have : ∀ x ∈ litL, 1 ≤ x := by
    intro x hx
    unfold litL at hx
    simp only [List.mem_append, List.mem_replicate] at hx
    omega
  exact this _ (List.getElem_mem hl)
theorem dst_has {s : Nat} (h : s < 32) : hasC dstL s := by
  have hl : s < dstL.length := by rw [dst_len]; exact h
  refine hasC_of ok_dst hl ?_
  have : ∀ x ∈ dstL, 1 ≤ x := by
    intro x hx
    unfold dstL at hx
    rw [List.mem_replicate] at hx
    omega
  exact this _ (List.getElem_mem hl)
theorem fix_has {p : Pz} (h : (p.len = 0 ∧ p.dist = 0) ∨ (3 ≤ p.len ∧ p.len ≤ 258 ∧ 1 ≤ p.dist ∧ p.dist ≤ 32768)) : hasP litL dstL (toP p) := by
  unfold hasP
  by_cases c : (toP p).len = 0
  · rw [if_pos c]
    have := p.c.toNat_lt
    exact lit_has (s := (toP p).c.toNat) (by show p.c.toNat < 288; omega)
  · rw [if_neg c]
    have hc : ¬ p.len.toNat = 0 := c
    rcases h with h | h
    · omega
    · have e1 : (((toP p).len : Nat) : Int) = p.len := by show ((p.len.toNat : Nat) : Int) = _; omega
      have e2 : (((toP p).dist : Nat) : Int) = p.dist := by show ((p.dist.toNat : Nat) : Int) = _; omega
      rw [e1, e2]
      obtain ⟨s, e, k, hs, h1, h2, _⟩ := lenS_ok (n := p.len) (by omega) (by omega)
      obtain ⟨t, e', k', ht, h3, _⟩ := disS_ok (n := p.dist) (by omega) (by omega)
      rw [hs, ht]
      exact ⟨lit_has (by omega), dst_has (by omega)⟩
/-- a piece's bits are few -/
theorem encP_le {p : Pz} (h : (p.len = 0 ∧ p.dist = 0) ∨ (3 ≤ p.len ∧ p.len ≤ 258 ∧ 1 ≤ p.dist ∧ p.dist ≤ 32768)) : (encP litL dstL (toP p)).length ≤ 48 := by
  have hh := fix_has h
  unfold hasP at hh
  unfold encP
  by_cases c : (toP p).len = 0
  · rw [if_pos c] at hh ⊢
    have := (cw_len hh).2
    omega
  · rw [if_neg c] at hh ⊢
    have hc : ¬ p.len.toNat = 0 := c
    have e1 : (((toP p).len : Nat) : Int) = p.len := by show ((p.len.toNat : Nat) : Int) = _; omega
    have e2 : (((toP p).dist : Nat) : Int) = p.dist := by show ((p.dist.toNat : Nat) : Int) = _; omega
    rw [e1, e2] at hh ⊢
    obtain ⟨s, e, k, hs, h1, h2, _, _, _, hk, _⟩ := lenS_ok (n := p.len) (by omega) (by omega)
    obtain ⟨t, e', k', ht, h3, _, _, _, hk', _⟩ := disS_ok (n := p.dist) (by omega) (by omega)
    have a := (cw_len hh.1).2
    have b := (cw_len hh.2).2
    rw [hs] at a ⊢
    rw [ht] at b ⊢
    simp only [List.length_append, length_bitsOf, Int.toNat_natCast] at a b ⊢
    omega
/-- a symbol and its extra bits, put -/
theorem fput {W : World} {p : Nat} {L : List Bool} {l : List Int} {a1 a2 : Option Addr} {c1 c2 : Nat} {A1 A2 : HP} {s : Int} {n e : Nat} (h1 : RdB W A1 a1 (codes l).length ((codes l).map I)) (h2 : RdB W A2 a2 l.length (l.map I)) (hs : hasC l s) (hn : n ≤ 13) (he : e < 2 ^ n) (hL : L.length ≤ 1000000) :
    Cn Try.prog 11 [.pointer (some ⟨p, 0, none⟩), .slice a1 (codes l).length c1, .slice a2 l.length c2, .int .i64 s, .int .i64 (n : Int), .int .i64 (e : Int)] W [IsW p L, A1, A2] (fun _ : Unit => .bool true) (fun _ => [IsW p (L ++ (cw l s ++ bitsOf e n)), A1, A2]) := by
  have hcl := (cw_len hs).2
  obtain ⟨q, hq⟩ := hs
  have hqb := sym_pos hq
  have hr : phR (codes l) l s L = 0 := by
    unfold phR
    rw [hq]
    simp only
    unfold putR
    rw [if_neg, if_neg (by omega)]
    unfold badP
    have := rv_lt q.1 q.2
    rw [Int.toNat_natCast]
    have h3 : ((rv q.1 q.2 : Nat) : Int) < ((2 ^ q.2 : Nat) : Int) := Int.ofNat_lt.2 this
    push_cast at h3
    omega
  have hp : phL (codes l) l s L = L ++ cw l s := by
    unfold phR at hr
    unfold phL cw
    rw [hq] at hr ⊢
    simp only at hr ⊢
    unfold putL
    rw [if_pos hr]; simp
  have hr2 : putR (L ++ cw l s) (e : Int) (n : Int) = 0 := by
    unfold putR
    rw [if_neg, if_neg (by rw [List.length_append]; push_cast; omega)]
    unfold badP
    rw [Int.toNat_natCast]
    have h3 : ((e : Nat) : Int) < ((2 ^ n : Nat) : Int) := Int.ofNat_lt.2 he
    push_cast at h3
    omega
  have hp2 : putL (L ++ cw l s) (e : Int) (n : Int) = L ++ (cw l s ++ bitsOf e n) := by
    unfold putL
    rw [if_pos hr2]; simp
  (refine S.law05_put_cn fun F => ?_; unfold S.law05_put; simp only [List.cons_append, List.nil_append])
  refine e_call (hput (L := L) (s := s) h1 h2) (.cons .here (.cons .here (.cons .here .nil))) fun _ => ?_
  (try simp only [List.cons_append, List.nil_append, -eq_self])
  rw [hr, hp]
  refine e_call num5 .nil fun _ => ?_
  (try simp only [List.cons_append, List.nil_append, -eq_self])
  refine e_call (put (l := L ++ cw l s)) (.cons .here .nil) fun _ => ?_
  (try simp only [List.cons_append, List.nil_append, -eq_self])
  rw [hr2, hp2]
  refine e_call num5 .nil fun _ => ?_
  (try simp only [List.cons_append, List.nil_append, -eq_self])
  refine e_opN (v_add (by omega) (by omega)) Imp.nil ?_
  refine e_opN v_eql Imp.nil ?_
  rw [decide_eq_true (by decide)]
  (first | refine e_ret (()) rfl ?_ | refine e_retT (()) ?_)
  exact .refl
def fixBits (X : List Pz) : List Bool := [true, true, false] ++ (X.map toP).flatMap (encP litL dstL)
/-- what is read back -/
theorem fix_back {X : List Pz} {o : List UInt8} (h : exF 1048576 X [] = .ok o) (hX : X.length ≤ 2000) : aE (pk (fixBits X ++ cw litL 256)) 1048576 = 0 ∧ aO (pk (fixBits X ++ cw litL 256)) 1048576 = o := by
  obtain ⟨h1, h2, h3, h4⟩ := ex_ok X [] o h (by decide)
  obtain ⟨Lt, hLt⟩ : ∃ Lt, Lt = fixBits X ++ cw litL 256 := ⟨_, rfl⟩
  obtain ⟨Z, hZ⟩ : ∃ Z, ub (pk Lt) = Lt ++ Z := ⟨_, ub_pk Lt⟩
  have hlen : ((X.map toP).flatMap (encP litL dstL)).length ≤ 48 * X.length := by
    have : ∀ l : List Pz, (∀ p ∈ l, (p.len = 0 ∧ p.dist = 0) ∨ (3 ≤ p.len ∧ p.len ≤ 258 ∧ 1 ≤ p.dist ∧ p.dist ≤ 32768)) → ((l.map toP).flatMap (encP litL dstL)).length ≤ 48 * l.length := by
      intro l
      induction l with
      | nil => intro _; simp
      | cons p l ih =>
        intro hp
        have a := ih fun q hq => hp q (by simp [hq])
        have b := encP_le (hp p (by simp))
        rw [List.map_cons, List.flatMap_cons, List.length_append, List.length_cons]
        omega
    exact this X h4
  have h256 : hasC litL 256 := lit_has (s := 256) (by omega)
  have hc := (cw_len h256).2
  have hLl : Lt.length ≤ 3 + 96000 + 15 := by rw [hLt]; unfold fixBits; simp only [List.length_append, List.length_cons, List.length_nil]; omega
  have hLg : 3 ≤ Lt.length := by rw [hLt]; unfold fixBits; simp only [List.length_append, List.length_cons, List.length_nil]; omega
  have hpk : (pk Lt).length ≤ 1048576 := by rw [length_pk]; omega
  have hub := length_ub (pk Lt)
  rw [hZ, List.length_append] at hub
  have hb : ub (pk Lt) = [true, true, false] ++ ((X.map toP).flatMap (encP litL dstL) ++ (cw litL 256 ++ Z)) := by
    rw [hZ, hLt]; unfold fixBits; simp only [List.append_assoc]
  have d0 : (ub (pk Lt)).drop 0 = bitsOf 1 1 ++ ([true, false] ++ ((X.map toP).flatMap (encP litL dstL) ++ (cw litL 256 ++ Z))) := by rw [hb]; rfl
  obtain ⟨r1, r2, r3⟩ := take_bits (e := 1) (k := 1) (by omega) (by decide) (by omega) d0
  have d1 : (ub (pk Lt)).drop 1 = bitsOf 1 2 ++ ((X.map toP).flatMap (encP litL dstL) ++ (cw litL 256 ++ Z)) := by rw [hb]; rfl
  obtain ⟨r4, r5, r6⟩ := take_bits (e := 1) (k := 2) (by omega) (by decide) (by omega) d1
  have d3 : (ub (pk Lt)).drop 3 = (X.map toP).flatMap (encP litL dstL) ++ (cw litL 256 ++ Z) := by rw [hb]; rfl
  have hs := mS_enc (most := 1048576) ok_lit ok_dst h256 h1 (fun p hp => by
    obtain ⟨q, hq, rfl⟩ := List.mem_map.1 hp
    exact fix_has (h4 q hq)) (by rw [h2]; exact h3) (at_ := 3) (by omega) d3
  rw [h2] at hs
  have hall : mAll (pk Lt) 1048576 = .ok (3 + ((X.map toP).flatMap (encP litL dstL)).length + (cw litL 256).length, o, [((1 : Nat), (o.length : Int) - (([] : List UInt8).length : Int))]) := by
    unfold mAll
    rw [if_neg (by omega), if_neg (by omega), mLoop]
    have e1 : takR (pk Lt) 0 1 = 0 := r1
    have e2 : takAt (pk Lt) 0 1 = 1 := r3
    have e3 : takN (pk Lt) 0 1 = 1 := r2
    have e4 : takR (pk Lt) 1 2 = 0 := r4
    have e5 : takAt (pk Lt) 1 2 = 3 := r6
    have e6 : takN (pk Lt) 1 2 = 1 := r5
    rw [e1, if_neg (fun c => c rfl), e2, e4, if_neg (fun c => c rfl), e6, e5, show mKind 1 (pk Lt) 1048576 3 [] = mS litL dstL (pk Lt) 1048576 3 [] from rfl, hs]
    simp only
    rw [e3, if_neg (by decide)]
    rfl
  rw [← hLt]
  unfold aE aO
  rw [hall]
  exact ⟨rfl, rfl⟩
theorem inflateFixed {W : World} {a : Option Addr} {c : Nat} {l : List Pz} {A : HP} (hA : RdB W A a (l.length * 3) (l.flatMap pPz)) (hl : l.length ≤ 1048576) :
    Cn Try.prog 3 [.slice a l.length c] W [A] (fun _ : Unit => .bool true) (fun _ => [A]) := by
  (refine S.law05_InflateFixed_cn fun F => ?_; unfold S.law05_InflateFixed; simp only [List.cons_append, List.nil_append])
  refine e_loop2 (fun m x y => (ex fun st : (Option Addr × Nat) × Nat => all [pu (m + st.2 = 2000 ∧ st.2 ≤ l.length ∧ st.2 ≤ 2000 ∧ x = .slice st.1.1 (l.take st.2).length st.1.2 ∧ y = .int .i64 (st.2 : Int)), Sl 3 26 st.1.1 st.1.2 (l.take st.2).length ((l.take st.2).flatMap pPz)]) :: A :: F) 2000 ?_ ?_
  · refine .ex ((none, 0), 0) (.all ?_)
    (try simp only [List.cons_append, List.nil_append, -eq_self])
    refine .pu ⟨rfl, Nat.zero_le _, Nat.zero_le _, rfl, rfl⟩ ?_
    exact imp_nil .refl
  intro m ds x y
  refine e_ex .here fun st => e_all .here ?_
  obtain ⟨⟨sa, sc⟩, i⟩ := st
  (try simp only [List.cons_append, List.nil_append, -eq_self])
  refine e_pu .here fun hi => ?_
  (try dsimp only at hi)
  obtain ⟨hmi, hil0, hi2, rfl, rfl⟩ := hi
  (try dsimp only)
  refine e_opN v_len Imp.nil ?_
  refine e_opN v_lss Imp.nil ?_
  by_cases hgo : i < l.length ∧ i < 2000
  · obtain ⟨hil, hi3⟩ := hgo
    have htl : (l.take i).length = i := by rw [List.length_take]; omega
    rw [decide_eq_true (by omega)]
    refine e_gdT ?_
    refine e_gdT ?_
    refine e_opN v_lss Imp.nil ?_
    rw [decide_eq_true (by omega)]
    refine e_opN v_pickT Imp.nil ?_
    refine e_condT ?_
    obtain ⟨g, o, rfl, _⟩ := hA.at_ (by omega)
    have l0 : RunV Try.prog W [A] (sLoad 3 (.pointer (some ⟨g, o + i * 3 + 0, none⟩))) (I l[i].len) := v_ldRd2 hA (pz_get hil 0 (by omega))
    have l1 : RunV Try.prog W [A] (sLoad 3 (.pointer (some ⟨g, o + i * 3 + 1, none⟩))) (I l[i].dist) := v_ldRd2 hA (pz_get hil 1 (by omega))
    have l2 : RunV Try.prog W [A] (sLoad 5 (.pointer (some ⟨g, o + i * 3 + 2, none⟩))) (Sl.B l[i].c) := v_ldRd2 hA (pz_get hil 2 (by omega))
    refine e_drS ?_
    refine e_stS (v_ia i rfl hil) Imp.nil ?_
    refine e_stS v_fa Imp.nil ?_
    refine e_stS l0 (.pick (by (repeat constructor)) .nil) ?_
    refine e_stS (v_ia i rfl hil) Imp.nil ?_
    refine e_stS v_fa Imp.nil ?_
    refine e_stS l1 (.pick (by (repeat constructor)) .nil) ?_
    refine e_stS (v_ia i rfl hil) Imp.nil ?_
    refine e_stS v_fa Imp.nil ?_
    refine e_stS l2 (.pick (by (repeat constructor)) .nil) ?_
    refine e_stS v_rv Imp.nil ?_
    refine e_bslS (n := 1) (vs := [vPz l[i]]) rfl (by decide) rfl (by intro v hv; rw [List.mem_singleton.1 hv]; rfl) (by decide) fun gb => ?_
    refine e_app (m := 1) (news := pPz l[i]) (.there .here) (src_pt (s := 3) (e' := 26) (by kernel_rfl) .here (by rfl) (by intro u hu; simp [vPz, Value.cells] at hu; rcases hu with rfl | rfl | rfl <;> rfl)) (by omega) (by omega) fun a' c' => ?_
    refine e_opN (v_add (by omega) (by omega)) Imp.nil ?_
    refine e_next2 (m - 1) (by omega) (.ex ((a', c'), i + 1) (.all ?_))
    (try simp only [List.cons_append, List.nil_append, -eq_self])
    (try dsimp only)
    have e1 : (l.take i).length + 1 = (l.take (i + 1)).length := by rw [List.length_take, List.length_take]; omega
    have e2 : (l.take i).flatMap pPz ++ pPz l[i] = (l.take (i + 1)).flatMap pPz := by rw [List.take_succ_eq_append_getElem hil, List.flatMap_append, List.flatMap_singleton]
    rw [e1, e2]
    refine .pu ⟨by omega, by omega, by omega, rfl, rfl⟩ ?_
    refine .pick .here ?_
    (repeat (first | exact Imp.refl | exact Imp.nil | (apply Imp.pick; (focus ((repeat constructor); done))) | refine Imp.drop ?_))
  obtain ⟨X, hX⟩ : ∃ X, X = l.take i := ⟨_, rfl⟩
  rw [← hX]
  have hXl : X.length ≤ 2000 := by rw [hX, List.length_take]; omega
  have go : ∀ S : WP, Ent W (Sl 3 26 sa sc X.length (X.flatMap pPz) :: A :: F) S → Ent W (Sl 3 26 sa sc X.length (X.flatMap pPz) :: A :: F) S := fun _ h => h
  have stop : ∀ (T S : WP), Ent W (Sl 3 26 sa sc X.length (X.flatMap pPz) :: A :: F) S → Ent W (Sl 3 26 sa sc X.length (X.flatMap pPz) :: A :: F) (gdK (.bool (decide ((i : Int) < (l.length : Int)))) true (fun k => k (.int .i64 (i : Int))) fun x29 =>
      gdK (.bool (decide ((i : Int) < (l.length : Int)))) true (opN Try.prog (sBin .lss 3 x29 (.int .i64 2000)) noP) fun x30 => opN Try.prog (sPick (.bool (decide ((i : Int) < (l.length : Int)))) x30 (.bool false)) noP fun x31 => condS x31 T S) := by
    intro T S hS
    by_cases c1 : i < l.length
    · rw [decide_eq_true (by omega)]
      refine e_gdT ?_
      refine e_gdT ?_
      refine e_opN v_lss Imp.nil ?_
      rw [decide_eq_false (by omega)]
      refine e_opN v_pickT Imp.nil ?_
      exact e_condF hS
    · rw [decide_eq_false (by omega)]
      ((with_reducible refine e_gdF2 ?_)); ((with_reducible refine e_gdF2 ?_)); (((with_reducible refine e_opN v_pickF Imp.nil ?_))); ((with_reducible refine e_condF ?_))
      exact hS
  refine stop _ _ ?_
  clear stop go
  refine e_slfacts .here fun f1 f2 f3 f4 => ?_
  have rdX : RdB W (Sl 3 26 sa sc X.length (X.flatMap pPz)) sa (X.length * 3) (X.flatMap pPz) := rd_slG f1 f4
  refine e_call (expand (most := 1048576) rdX (by omega) (by omega)) (.cons .here .nil) fun q => ?_
  obtain ⟨wa, wc⟩ := q
  (try simp only [List.cons_append, List.nil_append, -eq_self])
  refine e_opN (v_extN (vs := [_, _]) .here) Imp.nil ?_
  refine e_opN (v_extN (vs := [_, _]) (.there .here)) Imp.nil ?_
  refine e_call fixedL .nil fun q => ?_
  obtain ⟨⟨la, lc⟩, ⟨da, dc⟩⟩ := q
  (try simp only [List.cons_append, List.nil_append, -eq_self])
  refine e_opN (v_extN (vs := [_, _]) .here) Imp.nil ?_
  refine e_opN (v_extN (vs := [_, _]) (.there .here)) Imp.nil ?_
  refine e_slfacts .here fun g1 g2 g3 g4 => ?_
  refine e_slfacts (.there .here) fun k1 k2 k3 k4 => ?_
  have rdl : RdB W (Sl 1 3 la lc litL.length (litL.map I)) la litL.length (litL.map I) := rd_sl (by simp) g4
  have rdd : RdB W (Sl 1 3 da dc dstL.length (dstL.map I)) da dstL.length (dstL.map I) := rd_sl (by simp) k4
  have hcl : cdL litL = codes litL := by unfold cdL; rw [if_pos ok_lit]
  have hcd : cdL dstL = codes dstL := by unfold cdL; rw [if_pos ok_dst]
  have hrl : cdR litL = 0 := by unfold cdR; rw [if_pos ok_lit]
  have hrd : cdR dstL = 0 := by unfold cdR; rw [if_pos ok_dst]
  have ll := lit_len
  have dl := dst_len
  refine e_call (codes_ rdl (by omega)) (.cons .here .nil) fun q => ?_
  obtain ⟨ca, cc⟩ := q
  (try simp only [List.cons_append, List.nil_append, -eq_self])
  rw [hcl, hrl]
  refine e_opN (v_extN (vs := [_, _]) .here) Imp.nil ?_
  refine e_opN (v_extN (vs := [_, _]) (.there .here)) Imp.nil ?_
  refine e_call (codes_ rdd (by omega)) (.cons (.there (.there .here)) .nil) fun q => ?_
  obtain ⟨oa, oc⟩ := q
  (try simp only [List.cons_append, List.nil_append, -eq_self])
  rw [hcd, hrd]
  refine e_opN (v_extN (vs := [_, _]) .here) Imp.nil ?_
  refine e_opN (v_extN (vs := [_, _]) (.there .here)) Imp.nil ?_
  refine e_slfacts .here fun m1 m2 m3 m4 => ?_
  refine e_slfacts (.there (.there .here)) fun n1 n2 n3 n4 => ?_
  have rdo : RdB W (Sl 1 3 oa oc (codes dstL).length ((codes dstL).map I)) oa (codes dstL).length ((codes dstL).map I) := rd_sl (by simp) m4
  have rdc : RdB W (Sl 1 3 ca cc (codes litL).length ((codes litL).map I)) ca (codes litL).length ((codes litL).map I) := rd_sl (by simp) n4
  refine e_call newWriter .nil fun w => ?_
  (try simp only [List.cons_append, List.nil_append, -eq_self])
  refine e_call num5 .nil fun _ => ?_
  (try simp only [List.cons_append, List.nil_append, -eq_self])
  refine e_opN v_neq Imp.nil ?_
  cases hx : exF 1048576 X [] with
  | error er =>
    have he : exE 1048576 X = er := by unfold exE; rw [hx]
    rw [he]
    by_cases h0 : er = 0
    · exfalso
      subst h0
      have no : ∀ (l : List Pz) (o : List UInt8), exF 1048576 l o ≠ .error 0 := by
        intro l
        induction l with
        | nil => intro o h; cases h
        | cons p l ih =>
          intro o h
          rw [exF] at h
          split at h
          · split at h
            · cases h
            · exact ih _ h
          · split at h
            · cases h
            · split at h
              · cases h
              · exact ih _ h
      exact no _ _ hx
    rw [decide_eq_true h0]
    ((with_reducible refine e_gdF1 ?_)); ((with_reducible refine e_gdF1 ?_)); (((with_reducible refine e_opN v_pickT Imp.nil ?_))); ((with_reducible refine e_gdF1 ?_)); ((with_reducible refine e_gdF1 ?_)); (((with_reducible refine e_opN v_pickT Imp.nil ?_))); ((with_reducible refine e_condT ?_))
    refine e_call knows5 .nil fun _ => ?_
    (try simp only [List.cons_append, List.nil_append, -eq_self])
    (first | refine e_ret (()) rfl ?_ | refine e_retT (()) ?_)
    (repeat (first | exact Imp.refl | exact Imp.nil | (apply Imp.pick; (focus ((repeat constructor); done))) | refine Imp.drop ?_))
  | ok o =>
    have he : exE 1048576 X = 0 := by unfold exE; rw [hx]
    have ho : exO 1048576 X = o := by unfold exO; rw [hx]
    obtain ⟨p1, p2, p3, p4⟩ := ex_ok X [] o hx (by decide)
    obtain ⟨q1, q2⟩ := fix_back hx hXl
    rw [he, ho, decide_eq_false (by decide)]
    ((with_reducible refine e_gdT ?_)); ((with_reducible refine e_gdT ?_)); (((with_reducible refine e_opN v_eqNil1 Imp.nil ?_))); (((with_reducible refine e_opN v_pickF Imp.nil ?_))); ((with_reducible refine e_gdT ?_))
    refine e_call knows5 .nil fun _ => ?_
    (try simp only [List.cons_append, List.nil_append, -eq_self])
    ((with_reducible refine e_gdT ?_)); (((with_reducible refine e_opN v_notT Imp.nil ?_))); (((with_reducible refine e_opN v_pickF Imp.nil ?_))); ((with_reducible refine e_condF ?_))
    refine e_call num5 .nil fun _ => ?_
    (try simp only [List.cons_append, List.nil_append, -eq_self])
    refine e_call num5 .nil fun _ => ?_
    (try simp only [List.cons_append, List.nil_append, -eq_self])
    (((with_reducible refine e_opN (v_add ?h1 ?h2) Imp.nil ?_); (case h1 => omega); (case h2 => omega)))
    refine e_call (put (l := []) (n := 3) (k := 3)) (.cons .here .nil) fun _ => ?_
    (try simp only [List.cons_append, List.nil_append, -eq_self])
    rw [show putR [] 3 3 = 0 from rfl, show putL [] 3 3 = [true, true, false] from rfl]
    refine e_call num5 .nil fun _ => ?_
    (try simp only [List.cons_append, List.nil_append, -eq_self])
    (((with_reducible refine e_opN (v_add ?h1 ?h2) Imp.nil ?_); (case h1 => omega); (case h2 => omega)))
    refine e_opN v_neq Imp.nil ?_
    rw [decide_eq_false (by decide)]
    refine e_condF ?_
    have hlen : ∀ k, (fixBits (X.take k)).length ≤ 3 + 48 * 2000 := fun k => by
      have : ∀ l : List Pz, (∀ p ∈ l, (p.len = 0 ∧ p.dist = 0) ∨ (3 ≤ p.len ∧ p.len ≤ 258 ∧ 1 ≤ p.dist ∧ p.dist ≤ 32768)) → ((l.map toP).flatMap (encP litL dstL)).length ≤ 48 * l.length := by
        intro l
        induction l with
        | nil => intro _; simp
        | cons p l ih =>
          intro hp
          have a := ih fun q hq => hp q (by simp [hq])
          have b := encP_le (hp p (by simp))
          rw [List.map_cons, List.flatMap_cons, List.length_append, List.length_cons]
          omega
      have h := this (X.take k) fun p hp => p4 p (List.mem_of_mem_take hp)
      have h2 : (X.take k).length ≤ 2000 := by rw [List.length_take]; omega
      unfold fixBits
      rw [List.length_append]
      simp only [List.length_cons, List.length_nil]
      omega
    refine e_loop1 (fun m y => (ex fun k : Nat => all [pu (m + k = X.length ∧ y = .int .i64 (k : Int)), IsW w (fixBits (X.take k))]) :: Sl 1 3 oa oc (codes dstL).length ((codes dstL).map I) :: Sl 1 3 da dc dstL.length (dstL.map I) :: Sl 1 3 ca cc (codes litL).length ((codes litL).map I) :: Sl 1 3 la lc litL.length (litL.map I) :: Sl 1 5 wa wc o.length (o.map Sl.B) :: Sl 3 26 sa sc X.length (X.flatMap pPz) :: A :: F) X.length ?_ ?_
    · refine .ex 0 (.all ?_)
      (try simp only [List.cons_append, List.nil_append, -eq_self])
      refine .pu ⟨rfl, rfl⟩ ?_
      rw [show fixBits (X.take 0) = [true, true, false] by simp [fixBits]]
      refine .pick .here (.pick (by (repeat constructor)) (.pick (by (repeat constructor)) (.pick (by (repeat constructor)) (.pick (by (repeat constructor)) (.pick (by (repeat constructor)) (.pick (by (repeat constructor)) (.pick (by (repeat constructor)) ?_)))))))
      (repeat (first | exact Imp.refl | exact Imp.nil | (apply Imp.pick; (focus ((repeat constructor); done))) | refine Imp.drop ?_))
    intro m2 ds2 y
    refine e_ex .here fun k => e_all .here ?_
    (try simp only [List.cons_append, List.nil_append, -eq_self])
    refine e_pu .here fun hk => ?_
    obtain ⟨hmk, rfl⟩ := hk
    have hlk := hlen k
    refine e_opN v_len Imp.nil ?_
    refine e_ask v_lss Imp.nil (fun h => ?_) (fun h => ?_)
    · have hkX : k < X.length := by omega
      obtain ⟨g, rfl⟩ := f4 (by omega)
      have z0 : RunV Try.prog W [Sl 3 26 (some ⟨g, 0, none⟩) sc X.length (X.flatMap pPz)] (sLoad 3 (.pointer (some ⟨g, 0 + k * 3 + 0, none⟩))) (I X[k].len) := v_ldRd2 rdX (pz_get hkX 0 (by omega))
      have z1 : RunV Try.prog W [Sl 3 26 (some ⟨g, 0, none⟩) sc X.length (X.flatMap pPz)] (sLoad 3 (.pointer (some ⟨g, 0 + k * 3 + 1, none⟩))) (I X[k].dist) := v_ldRd2 rdX (pz_get hkX 1 (by omega))
      have z2 : RunV Try.prog W [Sl 3 26 (some ⟨g, 0, none⟩) sc X.length (X.flatMap pPz)] (sLoad 5 (.pointer (some ⟨g, 0 + k * 3 + 2, none⟩))) (Sl.B X[k].c) := v_ldRd2 rdX (pz_get hkX 2 (by omega))
      have hpk := p4 X[k] (List.getElem_mem hkX)
      have hhas := fix_has hpk
      have hnx : fixBits (X.take (k + 1)) = fixBits (X.take k) ++ encP litL dstL (toP X[k]) := by
        unfold fixBits
        rw [List.take_succ_eq_append_getElem hkX, List.map_append, List.flatMap_append]
        simp
      generalize X[k] = p at z0 z1 z2 hpk hhas hnx
      refine e_condT ?_
      refine e_opN (v_ia k rfl hkX) Imp.nil ?_
      refine e_opN v_fa Imp.nil ?_
      refine e_opN z0 (.pick (by (repeat constructor)) .nil) ?_
      refine e_ask v_eql Imp.nil (fun h0 => ?_) (fun h0 => ?_)
      · have hl0 : (toP p).len = 0 := by show p.len.toNat = 0; omega
        unfold hasP at hhas
        rw [if_pos hl0] at hhas
        have hen : encP litL dstL (toP p) = cw litL (p.c.toNat : Int) ++ bitsOf 0 0 := by
          unfold encP
          rw [if_pos hl0]
          simp [bitsOf]
          rfl
        have hc := p.c.toNat_lt
        refine e_condT ?_
        refine e_opN (v_ia k rfl hkX) Imp.nil ?_
        refine e_opN v_fa Imp.nil ?_
        refine e_opN z2 (.pick (by (repeat constructor)) .nil) ?_
        refine e_opN v_conv Imp.nil ?_
        rw [w64 (by omega) (by omega)]
        refine e_call (fput (L := fixBits (X.take k)) (s := (p.c.toNat : Int)) (n := 0) (e := 0) rdc rdl hhas (by omega) (by decide) (by omega)) (.cons .here (.cons (.there (.there .here)) (.cons (.there (.there .here)) .nil))) fun _ => ?_
        (try simp only [List.cons_append, List.nil_append, -eq_self])
        rw [← hen, ← hnx]
        refine e_opN v_notT Imp.nil ?_
        refine e_condF ?_
        refine e_opN (v_add (by omega) (by omega)) Imp.nil ?_
        refine e_next1 (m2 - 1) (by omega) (.ex (k + 1) (.all ?_))
        (try simp only [List.cons_append, List.nil_append, -eq_self])
        refine .pu ⟨by omega, rfl⟩ ?_
        refine .pick .here (.pick (by (repeat constructor)) (.pick (by (repeat constructor)) (.pick (by (repeat constructor)) (.pick (by (repeat constructor)) (.pick (by (repeat constructor)) (.pick (by (repeat constructor)) (.pick (by (repeat constructor)) ?_)))))))
        (repeat (first | exact Imp.refl | exact Imp.nil | (apply Imp.pick; (focus ((repeat constructor); done))) | refine Imp.drop ?_))
      · have hr : 3 ≤ p.len ∧ p.len ≤ 258 ∧ 1 ≤ p.dist ∧ p.dist ≤ 32768 := by
          rcases hpk with c | c
          · exact absurd c.1 h0
          · exact c
        have hl0 : ¬ (toP p).len = 0 := by show ¬ p.len.toNat = 0; omega
        have e1 : (((toP p).len : Nat) : Int) = p.len := by show ((p.len.toNat : Nat) : Int) = _; omega
        have e2 : (((toP p).dist : Nat) : Int) = p.dist := by show ((p.dist.toNat : Nat) : Int) = _; omega
        obtain ⟨s, e, kk, hs, u1, u2, u3, u4, u5, u6, u7⟩ := lenS_ok (n := p.len) (by omega) (by omega)
        obtain ⟨t, e', kk', ht, t1, t2, t3, t4, t5, t6⟩ := disS_ok (n := p.dist) (by omega) (by omega)
        unfold hasP at hhas
        rw [if_neg hl0, e1, e2, hs, ht] at hhas
        have hen : encP litL dstL (toP p) = (cw litL (s : Int) ++ bitsOf e kk) ++ (cw dstL (t : Int) ++ bitsOf e' kk') := by
          unfold encP
          rw [if_neg hl0, e1, e2, hs, ht]
          rfl
        have hcl1 : (cw litL (s : Int)).length ≤ 15 := (cw_len hhas.1).2
        refine e_condF ?_
        refine e_opN (v_ia k rfl hkX) Imp.nil ?_
        refine e_opN v_fa Imp.nil ?_
        refine e_opN z0 (.pick (by (repeat constructor)) .nil) ?_
        refine e_call (lzLength (n := p.len) (by omega)) .nil fun _ => ?_
        (try simp only [List.cons_append, List.nil_append, -eq_self])
        rw [hs]
        refine e_opN (v_extN (vs := [_, _, _]) .here) Imp.nil ?_
        refine e_opN (v_extN (vs := [_, _, _]) (.there .here)) Imp.nil ?_
        refine e_opN (v_extN (vs := [_, _, _]) (.there (.there .here))) Imp.nil ?_
        refine e_opN (v_ia k rfl hkX) Imp.nil ?_
        refine e_opN v_fa Imp.nil ?_
        refine e_opN z1 (.pick (by (repeat constructor)) .nil) ?_
        refine e_call (lzDistance (n := p.dist) (by omega)) .nil fun _ => ?_
        (try simp only [List.cons_append, List.nil_append, -eq_self])
        rw [ht]
        refine e_opN (v_extN (vs := [_, _, _]) .here) Imp.nil ?_
        refine e_opN (v_extN (vs := [_, _, _]) (.there .here)) Imp.nil ?_
        refine e_opN (v_extN (vs := [_, _, _]) (.there (.there .here))) Imp.nil ?_
        refine e_call (fput (L := fixBits (X.take k)) (s := (s : Int)) (n := kk) (e := e) rdc rdl hhas.1 (by omega) u5 (by omega)) (.cons .here (.cons (.there (.there .here)) (.cons (.there (.there .here)) .nil))) fun _ => ?_
        (try simp only [List.cons_append, List.nil_append, -eq_self])
        refine e_opN v_notT Imp.nil ?_
        refine e_gdT ?_
        refine e_gdT ?_
        refine e_gdT ?_
        refine e_gdT ?_
        refine e_gdT ?_
        refine e_gdT ?_
        refine e_gdT ?_
        refine e_call (fput (L := fixBits (X.take k) ++ (cw litL (s : Int) ++ bitsOf e kk)) (s := (t : Int)) (n := kk') (e := e') rdo rdd hhas.2 (by omega) t4 (by simp only [List.length_append, length_bitsOf]; omega)) (.cons .here (.cons (.there (.there .here)) (.cons (.there (.there .here)) .nil))) fun _ => ?_
        (try simp only [List.cons_append, List.nil_append, -eq_self])
        rw [List.append_assoc, ← hen, ← hnx]
        refine e_gdT ?_
        refine e_opN v_notT Imp.nil ?_
        refine e_opN v_pickF Imp.nil ?_
        refine e_condF ?_
        refine e_opN (v_add (by omega) (by omega)) Imp.nil ?_
        refine e_next1 (m2 - 1) (by omega) (.ex (k + 1) (.all ?_))
        (try simp only [List.cons_append, List.nil_append, -eq_self])
        refine .pu ⟨by omega, rfl⟩ ?_
        refine .pick .here (.pick (by (repeat constructor)) (.pick (by (repeat constructor)) (.pick (by (repeat constructor)) (.pick (by (repeat constructor)) (.pick (by (repeat constructor)) (.pick (by (repeat constructor)) (.pick (by (repeat constructor)) ?_)))))))
        (repeat (first | exact Imp.refl | exact Imp.nil | (apply Imp.pick; (focus ((repeat constructor); done))) | refine Imp.drop ?_))
    · have hkX : X.take k = X := List.take_of_length_le (by omega)
      rw [hkX] at hlk ⊢
      refine e_condF ?_
      refine e_call (fput (L := fixBits X) (s := 256) (n := 0) (e := 0) rdc rdl (lit_has (s := 256) (by omega)) (by omega) (by decide) (by omega)) (.cons .here (.cons (.there (.there .here)) (.cons (.there (.there .here)) .nil))) fun _ => ?_
      (try simp only [List.cons_append, List.nil_append, -eq_self])
      rw [show cw litL 256 ++ bitsOf 0 0 = cw litL 256 by simp [bitsOf]]
      refine e_opN v_notT Imp.nil ?_
      refine e_condF ?_
      refine e_call (B.bytes (l := fixBits X ++ cw litL 256)) (.cons .here .nil) fun q => ?_
      obtain ⟨ba, bc⟩ := q
      (try simp only [List.cons_append, List.nil_append, -eq_self])
      have hlb : (pk (fixBits X ++ cw litL 256)).length ≤ 1048576 := by
        have := (cw_len (lit_has (s := 256) (by omega))).2
        rw [length_pk, List.length_append]
        have e : ((256 : Nat) : Int) = 256 := rfl
        rw [e] at this
        omega
      refine e_slfacts .here fun b1 b2 b3 b4 => ?_
      generalize pk (fixBits X ++ cw litL 256) = bs at q1 q2 hlb b1 b2 b3 b4 ⊢
      have nn : ∀ {n : Nat} {x : Option Addr}, (0 < n → ∃ g, x = some ⟨g, 0, none⟩) → x = none → n = 0 := fun {n x} hx c => by
        rcases Nat.eq_zero_or_pos n with z | z
        · exact z
        · obtain ⟨_, e⟩ := hx z; rw [c] at e; cases e
      refine e_call (inflate (b := bs) (most := 1048576) (rd_sl (by simp) b4) (nn b4) (by omega)) (.cons .here .nil) fun q => ?_
      obtain ⟨ra, rc⟩ := q
      (try simp only [List.cons_append, List.nil_append, -eq_self])
      rw [q1, q2]
      refine e_opN (v_extN (vs := [_, _, _]) .here) Imp.nil ?_
      refine e_opN (v_extN (vs := [_, _, _]) (.there .here)) Imp.nil ?_
      refine e_opN (v_extN (vs := [_, _, _]) (.there (.there .here))) Imp.nil ?_
      refine e_call num5 .nil fun _ => ?_
      (try simp only [List.cons_append, List.nil_append, -eq_self])
      refine e_opN v_eql Imp.nil ?_
      rw [decide_eq_true (p := (0 : Int) = 0) rfl]
      refine e_slfacts .here fun h1 h2 h3 h4 => ?_
      refine e_slfacts (by (repeat constructor)) (a := wa) (cap := wc) (n := o.length) (cs := o.map Sl.B) (s := 1) (e := 5) fun i1 i2 i3 i4 => ?_
      refine e_gdT ?_
      refine e_gdT ?_
      refine e_opN (v_str (l := o) (rd_sl (by simp) h4) (nn h4)) (.pick .here .nil) ?_
      refine e_gdT ?_
      refine e_gdT ?_
      refine e_opN (v_str (A := Sl 1 5 wa wc o.length (o.map Sl.B)) (l := o) (rd_sl (by simp) i4) (nn i4)) (.pick (by (repeat constructor)) .nil) ?_
      refine e_gdT ?_
      refine e_opN v_streq Imp.nil ?_
      rw [decide_eq_true (p := o = o) rfl]
      refine e_opN v_pickT Imp.nil ?_
      (first | refine e_ret (()) rfl ?_ | refine e_retT (()) ?_)
      (repeat (first | exact Imp.refl | exact Imp.nil | (apply Imp.pick; (focus ((repeat constructor); done))) | refine Imp.drop ?_))
end Go.Proofs.Ytehfblkpbadikab.IF
/-! Structs of numbers that come in. No conditions but those that each names. -/
namespace Go.Proofs.Ytehfblkpbadikab.Sl
open Go Go.RowKit Go.Proofs.Ytehfblkpbadikab.Sh
variable {P : Program} {H : Type} {enc : TypeId × Value → H} {W : World}
theorem Old.flat {α : Type} {s n : Nat} {f : α → List Value} {a : Option Addr} {xs : List α} (hf : ∀ x, (f x).length = s) (h0 : 0 < s) (h : Old W s (fun x cs => cs = f x) a n xs) (A : HP) : RdB W A a (n * s) (xs.flatMap f) := by
  have hl := h.len
  refine ⟨by rw [flat_len hf, hl], fun hn => ?_⟩
  obtain ⟨g, o, rfl, hg, hc⟩ := h.at_ (by
    rcases Nat.eq_zero_or_pos n with z | z
    · subst z; simp at hn
    · exact z)
  refine ⟨g, o, rfl, fun w L hw j v hv => ?_⟩
  have hj : j < xs.length * s := by
    rcases Nat.lt_or_ge j (xs.flatMap f).length with c | c
    · rwa [flat_len hf] at c
    · rw [List.getElem?_eq_none c] at hv; cases hv
  have hi : j / s < xs.length := Nat.div_lt_of_lt_mul (by rwa [Nat.mul_comm] at hj)
  have hm : j % s < s := Nat.mod_lt _ h0
  have hd : j = j / s * s + j % s := by rw [Nat.mul_comm]; exact (Nat.div_add_mod j s).symm
  obtain ⟨cs, h1, h2, h3⟩ := hc (j / s) hi
  subst h2
  rw [hd, flat_get hf xs _ _ hi hm] at hv
  have := h3 (j % s) v hv
  rw [hw.base.cell (p := ⟨g, o + j, none⟩) hg]
  rwa [← hd] at this
end Go.Proofs.Ytehfblkpbadikab.Sl
/-! Pieces that come in, opened. No conditions. -/
namespace Go.Proofs.Ytehfblkpbadikab.IF
open Go Go.Proofs Go.RowKit Go.ChangeShapes Go.Proofs.Ytehfblkpbadikab.Sh Go.Proofs.Ytehfblkpbadikab.Sl Go.Proofs.Ytehfblkpbadikab.T Go.Proofs.Ytehfblkpbadikab.M
variable {H : Type} {enc : TypeId × Value → H} {W : World}
set_option maxRecDepth 20000 in
theorem open_pz {sp : Nat → Bool} {held : Bool} (n : Nat) (cs : List Value) (x : DataW H × List MemPlace) (h : DataW.trod enc Try.prog W 0 sp held n 25 cs = some x) : ∃ a : Pz, cs = pPz a ∧ 1 ≤ Rows.uptoBulk x.1 := by
  obtain ⟨xs, m, rfl, rfl, hl, hs, hf⟩ := DataW.trod_struct (fs := #[⟨"Len", 3, 0, false, "", "", 0⟩, ⟨"Dist", 3, 1, false, "", "", 8⟩, ⟨"Byte", 5, 2, false, "", "", 16⟩]) (by kernel_rfl) h
  rw [show Try.prog.cellsOf 25 = 3 by kernel_rfl] at hl
  obtain ⟨c0, c1, c2, rfl⟩ : ∃ c0 c1 c2, cs = [c0, c1, c2] := by
    match cs, hl with
    | [a, b, c], _ => exact ⟨a, b, c, rfl⟩
  obtain ⟨x0, x1, x2, rfl⟩ : ∃ x0 x1 x2, xs = [x0, x1, x2] := by
    match xs, hs with
    | [a, b, c], _ => exact ⟨a, b, c, rfl⟩
  have e1 : Try.prog.cellsOf 3 = 1 := by kernel_rfl
  have e2 : Try.prog.cellsOf 5 = 1 := by kernel_rfl
  have f0 := hf 0 _ rfl
  have f1 := hf 1 _ rfl
  have f2 := hf 2 _ rfl
  simp only [e1, e2, List.drop_zero, List.drop_succ_cons, List.take_succ_cons, List.take_zero, List.getElem?_cons_zero, List.getElem?_cons_succ] at f0 f1 f2
  obtain ⟨k, h0, _, _⟩ := DataW.trod_int Try.underlying3 f0
  obtain ⟨n', h1, _, _⟩ := DataW.trod_int Try.underlying3 f1
  obtain ⟨w, h2, _, w2⟩ := DataW.trod_int Try.underlying5 f2
  have b2 : 0 ≤ w ∧ w ≤ 255 := by simpa [Lit.wf, IntKind.min, IntKind.max, IntKind.signed, IntKind.bits] using w2
  obtain ⟨c, hc⟩ := Int.eq_ofNat_of_zero_le b2.1
  have hB : Sl.B (UInt8.ofNat c) = .int .u8 (c : Int) := B_ofNat (by omega)
  refine ⟨⟨k, n', UInt8.ofNat c⟩, ?_, ?_⟩
  · unfold pPz
    simp only
    rw [hB, ← hc]
    cases h0; cases h1; cases h2; rfl
  · clear e1 e2 hf f0 f1 f2 hs hl
    simp only [Rows.uptoBulk]
    omega
theorem ones_sum {α : Type} (l : List α) : (l.map fun _ => 1).sum = l.length := by
  induction l with
  | nil => rfl
  | cons x l ih => rw [List.map_cons, List.sum_cons, ih, List.length_cons]; omega
set_option maxRecDepth 20000 in
theorem open_pzs {sp : Nat → Bool} {held : Bool} {v : Value} {d : DataW H} {ps : List MemPlace} {r : Reach} {b0 : Nat} (hval : Value.okWide Try.prog W r b0 22 v) (hd : DataW.Trod enc Try.prog W 0 sp held 22 v d ps) :
    ∃ (a : Option Addr) (c : Nat) (l : List Pz), v = .slice a l.length c ∧ (∀ A, RdB W A a (l.length * 3) (l.flatMap pPz)) ∧ l.length ≤ Rows.uptoBulk d := by
  obtain ⟨fuel, hf⟩ := open_slice (e := 25) (by kernel_rfl) hval hd
  obtain ⟨a, n, c, l, e, g1, g2, g3, g4, g5⟩ := open_old (e := 25) (s := 3) (rd := fun (x : Pz) cs => cs = pPz x) (m := fun _ => 1) (by kernel_rfl) (by kernel_rfl) (by omega) (fun n cs x h => open_pz n cs x h) hf
  have hl := g4.len
  subst hl
  rw [ones_sum] at g5
  exact ⟨a, c, l, by injection e, g4.flat (f := pPz) (fun _ => rfl) (by omega), by simp at g5; omega⟩
theorem cn_pre {P : Program} {f : FuncId} {args : List Value} {W : World} {α : Type} {r : α → Value} (h : Cn P f args W [pu True] r (fun _ => [pu True])) : Cn P f args W [] r (fun _ => []) :=
  ⟨h.call, fun F w hw => (h.run F w ((Imp.pu (L := F) trivial .refl).sat hw)).mono fun e w' ⟨x, he, hs⟩ => ⟨x, he, hs.drop⟩⟩
end Go.Proofs.Ytehfblkpbadikab.IF
