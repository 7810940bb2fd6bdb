/- The document's stream: what fails, what takes, a symbol. No conditions but those that each names. (14 texts made one; each says below what it is.) -/
import Derived.Test.YtehfblkpbadikaaK6
import Derived.Test.YtehfblkpbadikaaK1
import Derived.Test.YtehfblkpbadikaaK5
import Derived.KernelRfl
set_option linter.unusedVariables false
set_option linter.unusedSimpArgs false
set_option linter.unusedSectionVars false
/-! The document's stream: what fails, what takes, a symbol. No conditions but those that each names. -/
namespace Go.Proofs.Ytehfblkpbadikaa.IF
open Go Go.Proofs Go.RowKit Go.Proofs.Ytehfblkpbadikaa.Sh Go.Proofs.Ytehfblkpbadikaa.Sl Go.Proofs.Ytehfblkpbadikaa.T Go.Proofs.Ytehfblkpbadikaa.HM Go.Proofs.Ytehfblkpbadikaa.HF Go.Proofs.Ytehfblkpbadikaa.B Go.Proofs.Ytehfblkpbadikaa.M
abbrev SV := Except Int (Nat × List UInt8)
/-- the document's stream at p, with its error -/
def IsT (p : Nat) (b : List UInt8) (at_ : Nat) (out : List UInt8) (most e : Int) : HP := ex fun q : Nat × (Option Addr × Nat) => all [pt p (.cells #[.pointer (some ⟨q.1, 0, none⟩), .slice q.2.1 out.length q.2.2, .int .i64 most, .int .i64 e] 132), IsQ q.1 b at_, Sl 1 5 q.2.1 q.2.2 out.length (out.map Sl.B)]
def eOf : SV → Int
  | .ok _ => 0
  | .error e => e
def fit (x : Nat × List UInt8) : SV → Prop
  | .ok y => x = y
  | .error e => e ≠ 0
/-- the document's stream in a state -/
def IsV (p : Nat) (b : List UInt8) (most : Int) (s : SV) : HP := ex fun x : Nat × List UInt8 => all [pu (fit x s), IsT p b x.1 x.2 most (eOf s)]
def sF (s : SV) (e : Int) : SV := match s with
  | .ok _ => .error e
  | .error e => .error e
def sT (b : List UInt8) (k : Int) (s : SV) : SV := match s with
  | .ok x => if takR b x.1 k ≠ 0 then .error (takR b x.1 k) else .ok (takAt b x.1 k, x.2)
  | .error e => .error e
def vT (b : List UInt8) (k : Int) (s : SV) : Int := match s with
  | .ok x => (takN b x.1 k : Int)
  | .error e => 0
def sN (l : List Int) (b : List UInt8) (s : SV) : SV := match s with
  | .ok x => if (nxt l b x.1).2.1 ≠ 0 then .error (nxt l b x.1).2.1 else .ok ((nxt l b x.1).2.2, x.2)
  | .error e => .error e
def vN (l : List Int) (b : List UInt8) (s : SV) : Int := match s with
  | .ok x => (nxt l b x.1).1
  | .error e => 0
theorem vok {W : World} {p : Nat} {b : List UInt8} {most : Int} {a : Nat} {o : List UInt8} {L M : List HP} (h : Imp W L (IsT p b a o most 0 :: M)) : Imp W L (IsV p b most (.ok (a, o)) :: M) :=
  .ex (a, o) (.all (.pu rfl h))
theorem verr {W : World} {p : Nat} {b : List UInt8} {most e : Int} {L M : List HP} (a : Nat) (o : List UInt8) (he : e ≠ 0) (h : Imp W L (IsT p b a o most e :: M)) : Imp W L (IsV p b most (.error e) :: M) :=
  .ex (a, o) (.all (.pu he h))
theorem fail {W : World} {p : Nat} {b : List UInt8} {most e : Int} {s : SV} (he : e ≠ 0) : Cn Try.prog 77 [.pointer (some ⟨p, 0, none⟩), .int .i64 e] W [IsV p b most s] (fun _ : Unit => .tuple #[]) (fun _ => [IsV p b most (sF s e)]) := by
  (refine S.ref05_stream_fail_cn fun F => ?_; unfold S.ref05_stream_fail; simp only [List.cons_append, List.nil_append])
  refine e_ex .here fun x => e_all .here (e_pu .here fun hx => ?_)
  refine e_ex .here fun q => e_all .here ?_
  obtain ⟨r, qa, qc⟩ := q
  obtain ⟨a, o⟩ := x
  (try simp only [List.cons_append, List.nil_append, -eq_self])
  (try dsimp only)
  cases s with
  | ok y =>
    rw [show eOf (.ok y) = 0 from rfl]
    (((with_reducible refine e_opN v_nil Imp.nil ?_))); (((with_reducible refine e_opN v_fa0 Imp.nil ?_))); (((with_reducible refine' e_opN (v_ldN ?hc) ?hi ?_); (case hi => (repeat (first | exact Imp.refl | exact Imp.nil | (apply Imp.pick; (focus ((repeat constructor); done))) | refine Imp.drop ?_))); (case hc => (repeat (first | exact Nth.here | apply Nth.there)))))
    refine e_opN v_eql Imp.nil ?_
    rw [decide_eq_true rfl]
    ((with_reducible refine e_condT ?_)); (((with_reducible refine e_opN v_nil Imp.nil ?_))); (((with_reducible refine e_opN v_fa0 Imp.nil ?_))); (((with_reducible refine' e_stN ?hp ?ho ?_); (case hp => (repeat constructor)); (case ho => (repeat (first | exact Put.here | apply Put.there)))))
    (first | refine e_ret (()) rfl ?_ | refine e_retT (()) ?_)
    exact verr a o he (.ex (r, (qa, qc)) (.all (.pick (by (repeat constructor)) (.pick (by (repeat constructor)) (.pick (by (repeat constructor)) .refl)))))
  | error e1 =>
    rw [show eOf (.error e1) = e1 from rfl]
    (((with_reducible refine e_opN v_nil Imp.nil ?_))); (((with_reducible refine e_opN v_fa0 Imp.nil ?_))); (((with_reducible refine' e_opN (v_ldN ?hc) ?hi ?_); (case hi => (repeat (first | exact Imp.refl | exact Imp.nil | (apply Imp.pick; (focus ((repeat constructor); done))) | refine Imp.drop ?_))); (case hc => (repeat (first | exact Nth.here | apply Nth.there)))))
    refine e_opN v_eql Imp.nil ?_
    rw [decide_eq_false (show ¬ e1 = 0 from hx)]
    ((with_reducible refine e_condF ?_))
    (first | refine e_ret (()) rfl ?_ | refine e_retT (()) ?_)
    exact verr a o hx (.ex (r, (qa, qc)) (.all (.pick (by (repeat constructor)) (.pick (by (repeat constructor)) (.pick (by (repeat constructor)) .refl)))))
theorem vtake {W : World} {p : Nat} {b : List UInt8} {most k : Int} {s : SV} : Cn Try.prog 72 [.pointer (some ⟨p, 0, none⟩), .int .i64 k] W [IsV p b most s] (fun _ : Unit => .int .i64 (vT b k s)) (fun _ => [IsV p b most (sT b k s)]) := by
  (refine S.ref05_stream_take_cn fun F => ?_; unfold S.ref05_stream_take; simp only [List.cons_append, List.nil_append])
  refine e_ex .here fun x => e_all .here (e_pu .here fun hx => ?_)
  refine e_ex .here fun q => e_all .here ?_
  obtain ⟨r, qa, qc⟩ := q
  obtain ⟨a, o⟩ := x
  (try simp only [List.cons_append, List.nil_append, -eq_self])
  (try dsimp only)
  cases s with
  | ok y =>
    rw [show eOf (.ok y) = 0 from rfl]
    obtain rfl : (a, o) = y := hx
    (((with_reducible refine e_opN v_nil Imp.nil ?_))); (((with_reducible refine e_opN v_fa0 Imp.nil ?_))); (((with_reducible refine' e_opN (v_ldN ?hc) ?hi ?_); (case hi => (repeat (first | exact Imp.refl | exact Imp.nil | (apply Imp.pick; (focus ((repeat constructor); done))) | refine Imp.drop ?_))); (case hc => (repeat (first | exact Nth.here | apply Nth.there)))))
    refine e_opN v_neq Imp.nil ?_
    rw [decide_eq_false (by decide)]
    ((with_reducible refine e_condF ?_)); (((with_reducible refine e_opN v_nil Imp.nil ?_))); (((with_reducible refine e_opN v_fa0 Imp.nil ?_))); (((with_reducible refine' e_opN (v_ldN ?hc) ?hi ?_); (case hi => (repeat (first | exact Imp.refl | exact Imp.nil | (apply Imp.pick; (focus ((repeat constructor); done))) | refine Imp.drop ?_))); (case hc => (repeat (first | exact Nth.here | apply Nth.there)))))
    (refine' e_call (qtake) ?hp fun _ => ?_; (case hp => (repeat (first | exact Picks.nil | (apply Picks.cons; (focus (repeat constructor)))))); (try simp only [List.cons_append, List.nil_append, Bool.not_true, Bool.not_false]))
    refine e_opN (v_ext (v := .int .i64 (takN b a k)) rfl) Imp.nil ?_
    refine e_opN (v_ext (v := .int .i64 (takR b a k)) rfl) Imp.nil ?_
    refine e_imp (M := IsV p b most (.ok (takAt b a k, o)) :: F) (vok (.ex (r, (qa, qc)) (.all (.pick (by (repeat constructor)) (.pick (by (repeat constructor)) (.pick (by (repeat constructor)) .refl)))))) ?_
    refine e_ask v_neq Imp.nil (fun h => ?_) (fun h => ?_)
    · refine e_condT ?_
      (refine' e_call (fail h) ?hp fun _ => ?_; (case hp => (repeat (first | exact Picks.nil | (apply Picks.cons; (focus (repeat constructor)))))); (try simp only [List.cons_append, List.nil_append, Bool.not_true, Bool.not_false]))
      rw [show vT b k (.ok (a, o)) = (takN b a k : Int) from rfl, show sT b k (.ok (a, o)) = .error (takR b a k) from if_pos h]
      (first | refine e_ret (()) rfl ?_ | refine e_retT (()) ?_)
      exact .refl
    · refine e_condF ?_
      rw [show vT b k (.ok (a, o)) = (takN b a k : Int) from rfl, show sT b k (.ok (a, o)) = .ok (takAt b a k, o) from if_neg h]
      (first | refine e_ret (()) rfl ?_ | refine e_retT (()) ?_)
      exact .refl
  | error e1 =>
    rw [show eOf (.error e1) = e1 from rfl]
    (((with_reducible refine e_opN v_nil Imp.nil ?_))); (((with_reducible refine e_opN v_fa0 Imp.nil ?_))); (((with_reducible refine' e_opN (v_ldN ?hc) ?hi ?_); (case hi => (repeat (first | exact Imp.refl | exact Imp.nil | (apply Imp.pick; (focus ((repeat constructor); done))) | refine Imp.drop ?_))); (case hc => (repeat (first | exact Nth.here | apply Nth.there)))))
    refine e_opN v_neq Imp.nil ?_
    rw [decide_eq_true (show e1 ≠ 0 from hx)]
    ((with_reducible refine e_condT ?_))
    (first | refine e_ret (()) rfl ?_ | refine e_retT (()) ?_)
    exact verr a o hx (.ex (r, (qa, qc)) (.all (.pick (by (repeat constructor)) (.pick (by (repeat constructor)) (.pick (by (repeat constructor)) .refl)))))
theorem vnext {W : World} {p d : Nat} {l : List Int} {b : List UInt8} {most : Int} {s : SV} (hl : l.length ≤ 1099511627776) : Cn Try.prog 94 [.pointer (some ⟨p, 0, none⟩), .pointer (some ⟨d, 0, none⟩)] W [IsV p b most s, IsDoc d l] (fun _ : Unit => .int .i64 (vN l b s)) (fun _ => [IsV p b most (sN l b s), IsDoc d l]) := by
  (refine S.ref05_stream_next_cn fun F => ?_; unfold S.ref05_stream_next; simp only [List.cons_append, List.nil_append])
  refine e_ex .here fun x => e_all .here (e_pu .here fun hx => ?_)
  refine e_ex .here fun q => e_all .here ?_
  obtain ⟨r, qa, qc⟩ := q
  obtain ⟨a, o⟩ := x
  (try simp only [List.cons_append, List.nil_append, -eq_self])
  (try dsimp only)
  cases s with
  | ok y =>
    rw [show eOf (.ok y) = 0 from rfl]
    obtain rfl : (a, o) = y := hx
    (((with_reducible refine e_opN v_nil Imp.nil ?_))); (((with_reducible refine e_opN v_fa0 Imp.nil ?_))); (((with_reducible refine' e_opN (v_ldN ?hc) ?hi ?_); (case hi => (repeat (first | exact Imp.refl | exact Imp.nil | (apply Imp.pick; (focus ((repeat constructor); done))) | refine Imp.drop ?_))); (case hc => (repeat (first | exact Nth.here | apply Nth.there)))))
    refine e_opN v_neq Imp.nil ?_
    rw [decide_eq_false (by decide)]
    ((with_reducible refine e_condF ?_)); (((with_reducible refine e_opN v_nil Imp.nil ?_))); (((with_reducible refine e_opN v_fa0 Imp.nil ?_))); (((with_reducible refine' e_opN (v_ldN ?hc) ?hi ?_); (case hi => (repeat (first | exact Imp.refl | exact Imp.nil | (apply Imp.pick; (focus ((repeat constructor); done))) | refine Imp.drop ?_))); (case hc => (repeat (first | exact Nth.here | apply Nth.there)))))
    (refine' e_call (docNext hl) ?hp fun _ => ?_; (case hp => (repeat (first | exact Picks.nil | (apply Picks.cons; (focus (repeat constructor)))))); (try simp only [List.cons_append, List.nil_append, Bool.not_true, Bool.not_false]))
    refine e_opN (v_ext (v := .int .i64 (nxt l b a).1) rfl) Imp.nil ?_
    refine e_opN (v_ext (v := .int .i64 (nxt l b a).2.1) rfl) Imp.nil ?_
    refine e_imp (M := IsV p b most (.ok ((nxt l b a).2.2, o)) :: IsDoc d l :: F) (vok (.ex (r, (qa, qc)) (.all (.pick (by (repeat constructor)) (.pick (by (repeat constructor)) (.pick (by (repeat constructor)) .refl)))))) ?_
    refine e_ask v_neq Imp.nil (fun h => ?_) (fun h => ?_)
    · refine e_condT ?_
      (refine' e_call (fail h) ?hp fun _ => ?_; (case hp => (repeat (first | exact Picks.nil | (apply Picks.cons; (focus (repeat constructor)))))); (try simp only [List.cons_append, List.nil_append, Bool.not_true, Bool.not_false]))
      rw [show vN l b (.ok (a, o)) = (nxt l b a).1 from rfl, show sN l b (.ok (a, o)) = .error (nxt l b a).2.1 from if_pos h]
      (first | refine e_ret (()) rfl ?_ | refine e_retT (()) ?_)
      exact .refl
    · refine e_condF ?_
      rw [show vN l b (.ok (a, o)) = (nxt l b a).1 from rfl, show sN l b (.ok (a, o)) = .ok ((nxt l b a).2.2, o) from if_neg h]
      (first | refine e_ret (()) rfl ?_ | refine e_retT (()) ?_)
      exact .refl
  | error e1 =>
    rw [show eOf (.error e1) = e1 from rfl]
    (((with_reducible refine e_opN v_nil Imp.nil ?_))); (((with_reducible refine e_opN v_fa0 Imp.nil ?_))); (((with_reducible refine' e_opN (v_ldN ?hc) ?hi ?_); (case hi => (repeat (first | exact Imp.refl | exact Imp.nil | (apply Imp.pick; (focus ((repeat constructor); done))) | refine Imp.drop ?_))); (case hc => (repeat (first | exact Nth.here | apply Nth.there)))))
    refine e_opN v_neq Imp.nil ?_
    rw [decide_eq_true (show e1 ≠ 0 from hx)]
    ((with_reducible refine e_condT ?_))
    (first | refine e_ret (()) rfl ?_ | refine e_retT (()) ?_)
    exact verr a o hx (.ex (r, (qa, qc)) (.all (.pick (by (repeat constructor)) (.pick (by (repeat constructor)) (.pick (by (repeat constructor)) .refl)))))
end Go.Proofs.Ytehfblkpbadikaa.IF
/-! The document's stored block. No conditions but those that each names. -/
namespace Go.Proofs.Ytehfblkpbadikaa.IF
open Go Go.Proofs Go.RowKit Go.Proofs.Ytehfblkpbadikaa.Sh Go.Proofs.Ytehfblkpbadikaa.Sl Go.Proofs.Ytehfblkpbadikaa.T Go.Proofs.Ytehfblkpbadikaa.HM Go.Proofs.Ytehfblkpbadikaa.HF Go.Proofs.Ytehfblkpbadikaa.B Go.Proofs.Ytehfblkpbadikaa.M
theorem v_lde {W : World} {p : Nat} {b : List UInt8} {most : Int} {s : SV} : RunV Try.prog W [IsV p b most s] (sLoad 3 (.pointer (some ⟨p, 3, none⟩))) (.int .i64 (eOf s)) := fun w hw => by
  have h : Ent W [IsV p b most s] (fun w => (sLoad 3 (.pointer (some ⟨p, 3, none⟩))).run Try.prog w = .ok (.value (.int .i64 (eOf s))) w) := by
    refine e_ex .here fun x => e_all .here (e_pu .here fun hx => ?_)
    refine e_ex .here fun q => e_all .here ?_
    (try simp only [List.cons_append, List.nil_append, -eq_self])
    intro w hw
    exact v_ld (P := Try.prog) (fz := (0, 0)) rfl w ((Imp.pick .here (.drop (.drop .refl))).sat hw)
  exact h w hw
theorem e_vne {W : World} {L L' : List HP} {S : WP} {p : Nat} {b : List UInt8} {most e : Int} (q : Pick L (IsV p b most (.error e)) L') (h : e ≠ 0 → Ent W L S) : Ent W L S := fun w hw => by
  have k : Ent W L (fun _ => e ≠ 0) := e_ex q fun x => e_all .here (e_pu .here fun hx => fun _ _ => hx)
  exact h (k w hw) w hw
def sC (s : SV) (c : Nat × List UInt8 → Prop) [DecidablePred c] (e : Int) : SV := match s with
  | .ok x => if c x then .error e else .ok x
  | .error e' => .error e'
/-- bytes taken as they stand -/
def sR (b : List UInt8) (n : Int) (s : SV) : SV := match s with
  | .ok x => if rrR b x.1 n ≠ 0 then .error (rrR b x.1 n) else .ok (rrAt b x.1 n, x.2 ++ rrB b x.1 n)
  | .error e => .error e
theorem vT_b {b : List UInt8} {k : Nat} {s : SV} : 0 ≤ vT b k s ∧ vT b k s < ((2 ^ k : Nat) : Int) := by
  unfold vT
  split
  · rename_i x
    have := takN_lt (b := b) (at_ := x.1) (k := k)
    exact ⟨by omega, Int.ofNat_lt.2 this⟩
  · exact ⟨by omega, Int.ofNat_lt.2 (Nat.pow_pos (by omega))⟩
theorem vstored {W : World} {p at_ : Nat} {b out : List UInt8} {most : Int} (h1 : 0 ≤ most ∧ most ≤ 1048576) (h2 : (out.length : Int) ≤ most) :
    Cn Try.prog 73 [.pointer (some ⟨p, 0, none⟩)] W [IsV p b most (.ok (at_, out))] (fun _ : Unit => .tuple #[]) (fun _ => [IsV p b most (mStored b most at_ out)]) := by
  (refine S.ref05_stream_stored_cn fun F => ?_; unfold S.ref05_stream_stored; simp only [List.cons_append, List.nil_append])
  refine e_ex .here fun x => e_all .here (e_pu .here fun hx => ?_)
  obtain rfl : x = (at_, out) := hx
  refine e_ex .here fun q => e_all .here ?_
  obtain ⟨r, qa, qc⟩ := q
  (try simp only [List.cons_append, List.nil_append, -eq_self])
  (try dsimp only)
  (((with_reducible refine e_opN v_nil Imp.nil ?_))); (((with_reducible refine e_opN v_fa0 Imp.nil ?_))); (((with_reducible refine' e_opN (v_ldN ?hc) ?hi ?_); (case hi => (repeat (first | exact Imp.refl | exact Imp.nil | (apply Imp.pick; (focus ((repeat constructor); done))) | refine Imp.drop ?_))); (case hc => (repeat (first | exact Nth.here | apply Nth.there)))))
  (refine' e_call (qalign) ?hp fun _ => ?_; (case hp => (repeat (first | exact Picks.nil | (apply Picks.cons; (focus (repeat constructor)))))); (try simp only [List.cons_append, List.nil_append, Bool.not_true, Bool.not_false]))
  obtain ⟨a1, ha1⟩ : ∃ a1, a1 = (at_ + 7) / 8 * 8 := ⟨_, rfl⟩
  rw [← ha1]
  refine e_imp (M := IsV p b most (.ok (a1, out)) :: F) (vok (.ex (r, (qa, qc)) (.all (.pick (by (repeat constructor)) (.pick (by (repeat constructor)) (.pick (by (repeat constructor)) .refl)))))) ?_
  (refine' e_call (vtake (k := 16)) ?hp fun _ => ?_; (case hp => (repeat (first | exact Picks.nil | (apply Picks.cons; (focus (repeat constructor)))))); (try simp only [List.cons_append, List.nil_append, Bool.not_true, Bool.not_false]))
  (refine' e_call (vtake (k := 16)) ?hp fun _ => ?_; (case hp => (repeat (first | exact Picks.nil | (apply Picks.cons; (focus (repeat constructor)))))); (try simp only [List.cons_append, List.nil_append, Bool.not_true, Bool.not_false]))
  obtain ⟨s1, hs1⟩ : ∃ s1, s1 = sT b 16 (.ok (a1, out)) := ⟨_, rfl⟩
  obtain ⟨n, hn⟩ : ∃ n, n = vT b 16 (.ok (a1, out)) := ⟨_, rfl⟩
  rw [← hs1, ← hn]
  obtain ⟨s2, hs2⟩ : ∃ s2, s2 = sT b 16 s1 := ⟨_, rfl⟩
  obtain ⟨m, hm⟩ : ∃ m, m = vT b 16 s1 := ⟨_, rfl⟩
  rw [← hs2, ← hm]
  have hnb := vT_b (b := b) (k := 16) (s := .ok (a1, out))
  have hmb := vT_b (b := b) (k := 16) (s := s1)
  rw [show vT b ((16 : Nat) : Int) (.ok (a1, out)) = n from hn.symm] at hnb
  rw [show vT b ((16 : Nat) : Int) s1 = m from hm.symm] at hmb
  obtain ⟨s3, hs3⟩ : ∃ s3, s3 = sC s2 (fun _ => m ≠ 65535 - n) 31 := ⟨_, rfl⟩
  refine e_cut0 (IsV p b most s3 :: F) ?_ ?_
  rotate_left
  · refine e_opN v_nil Imp.nil ?_
    refine e_opN v_fa Imp.nil ?_
    refine e_opN v_lde (.pick (by (repeat constructor)) .nil) ?_
    refine e_opN v_eql Imp.nil ?_
    cases s2 with
    | ok x =>
      rw [decide_eq_true (p := eOf (.ok x) = 0) rfl]
      refine e_gdT ?_
      refine e_gdT ?_
      refine e_gdT ?_
      refine e_opN (v_sub (by omega) (by omega)) Imp.nil ?_
      refine e_gdT ?_
      refine e_opN v_neq Imp.nil ?_
      refine e_opN v_pickT Imp.nil ?_
      by_cases c : m ≠ 65535 - n
      · rw [decide_eq_true c]
        refine e_condT ?_
        (refine' e_call (fail (by decide)) ?hp fun _ => ?_; (case hp => (repeat (first | exact Picks.nil | (apply Picks.cons; (focus (repeat constructor)))))); (try simp only [List.cons_append, List.nil_append, Bool.not_true, Bool.not_false]))
        rw [show sF (.ok x) 31 = s3 by rw [hs3]; exact (if_pos c).symm]
        exact e_sat .refl
      · rw [decide_eq_false c]
        refine e_condF ?_
        rw [show (.ok x : SV) = s3 by rw [hs3]; exact (if_neg c).symm]
        exact e_sat .refl
    | error e =>
      refine e_vne .here fun he => ?_
      rw [decide_eq_false (p := eOf (.error e) = 0) he]
      ((with_reducible refine e_gdF2 ?_)); ((with_reducible refine e_gdF2 ?_)); ((with_reducible refine e_gdF2 ?_)); ((with_reducible refine e_gdF2 ?_)); (((with_reducible refine e_opN v_pickF Imp.nil ?_))); ((with_reducible refine e_condF ?_))
      rw [show (.error e : SV) = s3 by rw [hs3]; rfl]
      exact e_sat .refl
  intro ds
  obtain ⟨s4, hs4⟩ : ∃ s4, s4 = sC s3 (fun x => most - (x.2.length : Int) < n) 6 := ⟨_, rfl⟩
  refine e_cut0 (IsV p b most s4 :: F) ?_ ?_
  rotate_left
  · refine e_drS ?_
    refine e_stS v_nil Imp.nil ?_
    refine e_stS v_fa Imp.nil ?_
    refine e_stS v_lde (.pick (by (repeat constructor)) .nil) ?_
    refine e_stS v_eql Imp.nil ?_
    clear hs3
    cases s3 with
    | ok x =>
      rw [decide_eq_true (p := eOf (.ok x) = 0) rfl]
      refine e_ex .here fun x1 => e_all .here (e_pu .here fun hx1 => ?_)
      obtain rfl : x1 = x := hx1
      refine e_ex .here fun q1 => e_all .here ?_
      obtain ⟨r1, qa1, qc1⟩ := q1
      obtain ⟨a4, o4⟩ := x1
      (try simp only [List.cons_append, List.nil_append, -eq_self])
      (try dsimp only)
      refine e_slfacts (.there (.there .here)) fun f1 f2 f3 f4 => ?_
      have f5 : o4.length ≤ 9223372036854775807 := Nat.le_trans f2 f3
      ((with_reducible refine e_gdT ?_)); ((with_reducible refine e_gdT ?_)); ((with_reducible refine e_gdT ?_)); (((with_reducible refine e_stS v_nil Imp.nil ?_))); ((with_reducible refine e_gdT ?_)); (((with_reducible refine e_stS v_fa0 Imp.nil ?_))); ((with_reducible refine e_gdT ?_)); (((with_reducible refine' e_stS (v_ldN ?hc) ?hi ?_); (case hi => (repeat (first | exact Imp.refl | exact Imp.nil | (apply Imp.pick; (focus ((repeat constructor); done))) | refine Imp.drop ?_))); (case hc => (repeat (first | exact Nth.here | apply Nth.there))))); ((with_reducible refine e_gdT ?_)); ((with_reducible refine e_gdT ?_)); (((with_reducible refine e_stS v_nil Imp.nil ?_))); ((with_reducible refine e_gdT ?_)); (((with_reducible refine e_stS v_fa0 Imp.nil ?_))); ((with_reducible refine e_gdT ?_)); (((with_reducible refine' e_stS (v_ldN ?hc) ?hi ?_); (case hi => (repeat (first | exact Imp.refl | exact Imp.nil | (apply Imp.pick; (focus ((repeat constructor); done))) | refine Imp.drop ?_))); (case hc => (repeat (first | exact Nth.here | apply Nth.there))))); ((with_reducible refine e_gdT ?_)); (((with_reducible refine e_stS v_len Imp.nil ?_))); ((with_reducible refine e_gdT ?_)); (((with_reducible refine e_stS (v_sub ?h1 ?h2) Imp.nil ?_); (case h1 => omega); (case h2 => omega))); ((with_reducible refine e_gdT ?_))
      refine e_stS v_gtr Imp.nil ?_
      refine e_stS v_pickT Imp.nil ?_
      by_cases c : most - (o4.length : Int) < n
      · rw [decide_eq_true c]
        refine e_condT ?_
        refine e_imp (M := IsV p b most (.ok (a4, o4)) :: F) (vok (.ex (r1, (qa1, qc1)) (.all (.pick (by (repeat constructor)) (.pick (by (repeat constructor)) (.pick (by (repeat constructor)) .refl)))))) ?_
        (refine' e_call (fail (by decide)) ?hp fun _ => ?_; (case hp => (repeat (first | exact Picks.nil | (apply Picks.cons; (focus (repeat constructor)))))); (try simp only [List.cons_append, List.nil_append, Bool.not_true, Bool.not_false]))
        rw [show sF (.ok (a4, o4)) 6 = s4 by rw [hs4]; exact (if_pos c).symm]
        exact e_sat .refl
      · rw [decide_eq_false c]
        refine e_condF ?_
        rw [show s4 = (.ok (a4, o4) : SV) by rw [hs4]; exact (if_neg c)]
        exact e_sat (vok (.ex (r1, (qa1, qc1)) (.all (.pick (by (repeat constructor)) (.pick (by (repeat constructor)) (.pick (by (repeat constructor)) .refl))))))
    | error e =>
      refine e_vne .here fun he => ?_
      rw [decide_eq_false (p := eOf (.error e) = 0) he]
      ((with_reducible refine e_gdF2 ?_)); ((with_reducible refine e_gdF2 ?_)); ((with_reducible refine e_gdF2 ?_)); ((with_reducible refine e_gdF2 ?_)); ((with_reducible refine e_gdF2 ?_)); ((with_reducible refine e_gdF2 ?_)); ((with_reducible refine e_gdF2 ?_)); ((with_reducible refine e_gdF2 ?_)); ((with_reducible refine e_gdF2 ?_)); ((with_reducible refine e_gdF2 ?_)); ((with_reducible refine e_gdF2 ?_)); ((with_reducible refine e_gdF2 ?_)); (((with_reducible refine e_stS v_pickF Imp.nil ?_))); ((with_reducible refine e_condF ?_))
      rw [show (.error e : SV) = s4 by rw [hs4]; rfl]
      exact e_sat .refl
  intro ds
  have hM : sR b n s4 = mStored b most at_ out := by
    rw [hs4, hs3, hm, hs2, hs1, hn]
    unfold mStored
    rw [← ha1]
    by_cases c1 : takR b a1 16 = 0
    · by_cases c2 : takR b (takAt b a1 16) 16 = 0
      · simp only [sR, sT, vT, sC, c1, c2, ne_eq, not_true_eq_false, if_false, not_false_eq_true, if_true]
        by_cases c3 : (takN b (takAt b a1 16) 16 : Int) = 65535 - (takN b a1 16 : Int)
        · simp only [c3, not_true_eq_false, if_false]
          by_cases c4 : (takN b a1 16 : Int) ≤ most - (out.length : Int)
          · simp only [eq_false (show ¬ most - (out.length : Int) < (takN b a1 16 : Int) by omega), c4, if_false, not_true_eq_false]
            rfl
          · simp only [eq_true (show most - (out.length : Int) < (takN b a1 16 : Int) by omega), c4, if_true, not_false_eq_true]
        · simp only [c3, not_false_eq_true, if_true]
      · simp only [sR, sT, vT, sC, c1, c2, ne_eq, not_true_eq_false, if_false, not_false_eq_true, if_true]
    · simp only [sR, sT, vT, sC, c1, ne_eq, not_true_eq_false, if_false, not_false_eq_true, if_true]
  refine e_opN v_nil Imp.nil ?_
  refine e_opN v_fa Imp.nil ?_
  refine e_opN v_lde (.pick (by (repeat constructor)) .nil) ?_
  refine e_opN v_neq Imp.nil ?_
  cases hx4 : s4 with
  | ok x =>
    rw [hx4] at hM hs4
    unfold sR at hM
    have hle : n ≤ most - (x.2.length : Int) := by
      cases s3 with
      | ok y =>
        unfold sC at hs4
        by_cases c : most - (y.2.length : Int) < n
        · simp only [c, if_true] at hs4; cases hs4
        · simp only [c, if_false] at hs4; cases hs4; omega
      | error e => cases hs4
    rw [decide_eq_false (p := eOf (.ok x) ≠ 0) (fun c => c rfl)]
    refine e_condF ?_
    refine e_ex .here fun x1 => e_all .here (e_pu .here fun hx1 => ?_)
    obtain rfl : x1 = x := hx1
    refine e_ex .here fun q1 => e_all .here ?_
    obtain ⟨r1, qa1, qc1⟩ := q1
    obtain ⟨a4, o4⟩ := x1
    (try simp only [List.cons_append, List.nil_append, -eq_self])
    (try dsimp only)
    (try dsimp only at hM)
    (try dsimp only at hle)
    obtain ⟨N, rfl⟩ := Int.eq_ofNat_of_zero_le hnb.1
    (((with_reducible refine e_opN v_nil Imp.nil ?_))); (((with_reducible refine e_opN v_fa0 Imp.nil ?_))); (((with_reducible refine' e_opN (v_ldN ?hc) ?hi ?_); (case hi => (repeat (first | exact Imp.refl | exact Imp.nil | (apply Imp.pick; (focus ((repeat constructor); done))) | refine Imp.drop ?_))); (case hc => (repeat (first | exact Nth.here | apply Nth.there)))))
    (refine' e_call (qraw) ?hp fun _ => ?_; (case hp => (repeat (first | exact Picks.nil | (apply Picks.cons; (focus (repeat constructor)))))); (try simp only [List.cons_append, List.nil_append, Bool.not_true, Bool.not_false]))
    rename_i u
    obtain ⟨ua, uc⟩ := u
    (try dsimp only)
    refine e_opN (v_ext (v := .slice ua (rrB b a4 N).length uc) rfl) Imp.nil ?_
    refine e_opN (v_ext (v := .int .i64 (rrR b a4 N)) rfl) Imp.nil ?_
    refine e_ask v_neq Imp.nil (fun h => ?_) (fun h => ?_)
    · rw [if_pos h] at hM
      refine e_condT ?_
      refine e_imp (M := IsV p b most (.ok (rrAt b a4 N, o4)) :: F) (vok (.ex (r1, (qa1, qc1)) (.all (.pick (by (repeat constructor)) (.pick (by (repeat constructor)) (.pick (by (repeat constructor)) (by (repeat (first | exact Imp.refl | exact Imp.nil | (apply Imp.pick; (focus ((repeat constructor); done))) | refine Imp.drop ?_))))))))) ?_
      (refine' e_call (fail h) ?hp fun _ => ?_; (case hp => (repeat (first | exact Picks.nil | (apply Picks.cons; (focus (repeat constructor)))))); (try simp only [List.cons_append, List.nil_append, Bool.not_true, Bool.not_false]))
      rw [← hM]
      (first | refine e_ret (()) rfl ?_ | refine e_retT (()) ?_)
      exact .refl
    · rw [if_neg h] at hM
      refine e_condF ?_
      refine e_slfacts .here fun f1 f2 f3 f4 => ?_
      have hbl : (rrB b a4 N).length ≤ 65536 := by
        have : (rrB b a4 N).length ≤ N := by unfold rrB; split; (rw [List.length_take]; omega); simp
        omega
      (((with_reducible refine e_opN v_nil Imp.nil ?_))); (((with_reducible refine e_opN v_fa0 Imp.nil ?_))); (((with_reducible refine' e_opN (v_ldN ?hc) ?hi ?_); (case hi => (repeat (first | exact Imp.refl | exact Imp.nil | (apply Imp.pick; (focus ((repeat constructor); done))) | refine Imp.drop ?_))); (case hc => (repeat (first | exact Nth.here | apply Nth.there)))))
      refine e_app (m := (rrB b a4 N).length) (news := (rrB b a4 N).map Sl.B) (by (repeat constructor)) (src_rd (e' := 5) (by kernel_rfl) .here (rd_sl (by simp) f4) (fun c => (by
        rcases Nat.eq_zero_or_pos (rrB b a4 N).length with z | z
        · exact z
        · obtain ⟨_, e⟩ := f4 z; rw [c] at e; cases e)) B_one) (by omega) (by omega) fun a' c' => ?_
      (((with_reducible refine e_opN v_nil Imp.nil ?_))); (((with_reducible refine e_opN v_fa0 Imp.nil ?_))); (((with_reducible refine' e_stN ?hp ?ho ?_); (case hp => (repeat constructor)); (case ho => (repeat (first | exact Put.here | apply Put.there)))))
      rw [← hM]
      (first | refine e_ret (()) rfl ?_ | refine e_retT (()) ?_)
      refine vok (.ex (r1, (a', c')) (.all ?_))
      (try simp only [List.cons_append, List.nil_append, -eq_self])
      rw [List.length_append, List.map_append]
      exact .pick (by (repeat constructor)) (.pick (by (repeat constructor)) (.pick (by (repeat constructor)) (by (repeat (first | exact Imp.refl | exact Imp.nil | (apply Imp.pick; (focus ((repeat constructor); done))) | refine Imp.drop ?_)))))
  | error e =>
    rw [hx4] at hM
    unfold sR at hM
    refine e_vne .here fun he => ?_
    rw [decide_eq_true (p := eOf (.error e) ≠ 0) he]
    refine e_condT ?_
    rw [← hM]
    (first | refine e_ret (()) rfl ?_ | refine e_retT (()) ?_)
    exact .refl
end Go.Proofs.Ytehfblkpbadikaa.IF
/-! The document's base lengths and distances; its copies. No conditions but those that each names. -/
namespace Go.Proofs.Ytehfblkpbadikaa.IF
open Go Go.Proofs Go.RowKit Go.Proofs.Ytehfblkpbadikaa.Sh Go.Proofs.Ytehfblkpbadikaa.Sl Go.Proofs.Ytehfblkpbadikaa.T Go.Proofs.Ytehfblkpbadikaa.HM Go.Proofs.Ytehfblkpbadikaa.HF Go.Proofs.Ytehfblkpbadikaa.B Go.Proofs.Ytehfblkpbadikaa.M
theorem rbaseLength {W : World} {s : Int} (h0 : 0 ≤ s ∧ s ≤ 1048576) : Cn Try.prog 104 [.int .i64 s] W [] (fun _ : Unit => .tuple #[.int .i64 (bL s).1, .int .i64 (bL s).2]) (fun _ => []) := by
  (refine S.ref04_BaseLength_cn fun F => ?_; unfold S.ref04_BaseLength; simp only [List.cons_append, List.nil_append])
  refine e_opN v_lss Imp.nil ?_
  by_cases c1 : s < 257
  · rw [decide_eq_true c1, show bL s = (0, 0) from if_pos (by omega)]
    ((with_reducible refine e_gdF1 ?_)); ((with_reducible refine e_gdF1 ?_)); (((with_reducible refine e_opN v_pickT Imp.nil ?_))); ((with_reducible refine e_condT ?_))
    (first | refine e_ret (()) rfl ?_ | refine e_retT (()) ?_)
    exact .refl
  rw [decide_eq_false c1]
  refine e_gdT ?_
  refine e_gdT ?_
  refine e_opN v_gtr Imp.nil ?_
  refine e_opN v_pickF Imp.nil ?_
  by_cases c2 : 285 < s
  · rw [decide_eq_true c2, show bL s = (0, 0) from if_pos (by omega)]
    ((with_reducible refine e_condT ?_))
    (first | refine e_ret (()) rfl ?_ | refine e_retT (()) ?_)
    exact .refl
  rw [decide_eq_false c2]
  refine e_condF ?_
  refine e_opN v_eql Imp.nil ?_
  by_cases c3 : s = 285
  · rw [decide_eq_true c3]
    subst c3
    ((with_reducible refine e_condT ?_))
    (first | refine e_ret (()) rfl ?_ | refine e_retT (()) ?_)
    exact .refl
  rw [decide_eq_false c3]
  refine e_condF ?_
  refine e_opN v_lss Imp.nil ?_
  by_cases c4 : s < 265
  · rw [decide_eq_true c4, show bL s = (s - 257 + 3, 0) by unfold bL; rw [if_neg (by omega), if_neg (by omega), if_pos (by omega)]]
    refine e_condT ?_
    refine e_opN (v_sub (by omega) (by omega)) Imp.nil ?_
    rw [show s - 254 = s - 257 + 3 by omega]
    (first | refine e_ret (()) rfl ?_ | refine e_retT (()) ?_)
    exact .refl
  rw [decide_eq_false c4]
  refine e_condF ?_
  obtain ⟨t, ht⟩ : ∃ t : Nat, s = ((265 + t : Nat) : Int) := ⟨(s - 265).toNat, by omega⟩
  have ht20 : t < 20 := by omega
  subst ht
  have hb := smL_ok ⟨t, ht20⟩
  (try dsimp only at hb)
  refine e_opN (v_sub (by omega) (by omega)) Imp.nil ?_
  refine e_opN (v_quo (by omega) (by omega) (by omega)) Imp.nil ?_
  rw [show (((265 + t : Nat) : Int) - 261) / 4 = (((265 + t - 261) / 4 : Nat) : Int) by omega, hb]
  refine e_loop2 (fun m x y => (ex fun j : Nat => pu (m + j = t ∧ x = .int .i64 (smL j : Int) ∧ y = .int .i64 ((265 + j : Nat) : Int))) :: F) t ?_ ?_
  · exact .ex 0 (.pu ⟨rfl, rfl, rfl⟩ .refl)
  intro m ds x y
  refine e_ex .here fun j => e_pu .here fun hj => ?_
  obtain ⟨hmj, rfl, rfl⟩ := hj
  refine e_ask v_lss Imp.nil (fun h => ?_) (fun h => ?_)
  · have hs := smL_b ⟨j, by omega⟩
    have hs1 := smL_b ⟨j + 1, by omega⟩
    (try dsimp only at hs)
    (try dsimp only at hs1)
    have e1 : smL (j + 1) = smL j + 2 ^ ((265 + j - 261) / 4) := rfl
    refine e_condT ?_
    refine e_opN (v_sub (by omega) (by omega)) Imp.nil ?_
    refine e_opN (v_quo (by omega) (by omega) (by omega)) Imp.nil ?_
    rw [show (((265 + j : Nat) : Int) - 261) / 4 = (((265 + j - 261) / 4 : Nat) : Int) by omega]
    refine e_opN v_conv Imp.nil ?_
    rw [wrapu64' (by omega) (by omega)]
    refine e_opN (v_shl (by omega)) Imp.nil ?_
    rw [shl64 (by omega) (by omega) (by omega), Int.one_mul]
    generalize 2 ^ ((265 + j - 261) / 4) = Z at e1 ⊢
    refine e_opN (v_add (by omega) (by omega)) Imp.nil ?_
    refine e_opN (v_add (by omega) (by omega)) Imp.nil ?_
    exact e_next2 (m - 1) (by omega) (.ex (j + 1) (.pu ⟨by omega, by rw [e1]; rfl, rfl⟩ .refl))
  · have hjt : j = t := by omega
    subst hjt
    refine e_condF ?_
    (first | refine e_ret (()) rfl ?_ | refine e_retT (()) ?_)
    exact .refl
theorem rbaseDistance {W : World} {s : Int} (h0 : 0 ≤ s ∧ s ≤ 1048576) : Cn Try.prog 105 [.int .i64 s] W [] (fun _ : Unit => .tuple #[.int .i64 (bD s).1, .int .i64 (bD s).2]) (fun _ => []) := by
  (refine S.ref04_BaseDistance_cn fun F => ?_; unfold S.ref04_BaseDistance; simp only [List.cons_append, List.nil_append])
  refine e_opN v_lss Imp.nil ?_
  rw [decide_eq_false (show ¬ s < 0 by omega)]
  refine e_gdT ?_
  refine e_gdT ?_
  refine e_opN v_gtr Imp.nil ?_
  refine e_opN v_pickF Imp.nil ?_
  by_cases c2 : 29 < s
  · rw [decide_eq_true c2, show bD s = (0, 0) from if_pos (by omega)]
    ((with_reducible refine e_condT ?_))
    (first | refine e_ret (()) rfl ?_ | refine e_retT (()) ?_)
    exact .refl
  rw [decide_eq_false c2]
  refine e_condF ?_
  refine e_opN v_lss Imp.nil ?_
  by_cases c4 : s < 4
  · rw [decide_eq_true c4, show bD s = (s + 1, 0) by unfold bD; rw [if_neg (by omega), if_pos (by omega)]]
    refine e_condT ?_
    refine e_opN (v_add (by omega) (by omega)) Imp.nil ?_
    (first | refine e_ret (()) rfl ?_ | refine e_retT (()) ?_)
    exact .refl
  rw [decide_eq_false c4]
  refine e_condF ?_
  obtain ⟨t, ht⟩ : ∃ t : Nat, s = ((4 + t : Nat) : Int) := ⟨(s - 4).toNat, by omega⟩
  have ht20 : t < 26 := by omega
  subst ht
  have hb := smD_ok ⟨t, ht20⟩
  (try dsimp only at hb)
  refine e_opN (v_sub (by omega) (by omega)) Imp.nil ?_
  refine e_opN (v_quo (by omega) (by omega) (by omega)) Imp.nil ?_
  rw [show (((4 + t : Nat) : Int) - 2) / 2 = (((4 + t - 2) / 2 : Nat) : Int) by omega, hb]
  refine e_loop2 (fun m x y => (ex fun j : Nat => pu (m + j = t ∧ x = .int .i64 (smD j : Int) ∧ y = .int .i64 ((4 + j : Nat) : Int))) :: F) t ?_ ?_
  · exact .ex 0 (.pu ⟨rfl, rfl, rfl⟩ .refl)
  intro m ds x y
  refine e_ex .here fun j => e_pu .here fun hj => ?_
  obtain ⟨hmj, rfl, rfl⟩ := hj
  refine e_ask v_lss Imp.nil (fun h => ?_) (fun h => ?_)
  · have hs := smD_b ⟨j, by omega⟩
    have hs1 := smD_b ⟨j + 1, by omega⟩
    (try dsimp only at hs)
    (try dsimp only at hs1)
    have e1 : smD (j + 1) = smD j + 2 ^ ((4 + j - 2) / 2) := rfl
    refine e_condT ?_
    refine e_opN (v_sub (by omega) (by omega)) Imp.nil ?_
    refine e_opN (v_quo (by omega) (by omega) (by omega)) Imp.nil ?_
    rw [show (((4 + j : Nat) : Int) - 2) / 2 = (((4 + j - 2) / 2 : Nat) : Int) by omega]
    refine e_opN v_conv Imp.nil ?_
    rw [wrapu64' (by omega) (by omega)]
    refine e_opN (v_shl (by omega)) Imp.nil ?_
    rw [shl64 (by omega) (by omega) (by omega), Int.one_mul]
    generalize 2 ^ ((4 + j - 2) / 2) = Z at e1 ⊢
    refine e_opN (v_add (by omega) (by omega)) Imp.nil ?_
    refine e_opN (v_add (by omega) (by omega)) Imp.nil ?_
    exact e_next2 (m - 1) (by omega) (.ex (j + 1) (.pu ⟨by omega, by rw [e1]; rfl, rfl⟩ .refl))
  · have hjt : j = t := by omega
    subst hjt
    refine e_condF ?_
    (first | refine e_ret (()) rfl ?_ | refine e_retT (()) ?_)
    exact .refl
/-- a copy: what a symbol of a length does -/
def mCopy (lb : List Int) (b : List UInt8) (most s : Int) (at_ : Nat) (out : List UInt8) : SV :=
  if ¬ 0 < (bL s).1 then .error 30 else
  if takR b at_ (bL s).2 ≠ 0 then .error (takR b at_ (bL s).2) else
  let y := nxt lb b (takAt b at_ (bL s).2)
  if y.2.1 ≠ 0 then .error y.2.1 else
  if ¬ 0 < (bD y.1).1 then .error 30 else
  if takR b y.2.2 (bD y.1).2 ≠ 0 then .error (takR b y.2.2 (bD y.1).2) else
  if ¬ (bD y.1).1 + takN b y.2.2 (bD y.1).2 ≤ out.length then .error 31 else
  if ¬ (bL s).1 + takN b at_ (bL s).2 ≤ most - out.length then .error 6 else
  .ok (takAt b y.2.2 (bD y.1).2, copyL out ((bD y.1).1 + takN b y.2.2 (bD y.1).2).toNat ((bL s).1 + takN b at_ (bL s).2).toNat)
def sK (far n : Int) (s : SV) : SV := match s with
  | .ok x => .ok (x.1, copyL x.2 far.toNat n.toNat)
  | .error e => .error e
theorem bL_pos {s : Int} (h : 257 ≤ s) : (0 < (bL s).1) ↔ s ≤ 285 := by
  constructor
  · intro c
    rcases Int.lt_or_le 285 s with k | k
    · rw [show bL s = (0, 0) from if_pos (by omega)] at c; omega
    · exact k
  · intro c
    obtain ⟨t, ht⟩ : ∃ t : Nat, s = ((257 + t : Nat) : Int) := ⟨(s - 257).toNat, by omega⟩
    have k : ∀ j : Fin 29, 0 < (bL ((257 + j.1 : Nat) : Int)).1 := by decide
    rw [ht]
    exact k ⟨t, by omega⟩
theorem bD_pos {s : Int} (h : 0 ≤ s) : (0 < (bD s).1) ↔ s ≤ 29 := by
  constructor
  · intro c
    rcases Int.lt_or_le 29 s with k | k
    · rw [show bD s = (0, 0) from if_pos (by omega)] at c; omega
    · exact k
  · intro c
    obtain ⟨t, ht⟩ : ∃ t : Nat, s = ((t : Nat) : Int) := ⟨s.toNat, by omega⟩
    have k : ∀ j : Fin 30, 0 < (bD ((j.1 : Nat) : Int)).1 := by decide
    rw [ht]
    exact k ⟨t, by omega⟩
theorem copy_eq {lb : List Int} {b : List UInt8} {most s : Int} {at_ : Nat} {out : List UInt8} {s1 s2 s3 s4 s5 s6 : SV} {n y far : Int} (h : 257 ≤ s) (hs : s ≤ 285)
    (h1 : s1 = sT b (bL s).2 (.ok (at_, out))) (hn : n = (bL s).1 + vT b (bL s).2 (.ok (at_, out))) (h2 : s2 = sN lb b s1) (hy : y = vN lb b s1) (h3 : s3 = sC s2 (fun _ => 29 < y) 30)
    (h4 : s4 = sT b (bD y).2 s3) (hf : far = (bD y).1 + vT b (bD y).2 s3) (h5 : s5 = sC s4 (fun x => (x.2.length : Int) < far) 31) (h6 : s6 = sC s5 (fun x => most - (x.2.length : Int) < n) 6) :
    sK far n s6 = mCopy lb b most s at_ out := by
  unfold mCopy
  rw [if_neg (not_not_intro ((bL_pos h).2 hs))]
  simp only
  by_cases c1 : takR b at_ (bL s).2 = 0
  rotate_left
  · simp only [h6, h5, h4, h3, h2, h1, sK, sC, sT, sN, c1, ne_eq, not_false_eq_true, if_true]
  by_cases c2 : (nxt lb b (takAt b at_ (bL s).2)).2.1 = 0
  rotate_left
  · simp only [h6, h5, h4, h3, h2, h1, sK, sC, sT, sN, c1, c2, ne_eq, not_false_eq_true, not_true_eq_false, if_true, if_false]
  have hy' : y = (nxt lb b (takAt b at_ (bL s).2)).1 := by
    rw [hy, h1]; simp only [sT, c1, ne_eq, not_true_eq_false, if_false, vN]
  rw [← hy']
  have hy0 : 0 ≤ y := by rw [hy']; exact (nxt_val _ _ _).1
  by_cases c3 : y ≤ 29
  rotate_left
  · have d : 29 < y := by omega
    simp only [h6, h5, h4, h3, h2, h1, sK, sC, sT, sN, c1, c2, d, (bD_pos hy0), c3, ne_eq, not_false_eq_true, not_true_eq_false, if_true, if_false]
  have d3 : ¬ 29 < y := by omega
  have e3 : s3 = .ok ((nxt lb b (takAt b at_ (bL s).2)).2.2, out) := by
    simp only [h3, h2, h1, sC, sT, sN, c1, c2, d3, ne_eq, not_true_eq_false, if_false]
  obtain ⟨z, hz⟩ : ∃ z, z = (nxt lb b (takAt b at_ (bL s).2)).2.2 := ⟨_, rfl⟩
  rw [← hz] at e3 ⊢
  rw [e3] at h4 hf
  rw [show vT b (bD y).2 (.ok (z, out)) = (takN b z (bD y).2 : Int) from rfl] at hf
  rw [show vT b (bL s).2 (.ok (at_, out)) = (takN b at_ (bL s).2 : Int) from rfl] at hn
  rw [← hf, ← hn]
  by_cases c4 : takR b z (bD y).2 = 0
  rotate_left
  · simp only [h6, h5, h4, sK, sC, sT, c1, c2, c3, c4, (bD_pos hy0), ne_eq, not_false_eq_true, not_true_eq_false, if_true, if_false]
  by_cases c5 : far ≤ (out.length : Int)
  rotate_left
  · have d : (out.length : Int) < far := by omega
    simp only [h6, h5, h4, sK, sC, sT, c1, c2, c3, c4, c5, d, (bD_pos hy0), ne_eq, not_false_eq_true, not_true_eq_false, if_true, if_false]
  have d5 : ¬ (out.length : Int) < far := by omega
  by_cases c6 : n ≤ most - (out.length : Int)
  rotate_left
  · have d : most - (out.length : Int) < n := by omega
    simp only [h6, h5, h4, sK, sC, sT, c1, c2, c3, c4, c5, c6, d, d5, (bD_pos hy0), ne_eq, not_false_eq_true, not_true_eq_false, if_true, if_false]
  have d6 : ¬ most - (out.length : Int) < n := by omega
  simp only [h6, h5, h4, sK, sC, sT, c1, c2, c3, c4, c5, c6, d5, d6, (bD_pos hy0), ne_eq, not_false_eq_true, not_true_eq_false, if_true, if_false]
end Go.Proofs.Ytehfblkpbadikaa.IF
/-! The document's fixed lengths, its rule for codes, its base lengths and distances. No conditions but those that each names. -/
namespace Go.Proofs.Ytehfblkpbadikaa.IF
open Go Go.Proofs Go.RowKit Go.Proofs.Ytehfblkpbadikaa.Sh Go.Proofs.Ytehfblkpbadikaa.Sl Go.Proofs.Ytehfblkpbadikaa.T Go.Proofs.Ytehfblkpbadikaa.HM Go.Proofs.Ytehfblkpbadikaa.HF Go.Proofs.Ytehfblkpbadikaa.B Go.Proofs.Ytehfblkpbadikaa.M
theorem lit_at (i : Nat) (h : i < 288) : litL[i]? = some (if 256 ≤ i ∧ i < 280 then 7 else if 144 ≤ i ∧ i < 256 then 9 else 8) := by
  have k : ∀ j : Fin 288, litL[j.1]? = some (if 256 ≤ j.1 ∧ j.1 < 280 then 7 else if 144 ≤ j.1 ∧ j.1 < 256 then 9 else 8) := by decide +kernel
  exact k ⟨i, h⟩
theorem dst_at (i : Nat) (h : i < 32) : dstL[i]? = some 5 := by
  have k : ∀ j : Fin 32, dstL[j.1]? = some 5 := by decide +kernel
  exact k ⟨i, h⟩
theorem take_snoc {l : List Int} {i : Nat} {v : Int} (h : l[i]? = some v) : l.take (i + 1) = l.take i ++ [v] := by
  rw [List.take_add_one, h]; rfl
theorem rfixed {W : World} : Cn Try.prog 74 [] W [] (fun q : (Option Addr × Nat) × (Option Addr × Nat) => .tuple #[.slice q.1.1 litL.length q.1.2, .slice q.2.1 dstL.length q.2.2]) (fun q => [Sl 1 3 q.1.1 q.1.2 litL.length (litL.map I), Sl 1 3 q.2.1 q.2.2 dstL.length (dstL.map I)]) := by
  have l1 : litL.length = 288 := by rw [lit_len]
  have l2 : dstL.length = 32 := by rw [dst_len]
  rw [l1, l2]
  (refine S.ref05_Fixed_cn fun F => ?_; unfold S.ref05_Fixed; simp only [List.cons_append, List.nil_append])
  refine e_loop2 (fun m x y => (ex fun q : (Option Addr × Nat) × Nat => all [pu (m + q.2 = 288 ∧ x = .slice q.1.1 q.2 q.1.2 ∧ y = .int .i64 (q.2 : Int)), Sl 1 3 q.1.1 q.1.2 q.2 ((litL.take q.2).map I)]) :: F) 288 ?_ ?_
  · refine .ex ((none, 0), 0) (.all ?_)
    (try simp only [List.cons_append, List.nil_append, -eq_self])
    exact .pu ⟨rfl, rfl, rfl⟩ (imp_nil .refl)
  intro m ds x y
  refine e_ex .here fun q => e_all .here ?_
  obtain ⟨⟨qa, qc⟩, i⟩ := q
  (try simp only [List.cons_append, List.nil_append, -eq_self])
  refine e_pu .here fun hi => ?_
  (try dsimp only at hi)
  (try dsimp only)
  obtain ⟨hmi, rfl, rfl⟩ := hi
  refine e_ask v_lss Imp.nil (fun h => ?_) (fun h => ?_)
  · have hi : i < 288 := by omega
    have hv := lit_at i hi
    refine e_condT ?_
    refine e_cut1 (fun v => pu (v = .int .i64 (if 144 ≤ i ∧ i < 256 then 9 else 8)) :: Sl 1 3 qa qc i ((litL.take i).map I) :: F) ?_ ?_
    rotate_left
    · refine e_ask v_geq Imp.nil (fun h1 => ?_) (fun h1 => ?_)
      · refine e_gdT ?_
        refine e_gdT ?_
        refine e_opN v_lss Imp.nil ?_
        refine e_opN v_pickT Imp.nil ?_
        by_cases c : (i : Int) < 256
        · rw [decide_eq_true c]
          refine e_condT ?_
          exact e_sat (.pu (by rw [if_pos (show 144 ≤ i ∧ i < 256 by omega)]) .refl)
        · rw [decide_eq_false c]
          refine e_condF ?_
          exact e_sat (.pu (by rw [if_neg (show ¬ (144 ≤ i ∧ i < 256) by omega)]) .refl)
      · ((with_reducible refine e_gdF2 ?_)); ((with_reducible refine e_gdF2 ?_)); (((with_reducible refine e_opN v_pickF Imp.nil ?_))); ((with_reducible refine e_condF ?_))
        exact e_sat (.pu (by rw [if_neg (show ¬ (144 ≤ i ∧ i < 256) by omega)]) .refl)
    intro ds1 z
    refine e_pu .here fun hz => ?_
    subst hz
    refine e_cut1 (fun v => pu (v = .int .i64 (if 256 ≤ i ∧ i < 280 then 7 else if 144 ≤ i ∧ i < 256 then 9 else 8)) :: Sl 1 3 qa qc i ((litL.take i).map I) :: F) ?_ ?_
    rotate_left
    · refine e_ask v_geq Imp.nil (fun h1 => ?_) (fun h1 => ?_)
      · refine e_gdT ?_
        refine e_gdT ?_
        refine e_opN v_lss Imp.nil ?_
        refine e_opN v_pickT Imp.nil ?_
        by_cases c : (i : Int) < 280
        · rw [decide_eq_true c]
          refine e_condT ?_
          exact e_sat (.pu (by rw [if_pos (show 256 ≤ i ∧ i < 280 by omega)]) .refl)
        · rw [decide_eq_false c]
          refine e_condF ?_
          exact e_sat (.pu (by rw [if_neg (show ¬ (256 ≤ i ∧ i < 280) by omega)]) .refl)
      · ((with_reducible refine e_gdF2 ?_)); ((with_reducible refine e_gdF2 ?_)); (((with_reducible refine e_opN v_pickF Imp.nil ?_))); ((with_reducible refine e_condF ?_))
        exact e_sat (.pu (by rw [if_neg (show ¬ (256 ≤ i ∧ i < 280) by omega)]) .refl)
    intro ds2 z
    refine e_pu .here fun hz => ?_
    subst hz
    obtain ⟨v, hvE⟩ : ∃ v : Int, v = (if 256 ≤ i ∧ i < 280 then 7 else if 144 ≤ i ∧ i < 256 then 9 else 8) := ⟨_, rfl⟩
    rw [← hvE] at hv ⊢
    refine e_bsl1 fun g => ?_
    refine e_app (m := 1) (news := [I v]) (by (repeat constructor)) (src_pt (e' := 3) (by kernel_rfl) .here (by rfl) (I_one (l := [v]))) (by omega) (by omega) fun a' c' => ?_
    refine e_opN (v_add (by omega) (by omega)) Imp.nil ?_
    refine e_next2 (m - 1) (by omega) (.ex ((a', c'), i + 1) (.all ?_))
    (try simp only [List.cons_append, List.nil_append, -eq_self])
    refine .pu ⟨by (try dsimp only); omega, rfl, rfl⟩ ?_
    (try dsimp only)
    rw [take_snoc hv, List.map_append]
    exact .pick (by (repeat constructor)) (by (repeat (first | exact Imp.refl | exact Imp.nil | (apply Imp.pick; (focus ((repeat constructor); done))) | refine Imp.drop ?_)))
  have hie : i = 288 := by omega
  subst hie
  refine e_condF ?_
  rw [List.take_of_length_le (by omega)]
  refine e_loop2 (fun m x y => (ex fun q : (Option Addr × Nat) × Nat => all [pu (m + q.2 = 32 ∧ x = .slice q.1.1 q.2 q.1.2 ∧ y = .int .i64 (q.2 : Int)), Sl 1 3 q.1.1 q.1.2 q.2 ((dstL.take q.2).map I)]) :: Sl 1 3 qa qc 288 (litL.map I) :: F) 32 ?_ ?_
  · refine .ex ((none, 0), 0) (.all ?_)
    (try simp only [List.cons_append, List.nil_append, -eq_self])
    exact .pu ⟨rfl, rfl, rfl⟩ (imp_nil .refl)
  intro m ds x y
  refine e_ex .here fun q => e_all .here ?_
  obtain ⟨⟨ra, rc⟩, i⟩ := q
  (try simp only [List.cons_append, List.nil_append, -eq_self])
  refine e_pu .here fun hi => ?_
  (try dsimp only at hi)
  (try dsimp only)
  obtain ⟨hmi, rfl, rfl⟩ := hi
  refine e_ask v_lss Imp.nil (fun h => ?_) (fun h => ?_)
  · have hi : i < 32 := by omega
    have hv := dst_at i hi
    refine e_condT ?_
    refine e_bsl1 fun g => ?_
    refine e_app (m := 1) (news := [I 5]) (by (repeat constructor)) (src_pt (e' := 3) (by kernel_rfl) .here (by rfl) (I_one (l := [5]))) (by omega) (by omega) fun a' c' => ?_
    refine e_opN (v_add (by omega) (by omega)) Imp.nil ?_
    refine e_next2 (m - 1) (by omega) (.ex ((a', c'), i + 1) (.all ?_))
    (try simp only [List.cons_append, List.nil_append, -eq_self])
    refine .pu ⟨by (try dsimp only); omega, rfl, rfl⟩ ?_
    (try dsimp only)
    rw [take_snoc hv, List.map_append]
    exact .pick (by (repeat constructor)) (by (repeat (first | exact Imp.refl | exact Imp.nil | (apply Imp.pick; (focus ((repeat constructor); done))) | refine Imp.drop ?_)))
  have hie : i = 32 := by omega
  subst hie
  refine e_condF ?_
  rw [List.take_of_length_le (show dstL.length ≤ 32 by omega)]
  refine e_ret ((qa, qc), (ra, rc)) rfl ?_
  (repeat (first | exact Imp.refl | exact Imp.nil | (apply Imp.pick; (focus ((repeat constructor); done))) | refine Imp.drop ?_))
theorem rorder {W : World} : Cn Try.prog 96 [] W [] (fun g : Nat => .slice (some ⟨g, 0, none⟩) 19 19) (fun g => [pt g (.cells (((ordL.map fun n : Nat => (n : Int)).map I)).toArray 3 (0, 0))]) := by
  (refine S.ref05_order_cn fun F => ?_; unfold S.ref05_order; simp only [List.cons_append, List.nil_append])
  refine e_bslN (vs := (ordL.map fun n : Nat => (n : Int)).map I) rfl rfl (by intro v hv; obtain ⟨c, _, rfl⟩ := List.mem_map.1 hv; rfl) (by omega) fun g => ?_
  refine e_ret g rfl ?_
  (repeat (first | exact Imp.refl | exact Imp.nil | (apply Imp.pick; (focus ((repeat constructor); done))) | refine Imp.drop ?_))
def onesB (l : List Int) : Bool := l.all fun x => decide (0 < x → x = 1)
theorem ones_snoc (l : List Int) (x : Int) : onesB (l ++ [x]) = (onesB l && decide (0 < x → x = 1)) := by simp [onesB]
theorem ones_sum : ∀ l : List Int, onesB l = true → sumP l = cntP l
  | [], _ => rfl
  | x :: l, h => by
    unfold onesB at h
    rw [List.all_cons, Bool.and_eq_true] at h
    have := ones_sum l h.2
    have hx := of_decide_eq_true h.1
    simp only [sumP, cntP]
    split <;> omega
theorem cnt_sum : ∀ l : List Int, cntP l ≤ sumP l ∧ (sumP l = cntP l → onesB l = true)
  | [] => by simp [cntP, sumP, onesB]
  | x :: l => by
    have ⟨h1, h2⟩ := cnt_sum l
    constructor
    · simp only [sumP, cntP]; split <;> omega
    · intro h
      unfold onesB
      rw [List.all_cons, Bool.and_eq_true]
      simp only [sumP, cntP] at h
      refine ⟨decide_eq_true fun c => ?_, h2 ?_⟩
      · rw [if_pos c, if_pos c] at h; omega
      · split at h <;> omega
theorem enough_ones (l : List Int) : enoughB l = (decide (cntP l = 0) || (decide (cntP l = 1) && onesB l) || fullB l) := by
  unfold enoughB
  have h := cnt_sum l
  by_cases c : cntP l = 1
  · have : decide (sumP l = 1) = onesB l := by
      cases ho : onesB l with
      | true => exact decide_eq_true (by have := ones_sum l ho; omega)
      | false => exact decide_eq_false fun e => by have := h.2 (by omega); rw [ho] at this; cases this
    rw [this]
  · rw [decide_eq_false c, Bool.false_and, Bool.false_and]
theorem renough {W : World} {a : Option Addr} {cap : Nat} {l : List Int} {A : HP} (hr : RdB W A a l.length (l.map I)) (hl : l.length ≤ 1048576) :
    Cn Try.prog 98 [.slice a l.length cap] W [A] (fun _ : Unit => .bool (enoughB l)) (fun _ => [A]) := by
  (refine S.ref05_enough_cn fun F => ?_; unfold S.ref05_enough; simp only [List.cons_append, List.nil_append])
  refine e_loop3 (fun m x y z => (ex fun i : Nat => pu (m + i = l.length ∧ x = .int .i64 (cntP (l.take i)) ∧ y = .bool (onesB (l.take i)) ∧ z = .int .i64 (i : Int))) :: A :: F) l.length ?_ ?_
  · refine .ex 0 ?_
    exact .pu ⟨by omega, rfl, rfl, rfl⟩ .refl
  intro m ds x y z
  refine e_ex Pick.here fun i => e_pu Pick.here fun hi => ?_
  obtain ⟨hmi, rfl, rfl, rfl⟩ := hi
  have c1 := cntP_b (l.take i)
  rw [List.length_take] at c1
  refine e_opN v_len Imp.nil ?_
  refine e_ask v_lss Imp.nil (fun h => ?_) (fun h => ?_)
  · have hil : i < l.length := by omega
    obtain ⟨g, o, rfl, _⟩ := hr.at_ (by omega)
    have lf : RunV Try.prog W [A] (sLoad 3 (.pointer (some ⟨g, o + i, none⟩))) (.int .i64 l[i]) := v_ldRd hr (I_get hil)
    have t1 : l.take (i + 1) = l.take i ++ [l[i]] := take_snoc (List.getElem?_eq_getElem hil)
    refine e_condT ?_
    refine e_opN (v_ia1 i (by rfl) hil) Imp.nil ?_
    refine e_opN lf (.pick (by (repeat constructor)) .nil) ?_
    refine e_ask v_gtr Imp.nil (fun h3 => ?_) (fun h3 => ?_)
    · have s1 : cntP (l.take (i + 1)) = cntP (l.take i) + 1 := by rw [t1, cntP_append]; simp only [cntP]; rw [if_pos (by omega)]; omega
      refine e_condT ?_
      refine e_opN (v_add (by omega) (by omega)) Imp.nil ?_
      cases ho : onesB (l.take i) with
      | true =>
        have s2 : onesB (l.take (i + 1)) = decide (l[i] = 1) := by
          rw [t1, ones_snoc, ho, Bool.true_and]
          exact decide_eq_decide.2 ⟨fun k => k h3, fun k _ => k⟩
        refine e_gdT ?_
        refine e_gdT ?_
        refine e_gdT ?_
        refine e_opN (v_ia1 i (by rfl) hil) Imp.nil ?_
        refine e_gdT ?_
        refine e_opN lf (.pick (by (repeat constructor)) .nil) ?_
        refine e_gdT ?_
        refine e_opN v_eql Imp.nil ?_
        refine e_opN v_pickT Imp.nil ?_
        refine e_opN (v_add (by omega) (by omega)) Imp.nil ?_
        refine e_next3 (m - 1) (by omega) (.ex (i + 1) (.pu ⟨by omega, by rw [s1], by rw [s2], rfl⟩ ?_))
        exact .refl
      | false =>
        have s2 : onesB (l.take (i + 1)) = false := by rw [t1, ones_snoc, ho, Bool.false_and]
        ((with_reducible refine e_gdF2 ?_)); ((with_reducible refine e_gdF2 ?_)); ((with_reducible refine e_gdF2 ?_)); ((with_reducible refine e_gdF2 ?_)); ((with_reducible refine e_gdF2 ?_)); (((with_reducible refine e_opN v_pickF Imp.nil ?_))); (((with_reducible refine e_opN (v_add ?h1 ?h2) Imp.nil ?_); (case h1 => omega); (case h2 => omega)))
        refine e_next3 (m - 1) (by omega) (.ex (i + 1) (.pu ⟨by omega, by rw [s1], by rw [s2], rfl⟩ ?_))
        exact .refl
    · have s1 : cntP (l.take (i + 1)) = cntP (l.take i) := by rw [t1, cntP_append]; simp only [cntP]; rw [if_neg (by omega)]; omega
      have s2 : onesB (l.take (i + 1)) = onesB (l.take i) := by
        rw [t1, ones_snoc, show decide (0 < l[i] → l[i] = 1) = true from decide_eq_true fun k => absurd k (by omega), Bool.and_true]
      refine e_condF ?_
      refine e_opN (v_add (by omega) (by omega)) Imp.nil ?_
      refine e_next3 (m - 1) (by omega) (.ex (i + 1) (.pu ⟨by omega, by rw [s1], by rw [s2], rfl⟩ ?_))
      exact .refl
  · have : i = l.length := by omega
    subst this
    rw [List.take_length]
    refine e_condF ?_
    have fin : ∀ v : Bool, v = enoughB l → Ent W (A :: F) (fun w => ∃ x : Unit, (.bool v : Value) = .bool (enoughB l) ∧ sat W ([A] ++ F) w) := by
      intro v hv
      rw [hv]
      refine e_ret () rfl ?_
      exact .refl
    have he := enough_ones l
    refine e_opN v_eql Imp.nil ?_
    by_cases h0 : cntP l = 0
    · rw [decide_eq_true h0] at he ⊢
      ((with_reducible refine e_gdF1 ?_)); ((with_reducible refine e_gdF1 ?_)); ((with_reducible refine e_gdF1 ?_)); ((with_reducible refine e_gdU ?_)); ((with_reducible refine e_gdF1 ?_)); (((with_reducible refine e_opN v_pickT Imp.nil ?_))); ((with_reducible refine e_gdF1 ?_)); ((with_reducible refine e_gdF1 ?_)); (((with_reducible refine e_opN v_pickT Imp.nil ?_)))
      exact fin true (by rw [he]; rfl)
    rw [decide_eq_false h0] at he ⊢
    refine e_gdT ?_
    refine e_gdT ?_
    refine e_opN v_eql Imp.nil ?_
    by_cases h1 : cntP l = 1
    · rw [decide_eq_true h1] at he ⊢
      cases ho : onesB l with
      | true =>
        rw [ho] at he
        ((with_reducible refine e_gdT ?_)); ((with_reducible refine e_gdT ?_)); ((with_reducible refine e_gdT ?_)); (((with_reducible refine e_opN v_pickT Imp.nil ?_))); (((with_reducible refine e_opN v_pickF Imp.nil ?_))); ((with_reducible refine e_gdF1 ?_)); ((with_reducible refine e_gdF1 ?_)); (((with_reducible refine e_opN v_pickT Imp.nil ?_)))
        exact fin true (by rw [he]; rfl)
      | false =>
        rw [ho] at he
        ((with_reducible refine e_gdT ?_)); ((with_reducible refine e_gdT ?_)); ((with_reducible refine e_gdT ?_)); (((with_reducible refine e_opN v_pickT Imp.nil ?_))); (((with_reducible refine e_opN v_pickF Imp.nil ?_))); ((with_reducible refine e_gdT ?_)); ((with_reducible refine e_gdT ?_))
        (refine' e_call (refFull hr (by omega)) ?hp fun _ => ?_; (case hp => (repeat (first | exact Picks.nil | (apply Picks.cons; (focus (repeat constructor)))))); (try simp only [List.cons_append, List.nil_append, Bool.not_true, Bool.not_false]))
        (((with_reducible refine e_opN v_pickF Imp.nil ?_)))
        exact fin _ (by rw [he]; rfl)
    · rw [decide_eq_false h1] at he ⊢
      ((with_reducible refine e_gdT ?_)); ((with_reducible refine e_gdF2 ?_)); ((with_reducible refine e_gdT ?_)); (((with_reducible refine e_opN v_pickF Imp.nil ?_))); (((with_reducible refine e_opN v_pickF Imp.nil ?_))); ((with_reducible refine e_gdT ?_)); ((with_reducible refine e_gdT ?_))
      (refine' e_call (refFull hr (by omega)) ?hp fun _ => ?_; (case hp => (repeat (first | exact Picks.nil | (apply Picks.cons; (focus (repeat constructor)))))); (try simp only [List.cons_append, List.nil_append, Bool.not_true, Bool.not_false]))
      (((with_reducible refine e_opN v_pickF Imp.nil ?_)))
      exact fin _ (by rw [he]; rfl)
end Go.Proofs.Ytehfblkpbadikaa.IF
/-! The document's copies: the walk. No conditions but those that each names. -/
namespace Go.Proofs.Ytehfblkpbadikaa.IF
open Go Go.Proofs Go.RowKit Go.Proofs.Ytehfblkpbadikaa.Sh Go.Proofs.Ytehfblkpbadikaa.Sl Go.Proofs.Ytehfblkpbadikaa.T Go.Proofs.Ytehfblkpbadikaa.HM Go.Proofs.Ytehfblkpbadikaa.HF Go.Proofs.Ytehfblkpbadikaa.B Go.Proofs.Ytehfblkpbadikaa.M
theorem vT32 {b : List UInt8} {k : Int} {s : SV} : 0 ≤ vT b k s ∧ vT b k s < 4294967296 := by
  unfold vT
  split
  · rename_i x
    have := takN32 b x.1 k
    exact ⟨by omega, by omega⟩
  · exact ⟨by omega, by omega⟩
theorem vN_b {l : List Int} {b : List UInt8} {s : SV} : 0 ≤ vN l b s ∧ vN l b s ≤ l.length := by
  unfold vN
  split
  · exact nxt_val _ _ _
  · exact ⟨by omega, by omega⟩
theorem vcopied {W : World} {p d at_ : Nat} {lb : List Int} {b out : List UInt8} {most s : Int} (hlb : lb.length ≤ 320) (h1 : 0 ≤ most ∧ most ≤ 1048576) (hs0 : 257 ≤ s ∧ s ≤ 1048576) :
    Cn Try.prog 95 [.pointer (some ⟨p, 0, none⟩), .int .i64 s, .pointer (some ⟨d, 0, none⟩)] W [IsV p b most (.ok (at_, out)), IsDoc d lb] (fun _ : Unit => .tuple #[]) (fun _ => [IsV p b most (mCopy lb b most s at_ out), IsDoc d lb]) := by
  (refine S.ref05_stream_copied_cn fun F => ?_; unfold S.ref05_stream_copied; simp only [List.cons_append, List.nil_append])
  refine e_opN v_gtr Imp.nil ?_
  by_cases hs : 285 < s
  · rw [decide_eq_true hs]
    refine e_condT ?_
    (refine' e_call (fail (by decide)) ?hp fun _ => ?_; (case hp => (repeat (first | exact Picks.nil | (apply Picks.cons; (focus (repeat constructor)))))); (try simp only [List.cons_append, List.nil_append, Bool.not_true, Bool.not_false]))
    rw [show sF (.ok (at_, out)) 30 = mCopy lb b most s at_ out from by
      unfold mCopy
      rw [if_pos (fun c => by have := (bL_pos hs0.1).1 c; omega)]
      rfl]
    (first | refine e_ret (()) rfl ?_ | refine e_retT (()) ?_)
    exact .refl
  rw [decide_eq_false hs]
  refine e_condF ?_
  (refine' e_call (rbaseLength ⟨by omega, hs0.2⟩) ?hp fun _ => ?_; (case hp => (repeat (first | exact Picks.nil | (apply Picks.cons; (focus (repeat constructor)))))); (try simp only [List.cons_append, List.nil_append, Bool.not_true, Bool.not_false]))
  refine e_opN (v_ext (v := .int .i64 (bL s).1) rfl) Imp.nil ?_
  refine e_opN (v_ext (v := .int .i64 (bL s).2) rfl) Imp.nil ?_
  have hbl := bL_b s (by omega)
  (refine' e_call (vtake (k := (bL s).2)) ?hp fun _ => ?_; (case hp => (repeat (first | exact Picks.nil | (apply Picks.cons; (focus (repeat constructor)))))); (try simp only [List.cons_append, List.nil_append, Bool.not_true, Bool.not_false]))
  have hv1 := vT32 (b := b) (k := (bL s).2) (s := .ok (at_, out))
  obtain ⟨s1, hs1⟩ : ∃ s1, s1 = sT b (bL s).2 (.ok (at_, out)) := ⟨_, rfl⟩
  refine e_opN (v_add (by omega) (by omega)) Imp.nil ?_
  obtain ⟨n, hn⟩ : ∃ n, n = (bL s).1 + vT b (bL s).2 (.ok (at_, out)) := ⟨_, rfl⟩
  rw [← hs1, ← hn]
  (refine' e_call (vnext (l := lb) (by omega)) ?hp fun _ => ?_; (case hp => (repeat (first | exact Picks.nil | (apply Picks.cons; (focus (repeat constructor)))))); (try simp only [List.cons_append, List.nil_append, Bool.not_true, Bool.not_false]))
  obtain ⟨s2, hs2⟩ : ∃ s2, s2 = sN lb b s1 := ⟨_, rfl⟩
  obtain ⟨y, hy⟩ : ∃ y, y = vN lb b s1 := ⟨_, rfl⟩
  have hyb := vN_b (l := lb) (b := b) (s := s1)
  rw [← hy] at hyb
  rw [← hs2, ← hy]
  obtain ⟨s3, hs3⟩ : ∃ s3, s3 = sC s2 (fun _ => 29 < y) 30 := ⟨_, rfl⟩
  refine e_cut0 (IsV p b most s3 :: IsDoc d lb :: F) ?_ ?_
  rotate_left
  · refine e_opN v_nil Imp.nil ?_
    refine e_opN v_fa Imp.nil ?_
    refine e_opN v_lde (.pick (by (repeat constructor)) .nil) ?_
    refine e_opN v_eql Imp.nil ?_
    clear hs2
    cases s2 with
    | ok x =>
      rw [decide_eq_true (p := eOf (.ok x) = 0) rfl]
      refine e_gdT ?_
      refine e_gdT ?_
      refine e_opN v_gtr Imp.nil ?_
      refine e_opN v_pickT Imp.nil ?_
      by_cases c : 29 < y
      · rw [decide_eq_true c]
        refine e_condT ?_
        (refine' e_call (fail (by decide)) ?hp fun _ => ?_; (case hp => (repeat (first | exact Picks.nil | (apply Picks.cons; (focus (repeat constructor)))))); (try simp only [List.cons_append, List.nil_append, Bool.not_true, Bool.not_false]))
        rw [show sF (.ok x) 30 = s3 by rw [hs3]; exact (if_pos c).symm]
        exact e_sat .refl
      · rw [decide_eq_false c]
        refine e_condF ?_
        rw [show (.ok x : SV) = s3 by rw [hs3]; exact (if_neg c).symm]
        exact e_sat .refl
    | error e =>
      refine e_vne .here fun he => ?_
      rw [decide_eq_false (p := eOf (.error e) = 0) he]
      ((with_reducible refine e_gdF2 ?_)); ((with_reducible refine e_gdF2 ?_)); (((with_reducible refine e_opN v_pickF Imp.nil ?_))); ((with_reducible refine e_condF ?_))
      rw [show (.error e : SV) = s3 by rw [hs3]; rfl]
      exact e_sat .refl
  intro ds
  (refine' e_call (rbaseDistance (s := y) ⟨hyb.1, by omega⟩) ?hp fun _ => ?_; (case hp => (repeat (first | exact Picks.nil | (apply Picks.cons; (focus (repeat constructor)))))); (try simp only [List.cons_append, List.nil_append, Bool.not_true, Bool.not_false]))
  refine e_opN (v_ext (v := .int .i64 (bD y).1) rfl) Imp.nil ?_
  refine e_opN (v_ext (v := .int .i64 (bD y).2) rfl) Imp.nil ?_
  have hbd := bD_b y hyb.1
  (refine' e_call (vtake (k := (bD y).2)) ?hp fun _ => ?_; (case hp => (repeat (first | exact Picks.nil | (apply Picks.cons; (focus (repeat constructor)))))); (try simp only [List.cons_append, List.nil_append, Bool.not_true, Bool.not_false]))
  have hv2 := vT32 (b := b) (k := (bD y).2) (s := s3)
  refine e_opN (v_add (by omega) (by omega)) Imp.nil ?_
  obtain ⟨s4, hs4⟩ : ∃ s4, s4 = sT b (bD y).2 s3 := ⟨_, rfl⟩
  obtain ⟨far, hf⟩ : ∃ far, far = (bD y).1 + vT b (bD y).2 s3 := ⟨_, rfl⟩
  rw [← hs4, ← hf]
  obtain ⟨s5, hs5⟩ : ∃ s5, s5 = sC s4 (fun x => (x.2.length : Int) < far) 31 := ⟨_, rfl⟩
  refine e_cut0 (IsV p b most s5 :: IsDoc d lb :: F) ?_ ?_
  rotate_left
  · refine e_opN v_nil Imp.nil ?_
    refine e_opN v_fa Imp.nil ?_
    refine e_opN v_lde (.pick (by (repeat constructor)) .nil) ?_
    refine e_opN v_eql Imp.nil ?_
    clear hs4
    cases s4 with
    | ok x =>
      rw [decide_eq_true (p := eOf (.ok x) = 0) rfl]
      refine e_ex .here fun x1 => e_all .here (e_pu .here fun hx1 => ?_)
      obtain rfl : x1 = x := hx1
      refine e_ex .here fun q1 => e_all .here ?_
      obtain ⟨r1, qa1, qc1⟩ := q1
      obtain ⟨a4, o4⟩ := x1
      (try simp only [List.cons_append, List.nil_append, -eq_self])
      (try dsimp only)
      ((with_reducible refine e_gdT ?_)); ((with_reducible refine e_gdT ?_)); ((with_reducible refine e_gdT ?_)); (((with_reducible refine e_opN v_nil Imp.nil ?_))); ((with_reducible refine e_gdT ?_)); (((with_reducible refine e_opN v_fa0 Imp.nil ?_))); ((with_reducible refine e_gdT ?_)); (((with_reducible refine' e_opN (v_ldN ?hc) ?hi ?_); (case hi => (repeat (first | exact Imp.refl | exact Imp.nil | (apply Imp.pick; (focus ((repeat constructor); done))) | refine Imp.drop ?_))); (case hc => (repeat (first | exact Nth.here | apply Nth.there))))); ((with_reducible refine e_gdT ?_)); (((with_reducible refine e_opN v_len Imp.nil ?_))); ((with_reducible refine e_gdT ?_))
      refine e_opN v_gtr Imp.nil ?_
      refine e_opN v_pickT Imp.nil ?_
      by_cases c : (o4.length : Int) < far
      · rw [decide_eq_true c]
        refine e_condT ?_
        refine e_imp (M := IsV p b most (.ok (a4, o4)) :: IsDoc d lb :: F) (vok (.ex (r1, (qa1, qc1)) (.all (.pick (by (repeat constructor)) (.pick (by (repeat constructor)) (.pick (by (repeat constructor)) (by (repeat (first | exact Imp.refl | exact Imp.nil | (apply Imp.pick; (focus ((repeat constructor); done))) | refine Imp.drop ?_))))))))) ?_
        (refine' e_call (fail (by decide)) ?hp fun _ => ?_; (case hp => (repeat (first | exact Picks.nil | (apply Picks.cons; (focus (repeat constructor)))))); (try simp only [List.cons_append, List.nil_append, Bool.not_true, Bool.not_false]))
        rw [show sF (.ok (a4, o4)) 31 = s5 by rw [hs5]; exact (if_pos c).symm]
        exact e_sat .refl
      · rw [decide_eq_false c]
        refine e_condF ?_
        rw [show s5 = (.ok (a4, o4) : SV) by rw [hs5]; exact (if_neg c)]
        exact e_sat (vok (.ex (r1, (qa1, qc1)) (.all (.pick (by (repeat constructor)) (.pick (by (repeat constructor)) (.pick (by (repeat constructor)) (by (repeat (first | exact Imp.refl | exact Imp.nil | (apply Imp.pick; (focus ((repeat constructor); done))) | refine Imp.drop ?_)))))))))
    | error e =>
      refine e_vne .here fun he => ?_
      rw [decide_eq_false (p := eOf (.error e) = 0) he]
      ((with_reducible refine e_gdF2 ?_)); ((with_reducible refine e_gdF2 ?_)); ((with_reducible refine e_gdF2 ?_)); ((with_reducible refine e_gdF2 ?_)); ((with_reducible refine e_gdF2 ?_)); ((with_reducible refine e_gdF2 ?_)); ((with_reducible refine e_gdF2 ?_)); (((with_reducible refine e_opN v_pickF Imp.nil ?_))); ((with_reducible refine e_condF ?_))
      rw [show (.error e : SV) = s5 by rw [hs5]; rfl]
      exact e_sat .refl
  intro ds
  obtain ⟨s6, hs6⟩ : ∃ s6, s6 = sC s5 (fun x => most - (x.2.length : Int) < n) 6 := ⟨_, rfl⟩
  refine e_cut0 (IsV p b most s6 :: IsDoc d lb :: F) ?_ ?_
  rotate_left
  · refine e_drS ?_
    refine e_stS v_nil Imp.nil ?_
    refine e_stS v_fa Imp.nil ?_
    refine e_stS v_lde (.pick (by (repeat constructor)) .nil) ?_
    refine e_stS v_eql Imp.nil ?_
    clear hs5
    cases s5 with
    | ok x =>
      rw [decide_eq_true (p := eOf (.ok x) = 0) rfl]
      refine e_ex .here fun x1 => e_all .here (e_pu .here fun hx1 => ?_)
      obtain rfl : x1 = x := hx1
      refine e_ex .here fun q1 => e_all .here ?_
      obtain ⟨r1, qa1, qc1⟩ := q1
      obtain ⟨a4, o4⟩ := x1
      (try simp only [List.cons_append, List.nil_append, -eq_self])
      (try dsimp only)
      refine e_slfacts (.there (.there .here)) fun f1 f2 f3 f4 => ?_
      have f5 : o4.length ≤ 9223372036854775807 := Nat.le_trans f2 f3
      ((with_reducible refine e_gdT ?_)); ((with_reducible refine e_gdT ?_)); ((with_reducible refine e_gdT ?_)); (((with_reducible refine e_stS v_nil Imp.nil ?_))); ((with_reducible refine e_gdT ?_)); (((with_reducible refine e_stS v_fa0 Imp.nil ?_))); ((with_reducible refine e_gdT ?_)); (((with_reducible refine' e_stS (v_ldN ?hc) ?hi ?_); (case hi => (repeat (first | exact Imp.refl | exact Imp.nil | (apply Imp.pick; (focus ((repeat constructor); done))) | refine Imp.drop ?_))); (case hc => (repeat (first | exact Nth.here | apply Nth.there))))); ((with_reducible refine e_gdT ?_)); ((with_reducible refine e_gdT ?_)); (((with_reducible refine e_stS v_nil Imp.nil ?_))); ((with_reducible refine e_gdT ?_)); (((with_reducible refine e_stS v_fa0 Imp.nil ?_))); ((with_reducible refine e_gdT ?_)); (((with_reducible refine' e_stS (v_ldN ?hc) ?hi ?_); (case hi => (repeat (first | exact Imp.refl | exact Imp.nil | (apply Imp.pick; (focus ((repeat constructor); done))) | refine Imp.drop ?_))); (case hc => (repeat (first | exact Nth.here | apply Nth.there))))); ((with_reducible refine e_gdT ?_)); (((with_reducible refine e_stS v_len Imp.nil ?_))); ((with_reducible refine e_gdT ?_)); (((with_reducible refine e_stS (v_sub ?h1 ?h2) Imp.nil ?_); (case h1 => omega); (case h2 => omega))); ((with_reducible refine e_gdT ?_))
      refine e_stS v_gtr Imp.nil ?_
      refine e_stS v_pickT Imp.nil ?_
      by_cases c : most - (o4.length : Int) < n
      · rw [decide_eq_true c]
        refine e_condT ?_
        refine e_imp (M := IsV p b most (.ok (a4, o4)) :: IsDoc d lb :: F) (vok (.ex (r1, (qa1, qc1)) (.all (.pick (by (repeat constructor)) (.pick (by (repeat constructor)) (.pick (by (repeat constructor)) (by (repeat (first | exact Imp.refl | exact Imp.nil | (apply Imp.pick; (focus ((repeat constructor); done))) | refine Imp.drop ?_))))))))) ?_
        (refine' e_call (fail (by decide)) ?hp fun _ => ?_; (case hp => (repeat (first | exact Picks.nil | (apply Picks.cons; (focus (repeat constructor)))))); (try simp only [List.cons_append, List.nil_append, Bool.not_true, Bool.not_false]))
        rw [show sF (.ok (a4, o4)) 6 = s6 by rw [hs6]; exact (if_pos c).symm]
        exact e_sat .refl
      · rw [decide_eq_false c]
        refine e_condF ?_
        rw [show s6 = (.ok (a4, o4) : SV) by rw [hs6]; exact (if_neg c)]
        exact e_sat (vok (.ex (r1, (qa1, qc1)) (.all (.pick (by (repeat constructor)) (.pick (by (repeat constructor)) (.pick (by (repeat constructor)) (by (repeat (first | exact Imp.refl | exact Imp.nil | (apply Imp.pick; (focus ((repeat constructor); done))) | refine Imp.drop ?_)))))))))
    | error e =>
      refine e_vne .here fun he => ?_
      rw [decide_eq_false (p := eOf (.error e) = 0) he]
      ((with_reducible refine e_gdF2 ?_)); ((with_reducible refine e_gdF2 ?_)); ((with_reducible refine e_gdF2 ?_)); ((with_reducible refine e_gdF2 ?_)); ((with_reducible refine e_gdF2 ?_)); ((with_reducible refine e_gdF2 ?_)); ((with_reducible refine e_gdF2 ?_)); ((with_reducible refine e_gdF2 ?_)); ((with_reducible refine e_gdF2 ?_)); ((with_reducible refine e_gdF2 ?_)); ((with_reducible refine e_gdF2 ?_)); ((with_reducible refine e_gdF2 ?_)); (((with_reducible refine e_stS v_pickF Imp.nil ?_))); ((with_reducible refine e_condF ?_))
      rw [show (.error e : SV) = s6 by rw [hs6]; rfl]
      exact e_sat .refl
  intro ds
  have hM := copy_eq (lb := lb) hs0.1 (by omega) hs1 hn hs2 hy hs3 hs4 hf hs5 hs6
  obtain ⟨N, hN⟩ : ∃ N : Nat, n = (N : Int) := ⟨n.toNat, by omega⟩
  cases hx6 : s6 with
  | error e =>
    rw [hx6] at hM
    unfold sK at hM
    rw [← hM]
    refine e_vne .here fun he => ?_
    refine e_loop1 (fun m x => pu (x = .int .i64 0) :: IsV p b most (.error e) :: IsDoc d lb :: F) 0 (.pu rfl .refl) ?_
    intro m ds x
    refine e_pu .here fun hx => ?_
    subst hx
    refine e_ask v_lss Imp.nil (fun h => ?_) (fun h => ?_)
    · refine e_gdT ?_
      refine e_gdT ?_
      refine e_opN v_nil Imp.nil ?_
      refine e_gdT ?_
      refine e_opN v_fa Imp.nil ?_
      refine e_gdT ?_
      refine e_opN v_lde (.pick (by (repeat constructor)) .nil) ?_
      refine e_gdT ?_
      refine e_opN v_eql Imp.nil ?_
      refine e_opN v_pickT Imp.nil ?_
      rw [decide_eq_false (p := eOf (.error e) = 0) he]
      refine e_condF ?_
      (first | refine e_ret (()) rfl ?_ | refine e_retT (()) ?_)
      exact .refl
    · ((with_reducible refine e_gdF2 ?_)); ((with_reducible refine e_gdF2 ?_)); ((with_reducible refine e_gdF2 ?_)); ((with_reducible refine e_gdF2 ?_)); ((with_reducible refine e_gdF2 ?_)); (((with_reducible refine e_opN v_pickF Imp.nil ?_))); ((with_reducible refine e_condF ?_))
      (first | refine e_ret (()) rfl ?_ | refine e_retT (()) ?_)
      exact .refl
  | ok x =>
    have hle : n ≤ most - (x.2.length : Int) ∧ far ≤ (x.2.length : Int) := by
      rw [hx6] at hs6
      cases s5 with
      | ok y5 =>
        unfold sC at hs6
        by_cases c : most - (y5.2.length : Int) < n
        · simp only [c, if_true] at hs6; cases hs6
        · simp only [c, if_false] at hs6
          cases hs6
          cases s4 with
          | ok y4 =>
            unfold sC at hs5
            by_cases c' : (y4.2.length : Int) < far
            · simp only [c', if_true] at hs5; cases hs5
            · simp only [c', if_false] at hs5; cases hs5; exact ⟨by omega, by omega⟩
          | error e => cases hs5
      | error e => cases hs6
    have hfar : 1 ≤ far := by
      cases s3 with
      | ok y3 =>
        have : 0 < (bD y).1 := by
          refine (bD_pos hyb.1).2 ?_
          cases s2 with
          | ok y2 =>
            unfold sC at hs3
            by_cases c : 29 < y
            · simp only [c, if_true] at hs3; cases hs3
            · omega
          | error e => cases hs3
        omega
      | error e =>
        rw [show sT b (bD y).2 (.error e) = .error e from rfl] at hs4
        rw [hs4] at hs5
        rw [show sC (.error e) (fun x => (x.2.length : Int) < far) 31 = .error e from rfl] at hs5
        rw [hs5, hx6] at hs6
        cases hs6
    rw [hx6] at hM
    unfold sK at hM
    rw [← hM]
    obtain ⟨a4, o4⟩ := x
    (try dsimp only at hle)
    (try dsimp only)
    refine e_loop1 (fun m x => (ex fun i : Nat => all [pu (m + i = N ∧ x = .int .i64 (i : Int)), IsV p b most (.ok (a4, copyL o4 far.toNat i))]) :: IsDoc d lb :: F) N ?_ ?_
    · refine .ex 0 (.all ?_)
      (try simp only [List.cons_append, List.nil_append, -eq_self])
      exact .pu ⟨rfl, rfl⟩ .refl
    intro m ds x
    refine e_ex .here fun i => e_all .here (e_pu .here fun hi => ?_)
    (try simp only [List.cons_append, List.nil_append, -eq_self])
    obtain ⟨hmi, rfl⟩ := hi
    refine e_ask v_lss Imp.nil (fun h => ?_) (fun h => ?_)
    · refine e_gdT ?_
      refine e_gdT ?_
      refine e_opN v_nil Imp.nil ?_
      refine e_gdT ?_
      refine e_opN v_fa Imp.nil ?_
      refine e_gdT ?_
      refine e_opN v_lde (.pick (by (repeat constructor)) .nil) ?_
      refine e_gdT ?_
      refine e_opN v_eql Imp.nil ?_
      refine e_opN v_pickT Imp.nil ?_
      rw [decide_eq_true (p := eOf (.ok (a4, copyL o4 far.toNat i)) = 0) rfl]
      refine e_condT ?_
      have hcl := copyL_len o4 far.toNat i
      obtain ⟨o5, ho5⟩ : ∃ o5, o5 = copyL o4 far.toNat i := ⟨_, rfl⟩
      rw [← ho5] at hcl ⊢
      refine e_ex .here fun x1 => e_all .here (e_pu .here fun hx1 => ?_)
      obtain rfl : x1 = (a4, o5) := hx1
      refine e_ex .here fun q1 => e_all .here ?_
      obtain ⟨r1, qa1, qc1⟩ := q1
      (try simp only [List.cons_append, List.nil_append, -eq_self])
      (try dsimp only)
      refine e_slsome (.there (.there .here)) (by omega) fun g hg => ?_
      subst hg
      refine e_slfacts (.there (.there .here)) fun f1 f2 f3 f4 => ?_
      have hix : o5.length - far.toNat < o5.length := by omega
      have ldb : RunV Try.prog W [Sl 1 5 (some ⟨g, 0, none⟩) qc1 o5.length (o5.map Sl.B)] (sLoad 5 (.pointer (some ⟨g, 0 + (o5.length - far.toNat), none⟩))) (Sl.B (o5.getD (o5.length - far.toNat) 0)) := by
        rw [Nat.zero_add]
        refine v_ldSl ?_
        rw [List.getElem?_map, List.getElem?_eq_getElem hix, List.getD_eq_getElem?_getD, List.getElem?_eq_getElem hix]; rfl
      ((with_reducible refine e_drS ?_)); (((with_reducible refine e_stD v_nil Imp.nil ?_))); (((with_reducible refine e_stD v_fa0 Imp.nil ?_))); (((with_reducible refine' e_stD (v_ldN ?hc) ?hi ?_); (case hi => (repeat (first | exact Imp.refl | exact Imp.nil | (apply Imp.pick; (focus ((repeat constructor); done))) | refine Imp.drop ?_))); (case hc => (repeat (first | exact Nth.here | apply Nth.there))))); (((with_reducible refine e_stS v_nil Imp.nil ?_))); (((with_reducible refine e_stS v_fa0 Imp.nil ?_))); (((with_reducible refine' e_stS (v_ldN ?hc) ?hi ?_); (case hi => (repeat (first | exact Imp.refl | exact Imp.nil | (apply Imp.pick; (focus ((repeat constructor); done))) | refine Imp.drop ?_))); (case hc => (repeat (first | exact Nth.here | apply Nth.there))))); (((with_reducible refine e_stS v_nil Imp.nil ?_))); (((with_reducible refine e_stS v_fa0 Imp.nil ?_))); (((with_reducible refine' e_stS (v_ldN ?hc) ?hi ?_); (case hi => (repeat (first | exact Imp.refl | exact Imp.nil | (apply Imp.pick; (focus ((repeat constructor); done))) | refine Imp.drop ?_))); (case hc => (repeat (first | exact Nth.here | apply Nth.there))))); (((with_reducible refine e_stS v_len Imp.nil ?_))); (((with_reducible refine e_stS (v_sub ?h1 ?h2) Imp.nil ?_); (case h1 => omega); (case h2 => omega)))
      refine e_stS (v_ia1 (o5.length - far.toNat) (by omega) hix) Imp.nil ?_
      refine e_stS ldb (.pick (by (repeat constructor)) .nil) ?_
      refine e_bsl1 fun g2 => ?_
      refine e_obl (by (repeat (first | exact Imp.refl | exact Imp.nil | (apply Imp.pick; (focus ((repeat constructor); done))) | refine Imp.drop ?_))) ?_
      refine e_obl (by (repeat (first | exact Imp.refl | exact Imp.nil | (apply Imp.pick; (focus ((repeat constructor); done))) | refine Imp.drop ?_))) ?_
      refine e_obl (by (repeat (first | exact Imp.refl | exact Imp.nil | (apply Imp.pick; (focus ((repeat constructor); done))) | refine Imp.drop ?_))) ?_
      refine e_app (m := 1) (news := [Sl.B (o5.getD (o5.length - far.toNat) 0)]) (by (repeat constructor)) (src_pt (e' := 5) (by kernel_rfl) .here (by rfl) (by intro z hz; simp at hz; subst hz; rfl)) (by omega) (by omega) fun a' c' => ?_
      refine e_stS v_nil Imp.nil ?_
      refine e_stS v_fa Imp.nil ?_
      (((with_reducible refine' e_stN ?hp ?ho ?_); (case hp => (repeat constructor)); (case ho => (repeat (first | exact Put.here | apply Put.there))))); (((with_reducible refine e_opN (v_add ?h1 ?h2) Imp.nil ?_); (case h1 => omega); (case h2 => omega)))
      have e1 : copyL o4 far.toNat (i + 1) = o5 ++ [o5.getD (o5.length - far.toNat) 0] := by rw [copyL, ← ho5]
      refine e_next1 (m - 1) (by omega) (.ex (i + 1) (.all ?_))
      (try simp only [List.cons_append, List.nil_append, -eq_self])
      refine .pu ⟨by omega, rfl⟩ ?_
      rw [e1]
      refine vok (.ex (r1, (a', c')) (.all ?_))
      (try simp only [List.cons_append, List.nil_append, -eq_self])
      rw [List.length_append, List.map_append]
      exact .pick (by (repeat constructor)) (.pick (by (repeat constructor)) (.pick (by (repeat constructor)) (by (repeat (first | exact Imp.refl | exact Imp.nil | (apply Imp.pick; (focus ((repeat constructor); done))) | refine Imp.drop ?_)))))
    · have hie : i = N := by omega
      subst hie
      ((with_reducible refine e_gdF2 ?_)); ((with_reducible refine e_gdF2 ?_)); ((with_reducible refine e_gdF2 ?_)); ((with_reducible refine e_gdF2 ?_)); ((with_reducible refine e_gdF2 ?_)); (((with_reducible refine e_opN v_pickF Imp.nil ?_))); ((with_reducible refine e_condF ?_))
      rw [hN, Int.toNat_natCast]
      (first | refine e_ret (()) rfl ?_ | refine e_retT (()) ?_)
      exact .refl
end Go.Proofs.Ytehfblkpbadikaa.IF
/-! The document's coded block. No conditions but those that each names. -/
namespace Go.Proofs.Ytehfblkpbadikaa.IF
open Go Go.Proofs Go.RowKit Go.Proofs.Ytehfblkpbadikaa.Sh Go.Proofs.Ytehfblkpbadikaa.Sl Go.Proofs.Ytehfblkpbadikaa.T Go.Proofs.Ytehfblkpbadikaa.HM Go.Proofs.Ytehfblkpbadikaa.HF Go.Proofs.Ytehfblkpbadikaa.B Go.Proofs.Ytehfblkpbadikaa.M
def mp (s : SV) : Except Int (Bool × Nat × List UInt8) := match s with
  | .ok x => .ok (false, x.1, x.2)
  | .error e => .error e
theorem mp_ite {c : Prop} [Decidable c] {x y : SV} : mp (if c then x else y) = if c then mp x else mp y := by split <;> rfl
theorem mp_err {e : Int} : mp (.error e) = .error e := rfl
theorem mp_ok {x : Nat × List UInt8} : mp (.ok x) = .ok (false, x.1, x.2) := rfl
theorem mRound_copy {la lb : List Int} {b : List UInt8} {most : Int} {at_ : Nat} {out : List UInt8} (h0 : (nxt la b at_).2.1 = 0) (h1 : 256 < (nxt la b at_).1) :
    mRound la lb b most at_ out = mp (mCopy lb b most (nxt la b at_).1 (nxt la b at_).2.2 out) := by
  unfold mRound mCopy
  simp only [mp_ite, mp_err, mp_ok]
  rw [if_neg (not_not_intro h0), if_neg (show ¬ (nxt la b at_).1 = 256 by omega), if_neg (show ¬ (nxt la b at_).1 < 256 by omega)]
theorem mCopy_at {lb : List Int} {b : List UInt8} {most s : Int} {at_ : Nat} {out : List UInt8} {a : Nat} {o : List UInt8} (h : mCopy lb b most s at_ out = .ok (a, o)) : at_ ≤ a := by
  unfold mCopy at h
  simp only at h
  obtain ⟨_, h⟩ := ite_err h
  obtain ⟨_, h⟩ := ite_err h
  obtain ⟨_, h⟩ := ite_err h
  obtain ⟨_, h⟩ := ite_err h
  obtain ⟨_, h⟩ := ite_err h
  obtain ⟨_, h⟩ := ite_err h
  obtain ⟨_, h⟩ := ite_err h
  rw [← (Prod.mk.inj (Except.ok.inj h)).1]
  have l1 := takAt_le b at_ (bL s).2
  have l2 := (nxt_at lb b (takAt b at_ (bL s).2)).1
  have l3 := takAt_le b (nxt lb b (takAt b at_ (bL s).2)).2.2 (bD (nxt lb b (takAt b at_ (bL s).2)).1).2
  exact Nat.le_trans l1 (Nat.le_trans l2 l3)
theorem e_vat {W : World} {L L' : List HP} {S : WP} {p at_ : Nat} {b o : List UInt8} {most : Int} (q : Pick L (IsV p b most (.ok (at_, o))) L') (h : at_ ≤ 8 * b.length → Ent W L S) : Ent W L S := fun w hw => by
  have e : Ent W L (fun _ => at_ ≤ 8 * b.length) := e_ex q fun x => e_all .here (e_pu .here fun hx => by
    obtain rfl : x = (at_, o) := hx
    exact e_ex .here fun q => e_all .here (e_ex (.there .here) fun z => e_all .here (e_pu (.there (.there .here)) fun hz => fun _ _ => hz.1)))
  exact h (e w hw) w hw
theorem vcodedE {W : World} {p : Nat} {b : List UInt8} {most e : Int} {v1 v2 : Value} : Cn Try.prog 75 [.pointer (some ⟨p, 0, none⟩), v1, v2] W [IsV p b most (.error e)] (fun _ : Unit => .tuple #[]) (fun _ => [IsV p b most (.error e)]) := by
  (refine S.ref05_stream_coded_cn fun F => ?_; unfold S.ref05_stream_coded; simp only [List.cons_append, List.nil_append])
  refine e_vne .here fun he => ?_
  refine e_opN v_nil Imp.nil ?_
  refine e_opN v_fa Imp.nil ?_
  refine e_opN v_lde (.pick (by (repeat constructor)) .nil) ?_
  refine e_opN v_neq Imp.nil ?_
  rw [decide_eq_true (p := eOf (.error e) ≠ 0) he]
  refine e_condT ?_
  (first | refine e_ret (()) rfl ?_ | refine e_retT (()) ?_)
  exact .refl
def inv (la lb : List Int) (b : List UInt8) (most : Int) (R : SV) (m : Nat) (s : SV) : Prop := match s with
  | .ok x => 8 * b.length + 1 ≤ m + x.1 ∧ R = mSyms la lb b most m x.1 x.2 ∧ (x.2.length : Int) ≤ most
  | .error e => R = .error e
theorem vcoded {W : World} {p at_ c1 c2 : Nat} {a1 a2 : Option Addr} {la lb : List Int} {A : HP} {b out : List UInt8} {most : Int} (r1 : RdB W A a1 la.length (la.map I)) (r2 : RdB W A a2 lb.length (lb.map I)) (ok1 : okL la) (ok2 : okL lb)
    (hla : la.length ≤ 320) (hlb : lb.length ≤ 320) (h1 : 0 ≤ most ∧ most ≤ 1048576) (h2 : (out.length : Int) ≤ most) :
    Cn Try.prog 75 [.pointer (some ⟨p, 0, none⟩), .slice a1 la.length c1, .slice a2 lb.length c2] W [IsV p b most (.ok (at_, out)), A] (fun _ : Unit => .tuple #[]) (fun _ => [IsV p b most (mS la lb b most at_ out), A]) := by
  (refine S.ref05_stream_coded_cn fun F => ?_; unfold S.ref05_stream_coded; simp only [List.cons_append, List.nil_append])
  refine e_opN v_nil Imp.nil ?_
  refine e_opN v_fa Imp.nil ?_
  refine e_opN v_lde (.pick (by (repeat constructor)) .nil) ?_
  refine e_opN v_neq Imp.nil ?_
  rw [decide_eq_false (p := eOf (.ok (at_, out)) ≠ 0) (fun c => c rfl)]
  refine e_condF ?_
  (refine' e_call (newDoc r1 ok1) ?hp fun _ => ?_; (case hp => (repeat (first | exact Picks.nil | (apply Picks.cons; (focus (repeat constructor)))))); (try simp only [List.cons_append, List.nil_append, Bool.not_true, Bool.not_false]))
  rename_i da
  refine e_opN (v_ext (v := .pointer (some ⟨da, 0, none⟩)) rfl) Imp.nil ?_
  refine e_opN (v_ext (v := .int .i64 0) rfl) Imp.nil ?_
  (refine' e_call (newDoc r2 ok2) ?hp fun _ => ?_; (case hp => (repeat (first | exact Picks.nil | (apply Picks.cons; (focus (repeat constructor)))))); (try simp only [List.cons_append, List.nil_append, Bool.not_true, Bool.not_false]))
  rename_i db
  refine e_opN (v_ext (v := .pointer (some ⟨db, 0, none⟩)) rfl) Imp.nil ?_
  refine e_opN (v_ext (v := .int .i64 0) rfl) Imp.nil ?_
  obtain ⟨R, hR⟩ : ∃ R, R = mS la lb b most at_ out := ⟨_, rfl⟩
  rw [← hR]
  refine e_imp (M := IsV p b most (.ok (at_, out)) :: IsDoc da la :: IsDoc db lb :: A :: F) (by (repeat (first | exact Imp.refl | exact Imp.nil | (apply Imp.pick; (focus ((repeat constructor); done))) | refine Imp.drop ?_))) ?_
  refine e_vat .here fun hat0 => ?_
  refine e_loop0 (fun m => (ex fun s : SV => all [pu (inv la lb b most R m s), IsV p b most s]) :: IsDoc da la :: IsDoc db lb :: A :: F) (8 * b.length + 1 - at_) ?_ ?_
  · refine .ex (.ok (at_, out)) (.all ?_)
    (try simp only [List.cons_append, List.nil_append, -eq_self])
    exact .pu ⟨by (try dsimp only); omega, hR, h2⟩ .refl
  clear hR h2
  intro m ds
  refine e_ex .here fun s => e_all .here (e_pu .here fun hs => ?_)
  (try simp only [List.cons_append, List.nil_append, -eq_self])
  refine e_opN v_nil Imp.nil ?_
  refine e_opN v_fa Imp.nil ?_
  refine e_opN v_lde (.pick (by (repeat constructor)) .nil) ?_
  refine e_opN v_eql Imp.nil ?_
  cases s with
  | error e =>
    refine e_vne .here fun he => ?_
    rw [decide_eq_false (p := eOf (.error e) = 0) he, show R = .error e from hs]
    refine e_condF ?_
    (first | refine e_ret (()) rfl ?_ | refine e_retT (()) ?_)
    (repeat (first | exact Imp.refl | exact Imp.nil | (apply Imp.pick; (focus ((repeat constructor); done))) | refine Imp.drop ?_))
  | ok x =>
    obtain ⟨at1, o1⟩ := x
    obtain ⟨hm, hR, h2⟩ := hs
    (try dsimp only at hm)
    (try dsimp only at hR)
    (try dsimp only at h2)
    rw [decide_eq_true (p := eOf (.ok (at1, o1)) = 0) rfl]
    refine e_condT ?_
    refine e_vat .here fun hat => ?_
    obtain ⟨m, rfl⟩ : ∃ m', m = m' + 1 := ⟨m - 1, by omega⟩
    rw [mSyms] at hR
    have hM : mRound la lb b most at1 o1 = mRound la lb b most at1 o1 := rfl
    conv at hM => rhs; unfold mRound
    simp only at hM
    (refine' e_call (vnext (s := .ok (at1, o1)) (l := la) (by omega)) ?hp fun _ => ?_; (case hp => (repeat (first | exact Picks.nil | (apply Picks.cons; (focus (repeat constructor)))))); (try simp only [List.cons_append, List.nil_append, Bool.not_true, Bool.not_false]))
    by_cases c0 : (nxt la b at1).2.1 = 0
    rotate_left
    · rw [if_pos c0] at hM
      rw [hM] at hR
      rw [show sN la b (.ok (at1, o1)) = .error (nxt la b at1).2.1 from if_pos c0, hR]
      refine e_opN v_nil Imp.nil ?_
      refine e_opN v_fa Imp.nil ?_
      refine e_opN v_lde (.pick (by (repeat constructor)) .nil) ?_
      refine e_opN v_neq Imp.nil ?_
      rw [decide_eq_true (p := eOf (.error (nxt la b at1).2.1) ≠ 0) c0]
      ((with_reducible refine e_gdF1 ?_)); ((with_reducible refine e_gdF1 ?_)); (((with_reducible refine e_opN v_pickT Imp.nil ?_))); ((with_reducible refine e_condT ?_))
      (first | refine e_ret (()) rfl ?_ | refine e_retT (()) ?_)
      (repeat (first | exact Imp.refl | exact Imp.nil | (apply Imp.pick; (focus ((repeat constructor); done))) | refine Imp.drop ?_))
    rw [if_neg (not_not_intro c0)] at hM
    have hv := nxt_val la b at1
    have hlt := (nxt_at la b at1).2 c0
    have hcopy := mRound_copy (la := la) (lb := lb) (b := b) (most := most) (at_ := at1) (out := o1) c0
    rw [show sN la b (.ok (at1, o1)) = .ok ((nxt la b at1).2.2, o1) from if_neg (not_not_intro c0), show vN la b (.ok (at1, o1)) = (nxt la b at1).1 from rfl]
    have hok := @mRound_ok la lb b most at1 o1
    obtain ⟨x, hx⟩ : ∃ x, x = (nxt la b at1).1 := ⟨_, rfl⟩
    obtain ⟨a2', ha2⟩ : ∃ a2, a2 = (nxt la b at1).2.2 := ⟨_, rfl⟩
    rw [← hx] at hv
    rw [← ha2] at hlt
    rw [← hx, ← ha2] at hcopy
    rw [← hx, ← ha2] at hM ⊢
    refine e_opN v_nil Imp.nil ?_
    refine e_opN v_fa Imp.nil ?_
    refine e_opN v_lde (.pick (by (repeat constructor)) .nil) ?_
    refine e_opN v_neq Imp.nil ?_
    rw [decide_eq_false (p := eOf (.ok (a2', o1)) ≠ 0) (fun c => c rfl)]
    refine e_gdT ?_
    refine e_gdT ?_
    refine e_opN v_eql Imp.nil ?_
    refine e_opN v_pickF Imp.nil ?_
    by_cases h : x = 256
    · rw [if_pos h] at hM
      rw [hM] at hR
      rw [decide_eq_true h, hR]
      refine e_condT ?_
      (first | refine e_ret (()) rfl ?_ | refine e_retT (()) ?_)
      (repeat (first | exact Imp.refl | exact Imp.nil | (apply Imp.pick; (focus ((repeat constructor); done))) | refine Imp.drop ?_))
    rw [if_neg h] at hM
    rw [decide_eq_false h]
    refine e_condF ?_
    refine e_opN v_gtr Imp.nil ?_
    by_cases h3 : 256 < x
    · rw [decide_eq_true h3]
      refine e_condT ?_
      (refine' e_call (vcopied (lb := lb) (s := x) hlb h1 ⟨by omega, by omega⟩) ?hp fun _ => ?_; (case hp => (repeat (first | exact Picks.nil | (apply Picks.cons; (focus (repeat constructor)))))); (try simp only [List.cons_append, List.nil_append, Bool.not_true, Bool.not_false]))
      rw [hcopy h3] at hR
      have hok2 := fun t a o => hok (t := t) (a := a) (o := o)
      rw [hcopy h3] at hok2
      refine e_next0 m (by omega) (.ex (mCopy lb b most x a2' o1) (.all ?_))
      (try simp only [List.cons_append, List.nil_append, -eq_self])
      refine .pu ?_ (by (repeat (first | exact Imp.refl | exact Imp.nil | (apply Imp.pick; (focus ((repeat constructor); done))) | refine Imp.drop ?_)))
      cases hC : mCopy lb b most x a2' o1 with
      | ok y =>
        obtain ⟨a, o⟩ := y
        rw [hC] at hR hok2
        have := mCopy_at hC
        exact ⟨by (try dsimp only); omega, hR, hok2 false a o rfl h2⟩
      | error e =>
        rw [hC] at hR
        exact hR
    rw [decide_eq_false h3]
    refine e_condF ?_
    have h4 : x < 256 := by omega
    rw [if_pos h4] at hM
    refine e_ex .here fun x1 => e_all .here (e_pu .here fun hx1 => ?_)
    obtain rfl : x1 = (a2', o1) := hx1
    refine e_ex .here fun q1 => e_all .here ?_
    obtain ⟨r1', qa1, qc1⟩ := q1
    (try simp only [List.cons_append, List.nil_append, -eq_self])
    (try dsimp only)
    ((with_reducible refine e_drS ?_)); (((with_reducible refine e_stS v_nil Imp.nil ?_))); (((with_reducible refine e_stS v_fa0 Imp.nil ?_))); (((with_reducible refine' e_stS (v_ldN ?hc) ?hi ?_); (case hi => (repeat (first | exact Imp.refl | exact Imp.nil | (apply Imp.pick; (focus ((repeat constructor); done))) | refine Imp.drop ?_))); (case hc => (repeat (first | exact Nth.here | apply Nth.there))))); (((with_reducible refine e_stS v_len Imp.nil ?_))); (((with_reducible refine e_stS v_nil Imp.nil ?_))); (((with_reducible refine e_stS v_fa0 Imp.nil ?_))); (((with_reducible refine' e_stS (v_ldN ?hc) ?hi ?_); (case hi => (repeat (first | exact Imp.refl | exact Imp.nil | (apply Imp.pick; (focus ((repeat constructor); done))) | refine Imp.drop ?_))); (case hc => (repeat (first | exact Nth.here | apply Nth.there)))))
    refine e_stS v_eql Imp.nil ?_
    by_cases h5 : (o1.length : Int) = most
    · rw [if_pos (show ¬ (1 : Int) ≤ most - (o1.length : Int) by omega)] at hM
      rw [hM] at hR
      rw [decide_eq_true h5]
      refine e_condT ?_
      refine e_imp (M := IsV p b most (.ok (a2', o1)) :: IsDoc da la :: IsDoc db lb :: A :: F) (vok (.ex (r1', (qa1, qc1)) (.all (.pick (by (repeat constructor)) (.pick (by (repeat constructor)) (.pick (by (repeat constructor)) (by (repeat (first | exact Imp.refl | exact Imp.nil | (apply Imp.pick; (focus ((repeat constructor); done))) | refine Imp.drop ?_))))))))) ?_
      (refine' e_call (fail (by decide)) ?hp fun _ => ?_; (case hp => (repeat (first | exact Picks.nil | (apply Picks.cons; (focus (repeat constructor)))))); (try simp only [List.cons_append, List.nil_append, Bool.not_true, Bool.not_false]))
      refine e_next0 m (by omega) (.ex (.error 6) (.all ?_))
      (try simp only [List.cons_append, List.nil_append, -eq_self])
      exact .pu hR .refl
    · rw [if_neg (show ¬ ¬ (1 : Int) ≤ most - (o1.length : Int) by omega)] at hM
      rw [hM] at hR
      rw [decide_eq_false h5]
      refine e_condF ?_
      clear hcopy hok hx
      obtain ⟨X, rfl⟩ := Int.eq_ofNat_of_zero_le hv.1
      rw [Int.toNat_natCast] at hR
      (((with_reducible refine e_opN v_nil Imp.nil ?_))); (((with_reducible refine e_opN v_fa0 Imp.nil ?_))); (((with_reducible refine' e_opN (v_ldN ?hc) ?hi ?_); (case hi => (repeat (first | exact Imp.refl | exact Imp.nil | (apply Imp.pick; (focus ((repeat constructor); done))) | refine Imp.drop ?_))); (case hc => (repeat (first | exact Nth.here | apply Nth.there)))))
      refine e_opN v_conv Imp.nil ?_
      rw [wrap8 (by omega), ← B_ofNat (by omega)]
      refine e_bsl1 fun g => ?_
      refine e_app (m := 1) (news := [Sl.B (UInt8.ofNat X)]) (by (repeat constructor)) (src_pt (e' := 5) (by kernel_rfl) .here (by rfl) (B_one (l := [UInt8.ofNat X]))) (by omega) (by omega) fun a' c' => ?_
      (((with_reducible refine e_opN v_nil Imp.nil ?_))); (((with_reducible refine e_opN v_fa0 Imp.nil ?_))); (((with_reducible refine' e_stN ?hp ?ho ?_); (case hp => (repeat constructor)); (case ho => (repeat (first | exact Put.here | apply Put.there)))))
      refine e_next0 m (by omega) (.ex (.ok (a2', o1 ++ [UInt8.ofNat X])) (.all ?_))
      (try simp only [List.cons_append, List.nil_append, -eq_self])
      refine .pu ⟨by (try dsimp only); omega, hR, by (try dsimp only); rw [List.length_append, List.length_singleton]; omega⟩ ?_
      refine vok (.ex (r1', (a', c')) (.all ?_))
      (try simp only [List.cons_append, List.nil_append, -eq_self])
      rw [List.length_append, List.map_append, List.length_singleton]
      exact .pick (by (repeat constructor)) (.pick (by (repeat constructor)) (.pick (by (repeat constructor)) (by (repeat (first | exact Imp.refl | exact Imp.nil | (apply Imp.pick; (focus ((repeat constructor); done))) | refine Imp.drop ?_)))))
end Go.Proofs.Ytehfblkpbadikaa.IF
/-! The document's row of lengths. No conditions but those that each names. -/
namespace Go.Proofs.Ytehfblkpbadikaa.IF
open Go Go.Proofs Go.RowKit Go.Proofs.Ytehfblkpbadikaa.Sh Go.Proofs.Ytehfblkpbadikaa.Sl Go.Proofs.Ytehfblkpbadikaa.T Go.Proofs.Ytehfblkpbadikaa.HM Go.Proofs.Ytehfblkpbadikaa.HF Go.Proofs.Ytehfblkpbadikaa.B Go.Proofs.Ytehfblkpbadikaa.M
def rowH (p : Nat) (b : List UInt8) (most : Int) (out : List UInt8) (n : Nat) (q : (Option Addr × Nat) × Nat) (R : Except Int (Nat × List Int)) : HP := match R with
  | .ok x => all [pu (q.2 = n ∧ x.2.length = n), Sl 1 3 q.1.1 q.1.2 n (x.2.map I), IsV p b most (.ok (x.1, out))]
  | .error e => IsV p b most (.error e)
def invW (l : List Int) (b : List UInt8) (n : Nat) (out : List UInt8) (R : Except Int (Nat × List Int)) (acc : List Int) (m : Nat) (s : SV) : Prop := match s with
  | .ok x => x.2 = out ∧ 8 * b.length + 1 ≤ m + x.1 ∧ R = mRow l b n m x.1 acc ∧ acc.length ≤ n ∧ ∀ x ∈ acc, 0 ≤ x ∧ x ≤ 320
  | .error e => R = .error e
def runP (l : List Int) (b : List UInt8) (out : List UInt8) (at1 : Nat) (acc : List Int) (t v : Int) (s : SV) : Prop := match s with
  | .ok x => x.2 = out ∧ mRun l b at1 acc = .ok (v, t, x.1) ∧ t ≤ 1000
  | .error e => mRun l b at1 acc = .error e
theorem vrow {W : World} {p d at_ n : Nat} {l : List Int} {b out : List UInt8} {most : Int} (hl : l.length ≤ 320) (hn : n ≤ 1048576) :
    Cn Try.prog 97 [.pointer (some ⟨p, 0, none⟩), .pointer (some ⟨d, 0, none⟩), .int .i64 (n : Int)] W [IsV p b most (.ok (at_, out)), IsDoc d l] (fun q : (Option Addr × Nat) × Nat => .slice q.1.1 q.2 q.1.2) (fun q => [rowH p b most out n q (mRw l b n at_), IsDoc d l]) := by
  (refine S.ref05_stream_row_cn fun F => ?_; unfold S.ref05_stream_row; simp only [List.cons_append, List.nil_append])
  obtain ⟨R, hR⟩ : ∃ R, R = mRw l b n at_ := ⟨_, rfl⟩
  rw [← hR]
  refine e_vat .here fun hat0 => ?_
  have retE : ∀ (e : Int), R = .error e → ∀ (qa : Option Addr) (qc k : Nat), Ent W (IsV p b most (.error e) :: IsDoc d l :: F) (fun w => ∃ x : (Option Addr × Nat) × Nat, (.slice qa k qc : Value) = .slice x.1.1 x.2 x.1.2 ∧ sat W ([rowH p b most out n x R, IsDoc d l] ++ F) w) := by
    intro e he qa qc k
    refine e_ret ((qa, qc), k) rfl ?_
    rw [he]
    exact .refl
  refine e_loop1 (fun m y => (ex fun st : ((Option Addr × Nat) × List Int) × SV => all [pu (y = .slice st.1.1.1 st.1.2.length st.1.1.2 ∧ invW l b n out R st.1.2 m st.2), Sl 1 3 st.1.1.1 st.1.1.2 st.1.2.length (st.1.2.map I), IsV p b most st.2]) :: IsDoc d l :: F) (8 * b.length + 1 - at_) ?_ ?_
  · refine .ex (((none, 0), []), .ok (at_, out)) (.all ?_)
    (try simp only [List.cons_append, List.nil_append, -eq_self])
    exact .pu ⟨rfl, rfl, by (try dsimp only); omega, hR, Nat.zero_le _, fun x hx => by simp at hx⟩ (imp_nil .refl)
  clear hR
  intro m ds y
  refine e_ex .here fun st => e_all .here (e_pu .here fun hi => ?_)
  obtain ⟨⟨⟨qa, qc⟩, acc⟩, s⟩ := st
  (try simp only [List.cons_append, List.nil_append, -eq_self])
  (try dsimp only at hi)
  (try dsimp only)
  obtain ⟨rfl, hs⟩ := hi
  refine e_opN v_len Imp.nil ?_
  refine e_opN v_lss Imp.nil ?_
  cases s with
  | error e =>
    have hR : R = .error e := hs
    refine e_vne (.there .here) fun he => ?_
    by_cases c : (acc.length : Int) < (n : Int)
    · rw [decide_eq_true c]
      refine e_gdT ?_
      refine e_gdT ?_
      refine e_opN v_nil Imp.nil ?_
      refine e_gdT ?_
      refine e_opN v_fa Imp.nil ?_
      refine e_gdT ?_
      refine e_opN v_lde (.pick (by (repeat constructor)) .nil) ?_
      refine e_gdT ?_
      refine e_opN v_eql Imp.nil ?_
      refine e_opN v_pickT Imp.nil ?_
      rw [decide_eq_false (p := eOf (.error e) = 0) he]
      refine e_condF ?_
      exact e_imp (by (repeat (first | exact Imp.refl | exact Imp.nil | (apply Imp.pick; (focus ((repeat constructor); done))) | refine Imp.drop ?_))) (retE e hR qa qc _)
    · rw [decide_eq_false c]
      ((with_reducible refine e_gdF2 ?_)); ((with_reducible refine e_gdF2 ?_)); ((with_reducible refine e_gdF2 ?_)); ((with_reducible refine e_gdF2 ?_)); ((with_reducible refine e_gdF2 ?_)); (((with_reducible refine e_opN v_pickF Imp.nil ?_))); ((with_reducible refine e_condF ?_))
      exact e_imp (by (repeat (first | exact Imp.refl | exact Imp.nil | (apply Imp.pick; (focus ((repeat constructor); done))) | refine Imp.drop ?_))) (retE e hR qa qc _)
  | ok x =>
    obtain ⟨at1, o1⟩ := x
    obtain ⟨ho, hm, hR, hal, hab⟩ := hs
    (try dsimp only at ho)
    (try dsimp only at hm)
    (try dsimp only at hR)
    subst ho
    refine e_vat (.there .here) fun hat => ?_
    obtain ⟨m, rfl⟩ : ∃ m', m = m' + 1 := ⟨m - 1, by omega⟩
    rw [mRow] at hR
    by_cases c : (acc.length : Int) < (n : Int)
    rotate_left
    · rw [if_neg (show ¬ acc.length < n by omega)] at hR
      rw [decide_eq_false c]
      ((with_reducible refine e_gdF2 ?_)); ((with_reducible refine e_gdF2 ?_)); ((with_reducible refine e_gdF2 ?_)); ((with_reducible refine e_gdF2 ?_)); ((with_reducible refine e_gdF2 ?_)); (((with_reducible refine e_opN v_pickF Imp.nil ?_))); ((with_reducible refine e_condF ?_))
      refine e_ret ((qa, qc), acc.length) rfl ?_
      have han : acc.length = n := by omega
      rw [hR]
      refine .all ?_
      (try simp only [List.cons_append, List.nil_append, -eq_self])
      (try dsimp only)
      refine .pu ⟨han, han⟩ ?_
      rw [← han]
      (repeat (first | exact Imp.refl | exact Imp.nil | (apply Imp.pick; (focus ((repeat constructor); done))) | refine Imp.drop ?_))
    rw [if_pos (show acc.length < n by omega)] at hR
    rw [decide_eq_true c]
    refine e_gdT ?_
    refine e_gdT ?_
    refine e_opN v_nil Imp.nil ?_
    refine e_gdT ?_
    refine e_opN v_fa Imp.nil ?_
    refine e_gdT ?_
    refine e_opN v_lde (.pick (by (repeat constructor)) .nil) ?_
    refine e_gdT ?_
    refine e_opN v_eql Imp.nil ?_
    refine e_opN v_pickT Imp.nil ?_
    rw [decide_eq_true (p := eOf (.ok (at1, o1)) = 0) rfl]
    refine e_condT ?_
    have hM : mRun l b at1 acc = mRun l b at1 acc := rfl
    conv at hM => rhs; unfold mRun
    simp only at hM
    (refine' e_call (vnext (s := .ok (at1, o1)) (l := l) (by omega)) ?hp fun _ => ?_; (case hp => (repeat (first | exact Picks.nil | (apply Picks.cons; (focus (repeat constructor)))))); (try simp only [List.cons_append, List.nil_append, Bool.not_true, Bool.not_false]))
    refine e_cut2 (fun z9 z10 => (ex fun st : (Int × Int) × SV => all [pu (z9 = .int .i64 st.1.1 ∧ z10 = .int .i64 st.1.2 ∧ runP l b o1 at1 acc st.1.1 st.1.2 st.2), IsV p b most st.2]) :: Sl 1 3 qa qc acc.length (acc.map I) :: IsDoc d l :: F) ?_ ?_
    rotate_left
    · by_cases c0 : (nxt l b at1).2.1 = 0
      rotate_left
      · rw [if_pos c0] at hM
        rw [hM] at hR
        rw [show sN l b (.ok (at1, o1)) = .error (nxt l b at1).2.1 from if_pos c0]
        refine e_opN v_nil Imp.nil ?_
        refine e_opN v_fa Imp.nil ?_
        refine e_opN v_lde (.pick (by (repeat constructor)) .nil) ?_
        refine e_opN v_neq Imp.nil ?_
        rw [decide_eq_true (p := eOf (.error (nxt l b at1).2.1) ≠ 0) c0]
        refine e_condT ?_
        exact e_imp (by (repeat (first | exact Imp.refl | exact Imp.nil | (apply Imp.pick; (focus ((repeat constructor); done))) | refine Imp.drop ?_))) (retE _ hR none 0 0)
      rw [if_neg (not_not_intro c0)] at hM
      have hv := nxt_val l b at1
      rw [show sN l b (.ok (at1, o1)) = .ok ((nxt l b at1).2.2, o1) from if_neg (not_not_intro c0), show vN l b (.ok (at1, o1)) = (nxt l b at1).1 from rfl]
      obtain ⟨x, hx⟩ : ∃ x, x = (nxt l b at1).1 := ⟨_, rfl⟩
      obtain ⟨a2, ha2⟩ : ∃ a2, a2 = (nxt l b at1).2.2 := ⟨_, rfl⟩
      rw [← hx] at hv
      rw [← hx, ← ha2] at hM ⊢
      refine e_opN v_nil Imp.nil ?_
      refine e_opN v_fa Imp.nil ?_
      refine e_opN v_lde (.pick (by (repeat constructor)) .nil) ?_
      refine e_opN v_neq Imp.nil ?_
      rw [decide_eq_false (p := eOf (.ok (a2, o1)) ≠ 0) (fun c => c rfl)]
      refine e_condF ?_
      refine e_opN v_eql Imp.nil ?_
      have tk : ∀ (k : Nat) (base v : Int) (hb : 0 ≤ base ∧ base ≤ 11) (hk : k ≤ 7), mRun l b at1 acc = (if takR b a2 k ≠ 0 then .error (takR b a2 k) else .ok (v, base + (takN b a2 k : Int), takAt b a2 k)) → runP l b o1 at1 acc (base + vT b k (.ok (a2, o1))) v (sT b k (.ok (a2, o1))) := by
        intro k base v hb hk h
        rw [show vT b k (.ok (a2, o1)) = (takN b a2 k : Int) from rfl]
        by_cases c : takR b a2 k = 0
        · rw [if_neg (not_not_intro c)] at h
          rw [show sT b k (.ok (a2, o1)) = .ok (takAt b a2 k, o1) from if_neg (not_not_intro c)]
          have h7 := takN_lt (b := b) (at_ := a2) (k := k)
          have : 2 ^ k ≤ 2 ^ 7 := Nat.pow_le_pow_right (by omega) hk
          exact ⟨rfl, h, by omega⟩
        · rw [if_pos c] at h
          rw [show sT b k (.ok (a2, o1)) = .error (takR b a2 k) from if_pos c]
          exact h
      by_cases c16 : x = 16
      · rw [if_pos c16] at hM
        rw [decide_eq_true c16]
        refine e_condT ?_
        (refine' e_call (vtake (k := ((2 : Nat) : Int)) (s := .ok (a2, o1))) ?hp fun _ => ?_; (case hp => (repeat (first | exact Picks.nil | (apply Picks.cons; (focus (repeat constructor)))))); (try simp only [List.cons_append, List.nil_append, Bool.not_true, Bool.not_false]))
        have hvb := vT_b (b := b) (k := 2) (s := .ok (a2, o1))
        refine e_opN (v_add (by omega) (by omega)) Imp.nil ?_
        refine e_opN v_len Imp.nil ?_
        refine e_opN v_eql Imp.nil ?_
        by_cases c3 : (acc.length : Int) = 0
        · rw [decide_eq_true c3]
          refine e_condT ?_
          (refine' e_call (fail (by decide)) ?hp fun _ => ?_; (case hp => (repeat (first | exact Picks.nil | (apply Picks.cons; (focus (repeat constructor)))))); (try simp only [List.cons_append, List.nil_append, Bool.not_true, Bool.not_false]))
          have hF : ∃ e, sF (sT b ((2 : Nat) : Int) (.ok (a2, o1))) 30 = .error e ∧ R = .error e := by
            by_cases c : takR b a2 2 = 0
            · rw [if_neg (not_not_intro c), if_pos (show ¬ 0 < acc.length by omega)] at hM
              rw [hM] at hR
              exact ⟨30, by rw [show sT b ((2 : Nat) : Int) (.ok (a2, o1)) = .ok (takAt b a2 2, o1) from if_neg (not_not_intro c)]; rfl, hR⟩
            · rw [if_pos c] at hM
              rw [hM] at hR
              exact ⟨takR b a2 2, by rw [show sT b ((2 : Nat) : Int) (.ok (a2, o1)) = .error (takR b a2 2) from if_pos c]; rfl, hR⟩
          obtain ⟨e, hF1, hF2⟩ := hF
          rw [hF1]
          exact e_imp (by (repeat (first | exact Imp.refl | exact Imp.nil | (apply Imp.pick; (focus ((repeat constructor); done))) | refine Imp.drop ?_))) (retE e hF2 none 0 0)
        · rw [decide_eq_false c3]
          refine e_condF ?_
          refine e_slsome (a := qa) (by (repeat constructor)) (by omega) fun g hg => ?_
          subst hg
          have hix : acc.length - 1 < acc.length := by omega
          have ldl : RunV Try.prog W [Sl 1 3 (some ⟨g, 0, none⟩) qc acc.length (acc.map I)] (sLoad 3 (.pointer (some ⟨g, 0 + (acc.length - 1), none⟩))) (.int .i64 (acc.getD (acc.length - 1) 0)) := by
            rw [Nat.zero_add]
            refine v_ldSl ?_
            rw [List.getElem?_map, List.getElem?_eq_getElem hix, List.getD_eq_getElem?_getD, List.getElem?_eq_getElem hix]; rfl
          refine e_opN v_len Imp.nil ?_
          refine e_opN (v_sub (by omega) (by omega)) Imp.nil ?_
          refine e_opN (v_ia1 (acc.length - 1) (by omega) hix) Imp.nil ?_
          refine e_opN ldl (.pick (by (repeat constructor)) .nil) ?_
          refine e_sat (.ex ((3 + vT b ((2 : Nat) : Int) (.ok (a2, o1)), acc.getD (acc.length - 1) 0), sT b ((2 : Nat) : Int) (.ok (a2, o1))) (.all ?_))
          (try simp only [List.cons_append, List.nil_append, -eq_self])
          refine .pu ⟨rfl, rfl, tk 2 3 _ (by omega) (by omega) ?_⟩ (by (repeat (first | exact Imp.refl | exact Imp.nil | (apply Imp.pick; (focus ((repeat constructor); done))) | refine Imp.drop ?_)))
          rw [hM]
          rw [if_neg (show ¬ ¬ 0 < acc.length by omega)]
          rfl
      rw [if_neg c16] at hM
      rw [decide_eq_false c16]
      refine e_condF ?_
      refine e_opN v_eql Imp.nil ?_
      by_cases c17 : x = 17
      · rw [if_pos c17] at hM
        rw [decide_eq_true c17]
        refine e_condT ?_
        (refine' e_call (vtake (k := ((3 : Nat) : Int)) (s := .ok (a2, o1))) ?hp fun _ => ?_; (case hp => (repeat (first | exact Picks.nil | (apply Picks.cons; (focus (repeat constructor)))))); (try simp only [List.cons_append, List.nil_append, Bool.not_true, Bool.not_false]))
        have hvb := vT_b (b := b) (k := 3) (s := .ok (a2, o1))
        refine e_opN (v_add (by omega) (by omega)) Imp.nil ?_
        refine e_sat (.ex ((3 + vT b ((3 : Nat) : Int) (.ok (a2, o1)), 0), sT b ((3 : Nat) : Int) (.ok (a2, o1))) (.all ?_))
        (try simp only [List.cons_append, List.nil_append, -eq_self])
        exact .pu ⟨rfl, rfl, tk 3 3 _ (by omega) (by omega) hM⟩ (by (repeat (first | exact Imp.refl | exact Imp.nil | (apply Imp.pick; (focus ((repeat constructor); done))) | refine Imp.drop ?_)))
      rw [if_neg c17] at hM
      rw [decide_eq_false c17]
      refine e_condF ?_
      refine e_opN v_eql Imp.nil ?_
      by_cases c18 : x = 18
      · rw [if_pos c18] at hM
        rw [decide_eq_true c18]
        refine e_condT ?_
        (refine' e_call (vtake (k := ((7 : Nat) : Int)) (s := .ok (a2, o1))) ?hp fun _ => ?_; (case hp => (repeat (first | exact Picks.nil | (apply Picks.cons; (focus (repeat constructor)))))); (try simp only [List.cons_append, List.nil_append, Bool.not_true, Bool.not_false]))
        have hvb := vT_b (b := b) (k := 7) (s := .ok (a2, o1))
        refine e_opN (v_add (by omega) (by omega)) Imp.nil ?_
        refine e_sat (.ex ((11 + vT b ((7 : Nat) : Int) (.ok (a2, o1)), 0), sT b ((7 : Nat) : Int) (.ok (a2, o1))) (.all ?_))
        (try simp only [List.cons_append, List.nil_append, -eq_self])
        exact .pu ⟨rfl, rfl, tk 7 11 _ (by omega) (by omega) hM⟩ (by (repeat (first | exact Imp.refl | exact Imp.nil | (apply Imp.pick; (focus ((repeat constructor); done))) | refine Imp.drop ?_)))
      rw [if_neg c18] at hM
      rw [decide_eq_false c18]
      refine e_condF ?_
      refine e_sat (.ex ((1, x), .ok (a2, o1)) (.all ?_))
      (try simp only [List.cons_append, List.nil_append, -eq_self])
      exact .pu ⟨rfl, rfl, rfl, hM, by (try dsimp only); omega⟩ (by (repeat (first | exact Imp.refl | exact Imp.nil | (apply Imp.pick; (focus ((repeat constructor); done))) | refine Imp.drop ?_)))
    intro ds2 z9 z10
    refine e_ex .here fun st => e_all .here (e_pu .here fun hz => ?_)
    obtain ⟨⟨t, v⟩, s1⟩ := st
    (try simp only [List.cons_append, List.nil_append, -eq_self])
    (try dsimp only at hz)
    (try dsimp only)
    obtain ⟨rfl, rfl, hrun⟩ := hz
    clear hM
    obtain ⟨s2, hs2⟩ : ∃ s2, s2 = sC s1 (fun _ => (n : Int) - (acc.length : Int) < t) 30 := ⟨_, rfl⟩
    refine e_cut0 (IsV p b most s2 :: Sl 1 3 qa qc acc.length (acc.map I) :: IsDoc d l :: F) ?_ ?_
    rotate_left
    · refine e_opN v_nil Imp.nil ?_
      refine e_opN v_fa Imp.nil ?_
      refine e_opN v_lde (.pick (by (repeat constructor)) .nil) ?_
      refine e_opN v_eql Imp.nil ?_
      cases s1 with
      | ok x =>
        rw [decide_eq_true (p := eOf (.ok x) = 0) rfl]
        refine e_gdT ?_
        refine e_gdT ?_
        refine e_gdT ?_
        refine e_gdT ?_
        refine e_opN v_len Imp.nil ?_
        refine e_gdT ?_
        refine e_opN (v_sub (by omega) (by omega)) Imp.nil ?_
        refine e_gdT ?_
        refine e_opN v_gtr Imp.nil ?_
        refine e_opN v_pickT Imp.nil ?_
        by_cases c : (n : Int) - (acc.length : Int) < t
        · rw [decide_eq_true c]
          refine e_condT ?_
          (refine' e_call (fail (by decide)) ?hp fun _ => ?_; (case hp => (repeat (first | exact Picks.nil | (apply Picks.cons; (focus (repeat constructor)))))); (try simp only [List.cons_append, List.nil_append, Bool.not_true, Bool.not_false]))
          rw [show sF (.ok x) 30 = s2 by rw [hs2]; exact (if_pos c).symm]
          exact e_sat .refl
        · rw [decide_eq_false c]
          refine e_condF ?_
          rw [show (.ok x : SV) = s2 by rw [hs2]; exact (if_neg c).symm]
          exact e_sat .refl
      | error e =>
        refine e_vne .here fun he => ?_
        rw [decide_eq_false (p := eOf (.error e) = 0) he]
        ((with_reducible refine e_gdF2 ?_)); ((with_reducible refine e_gdF2 ?_)); ((with_reducible refine e_gdF2 ?_)); ((with_reducible refine e_gdF2 ?_)); ((with_reducible refine e_gdF2 ?_)); ((with_reducible refine e_gdF2 ?_)); (((with_reducible refine e_opN v_pickF Imp.nil ?_))); ((with_reducible refine e_condF ?_))
        rw [show (.error e : SV) = s2 by rw [hs2]; rfl]
        exact e_sat .refl
    intro ds3
    cases hx2 : s2 with
    | error e =>
      have hR2 : R = .error e := by
        rw [hx2] at hs2
        cases s1 with
        | ok x =>
          obtain ⟨_, hr, _⟩ := hrun
          rw [hr] at hR
          unfold sC at hs2
          by_cases c : (n : Int) - (acc.length : Int) < t
          · simp only [c, if_true] at hs2
            cases hs2
            rw [hR]
            exact if_pos (by omega)
          · simp only [c, if_false] at hs2; cases hs2
        | error e1 =>
          have : e = e1 := Except.error.inj hs2
          rw [this]
          have hr : mRun l b at1 acc = .error e1 := hrun
          rw [hr] at hR
          exact hR
      refine e_vne .here fun he => ?_
      refine e_loop2 (fun m x y => pu (x = .slice qa acc.length qc ∧ y = .int .i64 0) :: IsV p b most (.error e) :: Sl 1 3 qa qc acc.length (acc.map I) :: IsDoc d l :: F) 0 (.pu ⟨rfl, rfl⟩ .refl) ?_
      intro m2 ds4 x y
      refine e_pu .here fun hxy => ?_
      obtain ⟨rfl, rfl⟩ := hxy
      have nx : Ent W (IsV p b most (.error e) :: Sl 1 3 qa qc acc.length (acc.map I) :: IsDoc d l :: F) (next1 (fun m y w => sat W ((ex fun st : ((Option Addr × Nat) × List Int) × SV => all [pu (y = .slice st.1.1.1 st.1.2.length st.1.1.2 ∧ invW l b n o1 R st.1.2 m st.2), Sl 1 3 st.1.1.1 st.1.1.2 st.1.2.length (st.1.2.map I), IsV p b most st.2]) :: IsDoc d l :: F) w) (m + 1) (.slice qa acc.length qc)) := by
        refine e_next1 m (by omega) (.ex (((qa, qc), acc), .error e) (.all ?_))
        (try simp only [List.cons_append, List.nil_append, -eq_self])
        exact .pu ⟨rfl, hR2⟩ (by (repeat (first | exact Imp.refl | exact Imp.nil | (apply Imp.pick; (focus ((repeat constructor); done))) | refine Imp.drop ?_)))
      refine e_ask v_lss Imp.nil (fun h => ?_) (fun h => ?_)
      · refine e_gdT ?_
        refine e_gdT ?_
        refine e_opN v_nil Imp.nil ?_
        refine e_gdT ?_
        refine e_opN v_fa Imp.nil ?_
        refine e_gdT ?_
        refine e_opN v_lde (.pick (by (repeat constructor)) .nil) ?_
        refine e_gdT ?_
        refine e_opN v_eql Imp.nil ?_
        refine e_opN v_pickT Imp.nil ?_
        rw [decide_eq_false (p := eOf (.error e) = 0) he]
        refine e_condF ?_
        exact nx
      · ((with_reducible refine e_gdF2 ?_)); ((with_reducible refine e_gdF2 ?_)); ((with_reducible refine e_gdF2 ?_)); ((with_reducible refine e_gdF2 ?_)); ((with_reducible refine e_gdF2 ?_)); (((with_reducible refine e_opN v_pickF Imp.nil ?_))); ((with_reducible refine e_condF ?_))
        exact nx
    | ok x2 =>
      have hall : x2.2 = o1 ∧ t ≤ (n : Int) - (acc.length : Int) ∧ mRun l b at1 acc = .ok (v, t, x2.1) := by
        rw [hx2] at hs2
        cases s1 with
        | ok x =>
          obtain ⟨ho, hr, _⟩ := hrun
          unfold sC at hs2
          by_cases c : (n : Int) - (acc.length : Int) < t
          · simp only [c, if_true] at hs2; cases hs2
          · simp only [c, if_false] at hs2
            cases hs2
            exact ⟨ho, by omega, hr⟩
        | error e1 => cases hs2
      obtain ⟨a4, o4⟩ := x2
      obtain ⟨ho4, htn, hrun2⟩ := hall
      (try dsimp only at ho4)
      (try dsimp only at hrun2)
      subst ho4
      have hro := mRun_ok (B := 320) hrun2 hab (by omega)
      rw [hrun2] at hR
      simp only at hR
      rw [if_neg (not_not_intro htn)] at hR
      obtain ⟨N, rfl⟩ := Int.eq_ofNat_of_zero_le (show 0 ≤ t by omega)
      refine e_loop2 (fun m x y => (ex fun st : (Option Addr × Nat) × Nat => all [pu (m + st.2 = N ∧ x = .slice st.1.1 (acc.length + st.2) st.1.2 ∧ y = .int .i64 (st.2 : Int)), Sl 1 3 st.1.1 st.1.2 (acc.length + st.2) ((acc ++ List.replicate st.2 v).map I)]) :: IsV p b most (.ok (a4, o4)) :: IsDoc d l :: F) N ?_ ?_
      · refine .ex ((qa, qc), 0) (.all ?_)
        (try simp only [List.cons_append, List.nil_append, -eq_self])
        refine .pu ⟨rfl, rfl, rfl⟩ ?_
        rw [List.replicate_zero, List.append_nil]
        (repeat (first | exact Imp.refl | exact Imp.nil | (apply Imp.pick; (focus ((repeat constructor); done))) | refine Imp.drop ?_))
      intro m2 ds4 x y
      refine e_ex .here fun st => e_all .here (e_pu .here fun hi => ?_)
      obtain ⟨⟨ra, rc⟩, i⟩ := st
      (try simp only [List.cons_append, List.nil_append, -eq_self])
      (try dsimp only at hi)
      (try dsimp only)
      obtain ⟨hmi, rfl, rfl⟩ := hi
      refine e_ask v_lss Imp.nil (fun h => ?_) (fun h => ?_)
      · refine e_gdT ?_
        refine e_gdT ?_
        refine e_opN v_nil Imp.nil ?_
        refine e_gdT ?_
        refine e_opN v_fa Imp.nil ?_
        refine e_gdT ?_
        refine e_opN v_lde (.pick (by (repeat constructor)) .nil) ?_
        refine e_gdT ?_
        refine e_opN v_eql Imp.nil ?_
        refine e_opN v_pickT Imp.nil ?_
        rw [decide_eq_true (p := eOf (.ok (a4, o4)) = 0) rfl]
        refine e_condT ?_
        refine e_bsl1 fun g => ?_
        refine e_app (m := 1) (news := [I v]) (by (repeat constructor)) (src_pt (e' := 3) (by kernel_rfl) .here (by rfl) (I_one (l := [v]))) (by omega) (by omega) fun a' c' => ?_
        refine e_opN (v_add (by omega) (by omega)) Imp.nil ?_
        refine e_next2 (m2 - 1) (by omega) (.ex ((a', c'), i + 1) (.all ?_))
        (try simp only [List.cons_append, List.nil_append, -eq_self])
        refine .pu ⟨by (try dsimp only); omega, rfl, rfl⟩ ?_
        (try dsimp only)
        rw [List.replicate_succ', ← List.append_assoc, List.map_append (l₁ := acc ++ List.replicate i v), ← Nat.add_assoc]
        exact .pick (by (repeat constructor)) (by (repeat (first | exact Imp.refl | exact Imp.nil | (apply Imp.pick; (focus ((repeat constructor); done))) | refine Imp.drop ?_)))
      · have hiN : i = N := by omega
        subst hiN
        ((with_reducible refine e_gdF2 ?_)); ((with_reducible refine e_gdF2 ?_)); ((with_reducible refine e_gdF2 ?_)); ((with_reducible refine e_gdF2 ?_)); ((with_reducible refine e_gdF2 ?_)); (((with_reducible refine e_opN v_pickF Imp.nil ?_))); ((with_reducible refine e_condF ?_))
        have e1 : acc.length + i = (acc ++ List.replicate i v).length := by simp
        rw [e1]
        refine e_next1 m (by omega) (.ex (((ra, rc), acc ++ List.replicate i v), .ok (a4, o4)) (.all ?_))
        (try simp only [List.cons_append, List.nil_append, -eq_self])
        (try dsimp only)
        refine .pu ⟨rfl, rfl, by (try dsimp only); omega, by rw [hR, Int.toNat_natCast], by rw [← e1]; omega, mem_rep hab ⟨hro.1, hro.2.1⟩⟩ (by (repeat (first | exact Imp.refl | exact Imp.nil | (apply Imp.pick; (focus ((repeat constructor); done))) | refine Imp.drop ?_)))
end Go.Proofs.Ytehfblkpbadikaa.IF
/-! A row of a dynamic block has lengths of at most 15, and enough codes are codes. No conditions. -/
namespace Go.Proofs.Ytehfblkpbadikaa.IF
open Go Go.Proofs Go.RowKit Go.Proofs.Ytehfblkpbadikaa.Sh Go.Proofs.Ytehfblkpbadikaa.Sl Go.Proofs.Ytehfblkpbadikaa.T Go.Proofs.Ytehfblkpbadikaa.HM Go.Proofs.Ytehfblkpbadikaa.HF Go.Proofs.Ytehfblkpbadikaa.B Go.Proofs.Ytehfblkpbadikaa.M
theorem wk_cnt : ∀ l : List Int, (wk l 15 : Int) ≤ 16384 * cntP l
  | [] => by simp [wk, cntP]
  | x :: l => by
    have ih := wk_cnt l
    simp only [wk, cntP]
    by_cases c : 0 < x ∧ x ≤ ((15 : Nat) : Int)
    · rw [if_pos c, if_pos c.1]
      have h : 2 ^ (15 - x.toNat) ≤ 2 ^ 14 := Nat.pow_le_pow_right (by omega) (by omega)
      have e : 2 ^ 14 = 16384 := rfl
      rw [e] at h
      generalize 2 ^ (15 - x.toNat) = Z at h ⊢
      push_cast
      omega
    · rw [if_neg c]
      split <;> omega
theorem enough_ok {l : List Int} (h : enoughB l = true) (hl : l.length ≤ 320) (hin : inL l) : okL l := by
  unfold enoughB at h
  rw [Bool.or_eq_true, Bool.or_eq_true, Bool.and_eq_true] at h
  have hw := wk_cnt l
  rcases h with (h | h) | h
  · have := of_decide_eq_true h
    exact okL_iff.2 ⟨hl, hin, by omega⟩
  · have := of_decide_eq_true h.1
    exact okL_iff.2 ⟨hl, hin, by omega⟩
  · unfold fullB at h
    rw [Bool.and_eq_true] at h
    exact of_decide_eq_true h.1
theorem dec_lt (l : List Int) (b : List UInt8) : ∀ f n c at_, (dec l b f n c at_).2.1 = 0 → (dec l b f n c at_).1 < l.length
  | 0, n, c, at_, h => by simp [dec] at h
  | f + 1, n, c, at_, h => by
    unfold dec at h ⊢
    split at h
    · rename_i h1
      rw [if_pos h1]
      cases hf : fL l ((n + 1 : Nat) : Int) ((2 * c + takN b at_ 1 : Nat) : Int) l.length with
      | some i => have := (fL_sound hf).1; simp only; omega
      | none =>
        rw [hf] at h
        simp only at h ⊢
        exact dec_lt l b f _ _ _ h
    · rename_i h1
      exact absurd h h1
theorem nxt_lt {l : List Int} {b : List UInt8} {at_ : Nat} (h : (nxt l b at_).2.1 = 0) : (nxt l b at_).1 < l.length := by
  unfold nxt at h ⊢
  split at h
  · rename_i h1
    rw [if_pos h1]
    exact dec_lt l b 15 0 0 at_ h
  · cases h
theorem mRun15 {l : List Int} {b : List UInt8} {at_ : Nat} {acc : List Int} {v t : Int} {a : Nat} (h : mRun l b at_ acc = .ok (v, t, a)) (h0 : inL acc) (hl : l.length = 19) : 0 ≤ v ∧ v ≤ 15 := by
  have ho : ∀ {v' t' : Int} {a' : Nat}, (Except.ok (v', t', a') : Except Int (Int × Int × Nat)) = .ok (v, t, a) → v' = v := fun e => (Prod.mk.inj (Except.ok.inj e)).1
  unfold mRun at h
  simp only at h
  obtain ⟨c0, h⟩ := ite_err h
  have hlt := nxt_lt (Decidable.not_not.1 c0)
  have hv := nxt_val l b at_
  by_cases c1 : (nxt l b at_).1 = 16
  · rw [if_pos c1] at h
    obtain ⟨_, h⟩ := ite_err h
    obtain ⟨c2, h⟩ := ite_err h
    rw [← ho h]
    have c3 : acc.length - 1 < acc.length := by omega
    have hm := h0 _ (List.getElem_mem c3)
    rw [List.getD_eq_getElem?_getD, List.getElem?_eq_getElem c3]
    exact hm
  rw [if_neg c1] at h
  by_cases c2 : (nxt l b at_).1 = 17
  · rw [if_pos c2] at h
    obtain ⟨_, h⟩ := ite_err h
    rw [← ho h]; omega
  rw [if_neg c2] at h
  by_cases c3 : (nxt l b at_).1 = 18
  · rw [if_pos c3] at h
    obtain ⟨_, h⟩ := ite_err h
    rw [← ho h]; omega
  rw [if_neg c3] at h
  rw [← ho h]; omega
theorem mRow15 {l : List Int} {b : List UInt8} {n : Nat} (hl : l.length = 19) : ∀ (f : Nat) {at_ : Nat} {acc : List Int} {a : Nat} {r : List Int}, mRow l b n f at_ acc = .ok (a, r) → acc.length ≤ n → inL acc → r.length = n ∧ inL r
  | 0, _, _, _, _, h, _, _ => by cases h
  | f + 1, at_, acc, a, r, h, h1, h0 => by
    rw [mRow] at h
    by_cases c : acc.length < n
    · rw [if_pos c] at h
      cases hr : mRun l b at_ acc with
      | error e => rw [hr] at h; cases h
      | ok q =>
        obtain ⟨v, t, a1⟩ := q
        rw [hr] at h
        simp only at h
        obtain ⟨c1, h⟩ := ite_err h
        have ho := mRun15 hr h0 hl
        refine mRow15 hl f h ?_ (mem_rep h0 ho)
        rw [List.length_append, List.length_replicate]; omega
    · rw [if_neg c] at h
      have := Prod.mk.inj (Except.ok.inj h)
      rw [← this.2]
      exact ⟨by omega, h0⟩
end Go.Proofs.Ytehfblkpbadikaa.IF
/-! The document's dynamic block. No conditions but those that each names. -/
namespace Go.Proofs.Ytehfblkpbadikaa.IF
open Go Go.Proofs Go.RowKit Go.Proofs.Ytehfblkpbadikaa.Sh Go.Proofs.Ytehfblkpbadikaa.Sl Go.Proofs.Ytehfblkpbadikaa.T Go.Proofs.Ytehfblkpbadikaa.HM Go.Proofs.Ytehfblkpbadikaa.HF Go.Proofs.Ytehfblkpbadikaa.B Go.Proofs.Ytehfblkpbadikaa.M
abbrev DZ := Except Int ((Nat × Nat × Nat) × (List Int × List Int))
def dynZ (p : Nat) (b : List UInt8) (most : Int) (out : List UInt8) (R : SV) (q : ((Option Addr × Nat) × Nat) × ((Option Addr × Nat) × Nat)) (z : DZ) : HP := match z with
  | .error e => all [pu (R = .error e), IsV p b most (.error e)]
  | .ok z => all [pu (R = mS z.2.1 z.2.2 b most z.1.1 out ∧ okL z.2.1 ∧ okL z.2.2 ∧ 0 < z.2.1.length ∧ 0 < z.2.2.length ∧ q = (((some ⟨z.1.2.1, 0, none⟩, z.1.2.2), z.2.1.length), ((some ⟨z.1.2.1, z.2.1.length, none⟩, z.1.2.2 - z.2.1.length), z.2.2.length))), Sl 1 3 (some ⟨z.1.2.1, 0, none⟩) z.1.2.2 (z.2.1.length + z.2.2.length) ((z.2.1 ++ z.2.2).map I), IsV p b most (.ok (z.1.1, out))]
def invC (b : List UInt8) (K : Nat) (out : List UInt8) (M : Except Int (Nat × List Int)) (i : Nat) (l : List Int) (s : SV) : Prop := match s with
  | .ok x => x.2 = out ∧ M = mCl b ((ordL.take K).drop i) x.1 l ∧ l.length = 19
  | .error e => M = .error e ∧ l.length = 19
def headP (b : List UInt8) (most : Int) (out : List UInt8) (R : SV) (nh nd nc : Int) (s : SV) : Prop := match s with
  | .ok x => x.2 = out ∧ nh ≤ 29 ∧ nd ≤ 29 ∧ R = (match mCl b (ordL.take (nc.toNat + 4)) x.1 (List.replicate 19 0) with
    | .error e => .error e
    | .ok (a4, l) => if ¬ fullB l = true then .error 30 else mBoth b most (nh.toNat + 257) (nh.toNat + 257 + nd.toNat + 1) l a4 out)
  | .error e => R = .error e
theorem vdynamic {W : World} {p at_ : Nat} {b out : List UInt8} {most : Int} (h1 : 0 ≤ most ∧ most ≤ 1048576) (h2 : (out.length : Int) ≤ most) :
    Cn Try.prog 76 [.pointer (some ⟨p, 0, none⟩)] W [IsV p b most (.ok (at_, out))] (fun q : ((Option Addr × Nat) × Nat) × ((Option Addr × Nat) × Nat) => .tuple #[.slice q.1.1.1 q.1.2 q.1.1.2, .slice q.2.1.1 q.2.2 q.2.1.2]) (fun q => [ex fun z => dynZ p b most out (mDyn b most at_ out) q z]) := by
  (refine S.ref05_stream_dynamic_cn fun F => ?_; unfold S.ref05_stream_dynamic; simp only [List.cons_append, List.nil_append])
  obtain ⟨R, hR⟩ : ∃ R, R = mDyn b most at_ out := ⟨_, rfl⟩
  rw [← hR]
  unfold mDyn at hR
  have retE : ∀ (e : Int) (L : List HP), R = .error e → Imp W L (IsV p b most (.error e) :: F) → ∀ (a1 a2 : Option Addr) (c1 n1 c2 n2 : Nat), Ent W L (fun w => ∃ q : ((Option Addr × Nat) × Nat) × ((Option Addr × Nat) × Nat), (.tuple #[.slice a1 n1 c1, .slice a2 n2 c2] : Value) = .tuple #[.slice q.1.1.1 q.1.2 q.1.1.2, .slice q.2.1.1 q.2.2 q.2.1.2] ∧ sat W ([ex fun z => dynZ p b most out R q z] ++ F) w) := by
    intro e L he hi a1 a2 c1 n1 c2 n2
    refine e_imp hi ?_
    refine e_ret (((a1, c1), n1), ((a2, c2), n2)) rfl ?_
    refine .ex (.error e) (.all ?_)
    (try simp only [List.cons_append, List.nil_append, -eq_self])
    exact .pu he .refl
  (refine' e_call (vtake (k := ((5 : Nat) : Int)) (s := .ok (at_, out))) ?hp fun _ => ?_; (case hp => (repeat (first | exact Picks.nil | (apply Picks.cons; (focus (repeat constructor)))))); (try simp only [List.cons_append, List.nil_append, Bool.not_true, Bool.not_false]))
  have hh := vT_b (b := b) (k := 5) (s := .ok (at_, out))
  obtain ⟨s1, hs1⟩ : ∃ s, s = sT b ((5 : Nat) : Int) (.ok (at_, out)) := ⟨_, rfl⟩
  obtain ⟨nh, hnh⟩ : ∃ s, s = vT b ((5 : Nat) : Int) (.ok (at_, out)) := ⟨_, rfl⟩
  rw [← hs1, ← hnh]
  rw [← hnh] at hh
  (refine' e_call (vtake (k := ((5 : Nat) : Int)) (s := s1)) ?hp fun _ => ?_; (case hp => (repeat (first | exact Picks.nil | (apply Picks.cons; (focus (repeat constructor)))))); (try simp only [List.cons_append, List.nil_append, Bool.not_true, Bool.not_false]))
  have hd := vT_b (b := b) (k := 5) (s := s1)
  obtain ⟨s2, hs2⟩ : ∃ s, s = sT b ((5 : Nat) : Int) s1 := ⟨_, rfl⟩
  obtain ⟨nd, hnd⟩ : ∃ s, s = vT b ((5 : Nat) : Int) s1 := ⟨_, rfl⟩
  rw [← hs2, ← hnd]
  rw [← hnd] at hd
  (refine' e_call (vtake (k := ((4 : Nat) : Int)) (s := s2)) ?hp fun _ => ?_; (case hp => (repeat (first | exact Picks.nil | (apply Picks.cons; (focus (repeat constructor)))))); (try simp only [List.cons_append, List.nil_append, Bool.not_true, Bool.not_false]))
  have hc := vT_b (b := b) (k := 4) (s := s2)
  obtain ⟨s3, hs3⟩ : ∃ s, s = sT b ((4 : Nat) : Int) s2 := ⟨_, rfl⟩
  obtain ⟨nc, hnc⟩ : ∃ s, s = vT b ((4 : Nat) : Int) s2 := ⟨_, rfl⟩
  rw [← hs3, ← hnc]
  rw [← hnc] at hc
  obtain ⟨s4, hs4⟩ : ∃ s4, s4 = sC s3 (fun _ => 29 < nh ∨ 29 < nd) 31 := ⟨_, rfl⟩
  refine e_cut0 (IsV p b most s4 :: F) ?_ ?_
  rotate_left
  · refine e_opN v_nil Imp.nil ?_
    refine e_opN v_fa Imp.nil ?_
    refine e_opN v_lde (.pick (by (repeat constructor)) .nil) ?_
    refine e_opN v_eql Imp.nil ?_
    clear hs3
    cases s3 with
    | ok x =>
      rw [decide_eq_true (p := eOf (.ok x) = 0) rfl]
      refine e_gdT ?_
      refine e_gdT ?_
      refine e_opN v_gtr Imp.nil ?_
      have yes : (29 < nh ∨ 29 < nd) → Ent W (IsV p b most (.ok x) :: F) (opN Try.prog (sCall (fn 77) [.pointer (some ⟨p, 0, none⟩), .int .i64 31]) noP fun _ w => sat W (IsV p b most s4 :: F) w) := by
        intro c
        (refine' e_call (fail (by decide)) ?hp fun _ => ?_; (case hp => (repeat (first | exact Picks.nil | (apply Picks.cons; (focus (repeat constructor)))))); (try simp only [List.cons_append, List.nil_append, Bool.not_true, Bool.not_false]))
        rw [show sF (.ok x) 31 = s4 by rw [hs4]; exact (if_pos c).symm]
        exact fun w hw => hw
      by_cases c1 : 29 < nh
      · rw [decide_eq_true c1]
        ((with_reducible refine e_gdT ?_)); ((with_reducible refine e_gdF1 ?_)); ((with_reducible refine e_gdF1 ?_)); ((with_reducible refine e_gdT ?_)); (((with_reducible refine e_opN v_pickT Imp.nil ?_))); (((with_reducible refine e_opN v_pickT Imp.nil ?_))); ((with_reducible refine e_condT ?_))
        exact yes (.inl c1)
      · rw [decide_eq_false c1]
        refine e_gdT ?_
        refine e_gdT ?_
        refine e_gdT ?_
        refine e_opN v_gtr Imp.nil ?_
        by_cases c2 : 29 < nd
        · rw [decide_eq_true c2]
          ((with_reducible refine e_gdT ?_)); (((with_reducible refine e_opN v_pickF Imp.nil ?_))); (((with_reducible refine e_opN v_pickT Imp.nil ?_))); ((with_reducible refine e_condT ?_))
          exact yes (.inr c2)
        · rw [decide_eq_false c2]
          ((with_reducible refine e_gdT ?_)); (((with_reducible refine e_opN v_pickF Imp.nil ?_))); (((with_reducible refine e_opN v_pickT Imp.nil ?_))); ((with_reducible refine e_condF ?_))
          rw [show (.ok x : SV) = s4 by rw [hs4]; exact (if_neg (fun c => c.elim c1 c2)).symm]
          exact e_sat .refl
    | error e =>
      refine e_vne .here fun he => ?_
      rw [decide_eq_false (p := eOf (.error e) = 0) he]
      ((with_reducible refine e_gdF2 ?_)); ((with_reducible refine e_gdF2 ?_)); ((with_reducible refine e_gdF2 ?_)); ((with_reducible refine e_gdU ?_)); ((with_reducible refine e_gdU ?_)); ((with_reducible refine e_gdF2 ?_)); (((with_reducible refine e_opN v_pickF Imp.nil ?_))); ((with_reducible refine e_condF ?_))
      rw [show (.error e : SV) = s4 by rw [hs4]; rfl]
      exact e_sat .refl
  intro ds
  have h4 : headP b most out R nh nd nc s4 := by
    by_cases c1 : takR b at_ 5 = 0
    rotate_left
    · rw [if_pos c1] at hR
      rw [hs4, hs3, hs2, hs1, show sT b ((5 : Nat) : Int) (.ok (at_, out)) = .error (takR b at_ 5) from if_pos c1]
      exact hR
    rw [if_neg (not_not_intro c1)] at hR
    rw [show sT b ((5 : Nat) : Int) (.ok (at_, out)) = .ok (takAt b at_ 5, out) from if_neg (not_not_intro c1)] at hs1
    rw [show vT b ((5 : Nat) : Int) (.ok (at_, out)) = (takN b at_ 5 : Int) from rfl] at hnh
    obtain ⟨N1, hN1⟩ : ∃ n, n = takN b at_ 5 := ⟨_, rfl⟩
    rw [← hN1] at hnh hR
    subst hnh
    obtain ⟨t1, ht1⟩ : ∃ t, t = takAt b at_ 5 := ⟨_, rfl⟩
    rw [← ht1] at hs1 hR
    rw [hs1] at hs2 hnd
    by_cases c2 : takR b t1 5 = 0
    rotate_left
    · rw [if_pos c2] at hR
      rw [hs4, hs3, hs2, show sT b ((5 : Nat) : Int) (.ok (t1, out)) = .error (takR b t1 5) from if_pos c2]
      exact hR
    rw [if_neg (not_not_intro c2)] at hR
    rw [show sT b ((5 : Nat) : Int) (.ok (t1, out)) = .ok (takAt b t1 5, out) from if_neg (not_not_intro c2)] at hs2
    rw [show vT b ((5 : Nat) : Int) (.ok (t1, out)) = (takN b t1 5 : Int) from rfl] at hnd
    obtain ⟨N2, hN2⟩ : ∃ n, n = takN b t1 5 := ⟨_, rfl⟩
    rw [← hN2] at hnd hR
    subst hnd
    obtain ⟨t2, ht2⟩ : ∃ t, t = takAt b t1 5 := ⟨_, rfl⟩
    rw [← ht2] at hs2 hR
    rw [hs2] at hs3 hnc
    by_cases c3 : takR b t2 4 = 0
    rotate_left
    · rw [if_pos c3] at hR
      rw [hs4, hs3, show sT b ((4 : Nat) : Int) (.ok (t2, out)) = .error (takR b t2 4) from if_pos c3]
      exact hR
    rw [if_neg (not_not_intro c3)] at hR
    rw [show sT b ((4 : Nat) : Int) (.ok (t2, out)) = .ok (takAt b t2 4, out) from if_neg (not_not_intro c3)] at hs3
    rw [show vT b ((4 : Nat) : Int) (.ok (t2, out)) = (takN b t2 4 : Int) from rfl] at hnc
    obtain ⟨N3, hN3⟩ : ∃ n, n = takN b t2 4 := ⟨_, rfl⟩
    rw [← hN3] at hnc hR
    subst hnc
    obtain ⟨t3, ht3⟩ : ∃ t, t = takAt b t2 4 := ⟨_, rfl⟩
    rw [← ht3] at hs3 hR
    rw [hs4, hs3]
    by_cases c4 : N1 ≤ 29 ∧ N2 ≤ 29
    · rw [if_neg (not_not_intro c4)] at hR
      rw [show sC (.ok (t3, out)) (fun _ => 29 < (N1 : Int) ∨ 29 < (N2 : Int)) 31 = .ok (t3, out) from if_neg (by omega)]
      exact ⟨rfl, by omega, by omega, hR⟩
    · rw [if_pos c4] at hR
      rw [show sC (.ok (t3, out)) (fun _ => 29 < (N1 : Int) ∨ 29 < (N2 : Int)) 31 = .error 31 from if_pos (by omega)]
      exact hR
  clear hs4 hs3 hs2 hs1 hR hnh hnd hnc
  refine e_mksl 19 19 (by rfl) (by rfl) (by omega) (by omega) (by decide) fun gl => ?_
  (refine' e_call (rorder) ?hp fun _ => ?_; (case hp => (repeat (first | exact Picks.nil | (apply Picks.cons; (focus (repeat constructor)))))); (try simp only [List.cons_append, List.nil_append, Bool.not_true, Bool.not_false]))
  rename_i go
  cases hx4 : s4 with
  | error e =>
    rw [hx4] at h4
    have he4 : R = .error e := h4
    refine e_vne (.there (.there .here)) fun he => ?_
    refine e_loop1 (fun m y => pu (y = .int .i64 0) :: IsV p b most (.error e) :: F) 0 (.pu rfl (by (repeat (first | exact Imp.refl | exact Imp.nil | (apply Imp.pick; (focus ((repeat constructor); done))) | refine Imp.drop ?_)))) ?_
    intro m ds y
    refine e_pu .here fun hy => ?_
    subst hy
    refine e_opN (v_add (by omega) (by omega)) Imp.nil ?_
    refine e_opN v_lss Imp.nil ?_
    rw [decide_eq_true (by omega)]
    refine e_gdT ?_
    refine e_gdT ?_
    refine e_opN v_nil Imp.nil ?_
    refine e_gdT ?_
    refine e_opN v_fa Imp.nil ?_
    refine e_gdT ?_
    refine e_opN v_lde (.pick (by (repeat constructor)) .nil) ?_
    refine e_gdT ?_
    refine e_opN v_eql Imp.nil ?_
    refine e_opN v_pickT Imp.nil ?_
    rw [decide_eq_false (p := eOf (.error e) = 0) he]
    refine e_condF ?_
    refine e_cut0 (IsV p b most (.error e) :: F) ?_ ?_
    · intro ds
      refine e_opN v_nil Imp.nil ?_
      refine e_opN v_fa Imp.nil ?_
      refine e_opN v_lde (.pick (by (repeat constructor)) .nil) ?_
      refine e_opN v_neq Imp.nil ?_
      rw [decide_eq_true (p := eOf (.error e) ≠ 0) he]
      refine e_condT ?_
      exact retE e _ he4 .refl none none 0 0 0 0
    · refine e_opN v_nil Imp.nil ?_
      refine e_opN v_fa Imp.nil ?_
      refine e_opN v_lde (.pick (by (repeat constructor)) .nil) ?_
      refine e_opN v_eql Imp.nil ?_
      rw [decide_eq_false (p := eOf (.error e) = 0) he]
      ((with_reducible refine e_gdF2 ?_)); ((with_reducible refine e_gdF2 ?_)); ((with_reducible refine e_gdF2 ?_)); (((with_reducible refine e_opN v_pickF Imp.nil ?_))); ((with_reducible refine e_condF ?_))
      exact e_sat .refl
  | ok x =>
  rw [hx4] at h4
  obtain ⟨a3, o3⟩ := x
  obtain ⟨ho, hq1, hq2, hR⟩ := h4
  (try dsimp only at ho)
  (try dsimp only at hR)
  subst ho
  obtain ⟨H, rfl⟩ := Int.eq_ofNat_of_zero_le hh.1
  obtain ⟨D, rfl⟩ := Int.eq_ofNat_of_zero_le hd.1
  obtain ⟨C, rfl⟩ := Int.eq_ofNat_of_zero_le hc.1
  rw [Int.toNat_natCast, Int.toNat_natCast, Int.toNat_natCast] at hR
  obtain ⟨K, hK⟩ : ∃ K, K = C + 4 := ⟨_, rfl⟩
  rw [← hK] at hR
  have hK19 : K ≤ 19 := by omega
  obtain ⟨M, hM⟩ : ∃ M, M = mCl b (ordL.take K) a3 (List.replicate 19 0) := ⟨_, rfl⟩
  rw [← hM] at hR
  refine e_loop1 (fun m y => (ex fun st : (Nat × List Int) × SV => all [pu (m + st.1.1 = K ∧ y = .int .i64 (st.1.1 : Int) ∧ invC b K o3 M st.1.1 st.1.2 st.2), Sl 1 3 (some ⟨gl, 0, none⟩) 19 19 (st.1.2.map I), IsV p b most st.2]) :: pt go (.cells (((ordL.map fun n : Nat => (n : Int)).map I)).toArray 3 (0, 0)) :: F) K ?_ ?_
  · refine .ex ((0, List.replicate 19 0), .ok (a3, o3)) (.all ?_)
    (try simp only [List.cons_append, List.nil_append, -eq_self])
    refine .pu ⟨by omega, rfl, rfl, hM, by simp⟩ ?_
    rw [List.map_replicate]
    exact .pick (by (repeat constructor)) (by (repeat (first | exact Imp.refl | exact Imp.nil | (apply Imp.pick; (focus ((repeat constructor); done))) | refine Imp.drop ?_)))
  clear hM
  intro m ds y
  refine e_ex .here fun st => e_all .here (e_pu .here fun hi => ?_)
  obtain ⟨⟨i, l⟩, s⟩ := st
  (try simp only [List.cons_append, List.nil_append, -eq_self])
  (try dsimp only at hi)
  (try dsimp only)
  obtain ⟨hmi, rfl, hs⟩ := hi
  refine e_opN (v_add (by omega) (by omega)) Imp.nil ?_
  refine e_opN v_lss Imp.nil ?_
  cases s with
  | error e =>
    obtain ⟨hs, hl19⟩ := hs
    rw [hs] at hR
    have he4 : R = .error e := hR
    refine e_vne (.there .here) fun he => ?_
    refine e_imp (M := IsV p b most (.error e) :: F) (by (repeat (first | exact Imp.refl | exact Imp.nil | (apply Imp.pick; (focus ((repeat constructor); done))) | refine Imp.drop ?_))) ?_
    by_cases c : (i : Int) < (C : Int) + 4
    · rw [decide_eq_true c]
      refine e_gdT ?_
      refine e_gdT ?_
      refine e_opN v_nil Imp.nil ?_
      refine e_gdT ?_
      refine e_opN v_fa Imp.nil ?_
      refine e_gdT ?_
      refine e_opN v_lde (.pick (by (repeat constructor)) .nil) ?_
      refine e_gdT ?_
      refine e_opN v_eql Imp.nil ?_
      refine e_opN v_pickT Imp.nil ?_
      rw [decide_eq_false (p := eOf (.error e) = 0) he]
      refine e_condF ?_
      refine e_cut0 (IsV p b most (.error e) :: F) ?_ ?_
      · intro ds
        refine e_opN v_nil Imp.nil ?_
        refine e_opN v_fa Imp.nil ?_
        refine e_opN v_lde (.pick (by (repeat constructor)) .nil) ?_
        refine e_opN v_neq Imp.nil ?_
        rw [decide_eq_true (p := eOf (.error e) ≠ 0) he]
        refine e_condT ?_
        exact retE e _ he4 .refl none none 0 0 0 0
      · refine e_opN v_nil Imp.nil ?_
        refine e_opN v_fa Imp.nil ?_
        refine e_opN v_lde (.pick (by (repeat constructor)) .nil) ?_
        refine e_opN v_eql Imp.nil ?_
        rw [decide_eq_false (p := eOf (.error e) = 0) he]
        ((with_reducible refine e_gdF2 ?_)); ((with_reducible refine e_gdF2 ?_)); ((with_reducible refine e_gdF2 ?_)); (((with_reducible refine e_opN v_pickF Imp.nil ?_))); ((with_reducible refine e_condF ?_))
        exact e_sat .refl
    · rw [decide_eq_false c]
      ((with_reducible refine e_gdF2 ?_)); ((with_reducible refine e_gdF2 ?_)); ((with_reducible refine e_gdF2 ?_)); ((with_reducible refine e_gdF2 ?_)); ((with_reducible refine e_gdF2 ?_)); (((with_reducible refine e_opN v_pickF Imp.nil ?_))); ((with_reducible refine e_condF ?_))
      refine e_cut0 (IsV p b most (.error e) :: F) ?_ ?_
      · intro ds
        refine e_opN v_nil Imp.nil ?_
        refine e_opN v_fa Imp.nil ?_
        refine e_opN v_lde (.pick (by (repeat constructor)) .nil) ?_
        refine e_opN v_neq Imp.nil ?_
        rw [decide_eq_true (p := eOf (.error e) ≠ 0) he]
        refine e_condT ?_
        exact retE e _ he4 .refl none none 0 0 0 0
      · refine e_opN v_nil Imp.nil ?_
        refine e_opN v_fa Imp.nil ?_
        refine e_opN v_lde (.pick (by (repeat constructor)) .nil) ?_
        refine e_opN v_eql Imp.nil ?_
        rw [decide_eq_false (p := eOf (.error e) = 0) he]
        ((with_reducible refine e_gdF2 ?_)); ((with_reducible refine e_gdF2 ?_)); ((with_reducible refine e_gdF2 ?_)); (((with_reducible refine e_opN v_pickF Imp.nil ?_))); ((with_reducible refine e_condF ?_))
        exact e_sat .refl
  | ok x =>
  obtain ⟨at1, o1⟩ := x
  obtain ⟨ho, hM, hl19⟩ := hs
  (try dsimp only at ho)
  (try dsimp only at hM)
  subst ho
  by_cases c : (i : Int) < (C : Int) + 4
  · have hiK : i < K := by omega
    have hog : (ordL.take K).drop i = ordL.getD i 0 :: (ordL.take K).drop (i + 1) := by
      have hlen : i < (ordL.take K).length := by rw [List.length_take, show ordL.length = 19 from rfl]; omega
      rw [List.drop_eq_getElem_cons hlen, List.getElem_take, List.getD_eq_getElem?_getD, List.getElem?_eq_getElem]
      rfl
    rw [hog, mCl] at hM
    obtain ⟨o, hoE⟩ : ∃ o, o = ordL.getD i 0 := ⟨_, rfl⟩
    rw [← hoE] at hM
    have hov : (((ordL.map fun n : Nat => (n : Int)).map I)).toArray[0 + i]? = some (.int .i64 (o : Int)) ∧ o < 19 := by
      rw [hoE]
      have : i = 0 ∨ i = 1 ∨ i = 2 ∨ i = 3 ∨ i = 4 ∨ i = 5 ∨ i = 6 ∨ i = 7 ∨ i = 8 ∨ i = 9 ∨ i = 10 ∨ i = 11 ∨ i = 12 ∨ i = 13 ∨ i = 14 ∨ i = 15 ∨ i = 16 ∨ i = 17 ∨ i = 18 := by omega
      rcases this with rfl | rfl | rfl | rfl | rfl | rfl | rfl | rfl | rfl | rfl | rfl | rfl | rfl | rfl | rfl | rfl | rfl | rfl | rfl <;> exact ⟨rfl, by decide⟩
    rw [decide_eq_true c]
    refine e_gdT ?_
    refine e_gdT ?_
    refine e_opN v_nil Imp.nil ?_
    refine e_gdT ?_
    refine e_opN v_fa Imp.nil ?_
    refine e_gdT ?_
    refine e_opN v_lde (.pick (by (repeat constructor)) .nil) ?_
    refine e_gdT ?_
    refine e_opN v_eql Imp.nil ?_
    refine e_opN v_pickT Imp.nil ?_
    rw [decide_eq_true (p := eOf (.ok (at1, o1)) = 0) rfl]
    refine e_condT ?_
    refine e_drS ?_
    refine e_stD (v_ia1 i (by rfl) (by omega)) Imp.nil ?_
    refine e_stD (v_ld hov.1) (.pick (by (repeat constructor)) .nil) ?_
    (refine' e_call (vtake (k := ((3 : Nat) : Int)) (s := .ok (at1, o1))) ?hp fun _ => ?_; (case hp => (repeat (first | exact Picks.nil | (apply Picks.cons; (focus (repeat constructor)))))); (try simp only [List.cons_append, List.nil_append, Bool.not_true, Bool.not_false]))
    refine e_obl (by (repeat (first | exact Imp.refl | exact Imp.nil | (apply Imp.pick; (focus ((repeat constructor); done))) | refine Imp.drop ?_))) ?_
    refine e_obl (by (repeat (first | exact Imp.refl | exact Imp.nil | (apply Imp.pick; (focus ((repeat constructor); done))) | refine Imp.drop ?_))) ?_
    refine e_stS (v_ia1 o (by rfl) hov.2) Imp.nil ?_
    rw [Nat.zero_add]
    refine e_stSl (by (repeat constructor)) (by rw [List.length_map]; omega) ?_
    refine e_opN (v_add (by omega) (by omega)) Imp.nil ?_
    refine e_next1 (m - 1) (by omega) (.ex ((i + 1, l.set o (vT b ((3 : Nat) : Int) (.ok (at1, o1)))), sT b ((3 : Nat) : Int) (.ok (at1, o1))) (.all ?_))
    (try simp only [List.cons_append, List.nil_append, -eq_self])
    (try dsimp only)
    refine .pu ⟨by omega, rfl, ?_⟩ ?_
    · by_cases c3 : takR b at1 3 = 0
      · rw [if_neg (not_not_intro c3)] at hM
        rw [show sT b ((3 : Nat) : Int) (.ok (at1, o1)) = .ok (takAt b at1 3, o1) from if_neg (not_not_intro c3)]
        exact ⟨rfl, hM, by rw [List.length_set]; omega⟩
      · rw [if_pos c3] at hM
        rw [show sT b ((3 : Nat) : Int) (.ok (at1, o1)) = .error (takR b at1 3) from if_pos c3]
        exact ⟨hM, by rw [List.length_set]; omega⟩
    · rw [List.map_set]
      exact .pick (by (repeat constructor)) (by (repeat (first | exact Imp.refl | exact Imp.nil | (apply Imp.pick; (focus ((repeat constructor); done))) | refine Imp.drop ?_)))
  have hiK : i = K := by omega
  subst hiK
  rw [List.drop_eq_nil_of_le (by rw [List.length_take]; omega), mCl] at hM
  rw [hM] at hR
  simp only at hR
  rw [decide_eq_false c]
  refine e_imp (M := IsV p b most (.ok (at1, o1)) :: Sl 1 3 (some ⟨gl, 0, none⟩) 19 19 (l.map I) :: F) (by (repeat (first | exact Imp.refl | exact Imp.nil | (apply Imp.pick; (focus ((repeat constructor); done))) | refine Imp.drop ?_))) ?_
  have hsl : RdB W (Sl 1 3 (some ⟨gl, 0, none⟩) 19 19 (l.map I)) (some ⟨gl, 0, none⟩) l.length (l.map I) := by
    rw [hl19]; exact rd_sl (by rw [List.length_map, hl19]) (fun _ => ⟨gl, rfl⟩)
  rw [show (Value.slice (some ⟨gl, 0, none⟩) 19 19) = .slice (some ⟨gl, 0, none⟩) l.length 19 by rw [hl19]]
  ((with_reducible refine e_gdF2 ?_)); ((with_reducible refine e_gdF2 ?_)); ((with_reducible refine e_gdF2 ?_)); ((with_reducible refine e_gdF2 ?_)); ((with_reducible refine e_gdF2 ?_)); (((with_reducible refine e_opN v_pickF Imp.nil ?_))); ((with_reducible refine e_condF ?_))
  obtain ⟨s5, hs5⟩ : ∃ s5 : SV, s5 = if fullB l = true then .ok (at1, o1) else .error 30 := ⟨_, rfl⟩
  refine e_cut0 (IsV p b most s5 :: Sl 1 3 (some ⟨gl, 0, none⟩) 19 19 (l.map I) :: F) ?_ ?_
  rotate_left
  · refine e_opN v_nil Imp.nil ?_
    refine e_opN v_fa Imp.nil ?_
    refine e_opN v_lde (.pick (by (repeat constructor)) .nil) ?_
    refine e_opN v_eql Imp.nil ?_
    rw [decide_eq_true (p := eOf (.ok (at1, o1)) = 0) rfl]
    refine e_gdT ?_
    refine e_gdT ?_
    (refine' e_call (refFull hsl (by omega)) ?hp fun _ => ?_; (case hp => (repeat (first | exact Picks.nil | (apply Picks.cons; (focus (repeat constructor)))))); (try simp only [List.cons_append, List.nil_append, Bool.not_true, Bool.not_false]))
    cases hf : fullB l with
    | true =>
      rw [hf, if_pos rfl] at hs5
      ((with_reducible refine e_gdT ?_)); (((with_reducible refine e_opN v_notT Imp.nil ?_))); (((with_reducible refine e_opN v_pickT Imp.nil ?_))); ((with_reducible refine e_condF ?_))
      rw [hs5]
      exact e_sat (by (repeat (first | exact Imp.refl | exact Imp.nil | (apply Imp.pick; (focus ((repeat constructor); done))) | refine Imp.drop ?_)))
    | false =>
      rw [hf, if_neg (by decide)] at hs5
      ((with_reducible refine e_gdT ?_)); (((with_reducible refine e_opN v_notF Imp.nil ?_))); (((with_reducible refine e_opN v_pickT Imp.nil ?_))); ((with_reducible refine e_condT ?_))
      (refine' e_call (fail (by decide)) ?hp fun _ => ?_; (case hp => (repeat (first | exact Picks.nil | (apply Picks.cons; (focus (repeat constructor)))))); (try simp only [List.cons_append, List.nil_append, Bool.not_true, Bool.not_false]))
      rw [hs5]
      exact e_sat (by (repeat (first | exact Imp.refl | exact Imp.nil | (apply Imp.pick; (focus ((repeat constructor); done))) | refine Imp.drop ?_)))
  intro ds
  refine e_opN v_nil Imp.nil ?_
  refine e_opN v_fa Imp.nil ?_
  refine e_opN v_lde (.pick (by (repeat constructor)) .nil) ?_
  refine e_opN v_neq Imp.nil ?_
  cases hf : fullB l with
  | false =>
    rw [hf, if_neg (by decide)] at hs5
    rw [hf, if_pos (by decide)] at hR
    rw [hs5, decide_eq_true (p := eOf (.error 30) ≠ 0) (by decide)]
    refine e_condT ?_
    exact retE 30 _ hR (by (repeat (first | exact Imp.refl | exact Imp.nil | (apply Imp.pick; (focus ((repeat constructor); done))) | refine Imp.drop ?_))) none none 0 0 0 0
  | true =>
  rw [hf, if_pos rfl] at hs5
  rw [hf, if_neg (by decide)] at hR
  rw [hs5, decide_eq_false (p := eOf (.ok (at1, o1)) ≠ 0) (fun c => c rfl)]
  refine e_condF ?_
  have hokl : okL l := by
    unfold fullB at hf
    rw [Bool.and_eq_true] at hf
    exact of_decide_eq_true hf.1
  (refine' e_call (newDoc hsl hokl) ?hp fun _ => ?_; (case hp => (repeat (first | exact Picks.nil | (apply Picks.cons; (focus (repeat constructor)))))); (try simp only [List.cons_append, List.nil_append, Bool.not_true, Bool.not_false]))
  rename_i dl
  refine e_opN (v_ext (v := .pointer (some ⟨dl, 0, none⟩)) rfl) Imp.nil ?_
  refine e_opN (v_ext (v := .int .i64 0) rfl) Imp.nil ?_
  refine e_opN (v_add (by omega) (by omega)) Imp.nil ?_
  refine e_opN (v_add (by omega) (by omega)) Imp.nil ?_
  refine e_opN (v_add (by omega) (by omega)) Imp.nil ?_
  rw [show (H : Int) + 257 + (D : Int) + 1 = ((H + 257 + D + 1 : Nat) : Int) by omega]
  obtain ⟨n, hn⟩ : ∃ n, n = H + 257 + D + 1 := ⟨_, rfl⟩
  obtain ⟨k, hk⟩ : ∃ n, n = H + 257 := ⟨_, rfl⟩
  rw [← hn, ← hk] at hR
  rw [← hn]
  unfold mBoth at hR
  (refine' e_call (vrow (n := n) (l := l) (out := o1) (by omega) (by omega)) ?hp fun _ => ?_; (case hp => (repeat (first | exact Picks.nil | (apply Picks.cons; (focus (repeat constructor)))))); (try simp only [List.cons_append, List.nil_append, Bool.not_true, Bool.not_false]))
  rename_i q
  obtain ⟨⟨qa, qc⟩, qn⟩ := q
  (try dsimp only)
  cases hrow : mRw l b n at1 with
  | error e =>
    rw [hrow] at hR
    have he4 : R = .error e := hR
    rw [show rowH p b most o1 n ((qa, qc), qn) (.error e) = IsV p b most (.error e) from rfl]
    refine e_opN v_nil Imp.nil ?_
    refine e_opN v_fa Imp.nil ?_
    refine e_opN v_lde (.pick (by (repeat constructor)) .nil) ?_
    refine e_opN v_neq Imp.nil ?_
    refine e_vne .here fun he => ?_
    rw [decide_eq_true (p := eOf (.error e) ≠ 0) he]
    refine e_condT ?_
    exact retE e _ he4 (by (repeat (first | exact Imp.refl | exact Imp.nil | (apply Imp.pick; (focus ((repeat constructor); done))) | refine Imp.drop ?_))) none none 0 0 0 0
  | ok rw_ =>
  obtain ⟨a5, r⟩ := rw_
  rw [hrow] at hR
  simp only at hR
  refine e_all .here (e_pu .here fun hrp => ?_)
  (try simp only [List.cons_append, List.nil_append, -eq_self])
  (try dsimp only at hrp)
  (try dsimp only)
  obtain ⟨rfl, hrl⟩ := hrp
  obtain ⟨_, hin⟩ := mRow15 hl19 _ hrow (Nat.zero_le _) (fun x hx => by cases hx)
  refine e_opN v_nil Imp.nil ?_
  refine e_opN v_fa Imp.nil ?_
  refine e_opN v_lde (.pick (by (repeat constructor)) .nil) ?_
  refine e_opN v_neq Imp.nil ?_
  rw [decide_eq_false (p := eOf (.ok (a5, o1)) ≠ 0) (fun c => c rfl)]
  refine e_condF ?_
  refine e_slsome (a := qa) .here (by omega) fun g hg => ?_
  subst hg
  refine e_slfacts .here fun f1 f2 f3 f4 => ?_
  have hrd := rd_sl (W := W) (e := 3) (cap := qc) (cs := r.map I) (n := qn) (by rw [List.length_map, hrl]) f4
  have hA0 : Option.map (fun x : Addr => x.add (0 * 1)) (some ⟨g, 0, none⟩) = some ⟨g, 0, none⟩ := by simp [addr_add]
  have hAk : Option.map (fun x : Addr => x.add (k * 1)) (some ⟨g, 0, none⟩) = some ⟨g, k, none⟩ := by simp [addr_add]
  have hla : (r.take k).length = k := by rw [List.length_take]; omega
  have hlb : (r.drop k).length = qn - k := by rw [List.length_drop, hrl]
  have hRa := hrd.cut (l := 0) (h := k) (cap := qc) (by omega) (by omega) f2
  rw [if_neg (by omega), hA0, List.drop_zero, ← List.map_take, Nat.sub_zero] at hRa
  have hRb := hrd.cut (l := k) (h := qn) (cap := qc) (by omega) (by omega) f2
  rw [if_neg (by omega), hAk, List.take_of_length_le (by rw [List.length_drop, List.length_map]; omega), ← List.map_drop] at hRb
  have h256 : 256 < r.length := by omega
  have hg : r.getD 256 0 = r[256] := by rw [List.getD_eq_getElem?_getD, List.getElem?_eq_getElem h256]; rfl
  have hlow := hin r[256] (List.getElem_mem h256)
  rw [hg] at hR
  have hcat : r = r.take k ++ r.drop k := (List.take_append_drop k r).symm
  obtain ⟨la, hlaE⟩ : ∃ la, la = r.take k := ⟨_, rfl⟩
  obtain ⟨lb, hlbE⟩ : ∃ lb, lb = r.drop k := ⟨_, rfl⟩
  have hinA : inL la := fun x hx => hin x (List.mem_of_mem_take (by rw [← hlaE]; exact hx))
  have hinB : inL lb := fun x hx => hin x (List.mem_of_mem_drop (by rw [← hlbE]; exact hx))
  rw [← hlaE] at hR hRa hla hcat
  rw [← hlbE] at hR hRb hlb hcat
  have sl1 : RunV Try.prog W [] (sSl 22 (.slice (some ⟨g, 0, none⟩) qn qc) none (some (.int .i64 ((H : Int) + 257))) none) (.slice (some ⟨g, 0, none⟩) la.length qc) := by
    have := v_slh (P := Try.prog) (W := W) (t := 22) (n := qn) (a := some ⟨g, 0, none⟩) (r := .i64) (j := (H : Int) + 257) k (by omega) (show k ≤ qc by omega)
    rw [if_neg (by omega), hA0, ← hla] at this
    exact this
  have sl2 : RunV Try.prog W [] (sSl 22 (.slice (some ⟨g, 0, none⟩) qn qc) (some (.int .i64 ((H : Int) + 257))) none none) (.slice (some ⟨g, k, none⟩) lb.length (qc - k)) := by
    have := v_sll (P := Try.prog) (W := W) (t := 22) (n := qn) (cap := qc) (a := some ⟨g, 0, none⟩) (q := .i64) (i := (H : Int) + 257) k (by omega) (show k ≤ qn by omega)
    rw [if_neg (by omega), hAk, ← hlb] at this
    exact this
  rw [← hlb] at hRb
  have hRa' : RdB W (Sl 1 3 (some ⟨g, 0, none⟩) qc qn (r.map I)) (some ⟨g, 0, none⟩) la.length (la.map I) := by rw [hla]; exact hRa
  obtain ⟨s6, hs6⟩ : ∃ s6 : SV, s6 = if ((0 : Int) < r[256] ∧ enoughB la = true ∧ enoughB lb = true) then .ok (a5, o1) else .error 30 := ⟨_, rfl⟩
  refine e_cut0 (IsV p b most s6 :: Sl 1 3 (some ⟨g, 0, none⟩) qc qn (r.map I) :: F) ?_ ?_
  rotate_left
  · have yes : ∀ L : List HP, Imp W L (IsV p b most (.ok (a5, o1)) :: Sl 1 3 (some ⟨g, 0, none⟩) qc qn (r.map I) :: F) → ¬ ((0 : Int) < r[256] ∧ enoughB la = true ∧ enoughB lb = true) → Ent W L (opN Try.prog (sCall (fn 77) [.pointer (some ⟨p, 0, none⟩), .int .i64 30]) noP fun _ w => sat W (IsV p b most s6 :: Sl 1 3 (some ⟨g, 0, none⟩) qc qn (r.map I) :: F) w) := by
      intro L hi c
      refine e_imp hi ?_
      (refine' e_call (fail (by decide)) ?hp fun _ => ?_; (case hp => (repeat (first | exact Picks.nil | (apply Picks.cons; (focus (repeat constructor)))))); (try simp only [List.cons_append, List.nil_append, Bool.not_true, Bool.not_false]))
      rw [hs6, if_neg c]
      exact fun w hw => hw
    refine e_opN (v_ia1 256 (by rfl) (by omega)) Imp.nil ?_
    refine e_opN (v_ldSl (v := I r[256]) (by rw [Nat.zero_add]; exact I_get h256)) (.pick (by (repeat constructor)) .nil) ?_
    refine e_opN v_eql Imp.nil ?_
    by_cases c1 : r[256] = 0
    · rw [decide_eq_true c1]
      ((with_reducible refine e_gdF1 ?_)); ((with_reducible refine e_gdF1 ?_)); ((with_reducible refine e_gdF1 ?_)); ((with_reducible refine e_gdF1 ?_)); ((with_reducible refine e_gdF1 ?_)); ((with_reducible refine e_gdF1 ?_)); (((with_reducible refine e_opN v_pickT Imp.nil ?_))); ((with_reducible refine e_gdF1 ?_)); ((with_reducible refine e_gdF1 ?_)); ((with_reducible refine e_gdF1 ?_)); ((with_reducible refine e_gdF1 ?_)); ((with_reducible refine e_gdF1 ?_)); ((with_reducible refine e_gdF1 ?_)); (((with_reducible refine e_opN v_pickT Imp.nil ?_))); ((with_reducible refine e_condT ?_))
      exact yes _ (by (repeat (first | exact Imp.refl | exact Imp.nil | (apply Imp.pick; (focus ((repeat constructor); done))) | refine Imp.drop ?_))) (fun c => by omega)
    rw [decide_eq_false c1]
    refine e_gdT ?_
    refine e_gdT ?_
    refine e_gdT ?_
    refine e_opN (v_add (by omega) (by omega)) Imp.nil ?_
    refine e_gdT ?_
    refine e_opN sl1 Imp.nil ?_
    refine e_gdT ?_
    (refine' e_call (renough hRa' (by omega)) ?hp fun _ => ?_; (case hp => (repeat (first | exact Picks.nil | (apply Picks.cons; (focus (repeat constructor)))))); (try simp only [List.cons_append, List.nil_append, Bool.not_true, Bool.not_false]))
    cases c2 : enoughB la with
    | false =>
      ((with_reducible refine e_gdT ?_)); (((with_reducible refine e_opN v_notF Imp.nil ?_))); (((with_reducible refine e_opN v_pickF Imp.nil ?_))); ((with_reducible refine e_gdF1 ?_)); ((with_reducible refine e_gdF1 ?_)); ((with_reducible refine e_gdF1 ?_)); ((with_reducible refine e_gdF1 ?_)); ((with_reducible refine e_gdF1 ?_)); ((with_reducible refine e_gdF1 ?_)); (((with_reducible refine e_opN v_pickT Imp.nil ?_))); ((with_reducible refine e_condT ?_))
      exact yes _ (by (repeat (first | exact Imp.refl | exact Imp.nil | (apply Imp.pick; (focus ((repeat constructor); done))) | refine Imp.drop ?_))) (fun c => by rw [c2] at c; exact absurd c.2.1 (by decide))
    | true =>
    refine e_gdT ?_
    refine e_opN v_notT Imp.nil ?_
    refine e_opN v_pickF Imp.nil ?_
    refine e_gdT ?_
    refine e_gdT ?_
    refine e_gdT ?_
    refine e_opN (v_add (by omega) (by omega)) Imp.nil ?_
    refine e_gdT ?_
    refine e_opN sl2 Imp.nil ?_
    refine e_gdT ?_
    (refine' e_call (renough hRb (by omega)) ?hp fun _ => ?_; (case hp => (repeat (first | exact Picks.nil | (apply Picks.cons; (focus (repeat constructor)))))); (try simp only [List.cons_append, List.nil_append, Bool.not_true, Bool.not_false]))
    cases c3 : enoughB lb with
    | false =>
      ((with_reducible refine e_gdT ?_)); (((with_reducible refine e_opN v_notF Imp.nil ?_))); (((with_reducible refine e_opN v_pickF Imp.nil ?_))); ((with_reducible refine e_condT ?_))
      exact yes _ (by (repeat (first | exact Imp.refl | exact Imp.nil | (apply Imp.pick; (focus ((repeat constructor); done))) | refine Imp.drop ?_))) (fun c => by rw [c3] at c; exact absurd c.2.2 (by decide))
    | true =>
    ((with_reducible refine e_gdT ?_)); (((with_reducible refine e_opN v_notT Imp.nil ?_))); (((with_reducible refine e_opN v_pickF Imp.nil ?_))); ((with_reducible refine e_condF ?_))
    rw [hs6, if_pos ⟨by omega, c2, c3⟩]
    exact e_sat (by (repeat (first | exact Imp.refl | exact Imp.nil | (apply Imp.pick; (focus ((repeat constructor); done))) | refine Imp.drop ?_)))
  intro ds
  refine e_drS ?_
  refine e_stS (v_add (by omega) (by omega)) Imp.nil ?_
  refine e_stS sl1 Imp.nil ?_
  refine e_stS (v_add (by omega) (by omega)) Imp.nil ?_
  refine e_stS sl2 Imp.nil ?_
  by_cases c : (0 : Int) < r[256] ∧ enoughB la = true ∧ enoughB lb = true
  rotate_left
  · rw [if_neg c] at hs6
    rw [if_pos c] at hR
    rw [hs6]
    exact retE 30 _ hR (by (repeat (first | exact Imp.refl | exact Imp.nil | (apply Imp.pick; (focus ((repeat constructor); done))) | refine Imp.drop ?_))) _ _ _ _ _ _
  rw [if_pos c] at hs6
  rw [if_neg (not_not_intro c)] at hR
  have okA : okL la := enough_ok c.2.1 (by omega) hinA
  have okB : okL lb := enough_ok c.2.2 (by omega) hinB
  rw [if_neg (not_not_intro okA), if_neg (not_not_intro okB)] at hR
  rw [hs6]
  refine e_ret (((some ⟨g, 0, none⟩, qc), la.length), ((some ⟨g, k, none⟩, qc - k), lb.length)) rfl ?_
  refine .ex (.ok ((a5, g, qc), (la, lb))) (.all ?_)
  (try simp only [List.cons_append, List.nil_append, -eq_self])
  refine .pu ⟨hR, okA, okB, by (try dsimp only); omega, by (try dsimp only); omega, by (try dsimp only); rw [hla]⟩ ?_
  (try dsimp only)
  rw [← hcat, show la.length + lb.length = qn by omega]
  (repeat (first | exact Imp.refl | exact Imp.nil | (apply Imp.pick; (focus ((repeat constructor); done))) | refine Imp.drop ?_))
end Go.Proofs.Ytehfblkpbadikaa.IF
/-! The document's blocks of a stream: the same as the program's. No conditions but those that each names. -/
namespace Go.Proofs.Ytehfblkpbadikaa.IF
open Go Go.Proofs Go.RowKit Go.Proofs.Ytehfblkpbadikaa.Sh Go.Proofs.Ytehfblkpbadikaa.Sl Go.Proofs.Ytehfblkpbadikaa.T Go.Proofs.Ytehfblkpbadikaa.HM Go.Proofs.Ytehfblkpbadikaa.HF Go.Proofs.Ytehfblkpbadikaa.B Go.Proofs.Ytehfblkpbadikaa.M
theorem rd_all1 {W : World} {A B : HP} {a : Option Addr} {n : Nat} {cs : List Value} (h : RdB W A a n cs) : RdB W (all [A, B]) a n cs :=
  ⟨h.1, fun hn => by
    obtain ⟨g, o, e, hc⟩ := h.2 hn
    refine ⟨g, o, e, fun w L hw j v hv => hc w (B :: L) ?_ j v hv⟩
    exact (e_all (S := fun w => sat W (A :: B :: L) w) .here (fun w hw => hw)) w hw⟩
theorem rd_all2 {W : World} {A B : HP} {a : Option Addr} {n : Nat} {cs : List Value} (h : RdB W B a n cs) : RdB W (all [A, B]) a n cs :=
  ⟨h.1, fun hn => by
    obtain ⟨g, o, e, hc⟩ := h.2 hn
    refine ⟨g, o, e, fun w L hw j v hv => hc w (A :: L) ?_ j v hv⟩
    exact (e_all (S := fun w => sat W (B :: A :: L) w) .here (fun w hw => (Imp.pick (.there .here) .refl).sat hw)) w hw⟩
abbrev AL := Except Int (Nat × List UInt8 × List (Int × Int))
def sKd (k : Nat) (b : List UInt8) (most : Int) (s : SV) : SV := match s with
  | .ok y => mKind k b most y.1 y.2
  | .error e => .error e
def invA (b : List UInt8) (most : Int) (T : AL) (m : Nat) (l : List (Int × Int)) (last : Int) (s : SV) : Prop := match s with
  | .ok x => (x.2.length : Int) ≤ most ∧ ((last = 0 ∧ T = mLoop b most m x.1 x.2 l ∧ 8 * b.length + 1 ≤ m + x.1) ∨ (last ≠ 0 ∧ T = .ok (x.1, x.2, l)))
  | .error e => T = .error e
def headA (b : List UInt8) (most : Int) (T : AL) (m : Nat) (l : List (Int × Int)) (at1 : Nat) (o1 : List UInt8) (lv : Int) (kk : Nat) (s : SV) : Prop := match s with
  | .ok y => y.2 = o1 ∧ at1 < y.1 ∧ T = (match mKind kk b most y.1 o1 with
    | .error e => .error e
    | .ok (a, o) => if lv = 0 then mLoop b most m a o (l ++ [((kk : Int), (o.length : Int) - (o1.length : Int))]) else .ok (a, o, l ++ [((kk : Int), (o.length : Int) - (o1.length : Int))]))
  | .error e => T = .error e
theorem rall {W : World} {a : Option Addr} {cap : Nat} {b : List UInt8} {A : HP} {most : Int} (hr : RdB W A a b.length (b.map B)) (ha : a = none → b.length = 0) (hb : b.length ≤ 140737488355328) :
    Cn Try.prog 53 [.slice a b.length cap, .int .i64 most] W [A]
      (fun q : (Value × Int) × (Option Addr × Nat) => .tuple #[q.1.1, .slice q.2.1 (aL b most).length q.2.2, .int .i64 q.1.2, .int .i64 (aE b most)])
      (fun q => [Sl 2 54 q.2.1 q.2.2 (aL b most).length ((aL b most).flatMap blk), A]) := by
  (refine S.ref05_all_cn fun F => ?_; unfold S.ref05_all; simp only [List.cons_append, List.nil_append])
  obtain ⟨T, hT⟩ : ∃ T, T = mAll b most := ⟨_, rfl⟩
  have bad : ∀ (e : Int) (L : List HP), T = .error e → Imp W L (A :: F) → Ent W L (fun w => ∃ q : (Value × Int) × (Option Addr × Nat), (.tuple #[.slice none 0 0, .slice none 0 0, .int .i64 0, .int .i64 e] : Value) = .tuple #[q.1.1, .slice q.2.1 (aL b most).length q.2.2, .int .i64 q.1.2, .int .i64 (aE b most)] ∧ sat W ([Sl 2 54 q.2.1 q.2.2 (aL b most).length ((aL b most).flatMap blk), A] ++ F) w) := by
    intro e L he hi
    rw [hT] at he
    rw [show aL b most = [] by simp [aL, he], show aE b most = e by simp [aE, he]]
    refine e_imp hi ?_
    refine e_ret ((.slice none 0 0, 0), (none, 0)) rfl ?_
    exact imp_nil .refl
  have hTT := hT
  unfold mAll at hT
  refine e_opN v_lss Imp.nil ?_
  by_cases c1 : most < 0
  · rw [if_pos (.inl c1)] at hT
    rw [decide_eq_true c1]
    ((with_reducible refine e_gdF1 ?_)); ((with_reducible refine e_gdF1 ?_)); (((with_reducible refine e_opN v_pickT Imp.nil ?_))); ((with_reducible refine e_condT ?_))
    exact bad 1 _ hT .refl
  rw [decide_eq_false c1]
  refine e_gdT ?_
  refine e_gdT ?_
  refine e_opN v_gtr Imp.nil ?_
  refine e_opN v_pickF Imp.nil ?_
  by_cases c2 : 1048576 < most
  · rw [if_pos (.inr c2)] at hT
    rw [decide_eq_true c2]
    refine e_condT ?_
    exact bad 1 _ hT .refl
  rw [if_neg (fun c => c.elim c1 c2)] at hT
  rw [decide_eq_false c2]
  refine e_condF ?_
  refine e_opN v_len Imp.nil ?_
  refine e_opN v_gtr Imp.nil ?_
  by_cases c3 : 1048576 < b.length
  · rw [if_pos c3] at hT
    rw [decide_eq_true (by omega)]
    refine e_condT ?_
    exact bad 6 _ hT .refl
  rw [if_neg c3] at hT
  rw [decide_eq_false (by omega)]
  refine e_condF ?_
  (refine' e_call (newQ hr ha (by omega)) ?hp fun _ => ?_; (case hp => (repeat (first | exact Picks.nil | (apply Picks.cons; (focus (repeat constructor)))))); (try simp only [List.cons_append, List.nil_append, Bool.not_true, Bool.not_false]))
  rename_i rq
  (((with_reducible refine e_opN v_rv Imp.nil ?_))); (((with_reducible refine e_boxA fun g => ?_)))
  refine e_imp (M := IsV g b most (.ok (0, [])) :: A :: F) (vok (.ex (rq, (none, 0)) (.all (.pick (by (repeat constructor)) (.pick (by (repeat constructor)) (imp_nil .refl)))))) ?_
  refine e_loop2 (fun m x y => (ex fun st : (((Option Addr × Nat) × List (Int × Int)) × Int) × SV => all [pu (x = .slice st.1.1.1.1 st.1.1.2.length st.1.1.1.2 ∧ y = .int .i64 st.1.2 ∧ st.1.1.2.length + m = 8 * b.length + 1 ∧ invA b most T m st.1.1.2 st.1.2 st.2), Sl 2 54 st.1.1.1.1 st.1.1.1.2 st.1.1.2.length (st.1.1.2.flatMap blk), IsV g b most st.2]) :: A :: F) (8 * b.length + 1) ?_ ?_
  · refine .ex ((((none, 0), []), 0), .ok (0, [])) (.all ?_)
    (try simp only [List.cons_append, List.nil_append, -eq_self])
    exact .pu ⟨rfl, rfl, by simp, by simp; omega, .inl ⟨rfl, hT, by (try dsimp only); omega⟩⟩ (imp_nil .refl)
  clear hT
  intro m ds x y
  refine e_ex .here fun st => e_all .here (e_pu .here fun hi => ?_)
  obtain ⟨⟨⟨⟨la, lc⟩, l⟩, last⟩, s⟩ := st
  (try simp only [List.cons_append, List.nil_append, -eq_self])
  (try dsimp only at hi)
  (try dsimp only)
  obtain ⟨rfl, rfl, hlm, hs⟩ := hi
  refine e_opN v_eql Imp.nil ?_
  -- what is done when nothing is to be done
  have done : (last ≠ 0 ∨ eOf s ≠ 0) → Ent W (Sl 2 54 la lc l.length (l.flatMap blk) :: IsV g b most s :: A :: F) (opN Try.prog (sNil (.pointer (some ⟨g, 0, none⟩))) noP fun x98 =>
      opN Try.prog (sFA 132 x98 3) noP fun x99 =>
      opN Try.prog (sLoad 3 x99) noP fun x100 =>
      opN Try.prog (sEq .neq 3 (.tmp 100) (.const (.int .i64 0)) x100 (.int .i64 0)) noP fun x101 =>
      condS x101
      (drS (stS Try.prog (sNil (.pointer (some ⟨g, 0, none⟩))) fun x103 =>
        stS Try.prog (sFA 132 x103 3) fun x104 =>
        stS Try.prog (sLoad 3 x104) fun x105 w =>
          ∃ q : (Value × Int) × (Option Addr × Nat), (.tuple #[.slice none 0 0, .slice none 0 0, .int .i64 0, x105] : Value) = .tuple #[q.1.1, .slice q.2.1 (aL b most).length q.2.2, .int .i64 q.1.2, .int .i64 (aE b most)] ∧ sat W (Sl 2 54 q.2.1 q.2.2 (aL b most).length ((aL b most).flatMap blk) :: A :: F) w))
      (drS (stS Try.prog (sNil (.pointer (some ⟨g, 0, none⟩))) fun x107 =>
        stS Try.prog (sFA 132 x107 1) fun x108 =>
        stS Try.prog (sLoad 39 x108) fun x109 =>
        stS Try.prog (sNil (.pointer (some ⟨g, 0, none⟩))) fun x112 =>
        stS Try.prog (sFA 132 x112 0) fun x113 =>
        stS Try.prog (sLoad 72 x113) fun x114 =>
        stS Try.prog (sNil x114) fun x115 =>
        stS Try.prog (sFA 117 x115 1) fun x116 =>
        stS Try.prog (sLoad 3 x116) fun x117 =>
        stS Try.prog (sBin .add 3 x117 (.int .i64 7)) fun x118 =>
        stS Try.prog (sBin .quo 3 x118 (.int .i64 8)) fun x119 w =>
          ∃ q : (Value × Int) × (Option Addr × Nat), (.tuple #[x109, .slice la l.length lc, x119, .int .i64 0] : Value) = .tuple #[q.1.1, .slice q.2.1 (aL b most).length q.2.2, .int .i64 q.1.2, .int .i64 (aE b most)] ∧ sat W (Sl 2 54 q.2.1 q.2.2 (aL b most).length ((aL b most).flatMap blk) :: A :: F) w))) := by
    intro hc
    refine e_opN v_nil Imp.nil ?_
    refine e_opN v_fa Imp.nil ?_
    refine e_opN v_lde (.pick (by (repeat constructor)) .nil) ?_
    refine e_opN v_neq Imp.nil ?_
    cases s with
    | error e =>
      refine e_vne (.there .here) fun he => ?_
      rw [decide_eq_true (p := eOf (.error e) ≠ 0) he]
      refine e_condT ?_
      refine e_drS ?_
      refine e_stS v_nil Imp.nil ?_
      refine e_stS v_fa Imp.nil ?_
      refine e_stS v_lde (.pick (by (repeat constructor)) .nil) ?_
      exact bad e _ hs (by (repeat (first | exact Imp.refl | exact Imp.nil | (apply Imp.pick; (focus ((repeat constructor); done))) | refine Imp.drop ?_)))
    | ok x =>
      obtain ⟨at1, o1⟩ := x
      obtain ⟨_, hd⟩ := hs
      have hl0 : last ≠ 0 := hc.elim id fun c => absurd rfl c
      have hT : T = .ok (at1, o1, l) := by
        rcases hd with ⟨h0, _⟩ | ⟨_, h⟩
        · exact absurd h0 hl0
        · exact h
      rw [decide_eq_false (p := eOf (.ok (at1, o1)) ≠ 0) (fun c => c rfl)]
      refine e_condF ?_
      refine e_ex (.there .here) fun x1 => e_all .here (e_pu .here fun hx1 => ?_)
      obtain rfl : x1 = (at1, o1) := hx1
      refine e_ex .here fun q1 => e_all .here ?_
      obtain ⟨r1, qa1, qc1⟩ := q1
      refine e_ex (.there .here) fun z => e_all .here (e_pu (.there (.there .here)) fun hz => ?_)
      (try simp only [List.cons_append, List.nil_append, -eq_self])
      (try dsimp only)
      ((with_reducible refine e_drS ?_)); (((with_reducible refine e_stS v_nil Imp.nil ?_))); (((with_reducible refine e_stS v_fa0 Imp.nil ?_))); (((with_reducible refine' e_stS (v_ldN ?hc) ?hi ?_); (case hi => (repeat (first | exact Imp.refl | exact Imp.nil | (apply Imp.pick; (focus ((repeat constructor); done))) | refine Imp.drop ?_))); (case hc => (repeat (first | exact Nth.here | apply Nth.there))))); (((with_reducible refine e_stS v_nil Imp.nil ?_))); (((with_reducible refine e_stS v_fa0 Imp.nil ?_))); (((with_reducible refine' e_stS (v_ldN ?hc) ?hi ?_); (case hi => (repeat (first | exact Imp.refl | exact Imp.nil | (apply Imp.pick; (focus ((repeat constructor); done))) | refine Imp.drop ?_))); (case hc => (repeat (first | exact Nth.here | apply Nth.there))))); (((with_reducible refine e_stS v_nil Imp.nil ?_))); (((with_reducible refine e_stS v_fa0 Imp.nil ?_))); (((with_reducible refine' e_stS (v_ldN ?hc) ?hi ?_); (case hi => (repeat (first | exact Imp.refl | exact Imp.nil | (apply Imp.pick; (focus ((repeat constructor); done))) | refine Imp.drop ?_))); (case hc => (repeat (first | exact Nth.here | apply Nth.there))))); (((with_reducible refine e_stS (v_add ?h1 ?h2) Imp.nil ?_); (case h1 => omega); (case h2 => omega))); (((with_reducible refine e_stS (v_quo ?h1 ?h2 ?h3) Imp.nil ?_); (case h1 => omega); (case h2 => omega); (case h3 => omega)))
      have hM : mAll b most = .ok (at1, o1, l) := by rw [← hTT]; exact hT
      rw [show aL b most = l by simp [aL, hM], show aE b most = 0 by simp [aE, hM]]
      refine e_ret ((.slice qa1 o1.length qc1, ((at1 : Int) + 7) / 8), (la, lc)) rfl ?_
      (repeat (first | exact Imp.refl | exact Imp.nil | (apply Imp.pick; (focus ((repeat constructor); done))) | refine Imp.drop ?_))
  by_cases hl0 : last = 0
  rotate_left
  · rw [decide_eq_false hl0]
    iterate 5 refine e_gdF2 ?_
    refine e_opN v_pickF Imp.nil ?_
    refine e_condF ?_
    exact done (.inl hl0)
  rw [decide_eq_true hl0]
  refine e_gdT ?_
  refine e_gdT ?_
  refine e_opN v_nil Imp.nil ?_
  refine e_gdT ?_
  refine e_opN v_fa Imp.nil ?_
  refine e_gdT ?_
  refine e_opN v_lde (.pick (by (repeat constructor)) .nil) ?_
  refine e_gdT ?_
  refine e_opN v_eql Imp.nil ?_
  refine e_opN v_pickT Imp.nil ?_
  by_cases he0 : eOf s = 0
  rotate_left
  · rw [decide_eq_false he0]
    refine e_condF ?_
    exact done (.inr he0)
  rw [decide_eq_true he0]
  refine e_condT ?_
  clear done
  cases s with
  | error e =>
    refine e_vne (.there .here) fun he => ?_
    exact absurd he0 he
  | ok x =>
  obtain ⟨at1, o1⟩ := x
  obtain ⟨ho, hd⟩ := hs
  (try dsimp only at ho)
  obtain ⟨_, hT, hm⟩ : last = 0 ∧ T = mLoop b most m at1 o1 l ∧ 8 * b.length + 1 ≤ m + at1 := by
    rcases hd with h | ⟨h, _⟩
    · exact h
    · exact absurd hl0 h
  refine e_vat (.there .here) fun hat => ?_
  obtain ⟨m, rfl⟩ : ∃ m', m = m' + 1 := ⟨m - 1, by omega⟩
  rw [mLoop] at hT
  (refine' e_call (vtake (k := ((1 : Nat) : Int)) (s := .ok (at1, o1))) ?hp fun _ => ?_; (case hp => (repeat (first | exact Picks.nil | (apply Picks.cons; (focus (repeat constructor)))))); (try simp only [List.cons_append, List.nil_append, Bool.not_true, Bool.not_false]))
  have hv1 := vT_b (b := b) (k := 1) (s := .ok (at1, o1))
  obtain ⟨s1, hs1⟩ : ∃ s, s = sT b ((1 : Nat) : Int) (.ok (at1, o1)) := ⟨_, rfl⟩
  obtain ⟨lv, hlv⟩ : ∃ s, s = vT b ((1 : Nat) : Int) (.ok (at1, o1)) := ⟨_, rfl⟩
  rw [← hs1, ← hlv]
  rw [← hlv] at hv1
  (refine' e_call (vtake (k := ((2 : Nat) : Int)) (s := s1)) ?hp fun _ => ?_; (case hp => (repeat (first | exact Picks.nil | (apply Picks.cons; (focus (repeat constructor)))))); (try simp only [List.cons_append, List.nil_append, Bool.not_true, Bool.not_false]))
  have hv2 := vT_b (b := b) (k := 2) (s := s1)
  obtain ⟨s2, hs2⟩ : ∃ s, s = sT b ((2 : Nat) : Int) s1 := ⟨_, rfl⟩
  obtain ⟨kd, hkd⟩ : ∃ s, s = vT b ((2 : Nat) : Int) s1 := ⟨_, rfl⟩
  rw [← hs2, ← hkd]
  rw [← hkd] at hv2
  obtain ⟨kk, rfl⟩ := Int.eq_ofNat_of_zero_le hv2.1
  -- the state's two faces
  have hhead : headA b most T m l at1 o1 lv kk s2 := by
    by_cases c1 : takR b at1 1 = 0
    rotate_left
    · rw [if_pos c1] at hT
      rw [hs2, hs1, show sT b ((1 : Nat) : Int) (.ok (at1, o1)) = .error (takR b at1 1) from if_pos c1]
      exact hT
    rw [if_neg (not_not_intro c1)] at hT
    have ht1 : takAt b at1 1 = at1 + 1 := by unfold takAt; rw [if_pos c1]; rfl
    rw [show sT b ((1 : Nat) : Int) (.ok (at1, o1)) = .ok (takAt b at1 1, o1) from if_neg (not_not_intro c1)] at hs1
    rw [show vT b ((1 : Nat) : Int) (.ok (at1, o1)) = (takN b at1 1 : Int) from rfl] at hlv
    obtain ⟨N1, hN1⟩ : ∃ n, n = takN b at1 1 := ⟨_, rfl⟩
    rw [← hN1] at hlv hT
    subst hlv
    obtain ⟨t1, ht1E⟩ : ∃ t, t = takAt b at1 1 := ⟨_, rfl⟩
    rw [← ht1E] at hs1 hT ht1
    rw [hs1] at hs2 hkd
    by_cases c2 : takR b t1 2 = 0
    rotate_left
    · rw [if_pos c2] at hT
      rw [hs2, show sT b ((2 : Nat) : Int) (.ok (t1, o1)) = .error (takR b t1 2) from if_pos c2]
      exact hT
    rw [if_neg (not_not_intro c2)] at hT
    have ht2 := takAt_le b t1 2
    rw [hs2, show sT b ((2 : Nat) : Int) (.ok (t1, o1)) = .ok (takAt b t1 2, o1) from if_neg (not_not_intro c2)]
    rw [show vT b ((2 : Nat) : Int) (.ok (t1, o1)) = (takN b t1 2 : Int) from rfl] at hkd
    have hkk : kk = takN b t1 2 := by omega
    rw [← hkk] at hT
    refine ⟨rfl, by (try dsimp only); omega, ?_⟩
    (try dsimp only)
    rw [hT]
    cases mKind kk b most (takAt b t1 2) o1 with
    | error e => rfl
    | ok y =>
      obtain ⟨a, o⟩ := y
      by_cases cz : N1 = 0
      · simp only [cz, if_true]; rfl
      · simp only [cz, if_false, show ¬ ((N1 : Int) = 0) from fun c => cz (by omega)]
  clear hT hs1 hs2 hlv hkd
  have hkb : (kk : Int) < 4 := hv2.2
  refine e_opN v_nil Imp.nil ?_
  refine e_ex .here fun x2 => e_all .here (e_pu .here fun hx2 => ?_)
  refine e_ex .here fun q2 => e_all .here ?_
  obtain ⟨r2, qa2, qc2⟩ := q2
  obtain ⟨a2, o2⟩ := x2
  (try simp only [List.cons_append, List.nil_append, -eq_self])
  (try dsimp only)
  refine e_slfacts (.there (.there .here)) fun f1 f2 f3 f4 => ?_
  have f5 : o2.length ≤ 9223372036854775807 := Nat.le_trans f2 f3
  refine e_opN v_fa Imp.nil ?_
  refine e_opN (v_ld (fz := (0, 0)) rfl) (.pick .here .nil) ?_
  refine e_opN v_len Imp.nil ?_
  refine e_imp (M := IsV g b most s2 :: Sl 2 54 la lc l.length (l.flatMap blk) :: A :: F) (.ex (a2, o2) (.all (.pu hx2 (.ex (r2, (qa2, qc2)) (.all (.pick (by (repeat constructor)) (.pick (by (repeat constructor)) (.pick (by (repeat constructor)) (by (repeat (first | exact Imp.refl | exact Imp.nil | (apply Imp.pick; (focus ((repeat constructor); done))) | refine Imp.drop ?_))))))))))) ?_
  obtain ⟨s3, hs3⟩ : ∃ s, s = sKd kk b most s2 := ⟨_, rfl⟩
  refine e_cut0 (IsV g b most s3 :: Sl 2 54 la lc l.length (l.flatMap blk) :: A :: F) ?_ ?_
  rotate_left
  · refine e_opN v_nil Imp.nil ?_
    refine e_opN v_fa Imp.nil ?_
    refine e_opN v_lde (.pick (by (repeat constructor)) .nil) ?_
    refine e_opN v_neq Imp.nil ?_
    cases s2 with
    | error e =>
      refine e_vne .here fun he => ?_
      rw [decide_eq_true (p := eOf (.error e) ≠ 0) he]
      refine e_condT ?_
      rw [hs3]
      exact e_sat .refl
    | ok y =>
      obtain ⟨t2, oy⟩ := y
      obtain ⟨hoy, _, _⟩ := hhead
      (try dsimp only at hoy)
      subst hoy
      rw [show sKd kk b most (.ok (t2, oy)) = mKind kk b most t2 oy from rfl] at hs3
      unfold mKind at hs3
      rw [decide_eq_false (p := eOf (.ok (t2, oy)) ≠ 0) (fun c => c rfl)]
      refine e_condF ?_
      refine e_opN v_eql Imp.nil ?_
      by_cases k0 : kk = 0
      · rw [if_pos k0] at hs3
        rw [decide_eq_true (by omega)]
        refine e_condT ?_
        (refine' e_call (vstored ⟨by omega, by omega⟩ ho) ?hp fun _ => ?_; (case hp => (repeat (first | exact Picks.nil | (apply Picks.cons; (focus (repeat constructor)))))); (try simp only [List.cons_append, List.nil_append, Bool.not_true, Bool.not_false]))
        rw [hs3]
        exact e_sat .refl
      rw [if_neg k0] at hs3
      rw [decide_eq_false (by omega)]
      refine e_condF ?_
      refine e_opN v_eql Imp.nil ?_
      by_cases k1 : kk = 1
      · rw [if_pos k1] at hs3
        rw [decide_eq_true (by omega)]
        refine e_condT ?_
        (refine' e_call (rfixed) ?hp fun _ => ?_; (case hp => (repeat (first | exact Picks.nil | (apply Picks.cons; (focus (repeat constructor)))))); (try simp only [List.cons_append, List.nil_append, Bool.not_true, Bool.not_false]))
        rename_i q
        obtain ⟨⟨la1, lc1⟩, ⟨da1, dc1⟩⟩ := q
        (try dsimp only)
        refine e_opN (v_ext (v := .slice la1 litL.length lc1) rfl) Imp.nil ?_
        refine e_opN (v_ext (v := .slice da1 dstL.length dc1) rfl) Imp.nil ?_
        refine e_slfacts (.here) fun g1 g2 g3 g4 => ?_
        refine e_slfacts (.there .here) fun j1 j2 j3 j4 => ?_
        have rd1 := rd_all1 (B := Sl 1 3 da1 dc1 dstL.length (dstL.map I)) (rd_sl (W := W) (e := 3) (cap := lc1) (cs := litL.map I) (n := litL.length) (by rw [List.length_map]) g4)
        have rd2 := rd_all2 (A := Sl 1 3 la1 lc1 litL.length (litL.map I)) (rd_sl (W := W) (e := 3) (cap := dc1) (cs := dstL.map I) (n := dstL.length) (by rw [List.length_map]) j4)
        refine e_imp (M := IsV g b most (.ok (t2, oy)) :: all [Sl 1 3 la1 lc1 litL.length (litL.map I), Sl 1 3 da1 dc1 dstL.length (dstL.map I)] :: Sl 2 54 la lc l.length (l.flatMap blk) :: A :: F) (.pick (by (repeat constructor)) (.all (by (repeat (first | exact Imp.refl | exact Imp.nil | (apply Imp.pick; (focus ((repeat constructor); done))) | refine Imp.drop ?_))))) ?_
        refine e_call (vcoded rd1 rd2 ok_lit ok_dst (by rw [lit_len]; omega) (by rw [dst_len]; omega) ⟨by omega, by omega⟩ ho) (.cons .here (.cons .here .nil)) fun _ => ?_
        (try simp only [List.cons_append, List.nil_append, -eq_self])
        rw [hs3]
        exact e_sat (.pick .here (.drop .refl))
      rw [if_neg k1] at hs3
      rw [decide_eq_false (by omega)]
      refine e_condF ?_
      refine e_opN v_eql Imp.nil ?_
      by_cases k2 : kk = 2
      · rw [if_pos k2] at hs3
        rw [decide_eq_true (by omega)]
        refine e_condT ?_
        (refine' e_call (vdynamic ⟨by omega, by omega⟩ ho) ?hp fun _ => ?_; (case hp => (repeat (first | exact Picks.nil | (apply Picks.cons; (focus (repeat constructor)))))); (try simp only [List.cons_append, List.nil_append, Bool.not_true, Bool.not_false]))
        rename_i q
        obtain ⟨⟨⟨u1, v1⟩, n1⟩, ⟨⟨u2, v2⟩, n2⟩⟩ := q
        (try dsimp only)
        refine e_opN (v_ext (v := .slice u1 n1 v1) rfl) Imp.nil ?_
        refine e_opN (v_ext (v := .slice u2 n2 v2) rfl) Imp.nil ?_
        refine e_ex .here fun z => ?_
        cases z with
        | error e =>
          refine e_all .here (e_pu .here fun hz => ?_)
          (try simp only [List.cons_append, List.nil_append, -eq_self])
          (refine' e_call (vcodedE) ?hp fun _ => ?_; (case hp => (repeat (first | exact Picks.nil | (apply Picks.cons; (focus (repeat constructor)))))); (try simp only [List.cons_append, List.nil_append, Bool.not_true, Bool.not_false]))
          rw [hs3, hz]
          exact e_sat .refl
        | ok z =>
          obtain ⟨⟨a5, gg, cc⟩, ⟨ll, lb⟩⟩ := z
          refine e_all .here (e_pu .here fun hz => ?_)
          (try simp only [List.cons_append, List.nil_append, -eq_self])
          (try dsimp only at hz)
          (try dsimp only)
          obtain ⟨hR, okA, okB, p1, p2, hq⟩ := hz
          injection hq with hqa hqb
          injection hqa with hqa1 hqa2
          injection hqb with hqb1 hqb2
          injection hqa1 with hqa3 hqa4
          injection hqb1 with hqb3 hqb4
          subst hqa3; subst hqa4; subst hqa2; subst hqb3; subst hqb4; subst hqb2
          refine e_slfacts .here fun g1 g2 g3 g4 => ?_
          have hrd := rd_sl (W := W) (e := 3) (cap := v1) (cs := (ll ++ lb).map I) (n := ll.length + lb.length) (by simp) (fun _ => ⟨gg, rfl⟩)
          have hA0 : Option.map (fun x : Addr => x.add (0 * 1)) (some ⟨gg, 0, none⟩) = some ⟨gg, 0, none⟩ := by simp [addr_add]
          have hAk : Option.map (fun x : Addr => x.add (ll.length * 1)) (some ⟨gg, 0, none⟩) = some ⟨gg, ll.length, none⟩ := by simp [addr_add]
          have hRa := hrd.cut (l := 0) (h := ll.length) (cap := v1) (by omega) (by omega) g2
          rw [if_neg (by omega), hA0, List.drop_zero, ← List.map_take, Nat.sub_zero, List.take_left] at hRa
          have hRb := hrd.cut (l := ll.length) (h := ll.length + lb.length) (cap := v1) (by omega) (by omega) g2
          rw [if_neg (by omega), hAk, List.take_of_length_le (by simp), ← List.map_drop, List.drop_left, Nat.add_sub_cancel_left] at hRb
          (try simp only [List.cons_append, List.nil_append, -eq_self])
          refine e_call (vcoded hRa hRb okA okB okA.len okB.len ⟨by omega, by omega⟩ ho) (.cons (by (repeat constructor)) (.cons (by (repeat constructor)) .nil)) fun _ => ?_
          (try simp only [List.cons_append, List.nil_append, -eq_self])
          rw [hs3, hR]
          exact e_sat (.pick .here (.drop .refl))
      rw [if_neg k2] at hs3
      rw [decide_eq_false (by omega)]
      refine e_condF ?_
      (refine' e_call (fail (by decide)) ?hp fun _ => ?_; (case hp => (repeat (first | exact Picks.nil | (apply Picks.cons; (focus (repeat constructor)))))); (try simp only [List.cons_append, List.nil_append, Bool.not_true, Bool.not_false]))
      rw [hs3]
      exact e_sat .refl
  intro ds
  refine e_opN v_nil Imp.nil ?_
  refine e_ex .here fun x3 => e_all .here (e_pu .here fun hx3 => ?_)
  refine e_ex .here fun q3 => e_all .here ?_
  obtain ⟨r3, qa3, qc3⟩ := q3
  obtain ⟨a3, o3⟩ := x3
  (try simp only [List.cons_append, List.nil_append, -eq_self])
  (try dsimp only)
  refine e_slfacts (.there (.there .here)) fun g1 g2 g3 g4 => ?_
  have g5 : o3.length ≤ 9223372036854775807 := Nat.le_trans g2 g3
  refine e_opN v_fa Imp.nil ?_
  refine e_opN (v_ld (fz := (0, 0)) rfl) (.pick .here .nil) ?_
  refine e_opN v_len Imp.nil ?_
  refine e_imp (M := IsV g b most s3 :: Sl 2 54 la lc l.length (l.flatMap blk) :: A :: F) (.ex (a3, o3) (.all (.pu hx3 (.ex (r3, (qa3, qc3)) (.all (.pick (by (repeat constructor)) (.pick (by (repeat constructor)) (.pick (by (repeat constructor)) (by (repeat (first | exact Imp.refl | exact Imp.nil | (apply Imp.pick; (focus ((repeat constructor); done))) | refine Imp.drop ?_))))))))))) ?_
  refine e_opN (v_sub (by omega) (by omega)) Imp.nil ?_
  obtain ⟨df, hdf⟩ : ∃ d, d = (o3.length : Int) - (o2.length : Int) := ⟨_, rfl⟩
  rw [← hdf]
  refine e_opN v_rv Imp.nil ?_
  refine e_bslS (s := 2) (vs := [.agg #[.int .i64 (kk : Int), .int .i64 df]]) rfl (by omega) rfl (by intro z hz; simp at hz; subst hz; rfl) (by omega) fun g4' => ?_
  refine e_app (m := 1) (news := blk ((kk : Int), df)) (by (repeat constructor)) (src_pt (s := 2) (e' := 54) (by kernel_rfl) .here (by rfl) (by intro z hz; simp [blk] at hz; rcases hz with rfl | rfl <;> rfl)) (by omega) (by omega) fun a' c' => ?_
  refine e_next2 m (by omega) (.ex ((((a', c'), l ++ [((kk : Int), df)]), lv), s3) (.all ?_))
  (try simp only [List.cons_append, List.nil_append, -eq_self])
  (try dsimp only)
  refine .pu ⟨by simp, rfl, by simp; omega, ?_⟩ ?_
  · cases s2 with
    | error e => rw [hs3]; exact hhead
    | ok y =>
      obtain ⟨t2, oy⟩ := y
      obtain ⟨hoy, hat2, hT⟩ := hhead
      (try dsimp only at hoy)
      (try dsimp only at hT)
      subst hoy
      have e2 : o2 = oy := (Prod.mk.inj hx2).2
      subst e2
      rw [show sKd kk b most (.ok (t2, o2)) = mKind kk b most t2 o2 from rfl] at hs3
      cases hK : mKind kk b most t2 o2 with
      | error e =>
        rw [hK] at hT hs3
        rw [hs3]
        exact hT
      | ok z =>
        obtain ⟨a6, o6⟩ := z
        have hle := mKind_ok hK ho
        have hat6 := mKind_at hK
        rw [hK] at hT hs3
        subst hs3
        have e3 : o3 = o6 := (Prod.mk.inj hx3).2
        subst e3
        simp only at hT
        refine ⟨hle, ?_⟩
        by_cases cl : lv = 0
        · rw [if_pos cl] at hT
          exact .inl ⟨cl, by rw [hdf]; exact hT, by (try dsimp only at hat2); (try dsimp only); omega⟩
        · rw [if_neg cl] at hT
          exact .inr ⟨cl, by rw [hdf]; exact hT⟩
  · rw [List.length_append, List.flatMap_append, List.length_singleton, List.flatMap_singleton]
    (repeat (first | exact Imp.refl | exact Imp.nil | (apply Imp.pick; (focus ((repeat constructor); done))) | refine Imp.drop ?_))
theorem rblocks {W : World} {a : Option Addr} {cap : Nat} {b : List UInt8} {A : HP} {most : Int} (hr : RdB W A a b.length (b.map B)) (ha : a = none → b.length = 0) (hb : b.length ≤ 140737488355328) :
    Cn Try.prog 29 [.slice a b.length cap, .int .i64 most] W [A] (fun q : Option Addr × Nat => .tuple #[.slice q.1 (aL b most).length q.2, .int .i64 (aE b most)]) (fun q => [Sl 2 54 q.1 q.2 (aL b most).length ((aL b most).flatMap blk), A]) := by
  (refine S.ref05_Blocks_cn fun F => ?_; unfold S.ref05_Blocks; simp only [List.cons_append, List.nil_append])
  (refine' e_call (rall hr ha hb) ?hp fun _ => ?_; (case hp => (repeat (first | exact Picks.nil | (apply Picks.cons; (focus (repeat constructor)))))); (try simp only [List.cons_append, List.nil_append, Bool.not_true, Bool.not_false]))
  rename_i q
  obtain ⟨⟨v0, n0⟩, ⟨la, lc⟩⟩ := q
  (try dsimp only)
  refine e_opN (v_ext (v := v0) rfl) Imp.nil ?_
  refine e_opN (v_ext (v := .slice la (aL b most).length lc) rfl) Imp.nil ?_
  refine e_opN (v_ext (v := .int .i64 n0) rfl) Imp.nil ?_
  refine e_opN (v_ext (v := .int .i64 (aE b most)) rfl) Imp.nil ?_
  (first | refine e_ret ((la, lc)) rfl ?_ | refine e_retT ((la, lc)) ?_)
  (repeat (first | exact Imp.refl | exact Imp.nil | (apply Imp.pick; (focus ((repeat constructor); done))) | refine Imp.drop ?_))
end Go.Proofs.Ytehfblkpbadikaa.IF
/-! Structs in slices: read, written whole. No conditions but those that each names. -/
namespace Go.Proofs.Ytehfblkpbadikaa.Sl
open Go Go.RowKit Go.Proofs.Ytehfblkpbadikaa.Sh
variable {P : Program} {W : World} {L L' : List HP} {Kp : PK} {k : Value → WP} {A : HP}
theorem v_capG {t e ty : TypeId} {s b : Nat} {a : Option Addr} {n cap : Nat} [ht : SlT P t e s b] : RunV P W [] (sCap #[t] ty [.slice a n cap]) (.int .i64 (cap : Int)) := fun w _ => by
  simp [sCap, Builtin.cap_, run_underlying ht.ut, goInt]
theorem v_ldRdG {t : TypeId} {n m g o j : Nat} {cs vs : List Value} [ht : AggT P t n] (H : RdB W A (some ⟨g, o, none⟩) m cs) (hn : vs.length = n) (hc : ∀ i, i < n → cs[j + i]? = vs[i]?) : RunV P W [A] (sLoad t (.pointer (some ⟨g, o + j, none⟩))) (.agg vs.toArray) := fun w hw => by
  have h : (loadCells ⟨g, o + j, none⟩ n).run P w = .ok vs.toArray w := by
    subst hn
    refine run_loadCells_list (P := P) w ⟨g, o + j, none⟩ vs (fun i v hv => ?_)
    have hi : i < vs.length := by
      rcases Nat.lt_or_ge i vs.length with c | c
      · exact c
      · rw [List.getElem?_eq_none c] at hv; cases hv
    have hcv := hc i hi
    rw [hv] at hcv
    have hl := H.len
    have hlt : j + i < cs.length := by
      rcases Nat.lt_or_ge (j + i) cs.length with c | c
      · exact c
      · rw [List.getElem?_eq_none c] at hcv; cases hcv
    obtain ⟨g', o', e, hcell⟩ := H.at_ (by omega)
    injection e with e; injection e with e1 e2; subst e1; subst e2
    rw [addr_add, Nat.add_assoc]
    exact hcell w [] hw (j + i) v hcv
  simp [sLoad, Instr.loadAt, Instr.sureAddr, loadVar, ht.agg, ht.size, h]
theorem put_getG {cs rest vs : List Value} {o n j : Nat} (hn : vs.length = n) (ho : o + n ≤ cs.length) : (cs.take o ++ vs ++ cs.drop (o + n) ++ rest)[j]? = if o ≤ j ∧ j < o + n then vs[j - o]? else (cs ++ rest)[j]? := by
  simp only [List.getElem?_append, List.length_append, List.length_take, List.length_drop, hn, Nat.min_eq_left (show o ≤ cs.length by omega), List.getElem?_take, List.getElem?_drop]
  repeat' split
  all_goals first | rfl | omega | (congr 1; omega)
theorem e_stSlG {t e : TypeId} {s n g o cap m : Nat} {cs : List Value} {vs : Array Value} [ht : AggT P t n] (p : Pick L (Sl s e (some ⟨g, 0, none⟩) cap m cs) L') (hv : vs.size = n) (ho : o + n ≤ cs.length) (h1 : ∀ u ∈ vs.toList, u.oneCell' = true)
    (h : Ent W (Sl s e (some ⟨g, 0, none⟩) cap m (cs.take o ++ vs.toList ++ cs.drop (o + n)) :: L') (k undef)) : Ent W L (opN P (sStore t (.pointer (some ⟨g, o, none⟩)) (.agg vs)) Kp k) := fun w hw => by
  obtain ⟨rest, r1, r2, r3, r4, hp⟩ := sl_row (hw.pick p)
  have hst := run_storeCells_cells (P := P) g o vs.toList 0 w (fun j hj => by
    rw [hp.cell, Array.getElem?_eq_getElem (by simp at hj ⊢; omega)]; rfl) (fun j _ => hp.free) h1
  obtain ⟨cs', c1, c2, c3⟩ := setCells_world g (o + 0) vs.toList w _ _ hp
  refine ⟨?_⟩
  have hvl : vs.toList.length = n := by simp [hv]
  have : (sStore t (.pointer (some ⟨g, o, none⟩)) (.agg vs)).run P w = .ok .skip (w.setCells g (o + 0) vs.toList) := by
    simp [sStore, Instr.storeAt, Instr.sureAddr, storeVar, ht.size, Value.cells, hv, hst]
  rw [this]
  refine h _ (sl_back r1 (by simp [hv]; omega) r3 r4 ?_)
  have he : cs' = (cs.take o ++ vs.toList ++ cs.drop (o + n) ++ rest).toArray := by
    apply Array.ext_getElem?
    intro j
    rw [c3]
    simp only [Nat.add_zero, List.size_toArray, List.length_append, List.getElem?_toArray, hvl]
    rw [put_getG hvl ho]
    by_cases hj : o ≤ j ∧ j < o + n
    · rw [if_pos hj, if_pos ⟨hj.1, hj.2, by omega⟩]
    · rw [if_neg hj, if_neg (fun c => hj ⟨c.1, c.2.1⟩)]
  rwa [he] at c1
theorem rd_slG {s : Nat} {e : TypeId} {a : Option Addr} {cap n : Nat} {cs : List Value} (hl : cs.length = n * s) (ha : 0 < n → ∃ g, a = some ⟨g, 0, none⟩) : RdB W (Sl s e a cap n cs) a (n * s) cs := ⟨hl, fun hn => by
  obtain ⟨g, rfl⟩ := ha (by
    rcases Nat.eq_zero_or_pos n with z | z
    · subst z; simp at hn
    · exact z)
  refine ⟨g, 0, rfl, fun w L hw j v hv => ?_⟩
  obtain ⟨rest, r1, r2, r3, r4, hp⟩ := sl_row hw
  rw [Nat.zero_add, hp.cell]
  have hj : j < cs.length := by
    rcases Nat.lt_or_ge j cs.length with c | c
    · exact c
    · rw [List.getElem?_eq_none c] at hv; cases hv
  simpa [List.getElem?_append_left hj] using hv⟩
theorem rd_pre {a : Option Addr} {n m : Nat} {cs : List Value} (H : RdB W A a n cs) (hm : m ≤ n) : RdB W A a m (cs.take m) := by
  refine ⟨by rw [List.length_take, H.len]; omega, fun h0 => ?_⟩
  obtain ⟨g, o, e, hc⟩ := H.at_ (by omega)
  refine ⟨g, o, e, fun w L hw j v hv => hc w L hw j v ?_⟩
  rw [List.getElem?_take] at hv
  split at hv
  · exact hv
  · cases hv
theorem e_bsl0 {t e : TypeId} {s b : Nat} [ht : SlT P t e s b] (h : ∀ g, Ent W (Sl s e (some ⟨g, 0, none⟩) 0 0 [] :: L) (k (.slice (some ⟨g, 0, none⟩) 0 0))) : Ent W L (opN P (sBuildSl t 0 []) Kp k) := fun w hw => by
  refine ⟨?_⟩
  obtain ⟨i, z, hi, hz, hs, hb, hzs⟩ := ht.info
  have e0 : (Array.range 0).map (fun _ => (default : Value)) = #[] := Array.eq_empty_of_size_eq_zero (by simp)
  have : (sBuildSl t 0 []).run P w = .ok (.value (.slice (some ⟨w.heap.size, 0, none⟩) 0 0)) (w.alloc (.cells #[] e)) := by
    simp [sBuildSl, Instr.buildSlice, run_underlying ht.ut, sizeOf_run hi, newRow, Instr.fill]
    rw [e0]
  rw [this]
  exact h _ _ ((imp_new (cs := []) .here (by simp) (by unfold maxLen; omega) .refl).sat (hw.alloc (.cells #[] e)))
theorem src_rdG {tx e' : TypeId} {s : Nat} {a : Option Addr} {n cap : Nat} {cs : List Value} (hk : P.underlying tx = some (.slice e')) (hs : 0 < s) (p : Pick L A L') (H : RdB W A a (n * s) cs) (ha : a = none → n = 0) (h1 : ∀ u ∈ cs, u.oneCell' = true) :
    ∀ w, sat W L w → Src P s tx (.slice a n cap) n cs w := fun w hw => by
  have hl := H.len
  rcases Nat.eq_zero_or_pos n with h0 | hn
  · subst h0
    have hcs : cs = [] := List.eq_nil_of_length_eq_zero (by simpa using hl)
    subst hcs
    cases a with
    | none => exact Src.ofNil w hk cap
    | some ad => exact Src.ofSlice w hk ad 0 cap [] (by simp) (fun j u hu => by simp at hu) (by simp)
  · obtain ⟨g, o, rfl, hc⟩ := H.at_ (Nat.mul_pos hn hs)
    exact Src.ofSlice w hk _ _ _ _ hl (fun j u hu => by rw [addr_add]; exact hc w L' (hw.pick p) j u hu) h1
/-- the rest of a slice, as a source -/
theorem src_tail {tx e' : TypeId} {s : Nat} {g : Nat} {n l cap : Nat} {cs : List Value} (hk : P.underlying tx = some (.slice e')) (hs : 0 < s) (p : Pick L A L') (H : RdB W A (some ⟨g, 0, none⟩) (n * s) cs) (hl : l ≤ n) (hc : n ≤ cap) (h1 : ∀ u ∈ cs, u.oneCell' = true) :
    ∀ w, sat W L w → Src P s tx (.slice (if cap = l then some ⟨g, 0, none⟩ else (some (⟨g, 0, none⟩ : Addr)).map (·.add (l * s))) (n - l) (cap - l)) (n - l) (cs.drop (l * s)) w := fun w hw => by
  have hlen := H.len
  have one : ∀ u ∈ cs.drop (l * s), u.oneCell' = true := fun u hu => h1 u (List.mem_of_mem_drop hu)
  by_cases c : cap = l
  · rw [if_pos c]
    have h0 : n - l = 0 := by omega
    have hcs : cs.drop (l * s) = [] := List.drop_eq_nil_of_le (by rw [hlen]; exact Nat.mul_le_mul_right _ (by omega))
    rw [h0, hcs]
    exact Src.ofSlice w hk _ 0 _ [] (by simp) (fun j u hu => by simp at hu) (by simp)
  · rw [if_neg c]
    simp only [Option.map_some, addr_add, Nat.zero_add]
    refine Src.ofSlice w hk _ _ _ _ (by rw [List.length_drop, hlen, ← Nat.sub_mul]) (fun j u hu => ?_) one
    rw [addr_add]
    rw [List.getElem?_drop] at hu
    have hj : l * s + j < cs.length := by
      rcases Nat.lt_or_ge (l * s + j) cs.length with x | x
      · exact x
      · rw [List.getElem?_eq_none x] at hu; cases hu
    obtain ⟨g', o', e, hcell⟩ := H.at_ (by rw [← hlen]; omega)
    injection e with e; injection e with e1 e2; subst e1; subst e2
    have := hcell w L' (hw.pick p) (l * s + j) u hu
    rwa [Nat.zero_add] at this
theorem v_beqlG {t : TypeId} {ox oy : Operand} {a b : Bool} (ht : P.underlying t = some .bool) : RunV P W [] (sEq .eql t ox oy (.bool a) (.bool b)) (.bool (decide (a = b))) := fun w _ => by
  have h : (Op.equal t (.bool a) (.bool b)).run P w = .ok (a == b) w := by
    unfold Op.equal Op.maxDepth Op.equalIn
    simp only [Sem.run_bind, run_underlying ht, Result.andThen_ok]
    rfl
  simp [sEq, sv, eqGuard, binOp, h, Result.andThen]
  cases a <;> cases b <;> rfl
end Go.Proofs.Ytehfblkpbadikaa.Sl
/-! As many assertions as there are numbers below n; shorter slices. No conditions but those that each names. -/
namespace Go.Proofs.Ytehfblkpbadikaa.Sl
open Go Go.RowKit Go.Proofs.Ytehfblkpbadikaa.Sh
variable {P : Program} {W : World} {L L' L'' : List HP} {Kp : PK} {k : Value → WP}
theorem big_out {F : Nat → HP} {i : Nat} : ∀ (l : List Nat), i ∈ l → l.Nodup → ∀ {h : Frag}, all (l.map F) W h → star (F i) (all ((l.filter fun j => decide (j ≠ i)).map F)) W h
  | [], hi, _, _, _ => by simp at hi
  | j :: l, hi, hn, h, H => by
    rw [List.nodup_cons] at hn
    by_cases c : j = i
    · subst c
      have e : (List.filter (fun x => decide (x ≠ j)) (j :: l)) = l := by
        rw [List.filter_cons_of_neg (by simp)]
        exact List.filter_eq_self.2 fun x hx => by
          simp only [ne_eq, decide_not, Bool.not_eq_eq_eq_not, Bool.not_true, decide_eq_false_iff_not]
          rintro rfl
          exact hn.1 hx
      rw [e]
      exact H
    · have hi' : i ∈ l := by
        rcases List.mem_cons.1 hi with e | e
        · exact absurd e.symm c
        · exact e
      rw [List.filter_cons_of_pos (by simpa using c), List.map_cons]
      have := star_mono (fun h => big_out (i := i) l hi' hn.2 (h := h)) H
      exact star_swap this
theorem big_in {F : Nat → HP} {i : Nat} : ∀ (l : List Nat), i ∈ l → l.Nodup → ∀ {h : Frag}, star (F i) (all ((l.filter fun j => decide (j ≠ i)).map F)) W h → all (l.map F) W h
  | [], hi, _, _, _ => by simp at hi
  | j :: l, hi, hn, h, H => by
    rw [List.nodup_cons] at hn
    by_cases c : j = i
    · subst c
      have e : (List.filter (fun x => decide (x ≠ j)) (j :: l)) = l := by
        rw [List.filter_cons_of_neg (by simp)]
        exact List.filter_eq_self.2 fun x hx => by
          simp only [ne_eq, decide_not, Bool.not_eq_eq_eq_not, Bool.not_true, decide_eq_false_iff_not]
          rintro rfl
          exact hn.1 hx
      rw [e] at H
      exact H
    · have hi' : i ∈ l := by
        rcases List.mem_cons.1 hi with e | e
        · exact absurd e.symm c
        · exact e
      rw [List.filter_cons_of_pos (by simpa using c), List.map_cons] at H
      exact star_mono (fun h => big_in (i := i) l hi' hn.2 (h := h)) (star_swap H)
def BS (n : Nat) (F : Nat → HP) : HP := all ((List.range n).map F)
/-- all but one -/
def BH (n : Nat) (F : Nat → HP) (i : Nat) : HP := all (((List.range n).filter fun j => decide (j ≠ i)).map F)
theorem BH.congr {n i : Nat} {F F' : Nat → HP} (h : ∀ j, j < n → j ≠ i → F j = F' j) : BH n F i = BH n F' i := by
  unfold BH
  congr 1
  exact List.map_congr_left fun j hj => by
    rw [List.mem_filter] at hj
    exact h j (List.mem_range.1 hj.1) (by simpa using hj.2)
theorem e_big {n : Nat} {F : Nat → HP} {S : WP} (p : Pick L (BS n F) L') (i : Nat) (hi : i < n) (h : Ent W (F i :: BH n F i :: L') S) : Ent W L S := fun w hw => by
  refine h w (sat.map (L := BS n F :: L') (fun f H => ?_) (hw.pick p))
  have H2 : star (all [F i, BH n F i]) (all L') W f := by
    obtain ⟨h1, h2, ha, r⟩ := H
    refine ⟨h1, h2, ?_, r⟩
    obtain ⟨k1, k2, b1, b2, d, t1, t2⟩ := big_out (List.range n) (List.mem_range.2 hi) List.nodup_range ha
    exact ⟨k1, k2, b1, ⟨k2, fun _ => none, b2, trivial, fun _ => .inr rfl, fun _ _ c => c, fun _ _ c => by cases c⟩, d, t1, t2⟩
  exact all_append' H2
theorem imp_big {n : Nat} {F F' : Nat → HP} {M : List HP} (i : Nat) (hi : i < n) (hF : ∀ j, j < n → j ≠ i → F j = F' j) (h : Imp W L (F' i :: BH n F i :: M)) : Imp W L (BS n F' :: M) := by
  refine .conv (B := all [F' i, BH n F i]) (fun f H => ?_) (.all h)
  refine big_in (List.range n) (List.mem_range.2 hi) List.nodup_range ?_
  have e := BH.congr hF
  obtain ⟨k1, k2, b1, ⟨k3, k4, b2, _, _, t3, _⟩, d, t1, t2⟩ := H
  rw [e] at b2
  refine ⟨k1, k3, b1, b2, fun j => ?_, t1, fun j o c => t2 j o (t3 j o c)⟩
  rcases d j with c | c
  · exact .inl c
  · right
    cases c' : k3 j with
    | none => rfl
    | some o => rw [t3 j o c'] at c; cases c
theorem imp_bs0 {F : Nat → HP} {M : List HP} (h : Imp W L M) : Imp W L (BS 0 F :: M) := .all (M := M) (N := []) h
theorem imp_bsS {n : Nat} {F F' : Nat → HP} {M : List HP} (hF : ∀ j, j < n → F j = F' j) (h : Imp W L (BS n F :: F' n :: M)) : Imp W L (BS (n + 1) F' :: M) := by
  refine .conv (B := all [BS n F, F' n]) (fun f H => ?_) (.all h)
  unfold BS
  rw [List.range_succ, List.map_append]
  refine all_append' ?_
  obtain ⟨k1, k2, b1, b2, d, t1, t2⟩ := H
  refine ⟨k1, k2, ?_, b2, d, t1, t2⟩
  have e : (List.range n).map F' = (List.range n).map F := List.map_congr_left fun j hj => (hF j (List.mem_range.1 hj)).symm
  rw [e]; exact b1
/-- a slice's first elements -/
theorem e_slcut {s : Nat} {e : TypeId} {a : Option Addr} {cap n m : Nat} {cs : List Value} {S : WP} (p : Pick L (Sl s e a cap n cs) L') (hm : m ≤ n) (h : Ent W (Sl s e a cap m (cs.take (m * s)) :: L') S) : Ent W L S := by
  refine e_conv p (fun f H => ?_) h
  obtain ⟨h1, h2, h3, h4⟩ := H
  have hms : m * s ≤ n * s := Nat.mul_le_mul_right _ hm
  refine ⟨by rw [List.length_take]; omega, by omega, h3, ?_⟩
  rcases h4 with ⟨rfl, rfl⟩ | ⟨g, rest, rfl, hr, hg⟩
  · exact .inl ⟨rfl, rfl⟩
  · refine .inr ⟨g, cs.drop (m * s) ++ rest, rfl, ?_, ?_⟩
    · rw [List.length_append, List.length_drop, hr, h1, ← Nat.sub_mul, ← Nat.add_mul]; congr 1; omega
    · rw [← List.append_assoc, List.take_append_drop]; exact hg
theorem v_slh0 {t e : TypeId} {s b n cap : Nat} {g : Nat} {r : IntKind} {j : Int} (h : Nat) [ht : SlT P t e s b] (hj : j = (h : Int)) (h2 : h ≤ cap) :
    RunV P W [] (sSl t (.slice (some ⟨g, 0, none⟩) n cap) none (some (.int r j)) none) (.slice (some ⟨g, 0, none⟩) h cap) := by
  have := v_slh (P := P) (W := W) (t := t) (n := n) (a := some ⟨g, 0, none⟩) (r := r) h hj h2
  have e : (if cap = 0 then some (⟨g, 0, none⟩ : Addr) else (some (⟨g, 0, none⟩ : Addr)).map (·.add (0 * s))) = some ⟨g, 0, none⟩ := by
    split
    · rfl
    · simp [addr_add]
  rwa [e] at this
theorem v_ldRd2 {t : TypeId} {g o n i j : Nat} {cs : List Value} {v : Value} {A : HP} [ht : OneT P t] (H : RdB W A (some ⟨g, o, none⟩) n cs) (hv : cs[i + j]? = some v) : RunV P W [A] (sLoad t (.pointer (some ⟨g, o + i + j, none⟩))) v := by
  rw [Nat.add_assoc]; exact v_ldRd H hv
end Go.Proofs.Ytehfblkpbadikaa.Sl
/-! The law InflateBlocks: true, at any bytes of at most 2^40. -/
namespace Go.Proofs.Ytehfblkpbadikaa.IF
open Go Go.Proofs Go.RowKit Go.Proofs.Ytehfblkpbadikaa.Sh Go.Proofs.Ytehfblkpbadikaa.Sl Go.Proofs.Ytehfblkpbadikaa.T Go.Proofs.Ytehfblkpbadikaa.HM Go.Proofs.Ytehfblkpbadikaa.HF Go.Proofs.Ytehfblkpbadikaa.B Go.Proofs.Ytehfblkpbadikaa.M
theorem blk_len (x : Int × Int) : (blk x).length = 2 := rfl
theorem inflateBlocks {W : World} {a : Option Addr} {c : Nat} {b : List UInt8} {most : Int} {A : HP} (hA : ∀ A, RdB W A a b.length (b.map B)) (ha : a = none → b.length = 0) (hl : b.length ≤ 1048576) :
    Cn Try.prog 10 [.slice a b.length c, .int .i64 most] W [A] (fun _ : Unit => .bool true) (fun _ => [A]) := by
  (refine S.law05_InflateBlocks_cn fun F => ?_; unfold S.law05_InflateBlocks; simp only [List.cons_append, List.nil_append])
  refine e_bsl0 (s := 1) (e := 5) fun z => ?_
  refine e_app (m := b.length) (news := b.map B) .here (src_rd (e' := 5) (by kernel_rfl) (.there .here) (hA A) ha B_one) (by omega) (by omega) fun b1 d1 => ?_
  rw [Nat.zero_add, List.nil_append]
  refine e_slfacts .here fun f1 f2 f3 f4 => ?_
  have rdB : RdB W (Sl 1 5 b1 d1 b.length (b.map B)) b1 b.length (b.map B) := rd_sl (by simp) f4
  refine e_call (blocks (most := most) rdB (fun hn => (by
    rcases Nat.eq_zero_or_pos b.length with z | z
    · exact z
    · obtain ⟨_, e⟩ := f4 z; rw [hn] at e; cases e)) (by omega)) (.cons .here .nil) fun q => ?_
  obtain ⟨la, lc⟩ := q
  (try simp only [List.cons_append, List.nil_append, -eq_self])
  refine e_opN (v_extN (vs := [_, _]) .here) Imp.nil ?_
  refine e_opN (v_extN (vs := [_, _]) (.there .here)) Imp.nil ?_
  refine e_call (rblocks (most := most) (A := A) (hA A) ha (by omega)) (.cons (.there (.there .here)) .nil) fun q => ?_
  obtain ⟨ka, kc⟩ := q
  (try simp only [List.cons_append, List.nil_append, -eq_self])
  refine e_opN (v_extN (vs := [_, _]) .here) Imp.nil ?_
  refine e_opN (v_extN (vs := [_, _]) (.there .here)) Imp.nil ?_
  obtain ⟨l, hlE⟩ : ∃ l, l = aL b most := ⟨_, rfl⟩
  obtain ⟨e, heE⟩ : ∃ e, e = aE b most := ⟨_, rfl⟩
  rw [← hlE, ← heE]
  refine e_slfacts .here fun g1 g2 g3 g4 => ?_
  refine e_slfacts (.there (.there .here)) fun h1 h2 h3 h4 => ?_
  have rdk : RdB W (Sl 2 54 ka kc l.length (l.flatMap blk)) ka (l.length * 2) (l.flatMap blk) := rd_slG g1 g4
  have rdl : RdB W (Sl 2 53 la lc l.length (l.flatMap blk)) la (l.length * 2) (l.flatMap blk) := rd_slG h1 h4
  have hlen : l.length ≤ 9223372036854775807 := Nat.le_trans g2 g3
  refine e_opN v_len Imp.nil ?_
  refine e_opN v_len Imp.nil ?_
  refine e_opN v_neq Imp.nil ?_
  rw [decide_eq_false (fun c => c rfl)]
  refine e_gdT ?_
  refine e_gdT ?_
  refine e_call num5 .nil fun _ => ?_
  (try simp only [List.cons_append, List.nil_append, -eq_self])
  refine e_gdT ?_
  refine e_gdT ?_
  refine e_opN v_neq Imp.nil ?_
  rw [decide_eq_false (fun c => c rfl)]
  refine e_opN v_pickF Imp.nil ?_
  refine e_condF ?_
  refine e_loop1 (fun m y => (ex fun i : Nat => pu (m + i = l.length ∧ y = .int .i64 (i : Int))) :: Sl 2 54 ka kc l.length (l.flatMap blk) :: Sl 2 53 la lc l.length (l.flatMap blk) :: A :: F) l.length ?_ ?_
  · refine .ex 0 (.pu ⟨rfl, rfl⟩ ?_)
    (repeat (first | exact Imp.refl | exact Imp.nil | (apply Imp.pick; (focus ((repeat constructor); done))) | refine Imp.drop ?_))
  intro m ds y
  refine e_ex .here fun i => e_pu .here fun hi => ?_
  obtain ⟨hmi, rfl⟩ := hi
  refine e_opN v_len Imp.nil ?_
  refine e_ask v_lss Imp.nil (fun h => ?_) (fun h => ?_)
  · have hil : i < l.length := by omega
    obtain ⟨gk, hgk⟩ := g4 (by omega)
    obtain ⟨gl, hgl⟩ := h4 (by omega)
    subst hgk; subst hgl
    have k0 : RunV Try.prog W [Sl 2 54 (some ⟨gk, 0, none⟩) kc l.length (l.flatMap blk)] (sLoad 3 (.pointer (some ⟨gk, 0 + i * 2 + 0, none⟩))) (.int .i64 l[i].1) := v_ldRd2 rdk (by rw [flat_get blk_len l i 0 hil (by omega)]; rfl)
    have k1 : RunV Try.prog W [Sl 2 54 (some ⟨gk, 0, none⟩) kc l.length (l.flatMap blk)] (sLoad 3 (.pointer (some ⟨gk, 0 + i * 2 + 1, none⟩))) (.int .i64 l[i].2) := v_ldRd2 rdk (by rw [flat_get blk_len l i 1 hil (by omega)]; rfl)
    have l0 : RunV Try.prog W [Sl 2 53 (some ⟨gl, 0, none⟩) lc l.length (l.flatMap blk)] (sLoad 3 (.pointer (some ⟨gl, 0 + i * 2 + 0, none⟩))) (.int .i64 l[i].1) := v_ldRd2 rdl (by rw [flat_get blk_len l i 0 hil (by omega)]; rfl)
    have l1 : RunV Try.prog W [Sl 2 53 (some ⟨gl, 0, none⟩) lc l.length (l.flatMap blk)] (sLoad 3 (.pointer (some ⟨gl, 0 + i * 2 + 1, none⟩))) (.int .i64 l[i].2) := v_ldRd2 rdl (by rw [flat_get blk_len l i 1 hil (by omega)]; rfl)
    refine e_condT ?_
    refine e_drS ?_
    refine e_stS (v_ia i (by rfl) hil) Imp.nil ?_
    refine e_stS v_fa Imp.nil ?_
    refine e_stS l0 (.pick (by (repeat constructor)) .nil) ?_
    refine e_stS (v_ia i (by rfl) hil) Imp.nil ?_
    refine e_stS v_fa Imp.nil ?_
    refine e_stS k0 (.pick (by (repeat constructor)) .nil) ?_
    refine e_stS v_neq Imp.nil ?_
    rw [decide_eq_false (fun c => c rfl)]
    refine e_gdT ?_
    refine e_gdT ?_
    refine e_gdT ?_
    refine e_stS (v_ia i (by rfl) hil) Imp.nil ?_
    refine e_gdT ?_
    refine e_stS v_fa Imp.nil ?_
    refine e_gdT ?_
    refine e_stS l1 (.pick (by (repeat constructor)) .nil) ?_
    refine e_gdT ?_
    refine e_gdT ?_
    refine e_gdT ?_
    refine e_stS (v_ia i (by rfl) hil) Imp.nil ?_
    refine e_gdT ?_
    refine e_stS v_fa Imp.nil ?_
    refine e_gdT ?_
    refine e_stS k1 (.pick (by (repeat constructor)) .nil) ?_
    refine e_gdT ?_
    refine e_stS v_neq Imp.nil ?_
    rw [decide_eq_false (fun c => c rfl)]
    refine e_stS v_pickF Imp.nil ?_
    refine e_condF ?_
    refine e_opN (v_add (by omega) (by omega)) Imp.nil ?_
    exact e_next1 (m - 1) (by omega) (.ex (i + 1) (.pu ⟨by omega, rfl⟩ .refl))
  · refine e_condF ?_
    refine e_call knows5 .nil fun _ => ?_
    (try simp only [List.cons_append, List.nil_append, -eq_self])
    (first | refine e_ret (()) rfl ?_ | refine e_retT (()) ?_)
    (repeat (first | exact Imp.refl | exact Imp.nil | (apply Imp.pick; (focus ((repeat constructor); done))) | refine Imp.drop ?_))
theorem cn_pre'' {P : Program} {f : FuncId} {args : List Value} {W : World} {α : Type} {r : α → Value} (h : Cn P f args W [pu True] r (fun _ => [pu True])) : Cn P f args W [] r (fun _ => []) :=
  ⟨h.call, fun F w hw => (h.run F w ((Imp.pu (L := F) trivial .refl).sat hw)).mono fun e w' ⟨x, he, hs⟩ => ⟨x, he, hs.drop⟩⟩
end Go.Proofs.Ytehfblkpbadikaa.IF
/-! Bytes that come in, opened. No conditions but those that each names. -/
namespace Go.Proofs.Ytehfblkpbadikaa.Sl
open Go Go.RowKit Go.Proofs.Ytehfblkpbadikaa.Sh
variable {P : Program} {H : Type} {enc : TypeId × Value → H} {W : World}
theorem open_bs {t e : TypeId} {sp : Nat → Bool} {held : Bool} {v : Value} {d : DataW H} {ps : List MemPlace} {r : Reach} {b0 : Nat} (ht : P.underlying t = some (.slice e)) (hc : P.cellsOf e = 1) (he : P.underlying e = some (.int .u8)) (hval : Value.okWide P W r b0 t v) (hd : DataW.Trod enc P W 0 sp held t v d ps) :
    ∃ (a : Option Addr) (c : Nat) (b : List UInt8), v = .slice a b.length c ∧ (a = none → b.length = 0) ∧ (∀ A, RdB W A a b.length (b.map B)) ∧ b.length ≤ Rows.uptoBulk d := by
  obtain ⟨fuel, hf⟩ := open_slice (e := e) ht hval hd
  obtain ⟨a, c, b, e1, g1, g2, g3, g4, g5⟩ := open_bytes (e := e) ht hc he hf
  exact ⟨a, c, b, by injection e1, g3, g4, by simp at g5; omega⟩
theorem open_bsc {t e : TypeId} {sp : Nat → Bool} {held : Bool} {v : Value} {d : DataW H} {ps : List MemPlace} {r : Reach} {b0 : Nat} (ht : P.underlying t = some (.slice e)) (hc : P.cellsOf e = 1) (he : P.underlying e = some (.int .u8)) (hval : Value.okWide P W r b0 t v) (hd : DataW.Trod enc P W 0 sp held t v d ps) :
    ∃ (a : Option Addr) (c : Nat) (b : List UInt8), v = .slice a b.length c ∧ (a = none → b.length = 0) ∧ (∀ A, RdB W A a b.length (b.map B)) ∧ b.length ≤ Rows.uptoBulk d ∧ b.length ≤ c := by
  obtain ⟨fuel, hf⟩ := open_slice (e := e) ht hval hd
  obtain ⟨a, c, b, e1, g1, g2, g3, g4, g5⟩ := open_bytes (e := e) ht hc he hf
  exact ⟨a, c, b, by injection e1, g3, g4, by simp at g5; omega, g1⟩
end Go.Proofs.Ytehfblkpbadikaa.Sl
