/- The law InflateMost: what it does. No conditions but those that each names. -/
import Derived.Test.YtehfblkpbadikaaInfMost0
set_option linter.unusedVariables false
set_option linter.unusedSimpArgs false
namespace Go.Proofs.Ytehfblkpbadikaa.Sl
open Go Go.RowKit Go.Proofs.Ytehfblkpbadikaa.Sh
/-- append([]byte{}, x...) -/
theorem e_dup {P : Program} {W : World} {L : List HP} {Kp : PK} {k : Value → WP} {t e : TypeId} {b : List UInt8} {y : Value} [ht : SlT P t e 1 1] (hsrc : ∀ L w, sat W L w → Src P 1 t y b.length (b.map B) w) (hb : b.length ≤ 70368744177664)
    (h : ∀ a' c', (a' = none → b.length = 0) → (0 < b.length → ∃ g, a' = some ⟨g, 0, none⟩) → Ent W (Sl 1 e a' c' b.length (b.map B) :: L) (k (.slice a' b.length c'))) :
    Ent W L (opN P (sBuildSl t 0 []) Kp fun x => opN P (sApp #[t, t] t [x, y]) Kp k) := by
  refine e_bslN (n := 0) (vs := []) rfl rfl (by simp) (by omega) fun g => ?_
  refine e_own (s := 1) (cs := []) (n := 0) .here rfl (by decide) ?_
  refine e_app (m := b.length) (news := b.map B) .here (hsrc _) (by omega) (by omega) fun a1 c1 => ?_
  rw [Nat.zero_add, List.nil_append]
  refine e_slfacts .here fun f1 f2 f3 f4 => ?_
  refine h a1 c1 (fun c => ?_) f4
  rcases Nat.eq_zero_or_pos b.length with z | z
  · exact z
  · obtain ⟨_, e⟩ := f4 z; rw [c] at e; cases e
theorem dup_rd {P : Program} {W : World} {t e : TypeId} {a : Option Addr} {cap : Nat} {b : List UInt8} (hk : P.underlying t = some (.slice e)) (hr : ∀ A, RdB W A a b.length (b.map B)) (ha : a = none → b.length = 0) :
    ∀ L w, sat W L w → Src P 1 t (.slice a b.length cap) b.length (b.map B) w := fun L w hw =>
  src_rd (L := pu True :: L) (L' := L) (A := pu True) hk .here (hr _) ha B_one w ((Imp.pu trivial .refl).sat hw)
end Go.Proofs.Ytehfblkpbadikaa.Sl
namespace Go.Proofs.Ytehfblkpbadikaa.IF
open Go Go.Proofs Go.RowKit Go.Proofs.Ytehfblkpbadikaa.Sh Go.Proofs.Ytehfblkpbadikaa.Sl Go.Proofs.Ytehfblkpbadikaa.T Go.Proofs.Ytehfblkpbadikaa.HM Go.Proofs.Ytehfblkpbadikaa.HF Go.Proofs.Ytehfblkpbadikaa.B Go.Proofs.Ytehfblkpbadikaa.M
theorem inflateMost {W : World} {a : Option Addr} {c : Nat} {b : List UInt8} {most : Int} (hr : ∀ A, RdB W A a b.length (b.map B)) (ha : a = none → b.length = 0) (hb : b.length ≤ 1048576) :
    Cn Try.prog 8 [.slice a b.length c, .int .i64 most] W [] (fun _ : Unit => .bool true) (fun _ => []) := by
  (refine S.law05_InflateMost_cn fun F => ?_; unfold S.law05_InflateMost; simp only [List.cons_append, List.nil_append])
  refine e_dup (dup_rd (e := 5) (by kernel_rfl) hr ha) (by omega) fun a1 c1 n1 s1 => ?_
  (refine' e_call (inflate (b := b) (rd_sl (by simp) s1) n1 (by omega)) ?hp fun _ => ?_; (case hp => (repeat (first | exact Picks.nil | (apply Picks.cons; (focus (repeat constructor)))))); (try simp only [List.cons_append, List.nil_append, Bool.not_true, Bool.not_false]))
  rename_i q
  obtain ⟨qa, qc⟩ := q
  (try dsimp only)
  refine e_opN (v_ext (v := .slice qa (aO b 1048576).length qc) rfl) Imp.nil ?_
  refine e_opN (v_ext (v := .int .i64 (aU b 1048576)) rfl) Imp.nil ?_
  refine e_opN (v_ext (v := .int .i64 (aE b 1048576)) rfl) Imp.nil ?_
  (refine' e_call (num5) ?hp fun _ => ?_; (case hp => (repeat (first | exact Picks.nil | (apply Picks.cons; (focus (repeat constructor)))))); (try simp only [List.cons_append, List.nil_append, Bool.not_true, Bool.not_false]))
  (refine e_ask v_neq Imp.nil (fun h => ?_) (fun h => ?_))
  · ((with_reducible refine e_gdF1 ?_)); ((with_reducible refine e_gdF1 ?_)); (((with_reducible refine e_opN v_pickT Imp.nil ?_))); ((with_reducible refine e_gdF1 ?_)); ((with_reducible refine e_gdF1 ?_)); (((with_reducible refine e_opN v_pickT Imp.nil ?_))); ((with_reducible refine e_gdF1 ?_)); ((with_reducible refine e_gdF1 ?_)); (((with_reducible refine e_opN v_pickT Imp.nil ?_))); ((with_reducible refine e_condT ?_))
    (refine' e_call (knows5) ?hp fun _ => ?_; (case hp => (repeat (first | exact Picks.nil | (apply Picks.cons; (focus (repeat constructor)))))); (try simp only [List.cons_append, List.nil_append, Bool.not_true, Bool.not_false]))
    (first | refine e_ret (()) rfl ?_ | refine e_retT (()) ?_)
    (repeat (first | exact Imp.refl | exact Imp.nil | (apply Imp.pick; (focus ((repeat constructor); done))) | refine Imp.drop ?_))
  have e0 := Decidable.not_not.1 h
  ((with_reducible refine e_gdT ?_)); ((with_reducible refine e_gdT ?_))
  (refine e_ask v_lss Imp.nil (fun h => ?_) (fun h => ?_))
  · (((with_reducible refine e_opN v_pickF Imp.nil ?_))); ((with_reducible refine e_gdF1 ?_)); ((with_reducible refine e_gdF1 ?_)); (((with_reducible refine e_opN v_pickT Imp.nil ?_))); ((with_reducible refine e_gdF1 ?_)); ((with_reducible refine e_gdF1 ?_)); (((with_reducible refine e_opN v_pickT Imp.nil ?_))); ((with_reducible refine e_condT ?_))
    (refine' e_call (knows5) ?hp fun _ => ?_; (case hp => (repeat (first | exact Picks.nil | (apply Picks.cons; (focus (repeat constructor)))))); (try simp only [List.cons_append, List.nil_append, Bool.not_true, Bool.not_false]))
    (first | refine e_ret (()) rfl ?_ | refine e_retT (()) ?_)
    (repeat (first | exact Imp.refl | exact Imp.nil | (apply Imp.pick; (focus ((repeat constructor); done))) | refine Imp.drop ?_))
  have m0 := h
  (((with_reducible refine e_opN v_pickF Imp.nil ?_))); ((with_reducible refine e_gdT ?_)); ((with_reducible refine e_gdT ?_))
  (refine e_ask v_gtr Imp.nil (fun h => ?_) (fun h => ?_))
  · (((with_reducible refine e_opN v_pickF Imp.nil ?_))); ((with_reducible refine e_gdF1 ?_)); ((with_reducible refine e_gdF1 ?_)); (((with_reducible refine e_opN v_pickT Imp.nil ?_))); ((with_reducible refine e_condT ?_))
    (refine' e_call (knows5) ?hp fun _ => ?_; (case hp => (repeat (first | exact Picks.nil | (apply Picks.cons; (focus (repeat constructor)))))); (try simp only [List.cons_append, List.nil_append, Bool.not_true, Bool.not_false]))
    (first | refine e_ret (()) rfl ?_ | refine e_retT (()) ?_)
    (repeat (first | exact Imp.refl | exact Imp.nil | (apply Imp.pick; (focus ((repeat constructor); done))) | refine Imp.drop ?_))
  have m1 := h
  (((with_reducible refine e_opN v_pickF Imp.nil ?_))); ((with_reducible refine e_gdT ?_))
  (refine' e_call (knows5) ?hp fun _ => ?_; (case hp => (repeat (first | exact Picks.nil | (apply Picks.cons; (focus (repeat constructor)))))); (try simp only [List.cons_append, List.nil_append, Bool.not_true, Bool.not_false]))
  ((with_reducible refine e_gdT ?_)); (((with_reducible refine e_opN v_notT Imp.nil ?_))); (((with_reducible refine e_opN v_pickF Imp.nil ?_))); ((with_reducible refine e_condF ?_))
  have law := most_law (b := b) (most := most) (by omega) (by omega) e0
  refine e_slfacts (.here) fun f1 f2 f3 f4 => ?_
  refine e_dup (dup_rd (e := 5) (by kernel_rfl) hr ha) (by omega) fun a2 c2 n2 s2 => ?_
  (refine' e_call (inflate (b := b) (rd_sl (by simp) s2) n2 (by omega)) ?hp fun _ => ?_; (case hp => (repeat (first | exact Picks.nil | (apply Picks.cons; (focus (repeat constructor)))))); (try simp only [List.cons_append, List.nil_append, Bool.not_true, Bool.not_false]))
  rename_i q
  obtain ⟨ra, rc⟩ := q
  (try dsimp only)
  refine e_opN (v_ext (v := .slice ra (aO b most).length rc) rfl) Imp.nil ?_
  refine e_opN (v_ext (v := .int .i64 (aU b most)) rfl) Imp.nil ?_
  refine e_opN (v_ext (v := .int .i64 (aE b most)) rfl) Imp.nil ?_
  refine e_slfacts (.here) fun h1 h2 h3 h4 => ?_
  refine e_opN v_len Imp.nil ?_
  (refine e_ask v_lss Imp.nil (fun h => ?_) (fun h => ?_))
  · rw [if_pos h] at law
    rw [law.1, law.2]
    refine e_condT ?_
    (refine' e_call (num5) ?hp fun _ => ?_; (case hp => (repeat (first | exact Picks.nil | (apply Picks.cons; (focus (repeat constructor)))))); (try simp only [List.cons_append, List.nil_append, Bool.not_true, Bool.not_false]))
    refine e_opN v_eql Imp.nil ?_
    rw [decide_eq_true rfl]
    ((with_reducible refine e_gdT ?_)); ((with_reducible refine e_gdT ?_)); (((with_reducible refine e_opN v_len Imp.nil ?_))); ((with_reducible refine e_gdT ?_))
    refine e_opN v_eql Imp.nil ?_
    rw [decide_eq_true (by simp)]
    (((with_reducible refine e_opN v_pickT Imp.nil ?_)))
    (first | refine e_ret (()) rfl ?_ | refine e_retT (()) ?_)
    (repeat (first | exact Imp.refl | exact Imp.nil | (apply Imp.pick; (focus ((repeat constructor); done))) | refine Imp.drop ?_))
  · rw [if_neg h] at law
    rw [law.1, law.2]
    rw [law.2] at h4
    refine e_condF ?_
    (refine' e_call (num5) ?hp fun _ => ?_; (case hp => (repeat (first | exact Picks.nil | (apply Picks.cons; (focus (repeat constructor)))))); (try simp only [List.cons_append, List.nil_append, Bool.not_true, Bool.not_false]))
    refine e_opN v_eql Imp.nil ?_
    rw [decide_eq_true rfl]
    ((with_reducible refine e_gdT ?_)); ((with_reducible refine e_gdT ?_))
    have nn : ∀ {x : Option Addr}, (0 < (aO b 1048576).length → ∃ g, x = some ⟨g, 0, none⟩) → x = none → (aO b 1048576).length = 0 := fun {x} hx c => by
      rcases Nat.eq_zero_or_pos (aO b 1048576).length with z | z
      · exact z
      · obtain ⟨_, e⟩ := hx z; rw [c] at e; cases e
    refine e_opN (v_str (l := aO b 1048576) (rd_sl (by simp) h4) (nn h4)) (.pick (by (repeat constructor)) .nil) ?_
    ((with_reducible refine e_gdT ?_)); ((with_reducible refine e_gdT ?_))
    refine e_opN (v_str (l := aO b 1048576) (rd_sl (by simp) f4) (nn f4)) (.pick (by (repeat constructor)) .nil) ?_
    ((with_reducible refine e_gdT ?_))
    refine e_opN v_streq Imp.nil ?_
    rw [decide_eq_true rfl]
    (((with_reducible refine e_opN v_pickT Imp.nil ?_)))
    (first | refine e_ret (()) rfl ?_ | refine e_retT (()) ?_)
    (repeat (first | exact Imp.refl | exact Imp.nil | (apply Imp.pick; (focus ((repeat constructor); done))) | refine Imp.drop ?_))
end Go.Proofs.Ytehfblkpbadikaa.IF
