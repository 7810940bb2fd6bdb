/- A call on both Writers, the program's and the document's. No conditions but those that each names. -/
import Derived.Test.YtpmcokpiplcnjaaBitsRef
import Derived.Test.YtpmcokpiplcnjaaLent
set_option linter.unusedVariables false
set_option linter.unusedSimpArgs false
namespace Go.Proofs.Ytpmcokpiplcnjaa.B
open Go Go.Proofs Go.Proofs.Ytpmcokpiplcnjaa.Sh Go.Proofs.Ytpmcokpiplcnjaa.Sl Go.Proofs.Ytpmcokpiplcnjaa.T Go.Proofs.Ytpmcokpiplcnjaa.M Go.Proofs.Ytpmcokpiplcnjaa.K
theorem wrapB (c : UInt8) : ∃ d : UInt8, Value.int .u8 (IntKind.u8.wrap ((c.toNat : Int) + 1)) = B d := by
  refine ⟨UInt8.ofNat ((c.toNat + 1) % 256), ?_⟩
  rw [B_ofNat (Nat.mod_lt _ (by omega))]
  simp only [IntKind.wrap, IntKind.bits, IntKind.signed]
  simp
theorem addLoop {W : World} {F : List HP} {a : Option Addr} {cap cap2 n N : Nat} {cs : List UInt8} {K : WP} (hN : cs.length = N) (hn : n ≤ N) (hN2 : N ≤ 4611686018427387904) (hK : ∀ ds : List UInt8, ds.length = N → Ent W (Sl 1 5 a cap N (ds.map B) :: F) K) :
    Ent W (Sl 1 5 a cap N (cs.map B) :: F) (loop1 (fun I1 m1 _ y8 =>
              opN Try.prog (sLen #[49] 3 [.slice a n cap2]) noP fun x34 =>
              opN Try.prog (sBin .lss 3 y8 x34) noP fun x35 =>
              condS x35
              (opN Try.prog (sIA 49 (.slice a n cap2) y8) noP fun x42 =>
               opN Try.prog (sLoad 5 x42) noP fun x43 =>
               opN Try.prog (sBin .add 5 x43 (.int .u8 1)) noP fun x44 =>
               opN Try.prog (sIA 49 (.slice a n cap2) y8) noP fun x45 =>
               opN Try.prog (sStore 5 x45 x44) noP fun _ =>
               opN Try.prog (sBin .add 3 y8 (.int .i64 1)) noP fun x37 =>
               next1 I1 m1 x37)
              K) (.int .i64 0)) := by
  refine e_slfacts .here fun h1 h2 h3 h4 => ?_
  refine e_loop1 (fun m y => [ex fun i : Nat => ex fun ds : List UInt8 => all [pu (m + i = n ∧ y = .int .i64 (i : Int) ∧ ds.length = N), Sl 1 5 a cap N (ds.map B)]] ++ F) n ?_ ?_
  · refine Imp.ex 0 (.ex cs (.all ?_))
    (try simp only [List.cons_append, List.nil_append])
    refine .pu (by first | exact ⟨by omega, rfl, hN⟩ | exact ⟨trivial, trivial, hN⟩ | exact hN | exact ⟨by omega, trivial, hN⟩) ?_
    (repeat (first | exact Imp.refl | exact Imp.nil | (apply Imp.pick; (focus ((repeat constructor); done))) | refine Imp.drop ?_))
  · intro m ds y
    (try simp only [List.cons_append, List.nil_append])
    refine e_ex Pick.here fun i => e_ex Pick.here fun es => e_all Pick.here ?_
    (try simp only [List.cons_append, List.nil_append])
    refine e_pu Pick.here fun hi => ?_
    obtain ⟨hmi, rfl, hes⟩ := hi
    (((with_reducible refine e_opN v_len Imp.nil ?_)))
    (refine e_ask v_lss Imp.nil (fun h => ?_) (fun h => ?_))
    · have hib : i < es.length := by omega
      obtain ⟨g, rfl⟩ := h4 (by omega)
      ((with_reducible refine e_condT ?_))
      refine e_opN (v_ia1 i (by norm_cast) (by omega)) Imp.nil ?_
      refine e_opN (v_ldSl (cs := es.map B) (v := B es[i]) (by rw [Nat.zero_add]; exact B_get hib)) (.pick .here .nil) ?_
      refine e_opN v_addw Imp.nil ?_
      obtain ⟨d, hd⟩ := wrapB es[i]
      rw [hd]
      refine e_opN (v_ia1 i (by norm_cast) (by omega)) Imp.nil ?_
      refine e_stSl (hv := ⟨rfl⟩) .here (by rw [List.length_map]; omega) ?_
      (((with_reducible refine e_opN (v_add ?h1 ?h2) Imp.nil ?_); (case h1 => omega); (case h2 => omega)))
      rw [Nat.zero_add, ← List.map_set]
      refine e_next1 (m - 1) (by omega) (.ex (i + 1) (.ex (es.set i d) (.all ?_)))
      (try simp only [List.cons_append, List.nil_append])
      refine .pu (by refine ⟨by omega, ?_⟩; simp [hes]) ?_
      (repeat (first | exact Imp.refl | exact Imp.nil | (apply Imp.pick; (focus ((repeat constructor); done))) | refine Imp.drop ?_))
    · ((with_reducible refine e_condF ?_))
      exact hK es hes
/-- the bits behind a call -/
def stepL (l : List Bool) (kind n v : Int) (b : List UInt8) : List Bool := if kind = 0 then putL l v n else if kind = 1 then padTo8 l else rawL l b
theorem lawPut {W : World} {p r : Nat} {l : List Bool} {kind n v : Int} {a : Option Addr} {cap : Nat} {b : List UInt8} {A : HP} (hr : RdB W A a b.length (b.map B)) (ha : a = none → b.length = 0) (hb : b.length ≤ 140737488355000) :
    Cn Try.prog 20 [.pointer (some ⟨p, 0, none⟩), .pointer (some ⟨r, 0, none⟩), .agg #[.int .i64 kind, .int .i64 n, .int .i64 v, .slice a b.length cap]] W [IsW p l, IsX r l, A] (fun _ : Unit => .bool true) (fun _ => [IsW p (stepL l kind n v b), IsX r (stepL l kind n v b), A]) := by
  (refine S.law02_put_cn fun F => ?_; unfold S.law02_put; simp only [List.cons_append, List.nil_append])
  refine e_boxA fun x => ?_
  obtain ⟨L, hL⟩ : ∃ L, L = stepL l kind n v b := ⟨_, rfl⟩
  rw [← hL]
  refine e_cut0 (IsW p L :: IsX r L :: A :: F) ?_ ?_
  · intro ds
    refine e_ex (.there .here) fun q2 => ?_
    obtain ⟨xa, xc⟩ := q2
    refine e_all Pick.here ?_
    (try simp only [List.cons_append, List.nil_append])
    refine e_pu (.there (.there .here)) fun hL2 => ?_
    (refine' e_call (bytes) ?hp fun _ => ?_; (case hp => (repeat (first | exact Picks.nil | (apply Picks.cons; (focus (repeat constructor)))))); (try simp only [List.cons_append, List.nil_append, Bool.not_true, Bool.not_false]))
    rename_i q
    obtain ⟨qa, qc⟩ := q
    have hq : (pk L).length ≤ 4611686018427387904 := by rw [length_pk]; omega
    refine addLoop rfl (Nat.le_refl _) hq fun es hes => ?_
    ((with_reducible refine e_drS ?_)); (((with_reducible refine e_stD v_nil Imp.nil ?_))); (((with_reducible refine e_stD v_fa0 Imp.nil ?_))); (((with_reducible refine' e_stD (v_ldN ?hc) ?hi ?_); (case hi => (repeat (first | exact Imp.refl | exact Imp.nil | (apply Imp.pick; (focus ((repeat constructor); done))) | refine Imp.drop ?_))); (case hc => (repeat (first | exact Nth.here | apply Nth.there))))); (((with_reducible refine e_stD v_len Imp.nil ?_)))
    (refine' e_call (bits) ?hp fun _ => ?_; (case hp => (repeat (first | exact Picks.nil | (apply Picks.cons; (focus (repeat constructor)))))); (try simp only [List.cons_append, List.nil_append, Bool.not_true, Bool.not_false]))
    (((with_reducible refine e_obl ?hi ?_); (case hi => (repeat (first | exact Imp.refl | exact Imp.nil | (apply Imp.pick; (focus ((repeat constructor); done))) | refine Imp.drop ?_))))); (((with_reducible refine e_obl ?hi ?_); (case hi => (repeat (first | exact Imp.refl | exact Imp.nil | (apply Imp.pick; (focus ((repeat constructor); done))) | refine Imp.drop ?_))))); (((with_reducible refine e_obl ?hi ?_); (case hi => (repeat (first | exact Imp.refl | exact Imp.nil | (apply Imp.pick; (focus ((repeat constructor); done))) | refine Imp.drop ?_))))); (((with_reducible refine e_obl ?hi ?_); (case hi => (repeat (first | exact Imp.refl | exact Imp.nil | (apply Imp.pick; (focus ((repeat constructor); done))) | refine Imp.drop ?_)))))
    refine e_stS v_eql Imp.nil ?_
    rw [decide_eq_true rfl]
    (first | refine e_ret (()) rfl ?_ | refine e_retT (()) ?_)
    refine .pick (by (repeat constructor)) (.ex (xa, xc) (.all ?_))
    (try simp only [List.cons_append, List.nil_append])
    exact .pick (by (repeat constructor)) (.pick (by (repeat constructor)) (.pu hL2 (by (repeat (first | exact Imp.refl | exact Imp.nil | (apply Imp.pick; (focus ((repeat constructor); done))) | refine Imp.drop ?_)))))
  · (((with_reducible refine e_opN v_fa0 Imp.nil ?_))); (((with_reducible refine' e_opN (v_ldN ?hc) ?hi ?_); (case hi => (repeat (first | exact Imp.refl | exact Imp.nil | (apply Imp.pick; (focus ((repeat constructor); done))) | refine Imp.drop ?_))); (case hc => (repeat (first | exact Nth.here | apply Nth.there)))))
    (refine e_ask v_eql Imp.nil (fun h => ?_) (fun h => ?_))
    · ((with_reducible refine e_condT ?_)); ((with_reducible refine e_drS ?_)); (((with_reducible refine e_stS v_fa0 Imp.nil ?_))); (((with_reducible refine' e_stS (v_ldN ?hc) ?hi ?_); (case hi => (repeat (first | exact Imp.refl | exact Imp.nil | (apply Imp.pick; (focus ((repeat constructor); done))) | refine Imp.drop ?_))); (case hc => (repeat (first | exact Nth.here | apply Nth.there))))); (((with_reducible refine e_stS v_fa0 Imp.nil ?_))); (((with_reducible refine' e_stS (v_ldN ?hc) ?hi ?_); (case hi => (repeat (first | exact Imp.refl | exact Imp.nil | (apply Imp.pick; (focus ((repeat constructor); done))) | refine Imp.drop ?_))); (case hc => (repeat (first | exact Nth.here | apply Nth.there))))); (((with_reducible refine e_stD v_fa0 Imp.nil ?_))); (((with_reducible refine' e_stD (v_ldN ?hc) ?hi ?_); (case hi => (repeat (first | exact Imp.refl | exact Imp.nil | (apply Imp.pick; (focus ((repeat constructor); done))) | refine Imp.drop ?_))); (case hc => (repeat (first | exact Nth.here | apply Nth.there))))); (((with_reducible refine e_stD v_fa0 Imp.nil ?_))); (((with_reducible refine' e_stD (v_ldN ?hc) ?hi ?_); (case hi => (repeat (first | exact Imp.refl | exact Imp.nil | (apply Imp.pick; (focus ((repeat constructor); done))) | refine Imp.drop ?_))); (case hc => (repeat (first | exact Nth.here | apply Nth.there)))))
      (refine' e_call (put) ?hp fun _ => ?_; (case hp => (repeat (first | exact Picks.nil | (apply Picks.cons; (focus (repeat constructor)))))); (try simp only [List.cons_append, List.nil_append, Bool.not_true, Bool.not_false]))
      (((with_reducible refine e_obl ?hi ?_); (case hi => (repeat (first | exact Imp.refl | exact Imp.nil | (apply Imp.pick; (focus ((repeat constructor); done))) | refine Imp.drop ?_))))); (((with_reducible refine e_obl ?hi ?_); (case hi => (repeat (first | exact Imp.refl | exact Imp.nil | (apply Imp.pick; (focus ((repeat constructor); done))) | refine Imp.drop ?_))))); (((with_reducible refine e_obl ?hi ?_); (case hi => (repeat (first | exact Imp.refl | exact Imp.nil | (apply Imp.pick; (focus ((repeat constructor); done))) | refine Imp.drop ?_))))); (((with_reducible refine e_obl ?hi ?_); (case hi => (repeat (first | exact Imp.refl | exact Imp.nil | (apply Imp.pick; (focus ((repeat constructor); done))) | refine Imp.drop ?_)))))
      (refine' e_call (num) ?hp fun _ => ?_; (case hp => (repeat (first | exact Picks.nil | (apply Picks.cons; (focus (repeat constructor)))))); (try simp only [List.cons_append, List.nil_append, Bool.not_true, Bool.not_false]))
      (((with_reducible refine e_obl ?hi ?_); (case hi => (repeat (first | exact Imp.refl | exact Imp.nil | (apply Imp.pick; (focus ((repeat constructor); done))) | refine Imp.drop ?_))))); (((with_reducible refine e_obl ?hi ?_); (case hi => (repeat (first | exact Imp.refl | exact Imp.nil | (apply Imp.pick; (focus ((repeat constructor); done))) | refine Imp.drop ?_))))); (((with_reducible refine e_obl ?hi ?_); (case hi => (repeat (first | exact Imp.refl | exact Imp.nil | (apply Imp.pick; (focus ((repeat constructor); done))) | refine Imp.drop ?_))))); (((with_reducible refine e_obl ?hi ?_); (case hi => (repeat (first | exact Imp.refl | exact Imp.nil | (apply Imp.pick; (focus ((repeat constructor); done))) | refine Imp.drop ?_)))))
      (refine' e_call (xPut) ?hp fun _ => ?_; (case hp => (repeat (first | exact Picks.nil | (apply Picks.cons; (focus (repeat constructor)))))); (try simp only [List.cons_append, List.nil_append, Bool.not_true, Bool.not_false]))
      refine e_stS v_neq Imp.nil ?_
      rw [decide_eq_false (by simp)]
      ((with_reducible refine e_condF ?_))
      refine e_sat ?_
      rw [show L = putL l v n by rw [hL, stepL, if_pos h]]
      (try simp only [List.cons_append, List.nil_append])
      (repeat (first | exact Imp.refl | exact Imp.nil | (apply Imp.pick; (focus ((repeat constructor); done))) | refine Imp.drop ?_))
    have h1 := h
    ((with_reducible refine e_condF ?_))
    (refine e_ask v_eql Imp.nil (fun h => ?_) (fun h => ?_))
    · ((with_reducible refine e_condT ?_))
      (refine' e_call (align) ?hp fun _ => ?_; (case hp => (repeat (first | exact Picks.nil | (apply Picks.cons; (focus (repeat constructor)))))); (try simp only [List.cons_append, List.nil_append, Bool.not_true, Bool.not_false]))
      (refine' e_call (xAlign) ?hp fun _ => ?_; (case hp => (repeat (first | exact Picks.nil | (apply Picks.cons; (focus (repeat constructor)))))); (try simp only [List.cons_append, List.nil_append, Bool.not_true, Bool.not_false]))
      refine e_sat ?_
      rw [show L = padTo8 l by rw [hL, stepL, if_neg h1, if_pos h]]
      (try simp only [List.cons_append, List.nil_append])
      (repeat (first | exact Imp.refl | exact Imp.nil | (apply Imp.pick; (focus ((repeat constructor); done))) | refine Imp.drop ?_))
    have h2 := h
    have hLr : L = rawL l b := by rw [hL, stepL, if_neg h1, if_neg h2]
    rw [hLr]
    ((with_reducible refine e_condF ?_)); (((with_reducible refine e_opN v_fa0 Imp.nil ?_))); (((with_reducible refine' e_opN (v_ldN ?hc) ?hi ?_); (case hi => (repeat (first | exact Imp.refl | exact Imp.nil | (apply Imp.pick; (focus ((repeat constructor); done))) | refine Imp.drop ?_))); (case hc => (repeat (first | exact Nth.here | apply Nth.there)))))
    (refine' e_call (lent hr ha hb) ?hp fun _ => ?_; (case hp => (repeat (first | exact Picks.nil | (apply Picks.cons; (focus (repeat constructor)))))); (try simp only [List.cons_append, List.nil_append, Bool.not_true, Bool.not_false]))
    rename_i q
    obtain ⟨g, gc⟩ := q
    ((with_reducible refine e_drS ?_)); (((with_reducible refine e_stD v_fa0 Imp.nil ?_))); (((with_reducible refine' e_stD (v_ldN ?hc) ?hi ?_); (case hi => (repeat (first | exact Imp.refl | exact Imp.nil | (apply Imp.pick; (focus ((repeat constructor); done))) | refine Imp.drop ?_))); (case hc => (repeat (first | exact Nth.here | apply Nth.there)))))
    dsimp only
    (refine' e_call (raw (A := IsL g gc b) rdL (fun c => by cases c) (by omega)) ?hp fun _ => ?_; (case hp => (repeat (first | exact Picks.nil | (apply Picks.cons; (focus (repeat constructor)))))); (try simp only [List.cons_append, List.nil_append, Bool.not_true, Bool.not_false]))
    (((with_reducible refine e_obl ?hi ?_); (case hi => (repeat (first | exact Imp.refl | exact Imp.nil | (apply Imp.pick; (focus ((repeat constructor); done))) | refine Imp.drop ?_))))); (((with_reducible refine e_obl ?hi ?_); (case hi => (repeat (first | exact Imp.refl | exact Imp.nil | (apply Imp.pick; (focus ((repeat constructor); done))) | refine Imp.drop ?_)))))
    (refine' e_call (num) ?hp fun _ => ?_; (case hp => (repeat (first | exact Picks.nil | (apply Picks.cons; (focus (repeat constructor)))))); (try simp only [List.cons_append, List.nil_append, Bool.not_true, Bool.not_false]))
    (((with_reducible refine e_obl ?hi ?_); (case hi => (repeat (first | exact Imp.refl | exact Imp.nil | (apply Imp.pick; (focus ((repeat constructor); done))) | refine Imp.drop ?_))))); (((with_reducible refine e_obl ?hi ?_); (case hi => (repeat (first | exact Imp.refl | exact Imp.nil | (apply Imp.pick; (focus ((repeat constructor); done))) | refine Imp.drop ?_)))))
    (refine' e_call (xRaw hr ha (by omega)) ?hp fun _ => ?_; (case hp => (repeat (first | exact Picks.nil | (apply Picks.cons; (focus (repeat constructor)))))); (try simp only [List.cons_append, List.nil_append, Bool.not_true, Bool.not_false]))
    refine e_stS v_neq Imp.nil ?_
    rw [decide_eq_false (by simp)]
    ((with_reducible refine e_gdT ?_)); ((with_reducible refine e_gdT ?_)); (((with_reducible refine e_stS v_fa0 Imp.nil ?_))); ((with_reducible refine e_gdT ?_)); (((with_reducible refine' e_stS (v_ldN ?hc) ?hi ?_); (case hi => (repeat (first | exact Imp.refl | exact Imp.nil | (apply Imp.pick; (focus ((repeat constructor); done))) | refine Imp.drop ?_))); (case hc => (repeat (first | exact Nth.here | apply Nth.there))))); ((with_reducible refine e_gdT ?_))
    (refine' e_call (stays hr ha hb) ?hp fun _ => ?_; (case hp => (repeat (first | exact Picks.nil | (apply Picks.cons; (focus (repeat constructor)))))); (try simp only [List.cons_append, List.nil_append, Bool.not_true, Bool.not_false]))
    ((with_reducible refine e_gdT ?_)); (((with_reducible refine e_stS v_notT Imp.nil ?_))); (((with_reducible refine e_stS v_pickF Imp.nil ?_))); ((with_reducible refine e_condF ?_))
    refine addLoop (N := b.length + 2) (cs := b ++ [201, 202]) (by simp) (by omega) (by omega) fun es hes => ?_
    refine e_sat ?_
    (repeat (first | exact Imp.refl | exact Imp.nil | (apply Imp.pick; (focus ((repeat constructor); done))) | refine Imp.drop ?_))
end Go.Proofs.Ytpmcokpiplcnjaa.B
