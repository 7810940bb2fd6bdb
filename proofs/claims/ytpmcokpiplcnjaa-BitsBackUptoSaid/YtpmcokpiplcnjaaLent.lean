/- Lent bytes: what Lent gives out, and what Stays says of it. No conditions but those that each names. -/
import Derived.Test.YtpmcokpiplcnjaaTypes
import Derived.Test.YtpmcokpiplcnjaaShapes
import Derived.Test.YtpmcokpiplcnjaaMake
set_option linter.unusedVariables false
set_option linter.unusedSimpArgs false
namespace Go.Proofs.Ytpmcokpiplcnjaa.K
open Go Go.Proofs Go.Proofs.Ytpmcokpiplcnjaa.Sh Go.Proofs.Ytpmcokpiplcnjaa.Sl Go.Proofs.Ytpmcokpiplcnjaa.T
/-- lent bytes: a row of its own, two bytes behind them -/
def IsL (g cap : Nat) (b : List UInt8) : HP := Sl 1 5 (some ⟨g, 0, none⟩) cap (b.length + 2) ((b ++ [201, 202]).map B)
theorem lent {W : World} {a : Option Addr} {cap : Nat} {b : List UInt8} {A : HP} (hr : RdB W A a b.length (b.map B)) (ha : a = none → b.length = 0) (hb : b.length ≤ 140737488355000) :
    Cn Try.prog 23 [.slice a b.length cap] W [A] (fun q : Nat × Nat => .slice (some ⟨q.1, 0, none⟩) b.length q.2) (fun q => [IsL q.1 q.2 b, A]) := by
  (refine S.law01_Lent_cn fun F => ?_; unfold S.law01_Lent; simp only [List.cons_append, List.nil_append])
  refine e_bslN (vs := []) rfl rfl (by simp) (by omega) fun g0 => ?_
  refine e_own (s := 1) (n := 0) .here (by rfl) (by unfold maxLen; omega) ?_
  refine e_app (m := b.length) (news := b.map B) .here (src_rd (A := A) (e' := 5) (by kernel_rfl) (.there .here) hr ha B_one) (by omega) (by omega) fun a1 c1 => ?_
  rw [Nat.zero_add, List.nil_append]
  refine e_bslN (vs := [B 201, B 202]) rfl rfl (by intro v hv; simp at hv; rcases hv with rfl | rfl <;> rfl) (by omega) fun g2 => ?_
  refine e_app (m := 2) (news := [B 201, B 202]) (.there .here) (src_pt (e' := 5) (by kernel_rfl) .here (by rfl) (B_one (l := [201, 202]))) (by omega) (by omega) fun a3 c3 => ?_
  (((with_reducible refine e_opN v_len Imp.nil ?_)))
  refine e_slfacts .here fun h1 h2 h3 h4 => ?_
  obtain ⟨g3, rfl⟩ := h4 (by omega)
  refine e_opN (v_slh b.length (by rfl) (by omega)) Imp.nil ?_
  rw [if_neg (by omega)]
  refine e_ret (g3, c3) (by simp [Addr.add]) ?_
  unfold IsL
  rw [List.map_append]
  (repeat (first | exact Imp.refl | exact Imp.nil | (apply Imp.pick; (focus ((repeat constructor); done))) | refine Imp.drop ?_))
theorem rdL {W : World} {g cap : Nat} {b : List UInt8} : RdB W (IsL g cap b) (some ⟨g, 0, none⟩) b.length (b.map B) := by
  have hrd : RdB W (IsL g cap b) (some ⟨g, 0, none⟩) (b.length + 2) ((b ++ [201, 202]).map B) := rd_sl (by simp) (fun _ => ⟨g, rfl⟩)
  have h := hrd.cut (cap := b.length + 2) (l := 0) (h := b.length) (by omega) (by omega) (by omega)
  rw [if_neg (by omega), Nat.sub_zero, List.drop_zero, show List.take b.length (List.map B (b ++ [201, 202])) = b.map B by rw [List.map_append, List.take_left' (by simp)]] at h
  exact h
theorem stays {W : World} {a : Option Addr} {g cap cap2 : Nat} {b : List UInt8} {A : HP} (hr : RdB W A a b.length (b.map B)) (ha : a = none → b.length = 0) (hb : b.length ≤ 140737488355000) :
    Cn Try.prog 25 [.slice (some ⟨g, 0, none⟩) b.length cap, .slice a b.length cap2] W [IsL g cap b, A] (fun _ : Unit => .bool true) (fun _ => [IsL g cap b, A]) := by
  (refine S.law01_Stays_cn fun F => ?_; unfold S.law01_Stays; simp only [List.cons_append, List.nil_append])
  unfold IsL
  refine e_slfacts .here fun h1 h2 h3 h4 => ?_
  have hrd : RdB W (Sl 1 5 (some ⟨g, 0, none⟩) cap (b.length + 2) ((b ++ [201, 202]).map B)) (some ⟨g, 0, none⟩) (b.length + 2) ((b ++ [201, 202]).map B) := rd_sl (by simp) (fun _ => ⟨g, rfl⟩)
  (((with_reducible refine e_opN v_len Imp.nil ?_))); (((with_reducible refine e_opN (v_add ?h1 ?h2) Imp.nil ?_); (case h1 => omega); (case h2 => omega)))
  refine e_opN (v_slh (b.length + 2) (by norm_cast) (by omega)) Imp.nil ?_
  rw [if_neg (by omega)]
  ((with_reducible refine e_drS ?_)); (((with_reducible refine e_stS v_len Imp.nil ?_)))
  refine e_stS (v_slh b.length (by rfl) (by omega)) Imp.nil ?_
  rw [if_neg (by omega)]
  have hcut := hrd.cut (l := 0) (h := b.length) (by omega) (by omega) (by omega)
  rw [if_neg (by omega), Nat.sub_zero, List.drop_zero, show List.take b.length (List.map B (b ++ [201, 202])) = b.map B by rw [List.map_append, List.take_left' (by simp)]] at hcut
  refine e_stS (v_str (l := b) hcut (fun c => by cases c)) (.pick (by (repeat constructor)) .nil) ?_
  refine e_stS (v_str (l := b) hr ha) (.pick (by (repeat constructor)) .nil) ?_
  refine e_stS v_streq Imp.nil ?_
  rw [decide_eq_true rfl]
  ((with_reducible refine e_gdT ?_)); ((with_reducible refine e_gdT ?_)); ((with_reducible refine e_gdT ?_)); (((with_reducible refine e_stS v_len Imp.nil ?_))); ((with_reducible refine e_gdT ?_))
  refine e_stS (v_ia1 b.length (by rfl) (by omega)) Imp.nil ?_
  ((with_reducible refine e_gdT ?_))
  refine e_stS (v_ldSl (cs := (b ++ [201, 202]).map B) (v := B 201) (by rw [List.map_append]; simp)) (.pick (by (repeat constructor)) .nil) ?_
  ((with_reducible refine e_gdT ?_))
  refine e_stS v_eql Imp.nil ?_
  rw [decide_eq_true (show (((201 : UInt8).toNat : Nat) : Int) = 201 from rfl)]
  (((with_reducible refine e_stS v_pickT Imp.nil ?_))); ((with_reducible refine e_gdT ?_)); ((with_reducible refine e_gdT ?_)); ((with_reducible refine e_gdT ?_)); (((with_reducible refine e_stS v_len Imp.nil ?_))); ((with_reducible refine e_gdT ?_)); (((with_reducible refine e_stS (v_add ?h1 ?h2) Imp.nil ?_); (case h1 => omega); (case h2 => omega))); ((with_reducible refine e_gdT ?_))
  refine e_stS (v_ia1 (b.length + 1) (by norm_cast) (by omega)) Imp.nil ?_
  ((with_reducible refine e_gdT ?_))
  refine e_stS (v_ldSl (cs := (b ++ [201, 202]).map B) (v := B 202) (by rw [List.map_append]; simp)) (.pick (by (repeat constructor)) .nil) ?_
  ((with_reducible refine e_gdT ?_))
  refine e_stS v_eql Imp.nil ?_
  rw [decide_eq_true (show (((202 : UInt8).toNat : Nat) : Int) = 202 from rfl)]
  (((with_reducible refine e_stS v_pickT Imp.nil ?_)))
  (first | refine e_ret (()) rfl ?_ | refine e_retT (()) ?_)
  (repeat (first | exact Imp.refl | exact Imp.nil | (apply Imp.pick; (focus ((repeat constructor); done))) | refine Imp.drop ?_))
end Go.Proofs.Ytpmcokpiplcnjaa.K
