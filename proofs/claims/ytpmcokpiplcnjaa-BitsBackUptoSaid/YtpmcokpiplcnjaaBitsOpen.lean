/- The calls that come in ([]Op), opened. No conditions but those that each names. -/
import Derived.Test.YtpmcokpiplcnjaaBitsOps
import Derived.KernelRfl
set_option linter.unusedVariables false
set_option linter.unusedSimpArgs false
namespace Go.Proofs.Ytpmcokpiplcnjaa.B
open Go Go.Proofs Go.Proofs.Ytpmcokpiplcnjaa.Sh Go.Proofs.Ytpmcokpiplcnjaa.Sl Go.Proofs.Ytpmcokpiplcnjaa.T Go.Proofs.Ytpmcokpiplcnjaa.M Go.Proofs.Ytpmcokpiplcnjaa.K
variable {H : Type} {enc : TypeId × Value → H} {W : World}
set_option maxRecDepth 20000 in
theorem open_op {sp : Nat → Bool} {held : Bool} (n : Nat) (cs : List Value) (x : DataW H × List MemPlace) (h : DataW.trod enc Try.prog W 0 sp held n 54 cs = some x) : ∃ a : Opn, rdOp W a cs ∧ a.b.length + 1 ≤ Rows.uptoBulk x.1 := by
  obtain ⟨xs, m, rfl, rfl, hl, hs, hf⟩ := DataW.trod_struct (fs := #[⟨"Kind", 3, 0, false, "", "", 0⟩, ⟨"N", 3, 1, false, "", "", 8⟩, ⟨"V", 3, 2, false, "", "", 16⟩, ⟨"B", 49, 3, false, "", "", 24⟩]) (by kernel_rfl) h
  rw [show Try.prog.cellsOf 54 = 4 by kernel_rfl] at hl
  obtain ⟨c0, c1, c2, c3, rfl⟩ := four hl
  obtain ⟨x0, x1, x2, x3, rfl⟩ : ∃ x0 x1 x2 x3, xs = [x0, x1, x2, x3] := by
    match xs, hs with
    | [a, b, c, d], _ => exact ⟨a, b, c, d, rfl⟩
  have e1 : Try.prog.cellsOf 3 = 1 := by kernel_rfl
  have e2 : Try.prog.cellsOf 49 = 1 := by kernel_rfl
  have f0 := hf 0 _ rfl
  have f1 := hf 1 _ rfl
  have f2 := hf 2 _ rfl
  have f3 := hf 3 _ rfl
  simp only [e1, e2, List.drop_zero, List.drop_succ_cons, List.take_succ_cons, List.take_zero, List.getElem?_cons_zero, List.getElem?_cons_succ] at f0 f1 f2 f3
  obtain ⟨k, h0, _, _⟩ := DataW.trod_int Try.underlying3 f0
  obtain ⟨n', h1, _, _⟩ := DataW.trod_int Try.underlying3 f1
  obtain ⟨v, h2, _, _⟩ := DataW.trod_int Try.underlying3 f2
  obtain ⟨a, cap, b, h3, g1, g2, g3, g4, g5⟩ := open_bytes (e := 5) (by kernel_rfl) (by kernel_rfl) (by kernel_rfl) f3
  refine ⟨⟨k, n', v, b⟩, ⟨a, cap, ?_, g1, g2, g3, g4⟩, ?_⟩
  · cases h0; cases h1; cases h2; cases h3; rfl
  · clear e1 e2 hf f0 f1 f2 f3 hs hl
    simp only [Rows.uptoBulk, Rows.uptoBulkAll, List.map_cons, List.map_nil]
    omega
theorem le_sum {l : List Opn} {m : Nat} (h : (l.map fun o => o.b.length + 1).sum ≤ m) : l.length ≤ m ∧ ∀ o ∈ l, o.b.length ≤ m := by
  induction l generalizing m with
  | nil => exact ⟨Nat.zero_le _, fun o ho => by cases ho⟩
  | cons x l ih =>
    rw [List.map_cons, List.sum_cons] at h
    obtain ⟨h1, h2⟩ := ih (m := m - (x.b.length + 1)) (by omega)
    refine ⟨by rw [List.length_cons]; omega, fun o ho => ?_⟩
    rcases List.mem_cons.1 ho with rfl | ho
    · omega
    · have := h2 o ho; omega
set_option maxRecDepth 20000 in
theorem open_ops {sp : Nat → Bool} {held : Bool} {v : Value} {d : DataW H} {ps : List MemPlace} {r : Reach} {b0 : Nat} (hval : Value.okWide Try.prog W r b0 45 v) (hd : DataW.Trod enc Try.prog W 0 sp held 45 v d ps) :
    ∃ (a : Option Addr) (c : Nat) (l : List Opn), v = .slice a l.length c ∧ Ops W a l ∧ l.length ≤ Rows.uptoBulk d ∧ ∀ o ∈ l, o.b.length ≤ Rows.uptoBulk d := by
  obtain ⟨fuel, hf⟩ := open_slice (e := 54) (by kernel_rfl) hval hd
  obtain ⟨a, n, c, l, e, g1, g2, g3, g4, g5⟩ := open_old (e := 54) (s := 4) (rd := rdOp W) (m := fun o => o.b.length + 1) (by kernel_rfl) (by kernel_rfl) (by omega) (fun n cs x h => open_op n cs x h) hf
  have hl := g4.len
  subst hl
  obtain ⟨k1, k2⟩ := le_sum (l := l) (m := Rows.uptoBulk d) (by simpa using Nat.le_of_succ_le g5)
  exact ⟨a, c, l, by injection e, g4, k1, k2⟩
set_option maxRecDepth 20000 in
theorem open_bs {sp : Nat → Bool} {held : Bool} {v : Value} {d : DataW H} {ps : List MemPlace} {r : Reach} {b0 : Nat} (hval : Value.okWide Try.prog W r b0 49 v) (hd : DataW.Trod enc Try.prog W 0 sp held 49 v d ps) :
    ∃ (a : Option Addr) (c : Nat) (b : List UInt8), v = .slice a b.length c ∧ (a = none → b.length = 0) ∧ (∀ A, RdB W A a b.length (b.map B)) ∧ b.length ≤ Rows.uptoBulk d := by
  obtain ⟨fuel, hf⟩ := open_slice (e := 5) (by kernel_rfl) hval hd
  obtain ⟨a, c, b, e, g1, g2, g3, g4, g5⟩ := open_bytes (e := 5) (by kernel_rfl) (by kernel_rfl) (by kernel_rfl) hf
  exact ⟨a, c, b, by injection e, g3, g4, by simp at g5; omega⟩
end Go.Proofs.Ytpmcokpiplcnjaa.B
