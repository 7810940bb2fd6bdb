/- Upstreams and calls that come in, opened. No conditions but those that each names. -/
import Derived.Test.YtpmcokpiplcnjaaPoolNil0
import Derived.Test.YtpmcokpiplcnjaaOldF
set_option linter.unusedVariables false
set_option linter.unusedSimpArgs false
namespace Go.Proofs.Ytpmcokpiplcnjaa.PL
open Go Go.Proofs Go.Proofs.Ytpmcokpiplcnjaa.Sh Go.Proofs.Ytpmcokpiplcnjaa.Sl Go.Proofs.Ytpmcokpiplcnjaa.T
variable {H : Type} {enc : TypeId × Value → H} {W : World}
set_option maxRecDepth 20000 in
theorem open_pr {sp : Nat → Bool} {held : Bool} (n : Nat) (cs : List Value) (x : DataW H × List MemPlace) (h : DataW.trod enc Try.prog W 0 sp held n 39 cs = some x) : ∃ a : Int × Int, cs = pr2 a ∧ 1 ≤ Rows.uptoBulk x.1 := by
  obtain ⟨xs, m, rfl, rfl, hl, hs, hf⟩ := DataW.trod_struct (fs := #[⟨"ID", 3, 0, false, "", "", 0⟩, ⟨"Max", 3, 1, false, "", "", 8⟩]) (by kernel_rfl) h
  rw [show Try.prog.cellsOf 39 = 2 by kernel_rfl] at hl
  obtain ⟨c0, c1, rfl⟩ : ∃ c0 c1, cs = [c0, c1] := by
    match cs, hl with
    | [a, b], _ => exact ⟨a, b, rfl⟩
  obtain ⟨x0, x1, rfl⟩ : ∃ x0 x1, xs = [x0, x1] := by
    match xs, hs with
    | [a, b], _ => exact ⟨a, b, rfl⟩
  have e1 : Try.prog.cellsOf 3 = 1 := by kernel_rfl
  have f0 := hf 0 _ rfl
  have f1 := hf 1 _ rfl
  simp only [e1, List.drop_zero, List.drop_succ_cons, List.take_succ_cons, List.take_zero, List.getElem?_cons_zero, List.getElem?_cons_succ] at f0 f1
  obtain ⟨k, h0, _, _⟩ := DataW.trod_int Try.underlying3 f0
  obtain ⟨n', h1, _, _⟩ := DataW.trod_int Try.underlying3 f1
  refine ⟨(k, n'), ?_, ?_⟩
  · cases h0; cases h1; rfl
  · clear e1 hf f0 f1 hs hl
    simp only [Rows.uptoBulk]
    omega
theorem ones_sum {α : Type} (l : List α) : (l.map fun _ => 1).sum = l.length := by
  induction l with
  | nil => rfl
  | cons x l ih => rw [List.map_cons, List.sum_cons, ih, List.length_cons]; omega
set_option maxRecDepth 20000 in
theorem open_up {sp : Nat → Bool} {held : Bool} {v : Value} {d : DataW H} {ps : List MemPlace} {r : Reach} {b0 : Nat} (hval : Value.okWide Try.prog W r b0 28 v) (hd : DataW.Trod enc Try.prog W 0 sp held 28 v d ps) :
    ∃ (nm : ByteArray) (a : Option Addr) (c : Nat) (us : List (Int × Int)) (tmo rt : Int), v = .agg #[.string nm, .slice a us.length c, .int .i64 tmo, .int .i64 rt] ∧ (∀ A, RdB W A a (us.length * 2) (us.flatMap pr2)) ∧ us.length ≤ Rows.uptoBulk d := by
  obtain ⟨cs, rfl, hsz⟩ := WideShapes.okWide_struct (fs := #[⟨"Name", 9, 0, false, "", "", 0⟩, ⟨"Peers", 26, 1, false, "", "", 16⟩, ⟨"Timeout", 3, 2, false, "", "", 40⟩, ⟨"Retries", 3, 3, false, "", "", 48⟩]) (by kernel_rfl) hval
  rw [show Try.prog.cellsOf 28 = 4 by kernel_rfl] at hsz
  obtain ⟨fuel, hf⟩ := hd
  obtain ⟨l⟩ := cs
  obtain ⟨c0, c1, c2, c3, rfl⟩ : ∃ c0 c1 c2 c3, l = [c0, c1, c2, c3] := by
    match l, hsz with
    | [a, b, c, d], _ => exact ⟨a, b, c, d, rfl⟩
  rw [show (Value.agg ⟨[c0, c1, c2, c3]⟩).cells.toList = [c0, c1, c2, c3] from rfl] at hf
  obtain ⟨xs, m, rfl, hx, hl, hs, hf⟩ := DataW.trod_struct (fs := #[⟨"Name", 9, 0, false, "", "", 0⟩, ⟨"Peers", 26, 1, false, "", "", 16⟩, ⟨"Timeout", 3, 2, false, "", "", 40⟩, ⟨"Retries", 3, 3, false, "", "", 48⟩]) (by kernel_rfl) hf
  obtain ⟨x0, x1, x2, x3, rfl⟩ : ∃ x0 x1 x2 x3, xs = [x0, x1, x2, x3] := by
    match xs, hs with
    | [a, b, c, d], _ => exact ⟨a, b, c, d, rfl⟩
  have e0 : Try.prog.cellsOf 9 = 1 := by kernel_rfl
  have e1 : Try.prog.cellsOf 3 = 1 := by kernel_rfl
  have e2 : Try.prog.cellsOf 26 = 1 := by kernel_rfl
  have f0 := hf 0 _ rfl
  have f1 := hf 1 _ rfl
  have f2 := hf 2 _ rfl
  have f3 := hf 3 _ rfl
  simp only [e0, e1, e2, List.drop_zero, List.drop_succ_cons, List.take_succ_cons, List.take_zero, List.getElem?_cons_zero, List.getElem?_cons_succ] at f0 f1 f2 f3
  obtain ⟨nm, h0, _, _⟩ := DataW.trod_string (by kernel_rfl) f0
  obtain ⟨a, n, c, us, h1, g1, g2, g3, g4, g5⟩ := open_old (e := 39) (s := 2) (rd := fun (x : Int × Int) cs => cs = pr2 x) (m := fun _ => 1) (by kernel_rfl) (by kernel_rfl) (by omega) (fun n cs x h => open_pr n cs x h) f1
  obtain ⟨t, h2, _, _⟩ := DataW.trod_int Try.underlying3 f2
  obtain ⟨rt, h3, _, _⟩ := DataW.trod_int Try.underlying3 f3
  have hl := g4.len
  subst hl
  refine ⟨nm, a, c, us, t, rt, ?_, g4.flat (fun _ => rfl) (by omega), ?_⟩
  · cases h0; cases h1; cases h2; cases h3; rfl
  · have hx1 := (Prod.mk.inj hx).1
    rw [hx1]
    rw [ones_sum] at g5
    clear hf f0 f1 f2 f3
    simp only [Rows.uptoBulk, Rows.uptoBulkAll, List.map_cons, List.map_nil]
    omega
def op3 (x : Int × Int × Int) : List Value := [I x.1, I x.2.1, I x.2.2]
set_option maxRecDepth 20000 in
theorem open_op {sp : Nat → Bool} {held : Bool} (n : Nat) (cs : List Value) (x : DataW H × List MemPlace) (h : DataW.trod enc Try.prog W 0 sp held n 87 cs = some x) : ∃ a : { x : Int × Int × Int // -9223372036854775808 ≤ x.2.2 ∧ x.2.2 ≤ 9223372036854775807 ∧ -9223372036854775808 ≤ x.2.1 ∧ x.2.1 ≤ 9223372036854775807 }, cs = op3 a.1 ∧ 1 ≤ Rows.uptoBulk x.1 := by
  obtain ⟨xs, m, rfl, rfl, hl, hs, hf⟩ := DataW.trod_struct (fs := #[⟨"Kind", 3, 0, false, "", "", 0⟩, ⟨"ID", 3, 1, false, "", "", 8⟩, ⟨"Now", 3, 2, false, "", "", 16⟩]) (by kernel_rfl) h
  rw [show Try.prog.cellsOf 87 = 3 by kernel_rfl] at hl
  obtain ⟨c0, c1, c2, rfl⟩ : ∃ c0 c1 c2, cs = [c0, c1, c2] := by
    match cs, hl with
    | [a, b, c], _ => exact ⟨a, b, c, rfl⟩
  obtain ⟨x0, x1, x2, rfl⟩ : ∃ x0 x1 x2, xs = [x0, x1, x2] := by
    match xs, hs with
    | [a, b, c], _ => exact ⟨a, b, c, rfl⟩
  have e1 : Try.prog.cellsOf 3 = 1 := by kernel_rfl
  have f0 := hf 0 _ rfl
  have f1 := hf 1 _ rfl
  have f2 := hf 2 _ rfl
  simp only [e1, List.drop_zero, List.drop_succ_cons, List.take_succ_cons, List.take_zero, List.getElem?_cons_zero, List.getElem?_cons_succ] at f0 f1 f2
  obtain ⟨k, h0, _, _⟩ := DataW.trod_int Try.underlying3 f0
  obtain ⟨n', h1, _, w1⟩ := DataW.trod_int Try.underlying3 f1
  obtain ⟨w, h2, _, w2⟩ := DataW.trod_int Try.underlying3 f2
  have b1 : -9223372036854775808 ≤ n' ∧ n' ≤ 9223372036854775807 := by simpa [Lit.wf, IntKind.min, IntKind.max, IntKind.signed, IntKind.bits] using w1
  have b2 : -9223372036854775808 ≤ w ∧ w ≤ 9223372036854775807 := by simpa [Lit.wf, IntKind.min, IntKind.max, IntKind.signed, IntKind.bits] using w2
  refine ⟨⟨(k, n', w), b2.1, b2.2, b1.1, b1.2⟩, ?_, ?_⟩
  · cases h0; cases h1; cases h2; rfl
  · clear e1 hf f0 f1 f2 hs hl
    simp only [Rows.uptoBulk]
    omega
abbrev Op3 := { x : Int × Int × Int // -9223372036854775808 ≤ x.2.2 ∧ x.2.2 ≤ 9223372036854775807 ∧ -9223372036854775808 ≤ x.2.1 ∧ x.2.1 ≤ 9223372036854775807 }
set_option maxRecDepth 20000 in
theorem open_ops {sp : Nat → Bool} {held : Bool} {v : Value} {d : DataW H} {ps : List MemPlace} {r : Reach} {b0 : Nat} (hval : Value.okWide Try.prog W r b0 83 v) (hd : DataW.Trod enc Try.prog W 0 sp held 83 v d ps) :
    ∃ (a : Option Addr) (c : Nat) (l : List Op3), v = .slice a l.length c ∧ (∀ A, RdB W A a (l.length * 3) (l.flatMap fun x => op3 x.1)) ∧ l.length ≤ Rows.uptoBulk d := by
  obtain ⟨fuel, hf⟩ := open_slice (e := 87) (by kernel_rfl) hval hd
  obtain ⟨a, n, c, l, e, g1, g2, g3, g4, g5⟩ := open_old (e := 87) (s := 3) (rd := fun (x : Op3) cs => cs = op3 x.1) (m := fun _ => 1) (by kernel_rfl) (by kernel_rfl) (by omega) (fun n cs x h => open_op n cs x h) hf
  have hl := g4.len
  subst hl
  rw [ones_sum] at g5
  exact ⟨a, c, l, by injection e, g4.flat (f := fun x : Op3 => op3 x.1) (fun _ => rfl) (by omega), by simp at g5; omega⟩
end Go.Proofs.Ytpmcokpiplcnjaa.PL
