/- Bytes that come in, opened. No conditions but those that each names. -/
import Derived.Test.YtehfblkpbadikaaOld
import Derived.KernelRfl
set_option linter.unusedVariables false
namespace Go.Proofs.Ytehfblkpbadikaa.Sl
open Go Go.RowKit Go.Proofs.Ytehfblkpbadikaa.Sh
variable {P : Program} {H : Type} {enc : TypeId × Value → H} {W : World}
theorem open_bs {t e : TypeId} {sp : Nat → Bool} {held : Bool} {v : Value} {d : DataW H} {ps : List MemPlace} {r : Reach} {b0 : Nat} (ht : P.underlying t = some (.slice e)) (hc : P.cellsOf e = 1) (he : P.underlying e = some (.int .u8)) (hval : Value.okWide P W r b0 t v) (hd : DataW.Trod enc P W 0 sp held t v d ps) :
    ∃ (a : Option Addr) (c : Nat) (b : List UInt8), v = .slice a b.length c ∧ (a = none → b.length = 0) ∧ (∀ A, RdB W A a b.length (b.map B)) ∧ b.length ≤ Rows.uptoBulk d := by
  obtain ⟨fuel, hf⟩ := open_slice (e := e) ht hval hd
  obtain ⟨a, c, b, e1, g1, g2, g3, g4, g5⟩ := open_bytes (e := e) ht hc he hf
  exact ⟨a, c, b, by injection e1, g3, g4, by simp at g5; omega⟩
theorem open_bsc {t e : TypeId} {sp : Nat → Bool} {held : Bool} {v : Value} {d : DataW H} {ps : List MemPlace} {r : Reach} {b0 : Nat} (ht : P.underlying t = some (.slice e)) (hc : P.cellsOf e = 1) (he : P.underlying e = some (.int .u8)) (hval : Value.okWide P W r b0 t v) (hd : DataW.Trod enc P W 0 sp held t v d ps) :
    ∃ (a : Option Addr) (c : Nat) (b : List UInt8), v = .slice a b.length c ∧ (a = none → b.length = 0) ∧ (∀ A, RdB W A a b.length (b.map B)) ∧ b.length ≤ Rows.uptoBulk d ∧ b.length ≤ c := by
  obtain ⟨fuel, hf⟩ := open_slice (e := e) ht hval hd
  obtain ⟨a, c, b, e1, g1, g2, g3, g4, g5⟩ := open_bytes (e := e) ht hc he hf
  exact ⟨a, c, b, by injection e1, g3, g4, by simp at g5; omega, g1⟩
end Go.Proofs.Ytehfblkpbadikaa.Sl
