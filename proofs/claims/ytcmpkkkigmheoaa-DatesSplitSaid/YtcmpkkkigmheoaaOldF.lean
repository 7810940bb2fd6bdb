/- Structs of numbers that come in. No conditions but those that each names. -/
import Derived.Test.YtcmpkkkigmheoaaMore
import Derived.KernelRfl
set_option linter.unusedVariables false
namespace Go.Proofs.Ytcmpkkkigmheoaa.Sl
open Go Go.RowKit Go.Proofs.Ytcmpkkkigmheoaa.Sh
variable {P : Program} {H : Type} {enc : TypeId × Value → H} {W : World}
theorem Old.flat {α : Type} {s n : Nat} {f : α → List Value} {a : Option Addr} {xs : List α} (hf : ∀ x, (f x).length = s) (h0 : 0 < s) (h : Old W s (fun x cs => cs = f x) a n xs) (A : HP) : RdB W A a (n * s) (xs.flatMap f) := by
  have hl := h.len
  refine ⟨by rw [flat_len hf, hl], fun hn => ?_⟩
  obtain ⟨g, o, rfl, hg, hc⟩ := h.at_ (by
    rcases Nat.eq_zero_or_pos n with z | z
    · subst z; simp at hn
    · exact z)
  refine ⟨g, o, rfl, fun w L hw j v hv => ?_⟩
  have hj : j < xs.length * s := by
    rcases Nat.lt_or_ge j (xs.flatMap f).length with c | c
    · rwa [flat_len hf] at c
    · rw [List.getElem?_eq_none c] at hv; cases hv
  have hi : j / s < xs.length := Nat.div_lt_of_lt_mul (by rwa [Nat.mul_comm] at hj)
  have hm : j % s < s := Nat.mod_lt _ h0
  have hd : j = j / s * s + j % s := by rw [Nat.mul_comm]; exact (Nat.div_add_mod j s).symm
  obtain ⟨cs, h1, h2, h3⟩ := hc (j / s) hi
  subst h2
  rw [hd, flat_get hf xs _ _ hi hm] at hv
  have := h3 (j % s) v hv
  rw [hw.base.cell (p := ⟨g, o + j, none⟩) hg]
  rwa [← hd] at this
end Go.Proofs.Ytcmpkkkigmheoaa.Sl
