/- Interfaces that hold a named number: whether nil, what they hold. No conditions but those that each names. -/
import Derived.Test.YtcigoifhcfbcdaaGreatDoorMore
set_option linter.unusedVariables false
namespace Go.Proofs.YtcigoifhcfbcdaaGreatDoor.Sl
open Go Go.Proofs.YtcigoifhcfbcdaaGreatDoor.Sh
variable {P : Program} {W : World}
instance {f : FuncId} : OC (fn f) := ⟨rfl⟩
theorem v_neIf {t u : TypeId} {ox oy : Operand} {x : Value} (h : P.underlying t = some (.interface (P.methodsAt t))) : RunV P W [] (sEq .neq t ox oy (.iface u x) .nilIface) (.bool true) := fun w _ => by
  simp [sEq, sv, eqGuard, run_neq_held_nil w t u x h]
theorem v_neIf0 {t : TypeId} {ox : Operand} {c : Value} (h : P.underlying t = some (.interface (P.methodsAt t))) : RunV P W [] (sEq .neq t ox (.const c) .nilIface .nilIface) (.bool false) := fun w _ => by
  simp [sEq, sv, eqGuard, run_neq_nil_nil w t h]
theorem v_ta {t a : TypeId} {k : IntKind} {v : Value} (h : P.underlying a = some (.int k)) : RunV P W [] (sTA (.iface a v) t a false) v := fun w _ => by
  simp [sTA, Instr.typeAssert, run_underlying h]
end Go.Proofs.YtcigoifhcfbcdaaGreatDoor.Sl
