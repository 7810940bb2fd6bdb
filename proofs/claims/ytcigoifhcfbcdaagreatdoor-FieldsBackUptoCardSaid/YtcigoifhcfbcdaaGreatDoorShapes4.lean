/- The shapes of functions of the loaded program, printed by a program of mine; each is proved to be what the model asks of the function. No conditions. -/
import Derived.Test.YtcigoifhcfbcdaaGreatDoorChecked
import Derived.Test.YtcigoifhcfbcdaaGreatDoorShapes
import Derived.KernelRfl
set_option linter.unusedVariables false
namespace Go.Proofs.YtcigoifhcfbcdaaGreatDoor.S
open Go Go.Proofs.YtcigoifhcfbcdaaGreatDoor.Sh Go.Proofs.YtcigoifhcfbcdaaGreatDoor.Sl


/-- sync_Once_Do -/
def sync_Once_Do (v0 v1 : Value) (Kp : PK) (K : Value → WP) : WP :=
  opN Tryz.prog (sNil v0) Kp fun x5 =>
  opN Tryz.prog (sFA 96 x5 1) Kp fun x6 =>
  opN Tryz.prog (sCall (fn 54) [x6]) Kp fun x7 =>
  opN Tryz.prog (sUn .not x7) Kp fun x8 =>
  condS x8
  (opN Tryz.prog (sCall (fn 55) [v0, v1]) Kp fun x11 =>
   K (.tuple #[]))
  (K (.tuple #[]))
def sync_Once_Do_an : Ann := { cuts := [], blks := [], loops := [], drs := [] }
theorem sync_Once_Do_eq (v0 v1 : Value) (Kp : PK) (K : Value → WP) : cevF Tryz.prog sync_Once_Do_an Tryz.f38 [v0, v1] Kp K = sync_Once_Do v0 v1 Kp K := by kernel_rfl
theorem sync_Once_Do_calls {v0 v1 : Value} {Kp : PK} {K : Value → WP} {w : World} (h : sync_Once_Do v0 v1 Kp K w) : Calls Tryz.prog 38 #[v0, v1] w (after Kp K) :=
  calls_of_shape (calls_of_cev wide Tryz.func38 (an := sync_Once_Do_an) (args := [v0, v1]) (cast (congrFun (sync_Once_Do_eq v0 v1 Kp K) w).symm h))
theorem sync_Once_Do_cn {v0 v1 : Value} {W : World} {α : Type} {A : List HP} {r : α → Value} {B : α → List HP} (h : ∀ F, Ent W (A ++ F) (sync_Once_Do v0 v1 noP fun v w => ∃ x, v = r x ∧ sat W (B x ++ F) w)) : Cn Tryz.prog 38 [v0, v1] W A r B :=
  Cn.of (shape := sync_Once_Do v0 v1) Tryz.call38 (fun h => sync_Once_Do_calls h) h
theorem sync_Once_Do_cnP {v0 v1 : Value} {W : World} {α β : Type} {A : List HP} {r : α → Value} {B : α → List HP} {pc : β → List PanicEntry} {Bp : β → List HP} (h : ∀ F, Ent W (A ++ F) (sync_Once_Do v0 v1 (fun ch w => ∃ y, ch = pc y ∧ sat W (Bp y ++ F) w) fun v w => ∃ x, v = r x ∧ sat W (B x ++ F) w)) : CnP Tryz.prog 38 [v0, v1] W A r B pc Bp :=
  CnP.of (shape := sync_Once_Do v0 v1) Tryz.call38 (fun h => sync_Once_Do_calls h) h

end Go.Proofs.YtcigoifhcfbcdaaGreatDoor.S
