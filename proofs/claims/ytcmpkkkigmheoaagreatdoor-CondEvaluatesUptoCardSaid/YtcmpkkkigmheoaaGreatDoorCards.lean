/-
  DERIVED. GIVEN WITH THE SEED: THE CARDS: each row of YtcmpkkkigmheoaaGreatDoorRows.lean that lists a variable, with what it lists TIED to the program's text (the seventh form; the later family's looks); each row that meets fmt, with fmt's text TOLD by the authors' own Lean function (tested against real Go, not proved from fmt's source: count such statements apart). THE CARD IS WHAT COUNTS. Prove the row's statement (the work); the ties are given (YtcmpkkkigmheoaaGreatDoorTie.lean); close each card by the builder's one call (the guide's Derived/Test/ToyasCard.lean, 'card_holds'). Laid BY PROGRAM, IN A SANDBOX (cutbox-door.mjs). By AI agents, Wed Nov 11 2026. No macro, syntax, notation, axiom, sorry.
-/
import Derived.Test.YtcmpkkkigmheoaaGreatDoorRows
import GoSem.ClaimSeven
namespace Go.Proofs.YtcmpkkkigmheoaaGreatDoor
namespace Rows

/-- THE TIED CARD OF 'gatehouselaw16.CondEvaluates'. -/
def condEvaluatesCard : Claim7 := { stood := { row := condEvaluatesRow, standIns := [], harness := (true, "4b6c14249809a8fe2b762c0826fe7d7f3e6ee633a32a86c024876c383407f3dc"), looks := false }, kinds := [], alts := [], laidByText := true, laidKinds := [.data, .pinned], laidTests := true, laidLooks := .later }
def CondEvaluatesCardSaid : Prop := Claim7.holds Tryz.pinned (.plain (OpenSpec.ofChange condEvaluatesSpec)) condEvaluatesCard

/-- THE SECOND FORM's CARD OF 'gatehouselaw16.CondEvaluates'. -/
def condEvaluatesUptoCard : Claim7 := { stood := { row := condEvaluatesUptoRow, standIns := [], harness := (true, "4b6c14249809a8fe2b762c0826fe7d7f3e6ee633a32a86c024876c383407f3dc"), looks := false }, kinds := [], alts := [], laidByText := true, laidKinds := [.data, .pinned], laidTests := true, laidLooks := .later }
def CondEvaluatesUptoCardSaid : Prop := Claim7.holds Tryz.pinned (.plain (OpenSpec.upto condEvaluatesSpec)) condEvaluatesUptoCard
end Rows
end Go.Proofs.YtcmpkkkigmheoaaGreatDoor
