/-
  DERIVED. GIVEN WITH THE SEED: THE CARDS: each row of YtndojgomlkpeaaaGreatDoorRows.lean that lists a variable, with what it lists TIED to the program's text (the seventh form; the later family's looks); each row that meets fmt, with fmt's text TOLD by the authors' own Lean function (tested against real Go, not proved from fmt's source: count such statements apart). THE CARD IS WHAT COUNTS. Prove the row's statement (the work); the ties are given (YtndojgomlkpeaaaGreatDoorTie.lean); close each card by the builder's one call (the guide's Derived/Test/ToyasCard.lean, 'card_holds'). Laid BY PROGRAM, IN A SANDBOX (cutbox-door.mjs). By AI agents, Wed Nov 11 2026. No macro, syntax, notation, axiom, sorry.
-/
import Derived.Test.YtndojgomlkpeaaaGreatDoorRows
import GoSem.ClaimSeven
namespace Go.Proofs.YtndojgomlkpeaaaGreatDoor
namespace Rows

/-- THE TIED CARD OF 'gatehouselaw19.CodingTells'. -/
def codingTellsCard : Claim7 := { stood := { row := codingTellsRow, standIns := [], harness := (true, "469c21191a857a5ba99cab609171e851e9b66e2a6ec56fff5133f75963982990"), looks := true }, kinds := [], alts := [], laidByText := true, laidKinds := [.data, .data, .data, .data, .sentinel, .sentinel, .pinned], laidTests := true, laidLooks := .later }
def CodingTellsCardSaid : Prop := Claim7.holds Tryz.pinned (.plain (OpenSpec.ofChange codingTellsSpec)) codingTellsCard

/-- THE TIED CARD OF 'gatehouselaw19.CodingSame'. -/
def codingSameCard : Claim7 := { stood := { row := codingSameRow, standIns := [], harness := (true, "469c21191a857a5ba99cab609171e851e9b66e2a6ec56fff5133f75963982990"), looks := true }, kinds := [], alts := [], laidByText := true, laidKinds := [.data, .data, .data, .data, .sentinel, .sentinel, .pinned], laidTests := true, laidLooks := .later }
def CodingSameCardSaid : Prop := Claim7.holds Tryz.pinned (.plain (OpenSpec.ofChange codingSameSpec)) codingSameCard

/-- THE TIED CARD OF 'gatehouselaw19.CodingVaries'. -/
def codingVariesCard : Claim7 := { stood := { row := codingVariesRow, standIns := [], harness := (true, "469c21191a857a5ba99cab609171e851e9b66e2a6ec56fff5133f75963982990"), looks := true }, kinds := [], alts := [], laidByText := true, laidKinds := [.data, .data, .data, .data, .sentinel, .sentinel, .pinned], laidTests := true, laidLooks := .later }
def CodingVariesCardSaid : Prop := Claim7.holds Tryz.pinned (.plain (OpenSpec.ofChange codingVariesSpec)) codingVariesCard

/-- THE TIED CARD OF 'gatehouselaw19.CodingUntouched'. -/
def codingUntouchedCard : Claim7 := { stood := { row := codingUntouchedRow, standIns := [], harness := (true, "469c21191a857a5ba99cab609171e851e9b66e2a6ec56fff5133f75963982990"), looks := true }, kinds := [], alts := [], laidByText := true, laidKinds := [.data, .data, .data, .data, .sentinel, .sentinel, .pinned], laidTests := true, laidLooks := .later }
def CodingUntouchedCardSaid : Prop := Claim7.holds Tryz.pinned (.plain (OpenSpec.ofChange codingUntouchedSpec)) codingUntouchedCard

/-- THE SECOND FORM's CARD OF 'gatehouselaw19.CodingTells'. -/
def codingTellsUptoCard : Claim7 := { stood := { row := codingTellsUptoRow, standIns := [], harness := (true, "469c21191a857a5ba99cab609171e851e9b66e2a6ec56fff5133f75963982990"), looks := true }, kinds := [], alts := [], laidByText := true, laidKinds := [.data, .data, .data, .data, .sentinel, .sentinel, .pinned], laidTests := true, laidLooks := .later }
def CodingTellsUptoCardSaid : Prop := Claim7.holds Tryz.pinned (.plain (OpenSpec.upto codingTellsSpec)) codingTellsUptoCard

/-- THE SECOND FORM's CARD OF 'gatehouselaw19.CodingSame'. -/
def codingSameUptoCard : Claim7 := { stood := { row := codingSameUptoRow, standIns := [], harness := (true, "469c21191a857a5ba99cab609171e851e9b66e2a6ec56fff5133f75963982990"), looks := true }, kinds := [], alts := [], laidByText := true, laidKinds := [.data, .data, .data, .data, .sentinel, .sentinel, .pinned], laidTests := true, laidLooks := .later }
def CodingSameUptoCardSaid : Prop := Claim7.holds Tryz.pinned (.plain (OpenSpec.upto codingSameSpec)) codingSameUptoCard

/-- THE SECOND FORM's CARD OF 'gatehouselaw19.CodingVaries'. -/
def codingVariesUptoCard : Claim7 := { stood := { row := codingVariesUptoRow, standIns := [], harness := (true, "469c21191a857a5ba99cab609171e851e9b66e2a6ec56fff5133f75963982990"), looks := true }, kinds := [], alts := [], laidByText := true, laidKinds := [.data, .data, .data, .data, .sentinel, .sentinel, .pinned], laidTests := true, laidLooks := .later }
def CodingVariesUptoCardSaid : Prop := Claim7.holds Tryz.pinned (.plain (OpenSpec.upto codingVariesSpec)) codingVariesUptoCard

/-- THE SECOND FORM's CARD OF 'gatehouselaw19.CodingUntouched'. -/
def codingUntouchedUptoCard : Claim7 := { stood := { row := codingUntouchedUptoRow, standIns := [], harness := (true, "469c21191a857a5ba99cab609171e851e9b66e2a6ec56fff5133f75963982990"), looks := true }, kinds := [], alts := [], laidByText := true, laidKinds := [.data, .data, .data, .data, .sentinel, .sentinel, .pinned], laidTests := true, laidLooks := .later }
def CodingUntouchedUptoCardSaid : Prop := Claim7.holds Tryz.pinned (.plain (OpenSpec.upto codingUntouchedSpec)) codingUntouchedUptoCard
end Rows
end Go.Proofs.YtndojgomlkpeaaaGreatDoor
