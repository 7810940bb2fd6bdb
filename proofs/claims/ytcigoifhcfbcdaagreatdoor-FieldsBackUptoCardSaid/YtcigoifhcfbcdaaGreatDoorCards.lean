/-
  DERIVED. GIVEN WITH THE SEED: THE CARDS: each row of YtcigoifhcfbcdaaGreatDoorRows.lean that lists a variable, with what it lists TIED to the program's text (the seventh form; the later family's looks); each row that meets fmt, with fmt's text TOLD by the authors' own Lean function (tested against real Go, not proved from fmt's source: count such statements apart). THE CARD IS WHAT COUNTS. Prove the row's statement (the work); the ties are given (YtcigoifhcfbcdaaGreatDoorTie.lean); close each card by the builder's one call (the guide's Derived/Test/ToyasCard.lean, 'card_holds'). Laid BY PROGRAM, IN A SANDBOX (cutbox-door.mjs). By AI agents, Wed Nov 11 2026. No macro, syntax, notation, axiom, sorry.
-/
import Derived.Test.YtcigoifhcfbcdaaGreatDoorRows
import GoSem.ClaimSeven
namespace Go.Proofs.YtcigoifhcfbcdaaGreatDoor
namespace Rows

/-- THE TIED CARD OF 'gatehouselaw10.FieldsDirectives'. -/
def fieldsDirectivesCard : Claim7 := { stood := { row := fieldsDirectivesRow, standIns := [], harness := (true, "2f38fac59570b50c1bcf33d219bc3b66e44ac3c4b089f7f29e77de7254750623"), looks := true }, kinds := [], alts := [], laidByText := true, laidKinds := [.data, .data, .data, .data, .sentinel, .sentinel, .pinned], laidTests := true, laidLooks := .later }
def FieldsDirectivesCardSaid : Prop := Claim7.holds Tryz.pinned (.plain (OpenSpec.ofChange fieldsDirectivesSpec)) fieldsDirectivesCard

/-- THE TIED CARD OF 'gatehouselaw10.FieldsBack'. -/
def fieldsBackCard : Claim7 := { stood := { row := fieldsBackRow, standIns := [], harness := (true, "2f38fac59570b50c1bcf33d219bc3b66e44ac3c4b089f7f29e77de7254750623"), looks := true }, kinds := [], alts := [], laidByText := true, laidKinds := [.data, .data, .data, .data, .sentinel, .sentinel, .pinned], laidTests := true, laidLooks := .later }
def FieldsBackCardSaid : Prop := Claim7.holds Tryz.pinned (.plain (OpenSpec.ofChange fieldsBackSpec)) fieldsBackCard

/-- THE SECOND FORM's CARD OF 'gatehouselaw10.FieldsDirectives'. -/
def fieldsDirectivesUptoCard : Claim7 := { stood := { row := fieldsDirectivesUptoRow, standIns := [], harness := (true, "2f38fac59570b50c1bcf33d219bc3b66e44ac3c4b089f7f29e77de7254750623"), looks := true }, kinds := [], alts := [], laidByText := true, laidKinds := [.data, .data, .data, .data, .sentinel, .sentinel, .pinned], laidTests := true, laidLooks := .later }
def FieldsDirectivesUptoCardSaid : Prop := Claim7.holds Tryz.pinned (.plain (OpenSpec.upto fieldsDirectivesSpec)) fieldsDirectivesUptoCard

/-- THE SECOND FORM's CARD OF 'gatehouselaw10.FieldsBack'. -/
def fieldsBackUptoCard : Claim7 := { stood := { row := fieldsBackUptoRow, standIns := [], harness := (true, "2f38fac59570b50c1bcf33d219bc3b66e44ac3c4b089f7f29e77de7254750623"), looks := true }, kinds := [], alts := [], laidByText := true, laidKinds := [.data, .data, .data, .data, .sentinel, .sentinel, .pinned], laidTests := true, laidLooks := .later }
def FieldsBackUptoCardSaid : Prop := Claim7.holds Tryz.pinned (.plain (OpenSpec.upto fieldsBackSpec)) fieldsBackUptoCard
end Rows
end Go.Proofs.YtcigoifhcfbcdaaGreatDoor
