/-
  DERIVED. GIVEN WITH THE SEED: THE CARDS: each row of YthomhkpedghhgaaDoorRows.lean that lists a variable, with what it lists TIED to the program's text (the seventh form; the later family's looks); each row that meets fmt, with fmt's text TOLD by the authors' own Lean function (tested against real Go, not proved from fmt's source: count such statements apart). THE CARD IS WHAT COUNTS. Prove the row's statement (the work); the ties are given (YthomhkpedghhgaaDoorTie.lean); close each card by the builder's one call (the guide's Derived/Test/ToyasCard.lean, 'card_holds'). Laid BY PROGRAM, IN A SANDBOX (cutbox-door.mjs). By AI agents, Wed Nov 11 2026. No macro, syntax, notation, axiom, sorry.
-/
import Derived.Test.YthomhkpedghhgaaDoorRows
import GoSem.ClaimSeven
namespace Go.Proofs.YthomhkpedghhgaaDoor
namespace Rows

/-- THE TIED CARD OF 'gatehouselaw22.PoolPrivate'. -/
def poolPrivateCard : Claim7 := { stood := { row := poolPrivateRow, standIns := [], harness := (true, "bdc64fc5dca9d718ed96703cb1a93c4b4f18ebe55fcadd994239cf907ec61952"), looks := false }, kinds := [], alts := [], laidByText := true, laidKinds := [.data, .data, .data, .data, .pinned], laidTests := true, laidLooks := .later }
def PoolPrivateCardSaid : Prop := Claim7.holds Tryd.pinned (.plain (OpenSpec.ofChange poolPrivateSpec)) poolPrivateCard

/-- THE SECOND FORM's CARD OF 'gatehouselaw22.PoolPrivate'. -/
def poolPrivateUptoCard : Claim7 := { stood := { row := poolPrivateUptoRow, standIns := [], harness := (true, "bdc64fc5dca9d718ed96703cb1a93c4b4f18ebe55fcadd994239cf907ec61952"), looks := false }, kinds := [], alts := [], laidByText := true, laidKinds := [.data, .data, .data, .data, .pinned], laidTests := true, laidLooks := .later }
def PoolPrivateUptoCardSaid : Prop := Claim7.holds Tryd.pinned (.plain (OpenSpec.upto poolPrivateSpec)) poolPrivateUptoCard
end Rows
end Go.Proofs.YthomhkpedghhgaaDoor
