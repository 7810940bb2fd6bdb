/-
  DERIVED. GIVEN WITH THE SEED: THE CARDS: each row of YtdjkdjepjahjfaaGreatDoorRows.lean that lists a variable, with what it lists TIED to the program's text (the seventh form; the later family's looks); each row that meets fmt, with fmt's text TOLD by the authors' own Lean function (tested against real Go, not proved from fmt's source: count such statements apart). THE CARD IS WHAT COUNTS. Prove the row's statement (the work); the ties are given (YtdjkdjepjahjfaaGreatDoorTie.lean); close each card by the builder's one call (the guide's Derived/Test/ToyasCard.lean, 'card_holds'). Laid BY PROGRAM, IN A SANDBOX (cutbox-door.mjs). By AI agents, Wed Nov 11 2026. No macro, syntax, notation, axiom, sorry.
-/
import Derived.Test.YtdjkdjepjahjfaaGreatDoorRows
import GoSem.ClaimSeven
namespace Go.Proofs.YtdjkdjepjahjfaaGreatDoor
namespace Rows

/-- THE TIED CARD OF 'gatehousetop.TopStored'. -/
def topStoredCard : Claim7 := { stood := { row := topStoredRow, standIns := [], harness := (true, "79b64dfcd736f8aad08485d31fd458526b843c1fbbdaa440b8a4ff9c487025c4"), looks := true }, kinds := [], alts := [], laidByText := true, laidKinds := [.data, .data, .data, .sentinel, .sentinel, .pinned, .data], laidTests := true, laidLooks := .later }
def TopStoredCardSaid : Prop := Claim7.holds Tryz.pinned (.plain (OpenSpec.ofChange topStoredSpec)) topStoredCard

/-- THE TIED CARD OF 'gatehousetop.TopAnswers'. -/
def topAnswersCard : Claim7 := { stood := { row := topAnswersRow, standIns := [], harness := (true, "79b64dfcd736f8aad08485d31fd458526b843c1fbbdaa440b8a4ff9c487025c4"), looks := true }, kinds := [], alts := [], laidByText := true, laidKinds := [.data, .data, .data, .sentinel, .sentinel, .pinned, .data], laidTests := true, laidLooks := .later }
def TopAnswersCardSaid : Prop := Claim7.holds Tryz.pinned (.plain (OpenSpec.ofChange topAnswersSpec)) topAnswersCard

/-- THE SECOND FORM's CARD OF 'gatehousetop.TopStored'. -/
def topStoredUptoCard : Claim7 := { stood := { row := topStoredUptoRow, standIns := [], harness := (true, "79b64dfcd736f8aad08485d31fd458526b843c1fbbdaa440b8a4ff9c487025c4"), looks := true }, kinds := [], alts := [], laidByText := true, laidKinds := [.data, .data, .data, .sentinel, .sentinel, .pinned, .data], laidTests := true, laidLooks := .later }
def TopStoredUptoCardSaid : Prop := Claim7.holds Tryz.pinned (.plain (OpenSpec.upto topStoredSpec)) topStoredUptoCard

/-- THE SECOND FORM's CARD OF 'gatehousetop.TopAnswers'. -/
def topAnswersUptoCard : Claim7 := { stood := { row := topAnswersUptoRow, standIns := [], harness := (true, "79b64dfcd736f8aad08485d31fd458526b843c1fbbdaa440b8a4ff9c487025c4"), looks := true }, kinds := [], alts := [], laidByText := true, laidKinds := [.data, .data, .data, .sentinel, .sentinel, .pinned, .data], laidTests := true, laidLooks := .later }
def TopAnswersUptoCardSaid : Prop := Claim7.holds Tryz.pinned (.plain (OpenSpec.upto topAnswersSpec)) topAnswersUptoCard
end Rows
end Go.Proofs.YtdjkdjepjahjfaaGreatDoor
