/-
  DERIVED. GIVEN WITH THE SEED: THE CARDS: each row of YtcigoifhcfbcdaaDoorRows.lean that lists a variable, with what it lists TIED to the program's text (the seventh form; the later family's looks); each row that meets fmt, with fmt's text TOLD by the authors' own Lean function (tested against real Go, not proved from fmt's source: count such statements apart). THE CARD IS WHAT COUNTS. Prove the row's statement (the work); the ties are given (YtcigoifhcfbcdaaDoorTie.lean); close each card by the builder's one call (the guide's Derived/Test/ToyasCard.lean, 'card_holds'). Laid BY PROGRAM, IN A SANDBOX (cutbox-door.mjs). By AI agents, Wed Nov 11 2026. No macro, syntax, notation, axiom, sorry.
-/
import Derived.Test.YtcigoifhcfbcdaaDoorRows
import GoSem.ClaimSeven
namespace Go.Proofs.YtcigoifhcfbcdaaDoor
namespace Rows

/-- THE TIED CARD OF 'gatehouselaw10.FieldsSpans'. -/
def fieldsSpansCard : Claim7 := { stood := { row := fieldsSpansRow, standIns := [], harness := (true, "87296a93801e0d00db45d4b56ea6a5de3d8efcc98df23122f937ea2c3a4159f7"), looks := true }, kinds := [], alts := [], laidByText := true, laidKinds := [.data, .data, .data, .data, .sentinel, .sentinel, .pinned], laidTests := true, laidLooks := .later }
def FieldsSpansCardSaid : Prop := Claim7.holds Tryd.pinned (.plain (OpenSpec.ofChange fieldsSpansSpec)) fieldsSpansCard

/-- THE TIED CARD OF 'gatehouselaw10.FieldsAlike'. -/
def fieldsAlikeCard : Claim7 := { stood := { row := fieldsAlikeRow, standIns := [], harness := (true, "87296a93801e0d00db45d4b56ea6a5de3d8efcc98df23122f937ea2c3a4159f7"), looks := true }, kinds := [], alts := [], laidByText := true, laidKinds := [.data, .data, .data, .data, .sentinel, .sentinel, .pinned], laidTests := true, laidLooks := .later }
def FieldsAlikeCardSaid : Prop := Claim7.holds Tryd.pinned (.plain (OpenSpec.ofChange fieldsAlikeSpec)) fieldsAlikeCard

/-- THE TIED CARD OF 'gatehouselaw10.FieldsTokens'. -/
def fieldsTokensCard : Claim7 := { stood := { row := fieldsTokensRow, standIns := [], harness := (true, "87296a93801e0d00db45d4b56ea6a5de3d8efcc98df23122f937ea2c3a4159f7"), looks := true }, kinds := [], alts := [], laidByText := true, laidKinds := [.data, .data, .data, .data, .sentinel, .sentinel, .pinned], laidTests := true, laidLooks := .later }
def FieldsTokensCardSaid : Prop := Claim7.holds Tryd.pinned (.plain (OpenSpec.ofChange fieldsTokensSpec)) fieldsTokensCard

/-- THE TIED CARD OF 'gatehouselaw10.FieldsJoined'. -/
def fieldsJoinedCard : Claim7 := { stood := { row := fieldsJoinedRow, standIns := [], harness := (true, "87296a93801e0d00db45d4b56ea6a5de3d8efcc98df23122f937ea2c3a4159f7"), looks := true }, kinds := [], alts := [], laidByText := true, laidKinds := [.data, .data, .data, .data, .sentinel, .sentinel, .pinned], laidTests := true, laidLooks := .later }
def FieldsJoinedCardSaid : Prop := Claim7.holds Tryd.pinned (.plain (OpenSpec.ofChange fieldsJoinedSpec)) fieldsJoinedCard

/-- THE TIED CARD OF 'gatehouselaw10.FieldsTags'. -/
def fieldsTagsCard : Claim7 := { stood := { row := fieldsTagsRow, standIns := [], harness := (true, "87296a93801e0d00db45d4b56ea6a5de3d8efcc98df23122f937ea2c3a4159f7"), looks := true }, kinds := [], alts := [], laidByText := true, laidKinds := [.data, .data, .data, .data, .sentinel, .sentinel, .pinned], laidTests := true, laidLooks := .later }
def FieldsTagsCardSaid : Prop := Claim7.holds Tryd.pinned (.plain (OpenSpec.ofChange fieldsTagsSpec)) fieldsTagsCard

/-- THE TIED CARD OF 'gatehouselaw22.PoolPrivate'. -/
def poolPrivateCard : Claim7 := { stood := { row := poolPrivateRow, standIns := [], harness := (true, "87296a93801e0d00db45d4b56ea6a5de3d8efcc98df23122f937ea2c3a4159f7"), looks := true }, kinds := [], alts := [], laidByText := true, laidKinds := [.data, .data, .data, .data, .pinned], laidTests := true, laidLooks := .later }
def PoolPrivateCardSaid : Prop := Claim7.holds Tryd.pinned (.plain (OpenSpec.ofChange poolPrivateSpec)) poolPrivateCard

/-- THE SECOND FORM's CARD OF 'gatehouselaw10.FieldsSpans'. -/
def fieldsSpansUptoCard : Claim7 := { stood := { row := fieldsSpansUptoRow, standIns := [], harness := (true, "87296a93801e0d00db45d4b56ea6a5de3d8efcc98df23122f937ea2c3a4159f7"), looks := true }, kinds := [], alts := [], laidByText := true, laidKinds := [.data, .data, .data, .data, .sentinel, .sentinel, .pinned], laidTests := true, laidLooks := .later }
def FieldsSpansUptoCardSaid : Prop := Claim7.holds Tryd.pinned (.plain (OpenSpec.upto fieldsSpansSpec)) fieldsSpansUptoCard

/-- THE SECOND FORM's CARD OF 'gatehouselaw10.FieldsAlike'. -/
def fieldsAlikeUptoCard : Claim7 := { stood := { row := fieldsAlikeUptoRow, standIns := [], harness := (true, "87296a93801e0d00db45d4b56ea6a5de3d8efcc98df23122f937ea2c3a4159f7"), looks := true }, kinds := [], alts := [], laidByText := true, laidKinds := [.data, .data, .data, .data, .sentinel, .sentinel, .pinned], laidTests := true, laidLooks := .later }
def FieldsAlikeUptoCardSaid : Prop := Claim7.holds Tryd.pinned (.plain (OpenSpec.upto fieldsAlikeSpec)) fieldsAlikeUptoCard

/-- THE SECOND FORM's CARD OF 'gatehouselaw10.FieldsTokens'. -/
def fieldsTokensUptoCard : Claim7 := { stood := { row := fieldsTokensUptoRow, standIns := [], harness := (true, "87296a93801e0d00db45d4b56ea6a5de3d8efcc98df23122f937ea2c3a4159f7"), looks := true }, kinds := [], alts := [], laidByText := true, laidKinds := [.data, .data, .data, .data, .sentinel, .sentinel, .pinned], laidTests := true, laidLooks := .later }
def FieldsTokensUptoCardSaid : Prop := Claim7.holds Tryd.pinned (.plain (OpenSpec.upto fieldsTokensSpec)) fieldsTokensUptoCard

/-- THE SECOND FORM's CARD OF 'gatehouselaw10.FieldsJoined'. -/
def fieldsJoinedUptoCard : Claim7 := { stood := { row := fieldsJoinedUptoRow, standIns := [], harness := (true, "87296a93801e0d00db45d4b56ea6a5de3d8efcc98df23122f937ea2c3a4159f7"), looks := true }, kinds := [], alts := [], laidByText := true, laidKinds := [.data, .data, .data, .data, .sentinel, .sentinel, .pinned], laidTests := true, laidLooks := .later }
def FieldsJoinedUptoCardSaid : Prop := Claim7.holds Tryd.pinned (.plain (OpenSpec.upto fieldsJoinedSpec)) fieldsJoinedUptoCard

/-- THE SECOND FORM's CARD OF 'gatehouselaw10.FieldsTags'. -/
def fieldsTagsUptoCard : Claim7 := { stood := { row := fieldsTagsUptoRow, standIns := [], harness := (true, "87296a93801e0d00db45d4b56ea6a5de3d8efcc98df23122f937ea2c3a4159f7"), looks := true }, kinds := [], alts := [], laidByText := true, laidKinds := [.data, .data, .data, .data, .sentinel, .sentinel, .pinned], laidTests := true, laidLooks := .later }
def FieldsTagsUptoCardSaid : Prop := Claim7.holds Tryd.pinned (.plain (OpenSpec.upto fieldsTagsSpec)) fieldsTagsUptoCard

/-- THE SECOND FORM's CARD OF 'gatehouselaw22.PoolPrivate'. -/
def poolPrivateUptoCard : Claim7 := { stood := { row := poolPrivateUptoRow, standIns := [], harness := (true, "87296a93801e0d00db45d4b56ea6a5de3d8efcc98df23122f937ea2c3a4159f7"), looks := true }, kinds := [], alts := [], laidByText := true, laidKinds := [.data, .data, .data, .data, .pinned], laidTests := true, laidLooks := .later }
def PoolPrivateUptoCardSaid : Prop := Claim7.holds Tryd.pinned (.plain (OpenSpec.upto poolPrivateSpec)) poolPrivateUptoCard
end Rows
end Go.Proofs.YtcigoifhcfbcdaaDoor
