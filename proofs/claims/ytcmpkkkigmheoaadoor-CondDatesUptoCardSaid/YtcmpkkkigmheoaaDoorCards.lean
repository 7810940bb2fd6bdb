/-
  DERIVED. GIVEN WITH THE SEED: THE CARDS: each row of YtcmpkkkigmheoaaDoorRows.lean that lists a variable, with what it lists TIED to the program's text (the seventh form; the later family's looks); each row that meets fmt, with fmt's text TOLD by the authors' own Lean function (tested against real Go, not proved from fmt's source: count such statements apart). THE CARD IS WHAT COUNTS. Prove the row's statement (the work); the ties are given (YtcmpkkkigmheoaaDoorTie.lean); close each card by the builder's one call (the guide's Derived/Test/ToyasCard.lean, 'card_holds'). Laid BY PROGRAM, IN A SANDBOX (cutbox-door.mjs). By AI agents, Wed Nov 11 2026. No macro, syntax, notation, axiom, sorry.
-/
import Derived.Test.YtcmpkkkigmheoaaDoorRows
import GoSem.ClaimSeven
namespace Go.Proofs.YtcmpkkkigmheoaaDoor
namespace Rows

/-- THE TIED CARD OF 'gatehouselaw16.CondOrder'. -/
def condOrderCard : Claim7 := { stood := { row := condOrderRow, standIns := [], harness := (true, "6530b07acbbab7381b1acac2c718c672dbf88b0876b61ee4488f965e773fe33f"), looks := false }, kinds := [], alts := [], laidByText := true, laidKinds := [.data, .pinned], laidTests := true, laidLooks := .later }
def CondOrderCardSaid : Prop := Claim7.holds Tryd.pinned (.plain (OpenSpec.ofChange condOrderSpec)) condOrderCard

/-- THE TIED CARD OF 'gatehouselaw16.CondOwn'. -/
def condOwnCard : Claim7 := { stood := { row := condOwnRow, standIns := [], harness := (true, "6530b07acbbab7381b1acac2c718c672dbf88b0876b61ee4488f965e773fe33f"), looks := false }, kinds := [], alts := [], laidByText := true, laidKinds := [.data, .pinned], laidTests := true, laidLooks := .later }
def CondOwnCardSaid : Prop := Claim7.holds Tryd.pinned (.plain (OpenSpec.ofChange condOwnSpec)) condOwnCard

/-- THE TIED CARD OF 'gatehouselaw16.CondDates'. -/
def condDatesCard : Claim7 := { stood := { row := condDatesRow, standIns := [], harness := (true, "6530b07acbbab7381b1acac2c718c672dbf88b0876b61ee4488f965e773fe33f"), looks := false }, kinds := [], alts := [], laidByText := true, laidKinds := [.data, .pinned], laidTests := true, laidLooks := .later }
def CondDatesCardSaid : Prop := Claim7.holds Tryd.pinned (.plain (OpenSpec.ofChange condDatesSpec)) condDatesCard

/-- THE TIED CARD OF 'gatehouselaw16.CondMethods'. -/
def condMethodsCard : Claim7 := { stood := { row := condMethodsRow, standIns := [], harness := (true, "6530b07acbbab7381b1acac2c718c672dbf88b0876b61ee4488f965e773fe33f"), looks := false }, kinds := [], alts := [], laidByText := true, laidKinds := [.data, .pinned], laidTests := true, laidLooks := .later }
def CondMethodsCardSaid : Prop := Claim7.holds Tryd.pinned (.plain (OpenSpec.ofChange condMethodsSpec)) condMethodsCard

/-- THE SECOND FORM's CARD OF 'gatehouselaw16.CondOrder'. -/
def condOrderUptoCard : Claim7 := { stood := { row := condOrderUptoRow, standIns := [], harness := (true, "6530b07acbbab7381b1acac2c718c672dbf88b0876b61ee4488f965e773fe33f"), looks := false }, kinds := [], alts := [], laidByText := true, laidKinds := [.data, .pinned], laidTests := true, laidLooks := .later }
def CondOrderUptoCardSaid : Prop := Claim7.holds Tryd.pinned (.plain (OpenSpec.upto condOrderSpec)) condOrderUptoCard

/-- THE SECOND FORM's CARD OF 'gatehouselaw16.CondOwn'. -/
def condOwnUptoCard : Claim7 := { stood := { row := condOwnUptoRow, standIns := [], harness := (true, "6530b07acbbab7381b1acac2c718c672dbf88b0876b61ee4488f965e773fe33f"), looks := false }, kinds := [], alts := [], laidByText := true, laidKinds := [.data, .pinned], laidTests := true, laidLooks := .later }
def CondOwnUptoCardSaid : Prop := Claim7.holds Tryd.pinned (.plain (OpenSpec.upto condOwnSpec)) condOwnUptoCard

/-- THE SECOND FORM's CARD OF 'gatehouselaw16.CondDates'. -/
def condDatesUptoCard : Claim7 := { stood := { row := condDatesUptoRow, standIns := [], harness := (true, "6530b07acbbab7381b1acac2c718c672dbf88b0876b61ee4488f965e773fe33f"), looks := false }, kinds := [], alts := [], laidByText := true, laidKinds := [.data, .pinned], laidTests := true, laidLooks := .later }
def CondDatesUptoCardSaid : Prop := Claim7.holds Tryd.pinned (.plain (OpenSpec.upto condDatesSpec)) condDatesUptoCard

/-- THE SECOND FORM's CARD OF 'gatehouselaw16.CondMethods'. -/
def condMethodsUptoCard : Claim7 := { stood := { row := condMethodsUptoRow, standIns := [], harness := (true, "6530b07acbbab7381b1acac2c718c672dbf88b0876b61ee4488f965e773fe33f"), looks := false }, kinds := [], alts := [], laidByText := true, laidKinds := [.data, .pinned], laidTests := true, laidLooks := .later }
def CondMethodsUptoCardSaid : Prop := Claim7.holds Tryd.pinned (.plain (OpenSpec.upto condMethodsSpec)) condMethodsUptoCard
end Rows
end Go.Proofs.YtcmpkkkigmheoaaDoor
