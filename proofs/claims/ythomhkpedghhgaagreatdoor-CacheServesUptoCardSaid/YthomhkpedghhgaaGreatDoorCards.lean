/-
  DERIVED. GIVEN WITH THE SEED: THE CARDS: each row of YthomhkpedghhgaaGreatDoorRows.lean that lists a variable, with what it lists TIED to the program's text (the seventh form; the later family's looks); each row that meets fmt, with fmt's text TOLD by the authors' own Lean function (tested against real Go, not proved from fmt's source: count such statements apart). THE CARD IS WHAT COUNTS. Prove the row's statement (the work); the ties are given (YthomhkpedghhgaaGreatDoorTie.lean); close each card by the builder's one call (the guide's Derived/Test/ToyasCard.lean, 'card_holds'). Laid BY PROGRAM, IN A SANDBOX (cutbox-door.mjs). By AI agents, Wed Nov 11 2026. No macro, syntax, notation, axiom, sorry.
-/
import Derived.Test.YthomhkpedghhgaaGreatDoorRows
import GoSem.ClaimSeven
namespace Go.Proofs.YthomhkpedghhgaaGreatDoor
namespace Rows

/-- THE TIED CARD OF 'gatehouselaw23.CacheServes'. -/
def cacheServesCard : Claim7 := { stood := { row := cacheServesRow, standIns := [], harness := (true, "1c983aba263685fff6ebedb0e972c4f281b075aaad7aa71c252e14db1da2212f"), looks := true }, kinds := [], alts := [], laidByText := true, laidKinds := [.data, .data, .data, .data, .sentinel, .sentinel, .pinned], laidTests := true, laidLooks := .later }
def CacheServesCardSaid : Prop := Claim7.holds Tryz.pinned (.plain (OpenSpec.ofChange cacheServesSpec)) cacheServesCard

/-- THE TIED CARD OF 'gatehouselaw23.CacheRules'. -/
def cacheRulesCard : Claim7 := { stood := { row := cacheRulesRow, standIns := [], harness := (true, "1c983aba263685fff6ebedb0e972c4f281b075aaad7aa71c252e14db1da2212f"), looks := true }, kinds := [], alts := [], laidByText := true, laidKinds := [.data, .data, .data, .data, .sentinel, .sentinel, .pinned], laidTests := true, laidLooks := .later }
def CacheRulesCardSaid : Prop := Claim7.holds Tryz.pinned (.plain (OpenSpec.ofChange cacheRulesSpec)) cacheRulesCard

/-- THE TIED CARD OF 'gatehouselaw23.CacheNil'. -/
def cacheNilCard : Claim7 := { stood := { row := cacheNilRow, standIns := [], harness := (true, "1c983aba263685fff6ebedb0e972c4f281b075aaad7aa71c252e14db1da2212f"), looks := true }, kinds := [], alts := [], laidByText := true, laidKinds := [.data, .data, .data, .data, .sentinel, .sentinel, .pinned], laidTests := true, laidLooks := .later }
def CacheNilCardSaid : Prop := Claim7.holds Tryz.pinned (.plain (OpenSpec.ofChange cacheNilSpec)) cacheNilCard

/-- THE TIED CARD OF 'gatehouselaw23.CacheBound'. -/
def cacheBoundCard : Claim7 := { stood := { row := cacheBoundRow, standIns := [], harness := (true, "1c983aba263685fff6ebedb0e972c4f281b075aaad7aa71c252e14db1da2212f"), looks := true }, kinds := [], alts := [], laidByText := true, laidKinds := [.data, .data, .data, .data, .sentinel, .sentinel, .pinned], laidTests := true, laidLooks := .later }
def CacheBoundCardSaid : Prop := Claim7.holds Tryz.pinned (.plain (OpenSpec.ofChange cacheBoundSpec)) cacheBoundCard

/-- THE SECOND FORM's CARD OF 'gatehouselaw23.CacheServes'. -/
def cacheServesUptoCard : Claim7 := { stood := { row := cacheServesUptoRow, standIns := [], harness := (true, "1c983aba263685fff6ebedb0e972c4f281b075aaad7aa71c252e14db1da2212f"), looks := true }, kinds := [], alts := [], laidByText := true, laidKinds := [.data, .data, .data, .data, .sentinel, .sentinel, .pinned], laidTests := true, laidLooks := .later }
def CacheServesUptoCardSaid : Prop := Claim7.holds Tryz.pinned (.plain (OpenSpec.upto cacheServesSpec)) cacheServesUptoCard

/-- THE SECOND FORM's CARD OF 'gatehouselaw23.CacheRules'. -/
def cacheRulesUptoCard : Claim7 := { stood := { row := cacheRulesUptoRow, standIns := [], harness := (true, "1c983aba263685fff6ebedb0e972c4f281b075aaad7aa71c252e14db1da2212f"), looks := true }, kinds := [], alts := [], laidByText := true, laidKinds := [.data, .data, .data, .data, .sentinel, .sentinel, .pinned], laidTests := true, laidLooks := .later }
def CacheRulesUptoCardSaid : Prop := Claim7.holds Tryz.pinned (.plain (OpenSpec.upto cacheRulesSpec)) cacheRulesUptoCard

/-- THE SECOND FORM's CARD OF 'gatehouselaw23.CacheNil'. -/
def cacheNilUptoCard : Claim7 := { stood := { row := cacheNilUptoRow, standIns := [], harness := (true, "1c983aba263685fff6ebedb0e972c4f281b075aaad7aa71c252e14db1da2212f"), looks := true }, kinds := [], alts := [], laidByText := true, laidKinds := [.data, .data, .data, .data, .sentinel, .sentinel, .pinned], laidTests := true, laidLooks := .later }
def CacheNilUptoCardSaid : Prop := Claim7.holds Tryz.pinned (.plain (OpenSpec.upto cacheNilSpec)) cacheNilUptoCard

/-- THE SECOND FORM's CARD OF 'gatehouselaw23.CacheBound'. -/
def cacheBoundUptoCard : Claim7 := { stood := { row := cacheBoundUptoRow, standIns := [], harness := (true, "1c983aba263685fff6ebedb0e972c4f281b075aaad7aa71c252e14db1da2212f"), looks := true }, kinds := [], alts := [], laidByText := true, laidKinds := [.data, .data, .data, .data, .sentinel, .sentinel, .pinned], laidTests := true, laidLooks := .later }
def CacheBoundUptoCardSaid : Prop := Claim7.holds Tryz.pinned (.plain (OpenSpec.upto cacheBoundSpec)) cacheBoundUptoCard
end Rows
end Go.Proofs.YthomhkpedghhgaaGreatDoor
