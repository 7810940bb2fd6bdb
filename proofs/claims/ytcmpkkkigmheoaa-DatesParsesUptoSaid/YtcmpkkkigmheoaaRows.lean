/-
  No cell of these rows narrows 'for every input' (looked for: loops, veiled, ifaces, maps, wideKeys, modest, calm, conditions, laid).
  DERIVED. THE GIVEN ROWS OF THIS SEAT. 6 by the template 'for every input the law returns true; each argument reads behind the call as it read before'; 0 by the template 'total and deterministic' (their statements: YtcmpkkkigmheoaaTotals.lean).
  GIVEN WITH THE SEED: the statements are not yours to turn. If you find one false, say at which input.
  Laid BY PROGRAM, IN A SANDBOX (cutbox-rows.mjs): the forced cells as the released guide's own fill.sh prints them over the translation 97032061714d3b93… (all of the seat's roots in one cut). By AI agents, Wed Nov 11 2026. No macro, syntax, notation, axiom, sorry.
-/
import Derived.Test.YtcmpkkkigmheoaaChecked
import GoSem.Claim
import GoSem.ClaimJoined
import GoSem.ClaimMapViews
import Derived.JoinedTies
import Derived.KernelRfl
namespace Go.Proofs.Ytcmpkkkigmheoaa
/- THE CELL 'sum', in the pinned program and in every row, IS THE sha256 OF THE DUMP (.gsa) THAT YtcmpkkkigmheoaaProg.lean LOADS. Nothing in Lean hashes anything: it is a label: what it is worth is what the hold of that sum in a sandbox is worth. -/
noncomputable def Try.pinned : Pinned := { name := "ytcmpkkkigmheoaa", sum := "97032061714d3b93e7a7153fec8caecbc4a0a2a9947324562d5ac4f59a270fa3", checked := Try.checked }
namespace Rows
def none {H : Type} : Left H := { results := [], args := [] }

/-- 'gatehouselaw09.DatesSplit': WHATEVER THE INPUT: true; the input reads as it did. -/
def datesSplitSpec : ChangeSpec := { name := "datesSplit", fn := fun _ => fun
  | [d1, d2] => { results := [.lit (.bool true)], args := [d1, d2] }
  | _ => none }
def datesSplitRow : OpenClaim := { program := "ytcmpkkkigmheoaa", sum := "97032061714d3b93e7a7153fec8caecbc4a0a2a9947324562d5ac4f59a270fa3", func := "gatehouse/gatehouselaw09.DatesSplit", spec := "datesSplit", inPlace := ["internal/bytealg.IndexByteString"], unfollowed := true, recurses := true, apart := false }
def DatesSplitSaid : Prop := datesSplitRow.holds Try.pinned (OpenSpec.ofChange datesSplitSpec)

/-- ITS FALSE NEIGHBOUR: 'it returns false'. Refute it at one input. -/
def datesSplitWrong : ChangeSpec := { name := "datesSplit", fn := fun _ => fun
  | [d1, d2] => { results := [.lit (.bool false)], args := [d1, d2] }
  | _ => none }
def DatesSplitWrongFalsely : Prop := datesSplitRow.holds Try.pinned (OpenSpec.ofChange datesSplitWrong)

/-- 'gatehouselaw09.DatesFormats': WHATEVER THE INPUT: true; the input reads as it did. -/
def datesFormatsSpec : ChangeSpec := { name := "datesFormats", fn := fun _ => fun
  | [d] => { results := [.lit (.bool true)], args := [d] }
  | _ => none }
def datesFormatsRow : OpenClaim := { program := "ytcmpkkkigmheoaa", sum := "97032061714d3b93e7a7153fec8caecbc4a0a2a9947324562d5ac4f59a270fa3", func := "gatehouse/gatehouselaw09.DatesFormats", spec := "datesFormats", inPlace := ["internal/bytealg.IndexByteString"], unfollowed := true, recurses := true, apart := false }
def DatesFormatsSaid : Prop := datesFormatsRow.holds Try.pinned (OpenSpec.ofChange datesFormatsSpec)

/-- ITS FALSE NEIGHBOUR: 'it returns false'. Refute it at one input. -/
def datesFormatsWrong : ChangeSpec := { name := "datesFormats", fn := fun _ => fun
  | [d] => { results := [.lit (.bool false)], args := [d] }
  | _ => none }
def DatesFormatsWrongFalsely : Prop := datesFormatsRow.holds Try.pinned (OpenSpec.ofChange datesFormatsWrong)

/-- 'gatehouselaw09.DatesParses': WHATEVER THE INPUT: true; the input reads as it did. -/
def datesParsesSpec : ChangeSpec := { name := "datesParses", fn := fun _ => fun
  | [d1, d2] => { results := [.lit (.bool true)], args := [d1, d2] }
  | _ => none }
def datesParsesRow : OpenClaim := { program := "ytcmpkkkigmheoaa", sum := "97032061714d3b93e7a7153fec8caecbc4a0a2a9947324562d5ac4f59a270fa3", func := "gatehouse/gatehouselaw09.DatesParses", spec := "datesParses", inPlace := ["internal/bytealg.IndexByteString"], unfollowed := true, recurses := true, apart := false }
def DatesParsesSaid : Prop := datesParsesRow.holds Try.pinned (OpenSpec.ofChange datesParsesSpec)

/-- ITS FALSE NEIGHBOUR: 'it returns false'. Refute it at one input. -/
def datesParsesWrong : ChangeSpec := { name := "datesParses", fn := fun _ => fun
  | [d1, d2] => { results := [.lit (.bool false)], args := [d1, d2] }
  | _ => none }
def DatesParsesWrongFalsely : Prop := datesParsesRow.holds Try.pinned (OpenSpec.ofChange datesParsesWrong)

/-- 'gatehouselaw09.DatesBack': WHATEVER THE INPUT: true; the input reads as it did. -/
def datesBackSpec : ChangeSpec := { name := "datesBack", fn := fun _ => fun
  | [d1, d2] => { results := [.lit (.bool true)], args := [d1, d2] }
  | _ => none }
def datesBackRow : OpenClaim := { program := "ytcmpkkkigmheoaa", sum := "97032061714d3b93e7a7153fec8caecbc4a0a2a9947324562d5ac4f59a270fa3", func := "gatehouse/gatehouselaw09.DatesBack", spec := "datesBack", inPlace := ["internal/bytealg.IndexByteString"], unfollowed := true, recurses := true, apart := false }
def DatesBackSaid : Prop := datesBackRow.holds Try.pinned (OpenSpec.ofChange datesBackSpec)

/-- ITS FALSE NEIGHBOUR: 'it returns false'. Refute it at one input. -/
def datesBackWrong : ChangeSpec := { name := "datesBack", fn := fun _ => fun
  | [d1, d2] => { results := [.lit (.bool false)], args := [d1, d2] }
  | _ => none }
def DatesBackWrongFalsely : Prop := datesBackRow.holds Try.pinned (OpenSpec.ofChange datesBackWrong)

/-- 'gatehouselaw09.DatesDays': WHATEVER THE INPUT: true; the input reads as it did. -/
def datesDaysSpec : ChangeSpec := { name := "datesDays", fn := fun _ => fun
  | [d] => { results := [.lit (.bool true)], args := [d] }
  | _ => none }
def datesDaysRow : OpenClaim := { program := "ytcmpkkkigmheoaa", sum := "97032061714d3b93e7a7153fec8caecbc4a0a2a9947324562d5ac4f59a270fa3", func := "gatehouse/gatehouselaw09.DatesDays", spec := "datesDays", inPlace := ["internal/bytealg.IndexByteString"], unfollowed := true, recurses := true, apart := false }
def DatesDaysSaid : Prop := datesDaysRow.holds Try.pinned (OpenSpec.ofChange datesDaysSpec)

/-- ITS FALSE NEIGHBOUR: 'it returns false'. Refute it at one input. -/
def datesDaysWrong : ChangeSpec := { name := "datesDays", fn := fun _ => fun
  | [d] => { results := [.lit (.bool false)], args := [d] }
  | _ => none }
def DatesDaysWrongFalsely : Prop := datesDaysRow.holds Try.pinned (OpenSpec.ofChange datesDaysWrong)

/-- 'gatehouselaw09.DatesForms': WHATEVER THE INPUT: true; the input reads as it did. -/
def datesFormsSpec : ChangeSpec := { name := "datesForms", fn := fun _ => fun
  | [d1, d2] => { results := [.lit (.bool true)], args := [d1, d2] }
  | _ => none }
def datesFormsRow : OpenClaim := { program := "ytcmpkkkigmheoaa", sum := "97032061714d3b93e7a7153fec8caecbc4a0a2a9947324562d5ac4f59a270fa3", func := "gatehouse/gatehouselaw09.DatesForms", spec := "datesForms", inPlace := ["internal/bytealg.IndexByteString"], unfollowed := true, recurses := true, apart := false }
def DatesFormsSaid : Prop := datesFormsRow.holds Try.pinned (OpenSpec.ofChange datesFormsSpec)

/-- ITS FALSE NEIGHBOUR: 'it returns false'. Refute it at one input. -/
def datesFormsWrong : ChangeSpec := { name := "datesForms", fn := fun _ => fun
  | [d1, d2] => { results := [.lit (.bool false)], args := [d1, d2] }
  | _ => none }
def DatesFormsWrongFalsely : Prop := datesFormsRow.holds Try.pinned (OpenSpec.ofChange datesFormsWrong)

/- THE SECOND FORM. 'bulk': how many values and letters a reading holds, each counted each time it is reached (what is shared counts as often as it is met; a slice's spare places count too). A statement '..UptoSaid' is the law's where the arguments, and the package variables that the reading takes, are together of bulk at most 1048576: NARROWER than '..Said'. Prove '..Said' where nothing that the law and all that it calls make is longer than what came in: it says more and counts as full. Else prove '..UptoSaid'. A law counts once. -/
mutual
def uptoBulk {H : Type} : DataW H → Nat
  | .lit (.string bytes) => bytes.length + 1
  | .lit _ => 1
  | .nil => 1
  | .ptr d => uptoBulk d + 1
  | .slice elems spare => uptoBulkAll elems + uptoBulkAll spare + 1
  | .agg parts => uptoBulkAll parts + 1
  | .iface _ d => uptoBulk d + 1
  | .map entries => uptoBulkEntries entries + 1
  | .held _ => 1
def uptoBulkAll {H : Type} : List (DataW H) → Nat
  | [] => 0
  | d :: r => uptoBulk d + uptoBulkAll r
def uptoBulkEntries {H : Type} : List (Lit × DataW H) → Nat
  | [] => 0
  | x :: r => uptoBulkEntry x + uptoBulkEntries r
def uptoBulkEntry {H : Type} : Lit × DataW H → Nat
  | (.string bytes, d) => bytes.length + uptoBulk d + 1
  | (_, d) => uptoBulk d + 1
 end
def uptoSmall : (H : Type) → List (DataW H) → Bool := fun _ ds => decide (uptoBulkAll ds ≤ 1048576)
def OpenSpec.upto (s : _root_.Go.ChangeSpec) : _root_.Go.OpenSpec := { _root_.Go.OpenSpec.ofChange s with cond := some uptoSmall }

/-- 'gatehouselaw09.DatesSplit', WHERE WHAT IT READS IS OF BULK AT MOST 1048576: true; the input reads as it did. -/
def datesSplitUptoRow : OpenClaim := { program := "ytcmpkkkigmheoaa", sum := "97032061714d3b93e7a7153fec8caecbc4a0a2a9947324562d5ac4f59a270fa3", func := "gatehouse/gatehouselaw09.DatesSplit", spec := "datesSplit", inPlace := ["internal/bytealg.IndexByteString"], unfollowed := true, recurses := true, apart := false, narrowed := true }
def DatesSplitUptoSaid : Prop := datesSplitUptoRow.holds Try.pinned (OpenSpec.upto datesSplitSpec)

/-- 'gatehouselaw09.DatesFormats', WHERE WHAT IT READS IS OF BULK AT MOST 1048576: true; the input reads as it did. -/
def datesFormatsUptoRow : OpenClaim := { program := "ytcmpkkkigmheoaa", sum := "97032061714d3b93e7a7153fec8caecbc4a0a2a9947324562d5ac4f59a270fa3", func := "gatehouse/gatehouselaw09.DatesFormats", spec := "datesFormats", inPlace := ["internal/bytealg.IndexByteString"], unfollowed := true, recurses := true, apart := false, narrowed := true }
def DatesFormatsUptoSaid : Prop := datesFormatsUptoRow.holds Try.pinned (OpenSpec.upto datesFormatsSpec)

/-- 'gatehouselaw09.DatesParses', WHERE WHAT IT READS IS OF BULK AT MOST 1048576: true; the input reads as it did. -/
def datesParsesUptoRow : OpenClaim := { program := "ytcmpkkkigmheoaa", sum := "97032061714d3b93e7a7153fec8caecbc4a0a2a9947324562d5ac4f59a270fa3", func := "gatehouse/gatehouselaw09.DatesParses", spec := "datesParses", inPlace := ["internal/bytealg.IndexByteString"], unfollowed := true, recurses := true, apart := false, narrowed := true }
def DatesParsesUptoSaid : Prop := datesParsesUptoRow.holds Try.pinned (OpenSpec.upto datesParsesSpec)

/-- 'gatehouselaw09.DatesBack', WHERE WHAT IT READS IS OF BULK AT MOST 1048576: true; the input reads as it did. -/
def datesBackUptoRow : OpenClaim := { program := "ytcmpkkkigmheoaa", sum := "97032061714d3b93e7a7153fec8caecbc4a0a2a9947324562d5ac4f59a270fa3", func := "gatehouse/gatehouselaw09.DatesBack", spec := "datesBack", inPlace := ["internal/bytealg.IndexByteString"], unfollowed := true, recurses := true, apart := false, narrowed := true }
def DatesBackUptoSaid : Prop := datesBackUptoRow.holds Try.pinned (OpenSpec.upto datesBackSpec)

/-- 'gatehouselaw09.DatesDays', WHERE WHAT IT READS IS OF BULK AT MOST 1048576: true; the input reads as it did. -/
def datesDaysUptoRow : OpenClaim := { program := "ytcmpkkkigmheoaa", sum := "97032061714d3b93e7a7153fec8caecbc4a0a2a9947324562d5ac4f59a270fa3", func := "gatehouse/gatehouselaw09.DatesDays", spec := "datesDays", inPlace := ["internal/bytealg.IndexByteString"], unfollowed := true, recurses := true, apart := false, narrowed := true }
def DatesDaysUptoSaid : Prop := datesDaysUptoRow.holds Try.pinned (OpenSpec.upto datesDaysSpec)

/-- 'gatehouselaw09.DatesForms', WHERE WHAT IT READS IS OF BULK AT MOST 1048576: true; the input reads as it did. -/
def datesFormsUptoRow : OpenClaim := { program := "ytcmpkkkigmheoaa", sum := "97032061714d3b93e7a7153fec8caecbc4a0a2a9947324562d5ac4f59a270fa3", func := "gatehouse/gatehouselaw09.DatesForms", spec := "datesForms", inPlace := ["internal/bytealg.IndexByteString"], unfollowed := true, recurses := true, apart := false, narrowed := true }
def DatesFormsUptoSaid : Prop := datesFormsUptoRow.holds Try.pinned (OpenSpec.upto datesFormsSpec)

end Rows
end Go.Proofs.Ytcmpkkkigmheoaa
