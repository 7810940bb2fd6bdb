/-
  No cell of these rows narrows 'for every input' (looked for: loops, veiled, ifaces, maps, wideKeys, modest, calm, conditions, laid).
  DERIVED. THE GIVEN ROWS OF THIS SEAT. 12 by the template 'for every input the law returns true; each argument reads behind the call as it read before'; 0 by the template 'total and deterministic' (their statements: YtehfblkpbadikaaTotals.lean).
  GIVEN WITH THE SEED: the statements are not yours to turn. If you find one false, say at which input.
  Laid BY PROGRAM, IN A SANDBOX (cutbox-rows.mjs): the forced cells as the released guide's own fill.sh prints them over the translation 751ef94d4860645e… (all of the seat's roots in one cut). By AI agents, Wed Nov 11 2026. No macro, syntax, notation, axiom, sorry.
-/
import Derived.Test.YtehfblkpbadikaaChecked
import GoSem.Claim
import GoSem.ClaimJoined
import GoSem.ClaimMapViews
import Derived.JoinedTies
import Derived.KernelRfl
namespace Go.Proofs.Ytehfblkpbadikaa
/- THE CELL 'sum', in the pinned program and in every row, IS THE sha256 OF THE DUMP (.gsa) THAT YtehfblkpbadikaaProg.lean LOADS. Nothing in Lean hashes anything: it is a label: what it is worth is what the hold of that sum in a sandbox is worth. -/
noncomputable def Try.pinned : Pinned := { name := "ytehfblkpbadikaa", sum := "751ef94d4860645e9ce088a4b02fd4de9350cabedbdb779728c5f77bfa164a67", checked := Try.checked }
namespace Rows
def none {H : Type} : Left H := { results := [], args := [] }

/-- 'gatehouselaw03.HuffLengths': WHATEVER THE INPUT: true; the input reads as it did. -/
def huffLengthsSpec : ChangeSpec := { name := "huffLengths", fn := fun _ => fun
  | [d1, d2] => { results := [.lit (.bool true)], args := [d1, d2] }
  | _ => none }
def huffLengthsRow : OpenClaim := { program := "ytehfblkpbadikaa", sum := "751ef94d4860645e9ce088a4b02fd4de9350cabedbdb779728c5f77bfa164a67", func := "gatehouse/gatehouselaw03.HuffLengths", spec := "huffLengths", unfollowed := true, recurses := true, plainKeys := false, apart := false }
def HuffLengthsSaid : Prop := huffLengthsRow.holds Try.pinned (OpenSpec.ofChange huffLengthsSpec)

/-- ITS FALSE NEIGHBOUR: 'it returns false'. Refute it at one input. -/
def huffLengthsWrong : ChangeSpec := { name := "huffLengths", fn := fun _ => fun
  | [d1, d2] => { results := [.lit (.bool false)], args := [d1, d2] }
  | _ => none }
def HuffLengthsWrongFalsely : Prop := huffLengthsRow.holds Try.pinned (OpenSpec.ofChange huffLengthsWrong)

/-- 'gatehouselaw03.HuffPrefix': WHATEVER THE INPUT: true; the input reads as it did. -/
def huffPrefixSpec : ChangeSpec := { name := "huffPrefix", fn := fun _ => fun
  | [d] => { results := [.lit (.bool true)], args := [d] }
  | _ => none }
def huffPrefixRow : OpenClaim := { program := "ytehfblkpbadikaa", sum := "751ef94d4860645e9ce088a4b02fd4de9350cabedbdb779728c5f77bfa164a67", func := "gatehouse/gatehouselaw03.HuffPrefix", spec := "huffPrefix", unfollowed := true, recurses := true, plainKeys := false, apart := false }
def HuffPrefixSaid : Prop := huffPrefixRow.holds Try.pinned (OpenSpec.ofChange huffPrefixSpec)

/-- ITS FALSE NEIGHBOUR: 'it returns false'. Refute it at one input. -/
def huffPrefixWrong : ChangeSpec := { name := "huffPrefix", fn := fun _ => fun
  | [d] => { results := [.lit (.bool false)], args := [d] }
  | _ => none }
def HuffPrefixWrongFalsely : Prop := huffPrefixRow.holds Try.pinned (OpenSpec.ofChange huffPrefixWrong)

/-- 'gatehouselaw03.HuffCodes': WHATEVER THE INPUT: true; the input reads as it did. -/
def huffCodesSpec : ChangeSpec := { name := "huffCodes", fn := fun _ => fun
  | [d] => { results := [.lit (.bool true)], args := [d] }
  | _ => none }
def huffCodesRow : OpenClaim := { program := "ytehfblkpbadikaa", sum := "751ef94d4860645e9ce088a4b02fd4de9350cabedbdb779728c5f77bfa164a67", func := "gatehouse/gatehouselaw03.HuffCodes", spec := "huffCodes", unfollowed := true, recurses := true, plainKeys := false, apart := false }
def HuffCodesSaid : Prop := huffCodesRow.holds Try.pinned (OpenSpec.ofChange huffCodesSpec)

/-- ITS FALSE NEIGHBOUR: 'it returns false'. Refute it at one input. -/
def huffCodesWrong : ChangeSpec := { name := "huffCodes", fn := fun _ => fun
  | [d] => { results := [.lit (.bool false)], args := [d] }
  | _ => none }
def HuffCodesWrongFalsely : Prop := huffCodesRow.holds Try.pinned (OpenSpec.ofChange huffCodesWrong)

/-- 'gatehouselaw03.HuffBest': WHATEVER THE INPUT: true; the input reads as it did. -/
def huffBestSpec : ChangeSpec := { name := "huffBest", fn := fun _ => fun
  | [d1, d2, d3] => { results := [.lit (.bool true)], args := [d1, d2, d3] }
  | _ => none }
def huffBestRow : OpenClaim := { program := "ytehfblkpbadikaa", sum := "751ef94d4860645e9ce088a4b02fd4de9350cabedbdb779728c5f77bfa164a67", func := "gatehouse/gatehouselaw03.HuffBest", spec := "huffBest", unfollowed := true, recurses := true, plainKeys := false, apart := false }
def HuffBestSaid : Prop := huffBestRow.holds Try.pinned (OpenSpec.ofChange huffBestSpec)

/-- ITS FALSE NEIGHBOUR: 'it returns false'. Refute it at one input. -/
def huffBestWrong : ChangeSpec := { name := "huffBest", fn := fun _ => fun
  | [d1, d2, d3] => { results := [.lit (.bool false)], args := [d1, d2, d3] }
  | _ => none }
def HuffBestWrongFalsely : Prop := huffBestRow.holds Try.pinned (OpenSpec.ofChange huffBestWrong)

/-- 'gatehouselaw05.InflateEnds': WHATEVER THE INPUT: true; the input reads as it did. -/
def inflateEndsSpec : ChangeSpec := { name := "inflateEnds", fn := fun _ => fun
  | [d1, d2, d3] => { results := [.lit (.bool true)], args := [d1, d2, d3] }
  | _ => none }
def inflateEndsRow : OpenClaim := { program := "ytehfblkpbadikaa", sum := "751ef94d4860645e9ce088a4b02fd4de9350cabedbdb779728c5f77bfa164a67", func := "gatehouse/gatehouselaw05.InflateEnds", spec := "inflateEnds", unfollowed := true, recurses := true, plainKeys := false, apart := false }
def InflateEndsSaid : Prop := inflateEndsRow.holds Try.pinned (OpenSpec.ofChange inflateEndsSpec)

/-- ITS FALSE NEIGHBOUR: 'it returns false'. Refute it at one input. -/
def inflateEndsWrong : ChangeSpec := { name := "inflateEnds", fn := fun _ => fun
  | [d1, d2, d3] => { results := [.lit (.bool false)], args := [d1, d2, d3] }
  | _ => none }
def InflateEndsWrongFalsely : Prop := inflateEndsRow.holds Try.pinned (OpenSpec.ofChange inflateEndsWrong)

/-- 'gatehouselaw05.InflateMost': WHATEVER THE INPUT: true; the input reads as it did. -/
def inflateMostSpec : ChangeSpec := { name := "inflateMost", fn := fun _ => fun
  | [d1, d2] => { results := [.lit (.bool true)], args := [d1, d2] }
  | _ => none }
def inflateMostRow : OpenClaim := { program := "ytehfblkpbadikaa", sum := "751ef94d4860645e9ce088a4b02fd4de9350cabedbdb779728c5f77bfa164a67", func := "gatehouse/gatehouselaw05.InflateMost", spec := "inflateMost", unfollowed := true, recurses := true, plainKeys := false, apart := false }
def InflateMostSaid : Prop := inflateMostRow.holds Try.pinned (OpenSpec.ofChange inflateMostSpec)

/-- ITS FALSE NEIGHBOUR: 'it returns false'. Refute it at one input. -/
def inflateMostWrong : ChangeSpec := { name := "inflateMost", fn := fun _ => fun
  | [d1, d2] => { results := [.lit (.bool false)], args := [d1, d2] }
  | _ => none }
def InflateMostWrongFalsely : Prop := inflateMostRow.holds Try.pinned (OpenSpec.ofChange inflateMostWrong)

/-- 'gatehouselaw05.InflateStored': WHATEVER THE INPUT: true; the input reads as it did. -/
def inflateStoredSpec : ChangeSpec := { name := "inflateStored", fn := fun _ => fun
  | [d] => { results := [.lit (.bool true)], args := [d] }
  | _ => none }
def inflateStoredRow : OpenClaim := { program := "ytehfblkpbadikaa", sum := "751ef94d4860645e9ce088a4b02fd4de9350cabedbdb779728c5f77bfa164a67", func := "gatehouse/gatehouselaw05.InflateStored", spec := "inflateStored", unfollowed := true, recurses := true, plainKeys := false, apart := false }
def InflateStoredSaid : Prop := inflateStoredRow.holds Try.pinned (OpenSpec.ofChange inflateStoredSpec)

/-- ITS FALSE NEIGHBOUR: 'it returns false'. Refute it at one input. -/
def inflateStoredWrong : ChangeSpec := { name := "inflateStored", fn := fun _ => fun
  | [d] => { results := [.lit (.bool false)], args := [d] }
  | _ => none }
def InflateStoredWrongFalsely : Prop := inflateStoredRow.holds Try.pinned (OpenSpec.ofChange inflateStoredWrong)

/-- 'gatehouselaw05.InflateBlocks': WHATEVER THE INPUT: true; the input reads as it did. -/
def inflateBlocksSpec : ChangeSpec := { name := "inflateBlocks", fn := fun _ => fun
  | [d1, d2] => { results := [.lit (.bool true)], args := [d1, d2] }
  | _ => none }
def inflateBlocksRow : OpenClaim := { program := "ytehfblkpbadikaa", sum := "751ef94d4860645e9ce088a4b02fd4de9350cabedbdb779728c5f77bfa164a67", func := "gatehouse/gatehouselaw05.InflateBlocks", spec := "inflateBlocks", unfollowed := true, recurses := true, plainKeys := false, apart := false }
def InflateBlocksSaid : Prop := inflateBlocksRow.holds Try.pinned (OpenSpec.ofChange inflateBlocksSpec)

/-- ITS FALSE NEIGHBOUR: 'it returns false'. Refute it at one input. -/
def inflateBlocksWrong : ChangeSpec := { name := "inflateBlocks", fn := fun _ => fun
  | [d1, d2] => { results := [.lit (.bool false)], args := [d1, d2] }
  | _ => none }
def InflateBlocksWrongFalsely : Prop := inflateBlocksRow.holds Try.pinned (OpenSpec.ofChange inflateBlocksWrong)

/-- 'gatehouselaw03.HuffPuts': WHATEVER THE INPUT: true; the input reads as it did. -/
def huffPutsSpec : ChangeSpec := { name := "huffPuts", fn := fun _ => fun
  | [d1, d2, d3] => { results := [.lit (.bool true)], args := [d1, d2, d3] }
  | _ => none }
def huffPutsRow : OpenClaim := { program := "ytehfblkpbadikaa", sum := "751ef94d4860645e9ce088a4b02fd4de9350cabedbdb779728c5f77bfa164a67", func := "gatehouse/gatehouselaw03.HuffPuts", spec := "huffPuts", unfollowed := true, recurses := true, plainKeys := false, apart := false }
def HuffPutsSaid : Prop := huffPutsRow.holds Try.pinned (OpenSpec.ofChange huffPutsSpec)

/-- ITS FALSE NEIGHBOUR: 'it returns false'. Refute it at one input. -/
def huffPutsWrong : ChangeSpec := { name := "huffPuts", fn := fun _ => fun
  | [d1, d2, d3] => { results := [.lit (.bool false)], args := [d1, d2, d3] }
  | _ => none }
def HuffPutsWrongFalsely : Prop := huffPutsRow.holds Try.pinned (OpenSpec.ofChange huffPutsWrong)

/-- 'gatehouselaw03.HuffReads': WHATEVER THE INPUT: true; the input reads as it did. -/
def huffReadsSpec : ChangeSpec := { name := "huffReads", fn := fun _ => fun
  | [d1, d2, d3] => { results := [.lit (.bool true)], args := [d1, d2, d3] }
  | _ => none }
def huffReadsRow : OpenClaim := { program := "ytehfblkpbadikaa", sum := "751ef94d4860645e9ce088a4b02fd4de9350cabedbdb779728c5f77bfa164a67", func := "gatehouse/gatehouselaw03.HuffReads", spec := "huffReads", unfollowed := true, recurses := true, plainKeys := false, apart := false }
def HuffReadsSaid : Prop := huffReadsRow.holds Try.pinned (OpenSpec.ofChange huffReadsSpec)

/-- ITS FALSE NEIGHBOUR: 'it returns false'. Refute it at one input. -/
def huffReadsWrong : ChangeSpec := { name := "huffReads", fn := fun _ => fun
  | [d1, d2, d3] => { results := [.lit (.bool false)], args := [d1, d2, d3] }
  | _ => none }
def HuffReadsWrongFalsely : Prop := huffReadsRow.holds Try.pinned (OpenSpec.ofChange huffReadsWrong)

/-- 'gatehouselaw03.HuffNil': WHATEVER THE INPUT: true; the input reads as it did. -/
def huffNilSpec : ChangeSpec := { name := "huffNil", fn := fun _ => fun
  | [d1, d2] => { results := [.lit (.bool true)], args := [d1, d2] }
  | _ => none }
def huffNilRow : OpenClaim := { program := "ytehfblkpbadikaa", sum := "751ef94d4860645e9ce088a4b02fd4de9350cabedbdb779728c5f77bfa164a67", func := "gatehouse/gatehouselaw03.HuffNil", spec := "huffNil", unfollowed := true, recurses := true, plainKeys := false, apart := false }
def HuffNilSaid : Prop := huffNilRow.holds Try.pinned (OpenSpec.ofChange huffNilSpec)

/-- ITS FALSE NEIGHBOUR: 'it returns false'. Refute it at one input. -/
def huffNilWrong : ChangeSpec := { name := "huffNil", fn := fun _ => fun
  | [d1, d2] => { results := [.lit (.bool false)], args := [d1, d2] }
  | _ => none }
def HuffNilWrongFalsely : Prop := huffNilRow.holds Try.pinned (OpenSpec.ofChange huffNilWrong)

/-- 'gatehouselaw03.HuffDecoded': WHATEVER THE INPUT: true; the input reads as it did. -/
def huffDecodedSpec : ChangeSpec := { name := "huffDecoded", fn := fun _ => fun
  | [d1, d2] => { results := [.lit (.bool true)], args := [d1, d2] }
  | _ => none }
def huffDecodedRow : OpenClaim := { program := "ytehfblkpbadikaa", sum := "751ef94d4860645e9ce088a4b02fd4de9350cabedbdb779728c5f77bfa164a67", func := "gatehouse/gatehouselaw03.HuffDecoded", spec := "huffDecoded", unfollowed := true, recurses := true, plainKeys := false, apart := false }
def HuffDecodedSaid : Prop := huffDecodedRow.holds Try.pinned (OpenSpec.ofChange huffDecodedSpec)

/-- ITS FALSE NEIGHBOUR: 'it returns false'. Refute it at one input. -/
def huffDecodedWrong : ChangeSpec := { name := "huffDecoded", fn := fun _ => fun
  | [d1, d2] => { results := [.lit (.bool false)], args := [d1, d2] }
  | _ => none }
def HuffDecodedWrongFalsely : Prop := huffDecodedRow.holds Try.pinned (OpenSpec.ofChange huffDecodedWrong)

/- THE SECOND FORM. 'bulk': how many values and letters a reading holds, each counted each time it is reached (what is shared counts as often as it is met; a slice's spare places count too). A statement '..UptoSaid' is the law's where the arguments, and the package variables that the reading takes, are together of bulk at most 1048576: NARROWER than '..Said'. Prove '..Said' where nothing that the law and all that it calls make is longer than what came in: it says more and counts as full. Else prove '..UptoSaid'. A law counts once. -/
mutual
def uptoBulk {H : Type} : DataW H → Nat
  | .lit (.string bytes) => bytes.length + 1
  | .lit _ => 1
  | .nil => 1
  | .ptr d => uptoBulk d + 1
  | .slice elems spare => uptoBulkAll elems + uptoBulkAll spare + 1
  | .agg parts => uptoBulkAll parts + 1
  | .iface _ d => uptoBulk d + 1
  | .map entries => uptoBulkEntries entries + 1
  | .held _ => 1
def uptoBulkAll {H : Type} : List (DataW H) → Nat
  | [] => 0
  | d :: r => uptoBulk d + uptoBulkAll r
def uptoBulkEntries {H : Type} : List (Lit × DataW H) → Nat
  | [] => 0
  | x :: r => uptoBulkEntry x + uptoBulkEntries r
def uptoBulkEntry {H : Type} : Lit × DataW H → Nat
  | (.string bytes, d) => bytes.length + uptoBulk d + 1
  | (_, d) => uptoBulk d + 1
 end
def uptoSmall : (H : Type) → List (DataW H) → Bool := fun _ ds => decide (uptoBulkAll ds ≤ 1048576)
def OpenSpec.upto (s : _root_.Go.ChangeSpec) : _root_.Go.OpenSpec := { _root_.Go.OpenSpec.ofChange s with cond := some uptoSmall }

/-- 'gatehouselaw03.HuffLengths', WHERE WHAT IT READS IS OF BULK AT MOST 1048576: true; the input reads as it did. -/
def huffLengthsUptoRow : OpenClaim := { program := "ytehfblkpbadikaa", sum := "751ef94d4860645e9ce088a4b02fd4de9350cabedbdb779728c5f77bfa164a67", func := "gatehouse/gatehouselaw03.HuffLengths", spec := "huffLengths", unfollowed := true, recurses := true, plainKeys := false, apart := false, narrowed := true }
def HuffLengthsUptoSaid : Prop := huffLengthsUptoRow.holds Try.pinned (OpenSpec.upto huffLengthsSpec)

/-- 'gatehouselaw03.HuffPrefix', WHERE WHAT IT READS IS OF BULK AT MOST 1048576: true; the input reads as it did. -/
def huffPrefixUptoRow : OpenClaim := { program := "ytehfblkpbadikaa", sum := "751ef94d4860645e9ce088a4b02fd4de9350cabedbdb779728c5f77bfa164a67", func := "gatehouse/gatehouselaw03.HuffPrefix", spec := "huffPrefix", unfollowed := true, recurses := true, plainKeys := false, apart := false, narrowed := true }
def HuffPrefixUptoSaid : Prop := huffPrefixUptoRow.holds Try.pinned (OpenSpec.upto huffPrefixSpec)

/-- 'gatehouselaw03.HuffCodes', WHERE WHAT IT READS IS OF BULK AT MOST 1048576: true; the input reads as it did. -/
def huffCodesUptoRow : OpenClaim := { program := "ytehfblkpbadikaa", sum := "751ef94d4860645e9ce088a4b02fd4de9350cabedbdb779728c5f77bfa164a67", func := "gatehouse/gatehouselaw03.HuffCodes", spec := "huffCodes", unfollowed := true, recurses := true, plainKeys := false, apart := false, narrowed := true }
def HuffCodesUptoSaid : Prop := huffCodesUptoRow.holds Try.pinned (OpenSpec.upto huffCodesSpec)

/-- 'gatehouselaw03.HuffBest', WHERE WHAT IT READS IS OF BULK AT MOST 1048576: true; the input reads as it did. -/
def huffBestUptoRow : OpenClaim := { program := "ytehfblkpbadikaa", sum := "751ef94d4860645e9ce088a4b02fd4de9350cabedbdb779728c5f77bfa164a67", func := "gatehouse/gatehouselaw03.HuffBest", spec := "huffBest", unfollowed := true, recurses := true, plainKeys := false, apart := false, narrowed := true }
def HuffBestUptoSaid : Prop := huffBestUptoRow.holds Try.pinned (OpenSpec.upto huffBestSpec)

/-- 'gatehouselaw05.InflateEnds', WHERE WHAT IT READS IS OF BULK AT MOST 1048576: true; the input reads as it did. -/
def inflateEndsUptoRow : OpenClaim := { program := "ytehfblkpbadikaa", sum := "751ef94d4860645e9ce088a4b02fd4de9350cabedbdb779728c5f77bfa164a67", func := "gatehouse/gatehouselaw05.InflateEnds", spec := "inflateEnds", unfollowed := true, recurses := true, plainKeys := false, apart := false, narrowed := true }
def InflateEndsUptoSaid : Prop := inflateEndsUptoRow.holds Try.pinned (OpenSpec.upto inflateEndsSpec)

/-- 'gatehouselaw05.InflateMost', WHERE WHAT IT READS IS OF BULK AT MOST 1048576: true; the input reads as it did. -/
def inflateMostUptoRow : OpenClaim := { program := "ytehfblkpbadikaa", sum := "751ef94d4860645e9ce088a4b02fd4de9350cabedbdb779728c5f77bfa164a67", func := "gatehouse/gatehouselaw05.InflateMost", spec := "inflateMost", unfollowed := true, recurses := true, plainKeys := false, apart := false, narrowed := true }
def InflateMostUptoSaid : Prop := inflateMostUptoRow.holds Try.pinned (OpenSpec.upto inflateMostSpec)

/-- 'gatehouselaw05.InflateStored', WHERE WHAT IT READS IS OF BULK AT MOST 1048576: true; the input reads as it did. -/
def inflateStoredUptoRow : OpenClaim := { program := "ytehfblkpbadikaa", sum := "751ef94d4860645e9ce088a4b02fd4de9350cabedbdb779728c5f77bfa164a67", func := "gatehouse/gatehouselaw05.InflateStored", spec := "inflateStored", unfollowed := true, recurses := true, plainKeys := false, apart := false, narrowed := true }
def InflateStoredUptoSaid : Prop := inflateStoredUptoRow.holds Try.pinned (OpenSpec.upto inflateStoredSpec)

/-- 'gatehouselaw05.InflateBlocks', WHERE WHAT IT READS IS OF BULK AT MOST 1048576: true; the input reads as it did. -/
def inflateBlocksUptoRow : OpenClaim := { program := "ytehfblkpbadikaa", sum := "751ef94d4860645e9ce088a4b02fd4de9350cabedbdb779728c5f77bfa164a67", func := "gatehouse/gatehouselaw05.InflateBlocks", spec := "inflateBlocks", unfollowed := true, recurses := true, plainKeys := false, apart := false, narrowed := true }
def InflateBlocksUptoSaid : Prop := inflateBlocksUptoRow.holds Try.pinned (OpenSpec.upto inflateBlocksSpec)

/-- 'gatehouselaw03.HuffPuts', WHERE WHAT IT READS IS OF BULK AT MOST 1048576: true; the input reads as it did. -/
def huffPutsUptoRow : OpenClaim := { program := "ytehfblkpbadikaa", sum := "751ef94d4860645e9ce088a4b02fd4de9350cabedbdb779728c5f77bfa164a67", func := "gatehouse/gatehouselaw03.HuffPuts", spec := "huffPuts", unfollowed := true, recurses := true, plainKeys := false, apart := false, narrowed := true }
def HuffPutsUptoSaid : Prop := huffPutsUptoRow.holds Try.pinned (OpenSpec.upto huffPutsSpec)

/-- 'gatehouselaw03.HuffReads', WHERE WHAT IT READS IS OF BULK AT MOST 1048576: true; the input reads as it did. -/
def huffReadsUptoRow : OpenClaim := { program := "ytehfblkpbadikaa", sum := "751ef94d4860645e9ce088a4b02fd4de9350cabedbdb779728c5f77bfa164a67", func := "gatehouse/gatehouselaw03.HuffReads", spec := "huffReads", unfollowed := true, recurses := true, plainKeys := false, apart := false, narrowed := true }
def HuffReadsUptoSaid : Prop := huffReadsUptoRow.holds Try.pinned (OpenSpec.upto huffReadsSpec)

/-- 'gatehouselaw03.HuffNil', WHERE WHAT IT READS IS OF BULK AT MOST 1048576: true; the input reads as it did. -/
def huffNilUptoRow : OpenClaim := { program := "ytehfblkpbadikaa", sum := "751ef94d4860645e9ce088a4b02fd4de9350cabedbdb779728c5f77bfa164a67", func := "gatehouse/gatehouselaw03.HuffNil", spec := "huffNil", unfollowed := true, recurses := true, plainKeys := false, apart := false, narrowed := true }
def HuffNilUptoSaid : Prop := huffNilUptoRow.holds Try.pinned (OpenSpec.upto huffNilSpec)

/-- 'gatehouselaw03.HuffDecoded', WHERE WHAT IT READS IS OF BULK AT MOST 1048576: true; the input reads as it did. -/
def huffDecodedUptoRow : OpenClaim := { program := "ytehfblkpbadikaa", sum := "751ef94d4860645e9ce088a4b02fd4de9350cabedbdb779728c5f77bfa164a67", func := "gatehouse/gatehouselaw03.HuffDecoded", spec := "huffDecoded", unfollowed := true, recurses := true, plainKeys := false, apart := false, narrowed := true }
def HuffDecodedUptoSaid : Prop := huffDecodedUptoRow.holds Try.pinned (OpenSpec.upto huffDecodedSpec)

end Rows
end Go.Proofs.Ytehfblkpbadikaa
