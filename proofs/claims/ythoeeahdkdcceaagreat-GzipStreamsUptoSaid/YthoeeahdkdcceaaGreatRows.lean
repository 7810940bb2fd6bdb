/-
  No cell of these rows narrows 'for every input' (looked for: loops, veiled, ifaces, maps, wideKeys, modest, calm, conditions, laid).
  DERIVED. THE GIVEN ROWS OF THIS SEAT. 6 by the template 'for every input the law returns true; each argument reads behind the call as it read before'; 0 by the template 'total and deterministic' (their statements: YthoeeahdkdcceaaGreatTotals.lean).
  GIVEN WITH THE SEED: the statements are not yours to turn. If you find one false, say at which input.
  Laid BY PROGRAM, IN A SANDBOX (cutbox-rows.mjs): the forced cells as the released guide's own fill.sh prints them over the translation b2dfa084b92a9f84… (all of the seat's roots in one cut). By AI agents, Wed Nov 11 2026. No macro, syntax, notation, axiom, sorry.
-/
import Derived.Test.YthoeeahdkdcceaaGreatChecked
import GoSem.Claim
import GoSem.ClaimJoined
import GoSem.ClaimMapViews
import Derived.JoinedTies
import Derived.KernelRfl
namespace Go.Proofs.YthoeeahdkdcceaaGreat
/- THE CELL 'sum', in the pinned program and in every row, IS THE sha256 OF THE DUMP (.gsa) THAT YthoeeahdkdcceaaGreatProg.lean LOADS. Nothing in Lean hashes anything: it is a label: what it is worth is what the hold of that sum in a sandbox is worth. -/
noncomputable def Tryz.pinned : Pinned := { name := "ythoeeahdkdcceaagreat", sum := "b2dfa084b92a9f843c05da3f12bd054e77022f4e71e62e44c0503a8ea5ce864f", checked := Tryz.checked }
namespace Rows
def none {H : Type} : Left H := { results := [], args := [] }

/-- 'gatehouselaw07.GzipPacks': WHATEVER THE INPUT: true; the input reads as it did. -/
def gzipPacksSpec : ChangeSpec := { name := "gzipPacks", fn := fun _ => fun
  | [d1, d2, d3, d4] => { results := [.lit (.bool true)], args := [d1, d2, d3, d4] }
  | _ => none }
def gzipPacksRow : OpenClaim := { program := "ythoeeahdkdcceaagreat", sum := "b2dfa084b92a9f843c05da3f12bd054e77022f4e71e62e44c0503a8ea5ce864f", func := "gatehouse/gatehouselaw07.GzipPacks", spec := "gzipPacks", unfollowed := true, recurses := true, plainKeys := false, apart := false }
def GzipPacksSaid : Prop := gzipPacksRow.holds Tryz.pinned (OpenSpec.ofChange gzipPacksSpec)

/-- ITS FALSE NEIGHBOUR: 'it returns false'. Refute it at one input. -/
def gzipPacksWrong : ChangeSpec := { name := "gzipPacks", fn := fun _ => fun
  | [d1, d2, d3, d4] => { results := [.lit (.bool false)], args := [d1, d2, d3, d4] }
  | _ => none }
def GzipPacksWrongFalsely : Prop := gzipPacksRow.holds Tryz.pinned (OpenSpec.ofChange gzipPacksWrong)

/-- 'gatehouselaw06.DeflateStreams': WHATEVER THE INPUT: true; the input reads as it did. -/
def deflateStreamsSpec : ChangeSpec := { name := "deflateStreams", fn := fun _ => fun
  | [d1, d2] => { results := [.lit (.bool true)], args := [d1, d2] }
  | _ => none }
def deflateStreamsRow : OpenClaim := { program := "ythoeeahdkdcceaagreat", sum := "b2dfa084b92a9f843c05da3f12bd054e77022f4e71e62e44c0503a8ea5ce864f", func := "gatehouse/gatehouselaw06.DeflateStreams", spec := "deflateStreams", unfollowed := true, recurses := true, plainKeys := false, apart := false }
def DeflateStreamsSaid : Prop := deflateStreamsRow.holds Tryz.pinned (OpenSpec.ofChange deflateStreamsSpec)

/-- ITS FALSE NEIGHBOUR: 'it returns false'. Refute it at one input. -/
def deflateStreamsWrong : ChangeSpec := { name := "deflateStreams", fn := fun _ => fun
  | [d1, d2] => { results := [.lit (.bool false)], args := [d1, d2] }
  | _ => none }
def DeflateStreamsWrongFalsely : Prop := deflateStreamsRow.holds Tryz.pinned (OpenSpec.ofChange deflateStreamsWrong)

/-- 'gatehouselaw07.GzipStreams': WHATEVER THE INPUT: true; the input reads as it did. -/
def gzipStreamsSpec : ChangeSpec := { name := "gzipStreams", fn := fun _ => fun
  | [d1, d2] => { results := [.lit (.bool true)], args := [d1, d2] }
  | _ => none }
def gzipStreamsRow : OpenClaim := { program := "ythoeeahdkdcceaagreat", sum := "b2dfa084b92a9f843c05da3f12bd054e77022f4e71e62e44c0503a8ea5ce864f", func := "gatehouse/gatehouselaw07.GzipStreams", spec := "gzipStreams", unfollowed := true, recurses := true, plainKeys := false, apart := false }
def GzipStreamsSaid : Prop := gzipStreamsRow.holds Tryz.pinned (OpenSpec.ofChange gzipStreamsSpec)

/-- ITS FALSE NEIGHBOUR: 'it returns false'. Refute it at one input. -/
def gzipStreamsWrong : ChangeSpec := { name := "gzipStreams", fn := fun _ => fun
  | [d1, d2] => { results := [.lit (.bool false)], args := [d1, d2] }
  | _ => none }
def GzipStreamsWrongFalsely : Prop := gzipStreamsRow.holds Tryz.pinned (OpenSpec.ofChange gzipStreamsWrong)

/-- 'gatehouselaw07.GzipTold': WHATEVER THE INPUT: true; the input reads as it did. -/
def gzipToldSpec : ChangeSpec := { name := "gzipTold", fn := fun _ => fun
  | [d1, d2, d3, d4] => { results := [.lit (.bool true)], args := [d1, d2, d3, d4] }
  | _ => none }
def gzipToldRow : OpenClaim := { program := "ythoeeahdkdcceaagreat", sum := "b2dfa084b92a9f843c05da3f12bd054e77022f4e71e62e44c0503a8ea5ce864f", func := "gatehouse/gatehouselaw07.GzipTold", spec := "gzipTold", inPlace := ["internal/bytealg.IndexByte"], unfollowed := true, recurses := true, plainKeys := false, apart := false }
def GzipToldSaid : Prop := gzipToldRow.holds Tryz.pinned (OpenSpec.ofChange gzipToldSpec)

/-- ITS FALSE NEIGHBOUR: 'it returns false'. Refute it at one input. -/
def gzipToldWrong : ChangeSpec := { name := "gzipTold", fn := fun _ => fun
  | [d1, d2, d3, d4] => { results := [.lit (.bool false)], args := [d1, d2, d3, d4] }
  | _ => none }
def GzipToldWrongFalsely : Prop := gzipToldRow.holds Tryz.pinned (OpenSpec.ofChange gzipToldWrong)

/-- 'gatehouselaw07.GzipBack': WHATEVER THE INPUT: true; the input reads as it did. -/
def gzipBackSpec : ChangeSpec := { name := "gzipBack", fn := fun _ => fun
  | [d1, d2, d3] => { results := [.lit (.bool true)], args := [d1, d2, d3] }
  | _ => none }
def gzipBackRow : OpenClaim := { program := "ythoeeahdkdcceaagreat", sum := "b2dfa084b92a9f843c05da3f12bd054e77022f4e71e62e44c0503a8ea5ce864f", func := "gatehouse/gatehouselaw07.GzipBack", spec := "gzipBack", inPlace := ["internal/bytealg.IndexByte"], unfollowed := true, recurses := true, plainKeys := false, apart := false }
def GzipBackSaid : Prop := gzipBackRow.holds Tryz.pinned (OpenSpec.ofChange gzipBackSpec)

/-- ITS FALSE NEIGHBOUR: 'it returns false'. Refute it at one input. -/
def gzipBackWrong : ChangeSpec := { name := "gzipBack", fn := fun _ => fun
  | [d1, d2, d3] => { results := [.lit (.bool false)], args := [d1, d2, d3] }
  | _ => none }
def GzipBackWrongFalsely : Prop := gzipBackRow.holds Tryz.pinned (OpenSpec.ofChange gzipBackWrong)

/-- 'gatehouselaw07.GzipFlows': WHATEVER THE INPUT: true; the input reads as it did. -/
def gzipFlowsSpec : ChangeSpec := { name := "gzipFlows", fn := fun _ => fun
  | [d1, d2] => { results := [.lit (.bool true)], args := [d1, d2] }
  | _ => none }
def gzipFlowsRow : OpenClaim := { program := "ythoeeahdkdcceaagreat", sum := "b2dfa084b92a9f843c05da3f12bd054e77022f4e71e62e44c0503a8ea5ce864f", func := "gatehouse/gatehouselaw07.GzipFlows", spec := "gzipFlows", inPlace := ["internal/bytealg.IndexByte"], unfollowed := true, recurses := true, plainKeys := false, apart := false }
def GzipFlowsSaid : Prop := gzipFlowsRow.holds Tryz.pinned (OpenSpec.ofChange gzipFlowsSpec)

/-- ITS FALSE NEIGHBOUR: 'it returns false'. Refute it at one input. -/
def gzipFlowsWrong : ChangeSpec := { name := "gzipFlows", fn := fun _ => fun
  | [d1, d2] => { results := [.lit (.bool false)], args := [d1, d2] }
  | _ => none }
def GzipFlowsWrongFalsely : Prop := gzipFlowsRow.holds Tryz.pinned (OpenSpec.ofChange gzipFlowsWrong)

/- THE SECOND FORM. 'bulk': how many values and letters a reading holds, each counted each time it is reached (what is shared counts as often as it is met; a slice's spare places count too). A statement '..UptoSaid' is the law's where the arguments, and the package variables that the reading takes, are together of bulk at most 1048576: NARROWER than '..Said'. Prove '..Said' where nothing that the law and all that it calls make is longer than what came in: it says more and counts as full. Else prove '..UptoSaid'. A law counts once. -/
mutual
def uptoBulk {H : Type} : DataW H → Nat
  | .lit (.string bytes) => bytes.length + 1
  | .lit _ => 1
  | .nil => 1
  | .ptr d => uptoBulk d + 1
  | .slice elems spare => uptoBulkAll elems + uptoBulkAll spare + 1
  | .agg parts => uptoBulkAll parts + 1
  | .iface _ d => uptoBulk d + 1
  | .map entries => uptoBulkEntries entries + 1
  | .held _ => 1
def uptoBulkAll {H : Type} : List (DataW H) → Nat
  | [] => 0
  | d :: r => uptoBulk d + uptoBulkAll r
def uptoBulkEntries {H : Type} : List (Lit × DataW H) → Nat
  | [] => 0
  | x :: r => uptoBulkEntry x + uptoBulkEntries r
def uptoBulkEntry {H : Type} : Lit × DataW H → Nat
  | (.string bytes, d) => bytes.length + uptoBulk d + 1
  | (_, d) => uptoBulk d + 1
 end
def uptoSmall : (H : Type) → List (DataW H) → Bool := fun _ ds => decide (uptoBulkAll ds ≤ 1048576)
def OpenSpec.upto (s : _root_.Go.ChangeSpec) : _root_.Go.OpenSpec := { _root_.Go.OpenSpec.ofChange s with cond := some uptoSmall }

/-- 'gatehouselaw07.GzipPacks', WHERE WHAT IT READS IS OF BULK AT MOST 1048576: true; the input reads as it did. -/
def gzipPacksUptoRow : OpenClaim := { program := "ythoeeahdkdcceaagreat", sum := "b2dfa084b92a9f843c05da3f12bd054e77022f4e71e62e44c0503a8ea5ce864f", func := "gatehouse/gatehouselaw07.GzipPacks", spec := "gzipPacks", unfollowed := true, recurses := true, plainKeys := false, apart := false, narrowed := true }
def GzipPacksUptoSaid : Prop := gzipPacksUptoRow.holds Tryz.pinned (OpenSpec.upto gzipPacksSpec)

/-- 'gatehouselaw06.DeflateStreams', WHERE WHAT IT READS IS OF BULK AT MOST 1048576: true; the input reads as it did. -/
def deflateStreamsUptoRow : OpenClaim := { program := "ythoeeahdkdcceaagreat", sum := "b2dfa084b92a9f843c05da3f12bd054e77022f4e71e62e44c0503a8ea5ce864f", func := "gatehouse/gatehouselaw06.DeflateStreams", spec := "deflateStreams", unfollowed := true, recurses := true, plainKeys := false, apart := false, narrowed := true }
def DeflateStreamsUptoSaid : Prop := deflateStreamsUptoRow.holds Tryz.pinned (OpenSpec.upto deflateStreamsSpec)

/-- 'gatehouselaw07.GzipStreams', WHERE WHAT IT READS IS OF BULK AT MOST 1048576: true; the input reads as it did. -/
def gzipStreamsUptoRow : OpenClaim := { program := "ythoeeahdkdcceaagreat", sum := "b2dfa084b92a9f843c05da3f12bd054e77022f4e71e62e44c0503a8ea5ce864f", func := "gatehouse/gatehouselaw07.GzipStreams", spec := "gzipStreams", unfollowed := true, recurses := true, plainKeys := false, apart := false, narrowed := true }
def GzipStreamsUptoSaid : Prop := gzipStreamsUptoRow.holds Tryz.pinned (OpenSpec.upto gzipStreamsSpec)

/-- 'gatehouselaw07.GzipTold', WHERE WHAT IT READS IS OF BULK AT MOST 1048576: true; the input reads as it did. -/
def gzipToldUptoRow : OpenClaim := { program := "ythoeeahdkdcceaagreat", sum := "b2dfa084b92a9f843c05da3f12bd054e77022f4e71e62e44c0503a8ea5ce864f", func := "gatehouse/gatehouselaw07.GzipTold", spec := "gzipTold", inPlace := ["internal/bytealg.IndexByte"], unfollowed := true, recurses := true, plainKeys := false, apart := false, narrowed := true }
def GzipToldUptoSaid : Prop := gzipToldUptoRow.holds Tryz.pinned (OpenSpec.upto gzipToldSpec)

/-- 'gatehouselaw07.GzipBack', WHERE WHAT IT READS IS OF BULK AT MOST 1048576: true; the input reads as it did. -/
def gzipBackUptoRow : OpenClaim := { program := "ythoeeahdkdcceaagreat", sum := "b2dfa084b92a9f843c05da3f12bd054e77022f4e71e62e44c0503a8ea5ce864f", func := "gatehouse/gatehouselaw07.GzipBack", spec := "gzipBack", inPlace := ["internal/bytealg.IndexByte"], unfollowed := true, recurses := true, plainKeys := false, apart := false, narrowed := true }
def GzipBackUptoSaid : Prop := gzipBackUptoRow.holds Tryz.pinned (OpenSpec.upto gzipBackSpec)

/-- 'gatehouselaw07.GzipFlows', WHERE WHAT IT READS IS OF BULK AT MOST 1048576: true; the input reads as it did. -/
def gzipFlowsUptoRow : OpenClaim := { program := "ythoeeahdkdcceaagreat", sum := "b2dfa084b92a9f843c05da3f12bd054e77022f4e71e62e44c0503a8ea5ce864f", func := "gatehouse/gatehouselaw07.GzipFlows", spec := "gzipFlows", inPlace := ["internal/bytealg.IndexByte"], unfollowed := true, recurses := true, plainKeys := false, apart := false, narrowed := true }
def GzipFlowsUptoSaid : Prop := gzipFlowsUptoRow.holds Tryz.pinned (OpenSpec.upto gzipFlowsSpec)

end Rows
end Go.Proofs.YthoeeahdkdcceaaGreat
