/-
  No cell of these rows narrows 'for every input' (looked for: loops, veiled, ifaces, maps, wideKeys, modest, calm, conditions, laid).
  DERIVED. THE GIVEN ROWS OF THIS SEAT. 6 by the template 'for every input the law returns true; each argument reads behind the call as it read before'; 0 by the template 'total and deterministic' (their statements: YthoeeahdkdcceaaTotals.lean).
  GIVEN WITH THE SEED: the statements are not yours to turn. If you find one false, say at which input.
  Laid BY PROGRAM, IN A SANDBOX (cutbox-rows.mjs): the forced cells as the released guide's own fill.sh prints them over the translation 0d070567a52f11e8… (all of the seat's roots in one cut). By AI agents, Wed Nov 11 2026. No macro, syntax, notation, axiom, sorry.
-/
import Derived.Test.YthoeeahdkdcceaaChecked
import GoSem.Claim
import GoSem.ClaimJoined
import GoSem.ClaimMapViews
import Derived.JoinedTies
import Derived.KernelRfl
namespace Go.Proofs.Ythoeeahdkdcceaa
/- THE CELL 'sum', in the pinned program and in every row, IS THE sha256 OF THE DUMP (.gsa) THAT YthoeeahdkdcceaaProg.lean LOADS. Nothing in Lean hashes anything: it is a label: what it is worth is what the hold of that sum in a sandbox is worth. -/
noncomputable def Try.pinned : Pinned := { name := "ythoeeahdkdcceaa", sum := "0d070567a52f11e827eddbfd23c448517c9e6a13d5f937f20dfa6e39b307222a", checked := Try.checked }
namespace Rows
def none {H : Type} : Left H := { results := [], args := [] }

/-- 'gatehouselaw06.DeflateWrites': WHATEVER THE INPUT: true; the input reads as it did. -/
def deflateWritesSpec : ChangeSpec := { name := "deflateWrites", fn := fun _ => fun
  | [d1, d2] => { results := [.lit (.bool true)], args := [d1, d2] }
  | _ => none }
def deflateWritesRow : OpenClaim := { program := "ythoeeahdkdcceaa", sum := "0d070567a52f11e827eddbfd23c448517c9e6a13d5f937f20dfa6e39b307222a", func := "gatehouse/gatehouselaw06.DeflateWrites", spec := "deflateWrites", unfollowed := true, recurses := true, plainKeys := false, apart := false }
def DeflateWritesSaid : Prop := deflateWritesRow.holds Try.pinned (OpenSpec.ofChange deflateWritesSpec)

/-- ITS FALSE NEIGHBOUR: 'it returns false'. Refute it at one input. -/
def deflateWritesWrong : ChangeSpec := { name := "deflateWrites", fn := fun _ => fun
  | [d1, d2] => { results := [.lit (.bool false)], args := [d1, d2] }
  | _ => none }
def DeflateWritesWrongFalsely : Prop := deflateWritesRow.holds Try.pinned (OpenSpec.ofChange deflateWritesWrong)

/-- 'gatehouselaw06.DeflateNil': WHATEVER THE INPUT: true; the input reads as it did. -/
def deflateNilSpec : ChangeSpec := { name := "deflateNil", fn := fun _ => fun
  | [d] => { results := [.lit (.bool true)], args := [d] }
  | _ => none }
def deflateNilRow : OpenClaim := { program := "ythoeeahdkdcceaa", sum := "0d070567a52f11e827eddbfd23c448517c9e6a13d5f937f20dfa6e39b307222a", func := "gatehouse/gatehouselaw06.DeflateNil", spec := "deflateNil", unfollowed := true, recurses := true, plainKeys := false, apart := false }
def DeflateNilSaid : Prop := deflateNilRow.holds Try.pinned (OpenSpec.ofChange deflateNilSpec)

/-- ITS FALSE NEIGHBOUR: 'it returns false'. Refute it at one input. -/
def deflateNilWrong : ChangeSpec := { name := "deflateNil", fn := fun _ => fun
  | [d] => { results := [.lit (.bool false)], args := [d] }
  | _ => none }
def DeflateNilWrongFalsely : Prop := deflateNilRow.holds Try.pinned (OpenSpec.ofChange deflateNilWrong)

/-- 'gatehouselaw07.GzipNil': WHATEVER THE INPUT: true; the input reads as it did. -/
def gzipNilSpec : ChangeSpec := { name := "gzipNil", fn := fun _ => fun
  | [d] => { results := [.lit (.bool true)], args := [d] }
  | _ => none }
def gzipNilRow : OpenClaim := { program := "ythoeeahdkdcceaa", sum := "0d070567a52f11e827eddbfd23c448517c9e6a13d5f937f20dfa6e39b307222a", func := "gatehouse/gatehouselaw07.GzipNil", spec := "gzipNil", unfollowed := true, recurses := true, plainKeys := false, apart := false }
def GzipNilSaid : Prop := gzipNilRow.holds Try.pinned (OpenSpec.ofChange gzipNilSpec)

/-- ITS FALSE NEIGHBOUR: 'it returns false'. Refute it at one input. -/
def gzipNilWrong : ChangeSpec := { name := "gzipNil", fn := fun _ => fun
  | [d] => { results := [.lit (.bool false)], args := [d] }
  | _ => none }
def GzipNilWrongFalsely : Prop := gzipNilRow.holds Try.pinned (OpenSpec.ofChange gzipNilWrong)

/-- 'gatehouselaw06.DeflateBack': WHATEVER THE INPUT: true; the input reads as it did. -/
def deflateBackSpec : ChangeSpec := { name := "deflateBack", fn := fun _ => fun
  | [d1, d2] => { results := [.lit (.bool true)], args := [d1, d2] }
  | _ => none }
def deflateBackRow : OpenClaim := { program := "ythoeeahdkdcceaa", sum := "0d070567a52f11e827eddbfd23c448517c9e6a13d5f937f20dfa6e39b307222a", func := "gatehouse/gatehouselaw06.DeflateBack", spec := "deflateBack", unfollowed := true, recurses := true, plainKeys := false, apart := false }
def DeflateBackSaid : Prop := deflateBackRow.holds Try.pinned (OpenSpec.ofChange deflateBackSpec)

/-- ITS FALSE NEIGHBOUR: 'it returns false'. Refute it at one input. -/
def deflateBackWrong : ChangeSpec := { name := "deflateBack", fn := fun _ => fun
  | [d1, d2] => { results := [.lit (.bool false)], args := [d1, d2] }
  | _ => none }
def DeflateBackWrongFalsely : Prop := deflateBackRow.holds Try.pinned (OpenSpec.ofChange deflateBackWrong)

/-- 'gatehouselaw06.DeflateSmall': WHATEVER THE INPUT: true; the input reads as it did. -/
def deflateSmallSpec : ChangeSpec := { name := "deflateSmall", fn := fun _ => fun
  | [d1, d2] => { results := [.lit (.bool true)], args := [d1, d2] }
  | _ => none }
def deflateSmallRow : OpenClaim := { program := "ythoeeahdkdcceaa", sum := "0d070567a52f11e827eddbfd23c448517c9e6a13d5f937f20dfa6e39b307222a", func := "gatehouse/gatehouselaw06.DeflateSmall", spec := "deflateSmall", unfollowed := true, recurses := true, plainKeys := false, apart := false }
def DeflateSmallSaid : Prop := deflateSmallRow.holds Try.pinned (OpenSpec.ofChange deflateSmallSpec)

/-- ITS FALSE NEIGHBOUR: 'it returns false'. Refute it at one input. -/
def deflateSmallWrong : ChangeSpec := { name := "deflateSmall", fn := fun _ => fun
  | [d1, d2] => { results := [.lit (.bool false)], args := [d1, d2] }
  | _ => none }
def DeflateSmallWrongFalsely : Prop := deflateSmallRow.holds Try.pinned (OpenSpec.ofChange deflateSmallWrong)

/-- 'gatehouselaw06.DeflateFlushed': WHATEVER THE INPUT: true; the input reads as it did. -/
def deflateFlushedSpec : ChangeSpec := { name := "deflateFlushed", fn := fun _ => fun
  | [d1, d2] => { results := [.lit (.bool true)], args := [d1, d2] }
  | _ => none }
def deflateFlushedRow : OpenClaim := { program := "ythoeeahdkdcceaa", sum := "0d070567a52f11e827eddbfd23c448517c9e6a13d5f937f20dfa6e39b307222a", func := "gatehouse/gatehouselaw06.DeflateFlushed", spec := "deflateFlushed", unfollowed := true, recurses := true, plainKeys := false, apart := false }
def DeflateFlushedSaid : Prop := deflateFlushedRow.holds Try.pinned (OpenSpec.ofChange deflateFlushedSpec)

/-- ITS FALSE NEIGHBOUR: 'it returns false'. Refute it at one input. -/
def deflateFlushedWrong : ChangeSpec := { name := "deflateFlushed", fn := fun _ => fun
  | [d1, d2] => { results := [.lit (.bool false)], args := [d1, d2] }
  | _ => none }
def DeflateFlushedWrongFalsely : Prop := deflateFlushedRow.holds Try.pinned (OpenSpec.ofChange deflateFlushedWrong)

/- THE SECOND FORM. 'bulk': how many values and letters a reading holds, each counted each time it is reached (what is shared counts as often as it is met; a slice's spare places count too). A statement '..UptoSaid' is the law's where the arguments, and the package variables that the reading takes, are together of bulk at most 1048576: NARROWER than '..Said'. Prove '..Said' where nothing that the law and all that it calls make is longer than what came in: it says more and counts as full. Else prove '..UptoSaid'. A law counts once. -/
mutual
def uptoBulk {H : Type} : DataW H → Nat
  | .lit (.string bytes) => bytes.length + 1
  | .lit _ => 1
  | .nil => 1
  | .ptr d => uptoBulk d + 1
  | .slice elems spare => uptoBulkAll elems + uptoBulkAll spare + 1
  | .agg parts => uptoBulkAll parts + 1
  | .iface _ d => uptoBulk d + 1
  | .map entries => uptoBulkEntries entries + 1
  | .held _ => 1
def uptoBulkAll {H : Type} : List (DataW H) → Nat
  | [] => 0
  | d :: r => uptoBulk d + uptoBulkAll r
def uptoBulkEntries {H : Type} : List (Lit × DataW H) → Nat
  | [] => 0
  | x :: r => uptoBulkEntry x + uptoBulkEntries r
def uptoBulkEntry {H : Type} : Lit × DataW H → Nat
  | (.string bytes, d) => bytes.length + uptoBulk d + 1
  | (_, d) => uptoBulk d + 1
 end
def uptoSmall : (H : Type) → List (DataW H) → Bool := fun _ ds => decide (uptoBulkAll ds ≤ 1048576)
def OpenSpec.upto (s : _root_.Go.ChangeSpec) : _root_.Go.OpenSpec := { _root_.Go.OpenSpec.ofChange s with cond := some uptoSmall }

/-- 'gatehouselaw06.DeflateWrites', WHERE WHAT IT READS IS OF BULK AT MOST 1048576: true; the input reads as it did. -/
def deflateWritesUptoRow : OpenClaim := { program := "ythoeeahdkdcceaa", sum := "0d070567a52f11e827eddbfd23c448517c9e6a13d5f937f20dfa6e39b307222a", func := "gatehouse/gatehouselaw06.DeflateWrites", spec := "deflateWrites", unfollowed := true, recurses := true, plainKeys := false, apart := false, narrowed := true }
def DeflateWritesUptoSaid : Prop := deflateWritesUptoRow.holds Try.pinned (OpenSpec.upto deflateWritesSpec)

/-- 'gatehouselaw06.DeflateNil', WHERE WHAT IT READS IS OF BULK AT MOST 1048576: true; the input reads as it did. -/
def deflateNilUptoRow : OpenClaim := { program := "ythoeeahdkdcceaa", sum := "0d070567a52f11e827eddbfd23c448517c9e6a13d5f937f20dfa6e39b307222a", func := "gatehouse/gatehouselaw06.DeflateNil", spec := "deflateNil", unfollowed := true, recurses := true, plainKeys := false, apart := false, narrowed := true }
def DeflateNilUptoSaid : Prop := deflateNilUptoRow.holds Try.pinned (OpenSpec.upto deflateNilSpec)

/-- 'gatehouselaw07.GzipNil', WHERE WHAT IT READS IS OF BULK AT MOST 1048576: true; the input reads as it did. -/
def gzipNilUptoRow : OpenClaim := { program := "ythoeeahdkdcceaa", sum := "0d070567a52f11e827eddbfd23c448517c9e6a13d5f937f20dfa6e39b307222a", func := "gatehouse/gatehouselaw07.GzipNil", spec := "gzipNil", unfollowed := true, recurses := true, plainKeys := false, apart := false, narrowed := true }
def GzipNilUptoSaid : Prop := gzipNilUptoRow.holds Try.pinned (OpenSpec.upto gzipNilSpec)

/-- 'gatehouselaw06.DeflateBack', WHERE WHAT IT READS IS OF BULK AT MOST 1048576: true; the input reads as it did. -/
def deflateBackUptoRow : OpenClaim := { program := "ythoeeahdkdcceaa", sum := "0d070567a52f11e827eddbfd23c448517c9e6a13d5f937f20dfa6e39b307222a", func := "gatehouse/gatehouselaw06.DeflateBack", spec := "deflateBack", unfollowed := true, recurses := true, plainKeys := false, apart := false, narrowed := true }
def DeflateBackUptoSaid : Prop := deflateBackUptoRow.holds Try.pinned (OpenSpec.upto deflateBackSpec)

/-- 'gatehouselaw06.DeflateSmall', WHERE WHAT IT READS IS OF BULK AT MOST 1048576: true; the input reads as it did. -/
def deflateSmallUptoRow : OpenClaim := { program := "ythoeeahdkdcceaa", sum := "0d070567a52f11e827eddbfd23c448517c9e6a13d5f937f20dfa6e39b307222a", func := "gatehouse/gatehouselaw06.DeflateSmall", spec := "deflateSmall", unfollowed := true, recurses := true, plainKeys := false, apart := false, narrowed := true }
def DeflateSmallUptoSaid : Prop := deflateSmallUptoRow.holds Try.pinned (OpenSpec.upto deflateSmallSpec)

/-- 'gatehouselaw06.DeflateFlushed', WHERE WHAT IT READS IS OF BULK AT MOST 1048576: true; the input reads as it did. -/
def deflateFlushedUptoRow : OpenClaim := { program := "ythoeeahdkdcceaa", sum := "0d070567a52f11e827eddbfd23c448517c9e6a13d5f937f20dfa6e39b307222a", func := "gatehouse/gatehouselaw06.DeflateFlushed", spec := "deflateFlushed", unfollowed := true, recurses := true, plainKeys := false, apart := false, narrowed := true }
def DeflateFlushedUptoSaid : Prop := deflateFlushedUptoRow.holds Try.pinned (OpenSpec.upto deflateFlushedSpec)

end Rows
end Go.Proofs.Ythoeeahdkdcceaa
