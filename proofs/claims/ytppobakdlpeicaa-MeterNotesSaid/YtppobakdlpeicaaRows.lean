/-
  No cell of these rows narrows 'for every input' (looked for: loops, veiled, ifaces, maps, wideKeys, modest, calm, conditions, laid).
  DERIVED. THE GIVEN ROWS OF THIS SEAT. 7 by the template 'for every input the law returns true; each argument reads behind the call as it read before'; 0 by the template 'total and deterministic' (their statements: YtppobakdlpeicaaTotals.lean).
  GIVEN WITH THE SEED: the statements are not yours to turn. If you find one false, say at which input.
  Laid BY PROGRAM, IN A SANDBOX (cutbox-rows.mjs): the forced cells as the released guide's own fill.sh prints them over the translation 58af04c26ee141f1… (all of the seat's roots in one cut). By AI agents, Wed Nov 11 2026. No macro, syntax, notation, axiom, sorry.
-/
import Derived.Test.YtppobakdlpeicaaChecked
import GoSem.Claim
import GoSem.ClaimJoined
import GoSem.ClaimMapViews
import Derived.JoinedTies
import Derived.KernelRfl
namespace Go.Proofs.Ytppobakdlpeicaa
/- THE CELL 'sum', in the pinned program and in every row, IS THE sha256 OF THE DUMP (.gsa) THAT YtppobakdlpeicaaProg.lean LOADS. Nothing in Lean hashes anything: it is a label: what it is worth is what the hold of that sum in a sandbox is worth. -/
noncomputable def Try.pinned : Pinned := { name := "ytppobakdlpeicaa", sum := "58af04c26ee141f1e9bce36f4c50955fc72a1c866f64b9e27a9fa1d286ac4b20", checked := Try.checked }
namespace Rows
def none {H : Type} : Left H := { results := [], args := [] }

/-- 'doubletakelaw8.BucketBounds': WHATEVER THE INPUT: true; the input reads as it did. -/
def bucketBoundsSpec : ChangeSpec := { name := "bucketBounds", fn := fun _ => fun
  | [d1, d2, d3] => { results := [.lit (.bool true)], args := [d1, d2, d3] }
  | _ => none }
def bucketBoundsRow : OpenClaim := { program := "ytppobakdlpeicaa", sum := "58af04c26ee141f1e9bce36f4c50955fc72a1c866f64b9e27a9fa1d286ac4b20", func := "doubletake/doubletakelaw8.BucketBounds", spec := "bucketBounds", inPlace := ["math.Float64bits", "math.Float64frombits"], apart := false }
def BucketBoundsSaid : Prop := bucketBoundsRow.holds Try.pinned (OpenSpec.ofChange bucketBoundsSpec)

/-- ITS FALSE NEIGHBOUR: 'it returns false'. Refute it at one input. -/
def bucketBoundsWrong : ChangeSpec := { name := "bucketBounds", fn := fun _ => fun
  | [d1, d2, d3] => { results := [.lit (.bool false)], args := [d1, d2, d3] }
  | _ => none }
def BucketBoundsWrongFalsely : Prop := bucketBoundsRow.holds Try.pinned (OpenSpec.ofChange bucketBoundsWrong)

/-- 'doubletakelaw8.BucketFills': WHATEVER THE INPUT: true; the input reads as it did. -/
def bucketFillsSpec : ChangeSpec := { name := "bucketFills", fn := fun _ => fun
  | [d1, d2, d3] => { results := [.lit (.bool true)], args := [d1, d2, d3] }
  | _ => none }
def bucketFillsRow : OpenClaim := { program := "ytppobakdlpeicaa", sum := "58af04c26ee141f1e9bce36f4c50955fc72a1c866f64b9e27a9fa1d286ac4b20", func := "doubletake/doubletakelaw8.BucketFills", spec := "bucketFills", inPlace := ["math.Float64bits", "math.Float64frombits"], apart := false }
def BucketFillsSaid : Prop := bucketFillsRow.holds Try.pinned (OpenSpec.ofChange bucketFillsSpec)

/-- ITS FALSE NEIGHBOUR: 'it returns false'. Refute it at one input. -/
def bucketFillsWrong : ChangeSpec := { name := "bucketFills", fn := fun _ => fun
  | [d1, d2, d3] => { results := [.lit (.bool false)], args := [d1, d2, d3] }
  | _ => none }
def BucketFillsWrongFalsely : Prop := bucketFillsRow.holds Try.pinned (OpenSpec.ofChange bucketFillsWrong)

/-- 'doubletakelaw8.BucketKnown': WHATEVER THE INPUT: true; the input reads as it did. -/
def bucketKnownSpec : ChangeSpec := { name := "bucketKnown", fn := fun _ => fun
  | [] => { results := [.lit (.bool true)], args := [] }
  | _ => none }
def bucketKnownRow : OpenClaim := { program := "ytppobakdlpeicaa", sum := "58af04c26ee141f1e9bce36f4c50955fc72a1c866f64b9e27a9fa1d286ac4b20", func := "doubletake/doubletakelaw8.BucketKnown", spec := "bucketKnown", inPlace := ["math.Float64bits", "math.Float64frombits"], apart := false }
def BucketKnownSaid : Prop := bucketKnownRow.holds Try.pinned (OpenSpec.ofChange bucketKnownSpec)

/-- ITS FALSE NEIGHBOUR: 'it returns false'. Refute it at one input. -/
def bucketKnownWrong : ChangeSpec := { name := "bucketKnown", fn := fun _ => fun
  | [] => { results := [.lit (.bool false)], args := [] }
  | _ => none }
def BucketKnownWrongFalsely : Prop := bucketKnownRow.holds Try.pinned (OpenSpec.ofChange bucketKnownWrong)

/-- 'doubletakelaw9.MeterTwice': WHATEVER THE INPUT: true; the input reads as it did. -/
def meterTwiceSpec : ChangeSpec := { name := "meterTwice", fn := fun _ => fun
  | [d] => { results := [.lit (.bool true)], args := [d] }
  | _ => none }
def meterTwiceRow : OpenClaim := { program := "ytppobakdlpeicaa", sum := "58af04c26ee141f1e9bce36f4c50955fc72a1c866f64b9e27a9fa1d286ac4b20", func := "doubletake/doubletakelaw9.MeterTwice", spec := "meterTwice", inPlace := ["math.Float64bits", "math.Float64frombits"], apart := false }
def MeterTwiceSaid : Prop := meterTwiceRow.holds Try.pinned (OpenSpec.ofChange meterTwiceSpec)

/-- ITS FALSE NEIGHBOUR: 'it returns false'. Refute it at one input. -/
def meterTwiceWrong : ChangeSpec := { name := "meterTwice", fn := fun _ => fun
  | [d] => { results := [.lit (.bool false)], args := [d] }
  | _ => none }
def MeterTwiceWrongFalsely : Prop := meterTwiceRow.holds Try.pinned (OpenSpec.ofChange meterTwiceWrong)

/-- 'doubletakelaw9.MeterStays': WHATEVER THE INPUT: true; the input reads as it did. -/
def meterStaysSpec : ChangeSpec := { name := "meterStays", fn := fun _ => fun
  | [d1, d2, d3, d4] => { results := [.lit (.bool true)], args := [d1, d2, d3, d4] }
  | _ => none }
def meterStaysRow : OpenClaim := { program := "ytppobakdlpeicaa", sum := "58af04c26ee141f1e9bce36f4c50955fc72a1c866f64b9e27a9fa1d286ac4b20", func := "doubletake/doubletakelaw9.MeterStays", spec := "meterStays", inPlace := ["math.Float64bits", "math.Float64frombits", "math.archCeil", "math.archFloor", "math.archTrunc"], apart := false }
def MeterStaysSaid : Prop := meterStaysRow.holds Try.pinned (OpenSpec.ofChange meterStaysSpec)

/-- ITS FALSE NEIGHBOUR: 'it returns false'. Refute it at one input. -/
def meterStaysWrong : ChangeSpec := { name := "meterStays", fn := fun _ => fun
  | [d1, d2, d3, d4] => { results := [.lit (.bool false)], args := [d1, d2, d3, d4] }
  | _ => none }
def MeterStaysWrongFalsely : Prop := meterStaysRow.holds Try.pinned (OpenSpec.ofChange meterStaysWrong)

/-- 'doubletakelaw9.MeterKnown': WHATEVER THE INPUT: true; the input reads as it did. -/
def meterKnownSpec : ChangeSpec := { name := "meterKnown", fn := fun _ => fun
  | [] => { results := [.lit (.bool true)], args := [] }
  | _ => none }
def meterKnownRow : OpenClaim := { program := "ytppobakdlpeicaa", sum := "58af04c26ee141f1e9bce36f4c50955fc72a1c866f64b9e27a9fa1d286ac4b20", func := "doubletake/doubletakelaw9.MeterKnown", spec := "meterKnown", inPlace := ["math.Float64bits", "math.Float64frombits", "math.archCeil", "math.archFloor", "math.archTrunc"], apart := false }
def MeterKnownSaid : Prop := meterKnownRow.holds Try.pinned (OpenSpec.ofChange meterKnownSpec)

/-- ITS FALSE NEIGHBOUR: 'it returns false'. Refute it at one input. -/
def meterKnownWrong : ChangeSpec := { name := "meterKnown", fn := fun _ => fun
  | [] => { results := [.lit (.bool false)], args := [] }
  | _ => none }
def MeterKnownWrongFalsely : Prop := meterKnownRow.holds Try.pinned (OpenSpec.ofChange meterKnownWrong)

/-- 'doubletakelaw9.MeterNotes': WHATEVER THE INPUT: true; the input reads as it did. -/
def meterNotesSpec : ChangeSpec := { name := "meterNotes", fn := fun _ => fun
  | [d1, d2, d3] => { results := [.lit (.bool true)], args := [d1, d2, d3] }
  | _ => none }
def meterNotesRow : OpenClaim := { program := "ytppobakdlpeicaa", sum := "58af04c26ee141f1e9bce36f4c50955fc72a1c866f64b9e27a9fa1d286ac4b20", func := "doubletake/doubletakelaw9.MeterNotes", spec := "meterNotes", inPlace := ["math.Float64frombits", "math.Float64bits", "math.archCeil", "math.archFloor", "math.archTrunc"], apart := false }
def MeterNotesSaid : Prop := meterNotesRow.holds Try.pinned (OpenSpec.ofChange meterNotesSpec)

/-- ITS FALSE NEIGHBOUR: 'it returns false'. Refute it at one input. -/
def meterNotesWrong : ChangeSpec := { name := "meterNotes", fn := fun _ => fun
  | [d1, d2, d3] => { results := [.lit (.bool false)], args := [d1, d2, d3] }
  | _ => none }
def MeterNotesWrongFalsely : Prop := meterNotesRow.holds Try.pinned (OpenSpec.ofChange meterNotesWrong)

/- THE SECOND FORM. 'bulk': how many values and letters a reading holds, each counted each time it is reached (what is shared counts as often as it is met; a slice's spare places count too). A statement '..UptoSaid' is the law's where the arguments, and the package variables that the reading takes, are together of bulk at most 1048576: NARROWER than '..Said'. Prove '..Said' where nothing that the law and all that it calls make is longer than what came in: it says more and counts as full. Else prove '..UptoSaid'. A law counts once. -/
mutual
def uptoBulk {H : Type} : DataW H → Nat
  | .lit (.string bytes) => bytes.length + 1
  | .lit _ => 1
  | .nil => 1
  | .ptr d => uptoBulk d + 1
  | .slice elems spare => uptoBulkAll elems + uptoBulkAll spare + 1
  | .agg parts => uptoBulkAll parts + 1
  | .iface _ d => uptoBulk d + 1
  | .map entries => uptoBulkEntries entries + 1
  | .held _ => 1
def uptoBulkAll {H : Type} : List (DataW H) → Nat
  | [] => 0
  | d :: r => uptoBulk d + uptoBulkAll r
def uptoBulkEntries {H : Type} : List (Lit × DataW H) → Nat
  | [] => 0
  | x :: r => uptoBulkEntry x + uptoBulkEntries r
def uptoBulkEntry {H : Type} : Lit × DataW H → Nat
  | (.string bytes, d) => bytes.length + uptoBulk d + 1
  | (_, d) => uptoBulk d + 1
 end
def uptoSmall : (H : Type) → List (DataW H) → Bool := fun _ ds => decide (uptoBulkAll ds ≤ 1048576)
def OpenSpec.upto (s : _root_.Go.ChangeSpec) : _root_.Go.OpenSpec := { _root_.Go.OpenSpec.ofChange s with cond := some uptoSmall }

/-- 'doubletakelaw8.BucketBounds', WHERE WHAT IT READS IS OF BULK AT MOST 1048576: true; the input reads as it did. -/
def bucketBoundsUptoRow : OpenClaim := { program := "ytppobakdlpeicaa", sum := "58af04c26ee141f1e9bce36f4c50955fc72a1c866f64b9e27a9fa1d286ac4b20", func := "doubletake/doubletakelaw8.BucketBounds", spec := "bucketBounds", inPlace := ["math.Float64bits", "math.Float64frombits"], apart := false, narrowed := true }
def BucketBoundsUptoSaid : Prop := bucketBoundsUptoRow.holds Try.pinned (OpenSpec.upto bucketBoundsSpec)

/-- 'doubletakelaw8.BucketFills', WHERE WHAT IT READS IS OF BULK AT MOST 1048576: true; the input reads as it did. -/
def bucketFillsUptoRow : OpenClaim := { program := "ytppobakdlpeicaa", sum := "58af04c26ee141f1e9bce36f4c50955fc72a1c866f64b9e27a9fa1d286ac4b20", func := "doubletake/doubletakelaw8.BucketFills", spec := "bucketFills", inPlace := ["math.Float64bits", "math.Float64frombits"], apart := false, narrowed := true }
def BucketFillsUptoSaid : Prop := bucketFillsUptoRow.holds Try.pinned (OpenSpec.upto bucketFillsSpec)

/-- 'doubletakelaw8.BucketKnown', WHERE WHAT IT READS IS OF BULK AT MOST 1048576: true; the input reads as it did. -/
def bucketKnownUptoRow : OpenClaim := { program := "ytppobakdlpeicaa", sum := "58af04c26ee141f1e9bce36f4c50955fc72a1c866f64b9e27a9fa1d286ac4b20", func := "doubletake/doubletakelaw8.BucketKnown", spec := "bucketKnown", inPlace := ["math.Float64bits", "math.Float64frombits"], apart := false, narrowed := true }
def BucketKnownUptoSaid : Prop := bucketKnownUptoRow.holds Try.pinned (OpenSpec.upto bucketKnownSpec)

/-- 'doubletakelaw9.MeterTwice', WHERE WHAT IT READS IS OF BULK AT MOST 1048576: true; the input reads as it did. -/
def meterTwiceUptoRow : OpenClaim := { program := "ytppobakdlpeicaa", sum := "58af04c26ee141f1e9bce36f4c50955fc72a1c866f64b9e27a9fa1d286ac4b20", func := "doubletake/doubletakelaw9.MeterTwice", spec := "meterTwice", inPlace := ["math.Float64bits", "math.Float64frombits"], apart := false, narrowed := true }
def MeterTwiceUptoSaid : Prop := meterTwiceUptoRow.holds Try.pinned (OpenSpec.upto meterTwiceSpec)

/-- 'doubletakelaw9.MeterStays', WHERE WHAT IT READS IS OF BULK AT MOST 1048576: true; the input reads as it did. -/
def meterStaysUptoRow : OpenClaim := { program := "ytppobakdlpeicaa", sum := "58af04c26ee141f1e9bce36f4c50955fc72a1c866f64b9e27a9fa1d286ac4b20", func := "doubletake/doubletakelaw9.MeterStays", spec := "meterStays", inPlace := ["math.Float64bits", "math.Float64frombits", "math.archCeil", "math.archFloor", "math.archTrunc"], apart := false, narrowed := true }
def MeterStaysUptoSaid : Prop := meterStaysUptoRow.holds Try.pinned (OpenSpec.upto meterStaysSpec)

/-- 'doubletakelaw9.MeterKnown', WHERE WHAT IT READS IS OF BULK AT MOST 1048576: true; the input reads as it did. -/
def meterKnownUptoRow : OpenClaim := { program := "ytppobakdlpeicaa", sum := "58af04c26ee141f1e9bce36f4c50955fc72a1c866f64b9e27a9fa1d286ac4b20", func := "doubletake/doubletakelaw9.MeterKnown", spec := "meterKnown", inPlace := ["math.Float64bits", "math.Float64frombits", "math.archCeil", "math.archFloor", "math.archTrunc"], apart := false, narrowed := true }
def MeterKnownUptoSaid : Prop := meterKnownUptoRow.holds Try.pinned (OpenSpec.upto meterKnownSpec)

/-- 'doubletakelaw9.MeterNotes', WHERE WHAT IT READS IS OF BULK AT MOST 1048576: true; the input reads as it did. -/
def meterNotesUptoRow : OpenClaim := { program := "ytppobakdlpeicaa", sum := "58af04c26ee141f1e9bce36f4c50955fc72a1c866f64b9e27a9fa1d286ac4b20", func := "doubletake/doubletakelaw9.MeterNotes", spec := "meterNotes", inPlace := ["math.Float64frombits", "math.Float64bits", "math.archCeil", "math.archFloor", "math.archTrunc"], apart := false, narrowed := true }
def MeterNotesUptoSaid : Prop := meterNotesUptoRow.holds Try.pinned (OpenSpec.upto meterNotesSpec)

end Rows
end Go.Proofs.Ytppobakdlpeicaa
