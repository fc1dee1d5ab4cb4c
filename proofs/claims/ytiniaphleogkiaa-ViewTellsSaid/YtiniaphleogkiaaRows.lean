/-
  No cell of these rows narrows 'for every input' (looked for: loops, veiled, ifaces, maps, wideKeys, modest, calm, conditions, laid).
  DERIVED. THE GIVEN ROWS OF THIS SEAT. 12 by the template 'for every input the law returns true; each argument reads behind the call as it read before'; 0 by the template 'total and deterministic' (their statements: YtiniaphleogkiaaTotals.lean).
  GIVEN WITH THE SEED: the statements are not yours to turn. If you find one false, say at which input.
  Laid BY PROGRAM, IN A SANDBOX (cutbox-rows.mjs): the forced cells as the released guide's own fill.sh prints them over the translation c84bb02ac1919f27… (all of the seat's roots in one cut). By AI agents, Wed Nov 11 2026. No macro, syntax, notation, axiom, sorry.
-/
import Derived.Test.YtiniaphleogkiaaChecked
import GoSem.Claim
import GoSem.ClaimJoined
import GoSem.ClaimMapViews
import Derived.JoinedTies
import Derived.KernelRfl
namespace Go.Proofs.Ytiniaphleogkiaa
/- THE CELL 'sum', in the pinned program and in every row, IS THE sha256 OF THE DUMP (.gsa) THAT YtiniaphleogkiaaProg.lean LOADS. Nothing in Lean hashes anything: it is a label: what it is worth is what the hold of that sum in a sandbox is worth. -/
noncomputable def Try.pinned : Pinned := { name := "ytiniaphleogkiaa", sum := "c84bb02ac1919f2717bb5d179321896dbb3b9a4502ad563151284ffd76ef06fe", checked := Try.checked }
namespace Rows
def none {H : Type} : Left H := { results := [], args := [] }

/-- 'doubletakelaw1.StickKnown': WHATEVER THE INPUT: true; the input reads as it did. -/
def stickKnownSpec : ChangeSpec := { name := "stickKnown", fn := fun _ => fun
  | [] => { results := [.lit (.bool true)], args := [] }
  | _ => none }
def stickKnownRow : OpenClaim := { program := "ytiniaphleogkiaa", sum := "c84bb02ac1919f2717bb5d179321896dbb3b9a4502ad563151284ffd76ef06fe", func := "doubletake/doubletakelaw1.StickKnown", spec := "stickKnown", inPlace := ["math.Float64bits", "math.Float64frombits", "math.RoundToEven"], apart := false }
def StickKnownSaid : Prop := stickKnownRow.holds Try.pinned (OpenSpec.ofChange stickKnownSpec)

/-- ITS FALSE NEIGHBOUR: 'it returns false'. Refute it at one input. -/
def stickKnownWrong : ChangeSpec := { name := "stickKnown", fn := fun _ => fun
  | [] => { results := [.lit (.bool false)], args := [] }
  | _ => none }
def StickKnownWrongFalsely : Prop := stickKnownRow.holds Try.pinned (OpenSpec.ofChange stickKnownWrong)

/-- 'doubletakelaw1.StickDead': WHATEVER THE INPUT: true; the input reads as it did. -/
def stickDeadSpec : ChangeSpec := { name := "stickDead", fn := fun _ => fun
  | [d1, d2, d3, d4] => { results := [.lit (.bool true)], args := [d1, d2, d3, d4] }
  | _ => none }
def stickDeadRow : OpenClaim := { program := "ytiniaphleogkiaa", sum := "c84bb02ac1919f2717bb5d179321896dbb3b9a4502ad563151284ffd76ef06fe", func := "doubletake/doubletakelaw1.StickDead", spec := "stickDead", inPlace := ["math.Float64bits", "math.Float64frombits", "math.RoundToEven"], apart := false }
def StickDeadSaid : Prop := stickDeadRow.holds Try.pinned (OpenSpec.ofChange stickDeadSpec)

/-- ITS FALSE NEIGHBOUR: 'it returns false'. Refute it at one input. -/
def stickDeadWrong : ChangeSpec := { name := "stickDead", fn := fun _ => fun
  | [d1, d2, d3, d4] => { results := [.lit (.bool false)], args := [d1, d2, d3, d4] }
  | _ => none }
def StickDeadWrongFalsely : Prop := stickDeadRow.holds Try.pinned (OpenSpec.ofChange stickDeadWrong)

/-- 'doubletakelaw1.StickRound': WHATEVER THE INPUT: true; the input reads as it did. -/
def stickRoundSpec : ChangeSpec := { name := "stickRound", fn := fun _ => fun
  | [d1, d2] => { results := [.lit (.bool true)], args := [d1, d2] }
  | _ => none }
def stickRoundRow : OpenClaim := { program := "ytiniaphleogkiaa", sum := "c84bb02ac1919f2717bb5d179321896dbb3b9a4502ad563151284ffd76ef06fe", func := "doubletake/doubletakelaw1.StickRound", spec := "stickRound", inPlace := ["math.Float64bits", "math.Float64frombits", "math.RoundToEven"], apart := false }
def StickRoundSaid : Prop := stickRoundRow.holds Try.pinned (OpenSpec.ofChange stickRoundSpec)

/-- ITS FALSE NEIGHBOUR: 'it returns false'. Refute it at one input. -/
def stickRoundWrong : ChangeSpec := { name := "stickRound", fn := fun _ => fun
  | [d1, d2] => { results := [.lit (.bool false)], args := [d1, d2] }
  | _ => none }
def StickRoundWrongFalsely : Prop := stickRoundRow.holds Try.pinned (OpenSpec.ofChange stickRoundWrong)

/-- 'doubletakelaw1.StickTells': WHATEVER THE INPUT: true; the input reads as it did. -/
def stickTellsSpec : ChangeSpec := { name := "stickTells", fn := fun _ => fun
  | [d1, d2, d3, d4, d5] => { results := [.lit (.bool true)], args := [d1, d2, d3, d4, d5] }
  | _ => none }
def stickTellsRow : OpenClaim := { program := "ytiniaphleogkiaa", sum := "c84bb02ac1919f2717bb5d179321896dbb3b9a4502ad563151284ffd76ef06fe", func := "doubletake/doubletakelaw1.StickTells", spec := "stickTells", inPlace := ["math.Float64frombits", "math.Float64bits", "math.RoundToEven"], apart := false }
def StickTellsSaid : Prop := stickTellsRow.holds Try.pinned (OpenSpec.ofChange stickTellsSpec)

/-- ITS FALSE NEIGHBOUR: 'it returns false'. Refute it at one input. -/
def stickTellsWrong : ChangeSpec := { name := "stickTells", fn := fun _ => fun
  | [d1, d2, d3, d4, d5] => { results := [.lit (.bool false)], args := [d1, d2, d3, d4, d5] }
  | _ => none }
def StickTellsWrongFalsely : Prop := stickTellsRow.holds Try.pinned (OpenSpec.ofChange stickTellsWrong)

/-- 'doubletakelaw1.StickSides': WHATEVER THE INPUT: true; the input reads as it did. -/
def stickSidesSpec : ChangeSpec := { name := "stickSides", fn := fun _ => fun
  | [d1, d2, d3, d4, d5, d6, d7] => { results := [.lit (.bool true)], args := [d1, d2, d3, d4, d5, d6, d7] }
  | _ => none }
def stickSidesRow : OpenClaim := { program := "ytiniaphleogkiaa", sum := "c84bb02ac1919f2717bb5d179321896dbb3b9a4502ad563151284ffd76ef06fe", func := "doubletake/doubletakelaw1.StickSides", spec := "stickSides", inPlace := ["math.Float64frombits", "math.Float64bits", "math.RoundToEven"], apart := false }
def StickSidesSaid : Prop := stickSidesRow.holds Try.pinned (OpenSpec.ofChange stickSidesSpec)

/-- ITS FALSE NEIGHBOUR: 'it returns false'. Refute it at one input. -/
def stickSidesWrong : ChangeSpec := { name := "stickSides", fn := fun _ => fun
  | [d1, d2, d3, d4, d5, d6, d7] => { results := [.lit (.bool false)], args := [d1, d2, d3, d4, d5, d6, d7] }
  | _ => none }
def StickSidesWrongFalsely : Prop := stickSidesRow.holds Try.pinned (OpenSpec.ofChange stickSidesWrong)

/-- 'doubletakelaw2.ViewMoves': WHATEVER THE INPUT: true; the input reads as it did. -/
def viewMovesSpec : ChangeSpec := { name := "viewMoves", fn := fun _ => fun
  | [d1, d2, d3, d4] => { results := [.lit (.bool true)], args := [d1, d2, d3, d4] }
  | _ => none }
def viewMovesRow : OpenClaim := { program := "ytiniaphleogkiaa", sum := "c84bb02ac1919f2717bb5d179321896dbb3b9a4502ad563151284ffd76ef06fe", func := "doubletake/doubletakelaw2.ViewMoves", spec := "viewMoves", inPlace := ["math.Float64bits", "math.Float64frombits"], unfollowed := true, recurses := true, apart := false }
def ViewMovesSaid : Prop := viewMovesRow.holds Try.pinned (OpenSpec.ofChange viewMovesSpec)

/-- ITS FALSE NEIGHBOUR: 'it returns false'. Refute it at one input. -/
def viewMovesWrong : ChangeSpec := { name := "viewMoves", fn := fun _ => fun
  | [d1, d2, d3, d4] => { results := [.lit (.bool false)], args := [d1, d2, d3, d4] }
  | _ => none }
def ViewMovesWrongFalsely : Prop := viewMovesRow.holds Try.pinned (OpenSpec.ofChange viewMovesWrong)

/-- 'doubletakelaw2.ViewSlides': WHATEVER THE INPUT: true; the input reads as it did. -/
def viewSlidesSpec : ChangeSpec := { name := "viewSlides", fn := fun _ => fun
  | [d1, d2] => { results := [.lit (.bool true)], args := [d1, d2] }
  | _ => none }
def viewSlidesRow : OpenClaim := { program := "ytiniaphleogkiaa", sum := "c84bb02ac1919f2717bb5d179321896dbb3b9a4502ad563151284ffd76ef06fe", func := "doubletake/doubletakelaw2.ViewSlides", spec := "viewSlides", inPlace := ["math.Float64bits", "math.Float64frombits"], unfollowed := true, recurses := true, apart := false }
def ViewSlidesSaid : Prop := viewSlidesRow.holds Try.pinned (OpenSpec.ofChange viewSlidesSpec)

/-- ITS FALSE NEIGHBOUR: 'it returns false'. Refute it at one input. -/
def viewSlidesWrong : ChangeSpec := { name := "viewSlides", fn := fun _ => fun
  | [d1, d2] => { results := [.lit (.bool false)], args := [d1, d2] }
  | _ => none }
def ViewSlidesWrongFalsely : Prop := viewSlidesRow.holds Try.pinned (OpenSpec.ofChange viewSlidesWrong)

/-- 'doubletakelaw2.ViewKnown': WHATEVER THE INPUT: true; the input reads as it did. -/
def viewKnownSpec : ChangeSpec := { name := "viewKnown", fn := fun _ => fun
  | [] => { results := [.lit (.bool true)], args := [] }
  | _ => none }
def viewKnownRow : OpenClaim := { program := "ytiniaphleogkiaa", sum := "c84bb02ac1919f2717bb5d179321896dbb3b9a4502ad563151284ffd76ef06fe", func := "doubletake/doubletakelaw2.ViewKnown", spec := "viewKnown", inPlace := ["math.Float64bits", "math.Float64frombits"], unfollowed := true, recurses := true, apart := false }
def ViewKnownSaid : Prop := viewKnownRow.holds Try.pinned (OpenSpec.ofChange viewKnownSpec)

/-- ITS FALSE NEIGHBOUR: 'it returns false'. Refute it at one input. -/
def viewKnownWrong : ChangeSpec := { name := "viewKnown", fn := fun _ => fun
  | [] => { results := [.lit (.bool false)], args := [] }
  | _ => none }
def ViewKnownWrongFalsely : Prop := viewKnownRow.holds Try.pinned (OpenSpec.ofChange viewKnownWrong)

/-- 'doubletakelaw2.ViewTells': WHATEVER THE INPUT: true; the input reads as it did. -/
def viewTellsSpec : ChangeSpec := { name := "viewTells", fn := fun _ => fun
  | [d1, d2, d3, d4, d5, d6, d7, d8] => { results := [.lit (.bool true)], args := [d1, d2, d3, d4, d5, d6, d7, d8] }
  | _ => none }
def viewTellsRow : OpenClaim := { program := "ytiniaphleogkiaa", sum := "c84bb02ac1919f2717bb5d179321896dbb3b9a4502ad563151284ffd76ef06fe", func := "doubletake/doubletakelaw2.ViewTells", spec := "viewTells", inPlace := ["math.Float64frombits", "math.Float64bits"], unfollowed := true, recurses := true, apart := false }
def ViewTellsSaid : Prop := viewTellsRow.holds Try.pinned (OpenSpec.ofChange viewTellsSpec)

/-- ITS FALSE NEIGHBOUR: 'it returns false'. Refute it at one input. -/
def viewTellsWrong : ChangeSpec := { name := "viewTells", fn := fun _ => fun
  | [d1, d2, d3, d4, d5, d6, d7, d8] => { results := [.lit (.bool false)], args := [d1, d2, d3, d4, d5, d6, d7, d8] }
  | _ => none }
def ViewTellsWrongFalsely : Prop := viewTellsRow.holds Try.pinned (OpenSpec.ofChange viewTellsWrong)

/-- 'doubletakelaw2.ViewOrders': WHATEVER THE INPUT: true; the input reads as it did. -/
def viewOrdersSpec : ChangeSpec := { name := "viewOrders", fn := fun _ => fun
  | [d1, d2] => { results := [.lit (.bool true)], args := [d1, d2] }
  | _ => none }
def viewOrdersRow : OpenClaim := { program := "ytiniaphleogkiaa", sum := "c84bb02ac1919f2717bb5d179321896dbb3b9a4502ad563151284ffd76ef06fe", func := "doubletake/doubletakelaw2.ViewOrders", spec := "viewOrders", inPlace := ["math.Float64frombits", "math.Float64bits"], unfollowed := true, recurses := true, apart := false }
def ViewOrdersSaid : Prop := viewOrdersRow.holds Try.pinned (OpenSpec.ofChange viewOrdersSpec)

/-- ITS FALSE NEIGHBOUR: 'it returns false'. Refute it at one input. -/
def viewOrdersWrong : ChangeSpec := { name := "viewOrders", fn := fun _ => fun
  | [d1, d2] => { results := [.lit (.bool false)], args := [d1, d2] }
  | _ => none }
def ViewOrdersWrongFalsely : Prop := viewOrdersRow.holds Try.pinned (OpenSpec.ofChange viewOrdersWrong)

/-- 'doubletakelaw2.ViewRanks': WHATEVER THE INPUT: true; the input reads as it did. -/
def viewRanksSpec : ChangeSpec := { name := "viewRanks", fn := fun _ => fun
  | [d1, d2, d3, d4, d5, d6] => { results := [.lit (.bool true)], args := [d1, d2, d3, d4, d5, d6] }
  | _ => none }
def viewRanksRow : OpenClaim := { program := "ytiniaphleogkiaa", sum := "c84bb02ac1919f2717bb5d179321896dbb3b9a4502ad563151284ffd76ef06fe", func := "doubletake/doubletakelaw2.ViewRanks", spec := "viewRanks", inPlace := ["math.Float64frombits", "math.Float64bits"], unfollowed := true, recurses := true, apart := false }
def ViewRanksSaid : Prop := viewRanksRow.holds Try.pinned (OpenSpec.ofChange viewRanksSpec)

/-- ITS FALSE NEIGHBOUR: 'it returns false'. Refute it at one input. -/
def viewRanksWrong : ChangeSpec := { name := "viewRanks", fn := fun _ => fun
  | [d1, d2, d3, d4, d5, d6] => { results := [.lit (.bool false)], args := [d1, d2, d3, d4, d5, d6] }
  | _ => none }
def ViewRanksWrongFalsely : Prop := viewRanksRow.holds Try.pinned (OpenSpec.ofChange viewRanksWrong)

/-- 'doubletakelaw2.ViewEnds': WHATEVER THE INPUT: true; the input reads as it did. -/
def viewEndsSpec : ChangeSpec := { name := "viewEnds", fn := fun _ => fun
  | [d1, d2, d3, d4, d5, d6] => { results := [.lit (.bool true)], args := [d1, d2, d3, d4, d5, d6] }
  | _ => none }
def viewEndsRow : OpenClaim := { program := "ytiniaphleogkiaa", sum := "c84bb02ac1919f2717bb5d179321896dbb3b9a4502ad563151284ffd76ef06fe", func := "doubletake/doubletakelaw2.ViewEnds", spec := "viewEnds", inPlace := ["math.Float64frombits", "math.Float64bits"], unfollowed := true, recurses := true, apart := false }
def ViewEndsSaid : Prop := viewEndsRow.holds Try.pinned (OpenSpec.ofChange viewEndsSpec)

/-- ITS FALSE NEIGHBOUR: 'it returns false'. Refute it at one input. -/
def viewEndsWrong : ChangeSpec := { name := "viewEnds", fn := fun _ => fun
  | [d1, d2, d3, d4, d5, d6] => { results := [.lit (.bool false)], args := [d1, d2, d3, d4, d5, d6] }
  | _ => none }
def ViewEndsWrongFalsely : Prop := viewEndsRow.holds Try.pinned (OpenSpec.ofChange viewEndsWrong)

/- THE SECOND FORM. 'bulk': how many values and letters a reading holds, each counted each time it is reached (what is shared counts as often as it is met; a slice's spare places count too). A statement '..UptoSaid' is the law's where the arguments, and the package variables that the reading takes, are together of bulk at most 1048576: NARROWER than '..Said'. Prove '..Said' where nothing that the law and all that it calls make is longer than what came in: it says more and counts as full. Else prove '..UptoSaid'. A law counts once. -/
mutual
def uptoBulk {H : Type} : DataW H → Nat
  | .lit (.string bytes) => bytes.length + 1
  | .lit _ => 1
  | .nil => 1
  | .ptr d => uptoBulk d + 1
  | .slice elems spare => uptoBulkAll elems + uptoBulkAll spare + 1
  | .agg parts => uptoBulkAll parts + 1
  | .iface _ d => uptoBulk d + 1
  | .map entries => uptoBulkEntries entries + 1
  | .held _ => 1
def uptoBulkAll {H : Type} : List (DataW H) → Nat
  | [] => 0
  | d :: r => uptoBulk d + uptoBulkAll r
def uptoBulkEntries {H : Type} : List (Lit × DataW H) → Nat
  | [] => 0
  | x :: r => uptoBulkEntry x + uptoBulkEntries r
def uptoBulkEntry {H : Type} : Lit × DataW H → Nat
  | (.string bytes, d) => bytes.length + uptoBulk d + 1
  | (_, d) => uptoBulk d + 1
 end
def uptoSmall : (H : Type) → List (DataW H) → Bool := fun _ ds => decide (uptoBulkAll ds ≤ 1048576)
def OpenSpec.upto (s : _root_.Go.ChangeSpec) : _root_.Go.OpenSpec := { _root_.Go.OpenSpec.ofChange s with cond := some uptoSmall }

/-- 'doubletakelaw1.StickKnown', WHERE WHAT IT READS IS OF BULK AT MOST 1048576: true; the input reads as it did. -/
def stickKnownUptoRow : OpenClaim := { program := "ytiniaphleogkiaa", sum := "c84bb02ac1919f2717bb5d179321896dbb3b9a4502ad563151284ffd76ef06fe", func := "doubletake/doubletakelaw1.StickKnown", spec := "stickKnown", inPlace := ["math.Float64bits", "math.Float64frombits", "math.RoundToEven"], apart := false, narrowed := true }
def StickKnownUptoSaid : Prop := stickKnownUptoRow.holds Try.pinned (OpenSpec.upto stickKnownSpec)

/-- 'doubletakelaw1.StickDead', WHERE WHAT IT READS IS OF BULK AT MOST 1048576: true; the input reads as it did. -/
def stickDeadUptoRow : OpenClaim := { program := "ytiniaphleogkiaa", sum := "c84bb02ac1919f2717bb5d179321896dbb3b9a4502ad563151284ffd76ef06fe", func := "doubletake/doubletakelaw1.StickDead", spec := "stickDead", inPlace := ["math.Float64bits", "math.Float64frombits", "math.RoundToEven"], apart := false, narrowed := true }
def StickDeadUptoSaid : Prop := stickDeadUptoRow.holds Try.pinned (OpenSpec.upto stickDeadSpec)

/-- 'doubletakelaw1.StickRound', WHERE WHAT IT READS IS OF BULK AT MOST 1048576: true; the input reads as it did. -/
def stickRoundUptoRow : OpenClaim := { program := "ytiniaphleogkiaa", sum := "c84bb02ac1919f2717bb5d179321896dbb3b9a4502ad563151284ffd76ef06fe", func := "doubletake/doubletakelaw1.StickRound", spec := "stickRound", inPlace := ["math.Float64bits", "math.Float64frombits", "math.RoundToEven"], apart := false, narrowed := true }
def StickRoundUptoSaid : Prop := stickRoundUptoRow.holds Try.pinned (OpenSpec.upto stickRoundSpec)

/-- 'doubletakelaw1.StickTells', WHERE WHAT IT READS IS OF BULK AT MOST 1048576: true; the input reads as it did. -/
def stickTellsUptoRow : OpenClaim := { program := "ytiniaphleogkiaa", sum := "c84bb02ac1919f2717bb5d179321896dbb3b9a4502ad563151284ffd76ef06fe", func := "doubletake/doubletakelaw1.StickTells", spec := "stickTells", inPlace := ["math.Float64frombits", "math.Float64bits", "math.RoundToEven"], apart := false, narrowed := true }
def StickTellsUptoSaid : Prop := stickTellsUptoRow.holds Try.pinned (OpenSpec.upto stickTellsSpec)

/-- 'doubletakelaw1.StickSides', WHERE WHAT IT READS IS OF BULK AT MOST 1048576: true; the input reads as it did. -/
def stickSidesUptoRow : OpenClaim := { program := "ytiniaphleogkiaa", sum := "c84bb02ac1919f2717bb5d179321896dbb3b9a4502ad563151284ffd76ef06fe", func := "doubletake/doubletakelaw1.StickSides", spec := "stickSides", inPlace := ["math.Float64frombits", "math.Float64bits", "math.RoundToEven"], apart := false, narrowed := true }
def StickSidesUptoSaid : Prop := stickSidesUptoRow.holds Try.pinned (OpenSpec.upto stickSidesSpec)

/-- 'doubletakelaw2.ViewMoves', WHERE WHAT IT READS IS OF BULK AT MOST 1048576: true; the input reads as it did. -/
def viewMovesUptoRow : OpenClaim := { program := "ytiniaphleogkiaa", sum := "c84bb02ac1919f2717bb5d179321896dbb3b9a4502ad563151284ffd76ef06fe", func := "doubletake/doubletakelaw2.ViewMoves", spec := "viewMoves", inPlace := ["math.Float64bits", "math.Float64frombits"], unfollowed := true, recurses := true, apart := false, narrowed := true }
def ViewMovesUptoSaid : Prop := viewMovesUptoRow.holds Try.pinned (OpenSpec.upto viewMovesSpec)

/-- 'doubletakelaw2.ViewSlides', WHERE WHAT IT READS IS OF BULK AT MOST 1048576: true; the input reads as it did. -/
def viewSlidesUptoRow : OpenClaim := { program := "ytiniaphleogkiaa", sum := "c84bb02ac1919f2717bb5d179321896dbb3b9a4502ad563151284ffd76ef06fe", func := "doubletake/doubletakelaw2.ViewSlides", spec := "viewSlides", inPlace := ["math.Float64bits", "math.Float64frombits"], unfollowed := true, recurses := true, apart := false, narrowed := true }
def ViewSlidesUptoSaid : Prop := viewSlidesUptoRow.holds Try.pinned (OpenSpec.upto viewSlidesSpec)

/-- 'doubletakelaw2.ViewKnown', WHERE WHAT IT READS IS OF BULK AT MOST 1048576: true; the input reads as it did. -/
def viewKnownUptoRow : OpenClaim := { program := "ytiniaphleogkiaa", sum := "c84bb02ac1919f2717bb5d179321896dbb3b9a4502ad563151284ffd76ef06fe", func := "doubletake/doubletakelaw2.ViewKnown", spec := "viewKnown", inPlace := ["math.Float64bits", "math.Float64frombits"], unfollowed := true, recurses := true, apart := false, narrowed := true }
def ViewKnownUptoSaid : Prop := viewKnownUptoRow.holds Try.pinned (OpenSpec.upto viewKnownSpec)

/-- 'doubletakelaw2.ViewTells', WHERE WHAT IT READS IS OF BULK AT MOST 1048576: true; the input reads as it did. -/
def viewTellsUptoRow : OpenClaim := { program := "ytiniaphleogkiaa", sum := "c84bb02ac1919f2717bb5d179321896dbb3b9a4502ad563151284ffd76ef06fe", func := "doubletake/doubletakelaw2.ViewTells", spec := "viewTells", inPlace := ["math.Float64frombits", "math.Float64bits"], unfollowed := true, recurses := true, apart := false, narrowed := true }
def ViewTellsUptoSaid : Prop := viewTellsUptoRow.holds Try.pinned (OpenSpec.upto viewTellsSpec)

/-- 'doubletakelaw2.ViewOrders', WHERE WHAT IT READS IS OF BULK AT MOST 1048576: true; the input reads as it did. -/
def viewOrdersUptoRow : OpenClaim := { program := "ytiniaphleogkiaa", sum := "c84bb02ac1919f2717bb5d179321896dbb3b9a4502ad563151284ffd76ef06fe", func := "doubletake/doubletakelaw2.ViewOrders", spec := "viewOrders", inPlace := ["math.Float64frombits", "math.Float64bits"], unfollowed := true, recurses := true, apart := false, narrowed := true }
def ViewOrdersUptoSaid : Prop := viewOrdersUptoRow.holds Try.pinned (OpenSpec.upto viewOrdersSpec)

/-- 'doubletakelaw2.ViewRanks', WHERE WHAT IT READS IS OF BULK AT MOST 1048576: true; the input reads as it did. -/
def viewRanksUptoRow : OpenClaim := { program := "ytiniaphleogkiaa", sum := "c84bb02ac1919f2717bb5d179321896dbb3b9a4502ad563151284ffd76ef06fe", func := "doubletake/doubletakelaw2.ViewRanks", spec := "viewRanks", inPlace := ["math.Float64frombits", "math.Float64bits"], unfollowed := true, recurses := true, apart := false, narrowed := true }
def ViewRanksUptoSaid : Prop := viewRanksUptoRow.holds Try.pinned (OpenSpec.upto viewRanksSpec)

/-- 'doubletakelaw2.ViewEnds', WHERE WHAT IT READS IS OF BULK AT MOST 1048576: true; the input reads as it did. -/
def viewEndsUptoRow : OpenClaim := { program := "ytiniaphleogkiaa", sum := "c84bb02ac1919f2717bb5d179321896dbb3b9a4502ad563151284ffd76ef06fe", func := "doubletake/doubletakelaw2.ViewEnds", spec := "viewEnds", inPlace := ["math.Float64frombits", "math.Float64bits"], unfollowed := true, recurses := true, apart := false, narrowed := true }
def ViewEndsUptoSaid : Prop := viewEndsUptoRow.holds Try.pinned (OpenSpec.upto viewEndsSpec)

end Rows
end Go.Proofs.Ytiniaphleogkiaa
