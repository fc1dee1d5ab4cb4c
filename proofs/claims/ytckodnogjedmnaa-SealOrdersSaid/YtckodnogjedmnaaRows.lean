/-
  No cell of these rows narrows 'for every input' (looked for: loops, veiled, ifaces, maps, wideKeys, modest, calm, conditions, laid).
  DERIVED. THE GIVEN ROWS OF THIS SEAT. 8 by the template 'for every input the law returns true; each argument reads behind the call as it read before'; 0 by the template 'total and deterministic' (their statements: YtckodnogjedmnaaTotals.lean).
  GIVEN WITH THE SEED: the statements are not yours to turn. If you find one false, say at which input.
  Laid BY PROGRAM, IN A SANDBOX (cutbox-rows.mjs): the forced cells as the released guide's own fill.sh prints them over the translation 53a46a6e7f4a7973… (all of the seat's roots in one cut). By AI agents, Wed Nov 11 2026. No macro, syntax, notation, axiom, sorry.
-/
import Derived.Test.YtckodnogjedmnaaChecked
import GoSem.Claim
import GoSem.ClaimJoined
import GoSem.ClaimMapViews
import Derived.JoinedTies
import Derived.KernelRfl
namespace Go.Proofs.Ytckodnogjedmnaa
/- THE CELL 'sum', in the pinned program and in every row, IS THE sha256 OF THE DUMP (.gsa) THAT YtckodnogjedmnaaProg.lean LOADS. Nothing in Lean hashes anything: it is a label: what it is worth is what the hold of that sum in a sandbox is worth. -/
noncomputable def Try.pinned : Pinned := { name := "ytckodnogjedmnaa", sum := "53a46a6e7f4a7973ec2e67dd06600c7490dcb71ebb7f095069fe723c27056fd6", checked := Try.checked }
namespace Rows
def none {H : Type} : Left H := { results := [], args := [] }

/-- 'doubletakelaw22.JitterKnown': WHATEVER THE INPUT: true; the input reads as it did. -/
def jitterKnownSpec : ChangeSpec := { name := "jitterKnown", fn := fun _ => fun
  | [] => { results := [.lit (.bool true)], args := [] }
  | _ => none }
def jitterKnownRow : OpenClaim := { program := "ytckodnogjedmnaa", sum := "53a46a6e7f4a7973ec2e67dd06600c7490dcb71ebb7f095069fe723c27056fd6", func := "doubletake/doubletakelaw22.JitterKnown", spec := "jitterKnown", apart := false }
def JitterKnownSaid : Prop := jitterKnownRow.holds Try.pinned (OpenSpec.ofChange jitterKnownSpec)

/-- ITS FALSE NEIGHBOUR: 'it returns false'. Refute it at one input. -/
def jitterKnownWrong : ChangeSpec := { name := "jitterKnown", fn := fun _ => fun
  | [] => { results := [.lit (.bool false)], args := [] }
  | _ => none }
def JitterKnownWrongFalsely : Prop := jitterKnownRow.holds Try.pinned (OpenSpec.ofChange jitterKnownWrong)

/-- 'doubletakelaw22.JitterActs': WHATEVER THE INPUT: true; the input reads as it did. -/
def jitterActsSpec : ChangeSpec := { name := "jitterActs", fn := fun _ => fun
  | [d1, d2] => { results := [.lit (.bool true)], args := [d1, d2] }
  | _ => none }
def jitterActsRow : OpenClaim := { program := "ytckodnogjedmnaa", sum := "53a46a6e7f4a7973ec2e67dd06600c7490dcb71ebb7f095069fe723c27056fd6", func := "doubletake/doubletakelaw22.JitterActs", spec := "jitterActs", apart := false }
def JitterActsSaid : Prop := jitterActsRow.holds Try.pinned (OpenSpec.ofChange jitterActsSpec)

/-- ITS FALSE NEIGHBOUR: 'it returns false'. Refute it at one input. -/
def jitterActsWrong : ChangeSpec := { name := "jitterActs", fn := fun _ => fun
  | [d1, d2] => { results := [.lit (.bool false)], args := [d1, d2] }
  | _ => none }
def JitterActsWrongFalsely : Prop := jitterActsRow.holds Try.pinned (OpenSpec.ofChange jitterActsWrong)

/-- 'doubletakelaw22.JitterAll': WHATEVER THE INPUT: true; the input reads as it did. -/
def jitterAllSpec : ChangeSpec := { name := "jitterAll", fn := fun _ => fun
  | [d1, d2, d3] => { results := [.lit (.bool true)], args := [d1, d2, d3] }
  | _ => none }
def jitterAllRow : OpenClaim := { program := "ytckodnogjedmnaa", sum := "53a46a6e7f4a7973ec2e67dd06600c7490dcb71ebb7f095069fe723c27056fd6", func := "doubletake/doubletakelaw22.JitterAll", spec := "jitterAll", apart := false }
def JitterAllSaid : Prop := jitterAllRow.holds Try.pinned (OpenSpec.ofChange jitterAllSpec)

/-- ITS FALSE NEIGHBOUR: 'it returns false'. Refute it at one input. -/
def jitterAllWrong : ChangeSpec := { name := "jitterAll", fn := fun _ => fun
  | [d1, d2, d3] => { results := [.lit (.bool false)], args := [d1, d2, d3] }
  | _ => none }
def JitterAllWrongFalsely : Prop := jitterAllRow.holds Try.pinned (OpenSpec.ofChange jitterAllWrong)

/-- 'doubletakelaw18.SealTimes': WHATEVER THE INPUT: true; the input reads as it did. -/
def sealTimesSpec : ChangeSpec := { name := "sealTimes", fn := fun _ => fun
  | [d1, d2] => { results := [.lit (.bool true)], args := [d1, d2] }
  | _ => none }
def sealTimesRow : OpenClaim := { program := "ytckodnogjedmnaa", sum := "53a46a6e7f4a7973ec2e67dd06600c7490dcb71ebb7f095069fe723c27056fd6", func := "doubletake/doubletakelaw18.SealTimes", spec := "sealTimes", inPlace := ["math.Float64bits", "math.Float64frombits"], unfollowed := true, recurses := true, apart := false }
def SealTimesSaid : Prop := sealTimesRow.holds Try.pinned (OpenSpec.ofChange sealTimesSpec)

/-- ITS FALSE NEIGHBOUR: 'it returns false'. Refute it at one input. -/
def sealTimesWrong : ChangeSpec := { name := "sealTimes", fn := fun _ => fun
  | [d1, d2] => { results := [.lit (.bool false)], args := [d1, d2] }
  | _ => none }
def SealTimesWrongFalsely : Prop := sealTimesRow.holds Try.pinned (OpenSpec.ofChange sealTimesWrong)

/-- 'doubletakelaw18.SealOnce': WHATEVER THE INPUT: true; the input reads as it did. -/
def sealOnceSpec : ChangeSpec := { name := "sealOnce", fn := fun _ => fun
  | [d1, d2] => { results := [.lit (.bool true)], args := [d1, d2] }
  | _ => none }
def sealOnceRow : OpenClaim := { program := "ytckodnogjedmnaa", sum := "53a46a6e7f4a7973ec2e67dd06600c7490dcb71ebb7f095069fe723c27056fd6", func := "doubletake/doubletakelaw18.SealOnce", spec := "sealOnce", inPlace := ["math.Float64bits", "math.Float64frombits"], unfollowed := true, recurses := true, apart := false }
def SealOnceSaid : Prop := sealOnceRow.holds Try.pinned (OpenSpec.ofChange sealOnceSpec)

/-- ITS FALSE NEIGHBOUR: 'it returns false'. Refute it at one input. -/
def sealOnceWrong : ChangeSpec := { name := "sealOnce", fn := fun _ => fun
  | [d1, d2] => { results := [.lit (.bool false)], args := [d1, d2] }
  | _ => none }
def SealOnceWrongFalsely : Prop := sealOnceRow.holds Try.pinned (OpenSpec.ofChange sealOnceWrong)

/-- 'doubletakelaw18.SealKnown': WHATEVER THE INPUT: true; the input reads as it did. -/
def sealKnownSpec : ChangeSpec := { name := "sealKnown", fn := fun _ => fun
  | [] => { results := [.lit (.bool true)], args := [] }
  | _ => none }
def sealKnownRow : OpenClaim := { program := "ytckodnogjedmnaa", sum := "53a46a6e7f4a7973ec2e67dd06600c7490dcb71ebb7f095069fe723c27056fd6", func := "doubletake/doubletakelaw18.SealKnown", spec := "sealKnown", inPlace := ["math.Float64bits", "math.Float64frombits"], unfollowed := true, recurses := true, apart := false }
def SealKnownSaid : Prop := sealKnownRow.holds Try.pinned (OpenSpec.ofChange sealKnownSpec)

/-- ITS FALSE NEIGHBOUR: 'it returns false'. Refute it at one input. -/
def sealKnownWrong : ChangeSpec := { name := "sealKnown", fn := fun _ => fun
  | [] => { results := [.lit (.bool false)], args := [] }
  | _ => none }
def SealKnownWrongFalsely : Prop := sealKnownRow.holds Try.pinned (OpenSpec.ofChange sealKnownWrong)

/-- 'doubletakelaw18.SealActs': WHATEVER THE INPUT: true; the input reads as it did. -/
def sealActsSpec : ChangeSpec := { name := "sealActs", fn := fun _ => fun
  | [d1, d2] => { results := [.lit (.bool true)], args := [d1, d2] }
  | _ => none }
def sealActsRow : OpenClaim := { program := "ytckodnogjedmnaa", sum := "53a46a6e7f4a7973ec2e67dd06600c7490dcb71ebb7f095069fe723c27056fd6", func := "doubletake/doubletakelaw18.SealActs", spec := "sealActs", inPlace := ["math.Float64bits", "math.Float64frombits"], unfollowed := true, recurses := true, apart := false }
def SealActsSaid : Prop := sealActsRow.holds Try.pinned (OpenSpec.ofChange sealActsSpec)

/-- ITS FALSE NEIGHBOUR: 'it returns false'. Refute it at one input. -/
def sealActsWrong : ChangeSpec := { name := "sealActs", fn := fun _ => fun
  | [d1, d2] => { results := [.lit (.bool false)], args := [d1, d2] }
  | _ => none }
def SealActsWrongFalsely : Prop := sealActsRow.holds Try.pinned (OpenSpec.ofChange sealActsWrong)

/-- 'doubletakelaw18.SealOrders': WHATEVER THE INPUT: true; the input reads as it did. -/
def sealOrdersSpec : ChangeSpec := { name := "sealOrders", fn := fun _ => fun
  | [d1, d2, d3] => { results := [.lit (.bool true)], args := [d1, d2, d3] }
  | _ => none }
def sealOrdersRow : OpenClaim := { program := "ytckodnogjedmnaa", sum := "53a46a6e7f4a7973ec2e67dd06600c7490dcb71ebb7f095069fe723c27056fd6", func := "doubletake/doubletakelaw18.SealOrders", spec := "sealOrders", inPlace := ["math.Float64bits", "math.Float64frombits"], unfollowed := true, recurses := true, apart := false }
def SealOrdersSaid : Prop := sealOrdersRow.holds Try.pinned (OpenSpec.ofChange sealOrdersSpec)

/-- ITS FALSE NEIGHBOUR: 'it returns false'. Refute it at one input. -/
def sealOrdersWrong : ChangeSpec := { name := "sealOrders", fn := fun _ => fun
  | [d1, d2, d3] => { results := [.lit (.bool false)], args := [d1, d2, d3] }
  | _ => none }
def SealOrdersWrongFalsely : Prop := sealOrdersRow.holds Try.pinned (OpenSpec.ofChange sealOrdersWrong)

/- THE SECOND FORM. 'bulk': how many values and letters a reading holds, each counted each time it is reached (what is shared counts as often as it is met; a slice's spare places count too). A statement '..UptoSaid' is the law's where the arguments, and the package variables that the reading takes, are together of bulk at most 1048576: NARROWER than '..Said'. Prove '..Said' where nothing that the law and all that it calls make is longer than what came in: it says more and counts as full. Else prove '..UptoSaid'. A law counts once. -/
mutual
def uptoBulk {H : Type} : DataW H → Nat
  | .lit (.string bytes) => bytes.length + 1
  | .lit _ => 1
  | .nil => 1
  | .ptr d => uptoBulk d + 1
  | .slice elems spare => uptoBulkAll elems + uptoBulkAll spare + 1
  | .agg parts => uptoBulkAll parts + 1
  | .iface _ d => uptoBulk d + 1
  | .map entries => uptoBulkEntries entries + 1
  | .held _ => 1
def uptoBulkAll {H : Type} : List (DataW H) → Nat
  | [] => 0
  | d :: r => uptoBulk d + uptoBulkAll r
def uptoBulkEntries {H : Type} : List (Lit × DataW H) → Nat
  | [] => 0
  | x :: r => uptoBulkEntry x + uptoBulkEntries r
def uptoBulkEntry {H : Type} : Lit × DataW H → Nat
  | (.string bytes, d) => bytes.length + uptoBulk d + 1
  | (_, d) => uptoBulk d + 1
 end
def uptoSmall : (H : Type) → List (DataW H) → Bool := fun _ ds => decide (uptoBulkAll ds ≤ 1048576)
def OpenSpec.upto (s : _root_.Go.ChangeSpec) : _root_.Go.OpenSpec := { _root_.Go.OpenSpec.ofChange s with cond := some uptoSmall }

/-- 'doubletakelaw22.JitterKnown', WHERE WHAT IT READS IS OF BULK AT MOST 1048576: true; the input reads as it did. -/
def jitterKnownUptoRow : OpenClaim := { program := "ytckodnogjedmnaa", sum := "53a46a6e7f4a7973ec2e67dd06600c7490dcb71ebb7f095069fe723c27056fd6", func := "doubletake/doubletakelaw22.JitterKnown", spec := "jitterKnown", apart := false, narrowed := true }
def JitterKnownUptoSaid : Prop := jitterKnownUptoRow.holds Try.pinned (OpenSpec.upto jitterKnownSpec)

/-- 'doubletakelaw22.JitterActs', WHERE WHAT IT READS IS OF BULK AT MOST 1048576: true; the input reads as it did. -/
def jitterActsUptoRow : OpenClaim := { program := "ytckodnogjedmnaa", sum := "53a46a6e7f4a7973ec2e67dd06600c7490dcb71ebb7f095069fe723c27056fd6", func := "doubletake/doubletakelaw22.JitterActs", spec := "jitterActs", apart := false, narrowed := true }
def JitterActsUptoSaid : Prop := jitterActsUptoRow.holds Try.pinned (OpenSpec.upto jitterActsSpec)

/-- 'doubletakelaw22.JitterAll', WHERE WHAT IT READS IS OF BULK AT MOST 1048576: true; the input reads as it did. -/
def jitterAllUptoRow : OpenClaim := { program := "ytckodnogjedmnaa", sum := "53a46a6e7f4a7973ec2e67dd06600c7490dcb71ebb7f095069fe723c27056fd6", func := "doubletake/doubletakelaw22.JitterAll", spec := "jitterAll", apart := false, narrowed := true }
def JitterAllUptoSaid : Prop := jitterAllUptoRow.holds Try.pinned (OpenSpec.upto jitterAllSpec)

/-- 'doubletakelaw18.SealTimes', WHERE WHAT IT READS IS OF BULK AT MOST 1048576: true; the input reads as it did. -/
def sealTimesUptoRow : OpenClaim := { program := "ytckodnogjedmnaa", sum := "53a46a6e7f4a7973ec2e67dd06600c7490dcb71ebb7f095069fe723c27056fd6", func := "doubletake/doubletakelaw18.SealTimes", spec := "sealTimes", inPlace := ["math.Float64bits", "math.Float64frombits"], unfollowed := true, recurses := true, apart := false, narrowed := true }
def SealTimesUptoSaid : Prop := sealTimesUptoRow.holds Try.pinned (OpenSpec.upto sealTimesSpec)

/-- 'doubletakelaw18.SealOnce', WHERE WHAT IT READS IS OF BULK AT MOST 1048576: true; the input reads as it did. -/
def sealOnceUptoRow : OpenClaim := { program := "ytckodnogjedmnaa", sum := "53a46a6e7f4a7973ec2e67dd06600c7490dcb71ebb7f095069fe723c27056fd6", func := "doubletake/doubletakelaw18.SealOnce", spec := "sealOnce", inPlace := ["math.Float64bits", "math.Float64frombits"], unfollowed := true, recurses := true, apart := false, narrowed := true }
def SealOnceUptoSaid : Prop := sealOnceUptoRow.holds Try.pinned (OpenSpec.upto sealOnceSpec)

/-- 'doubletakelaw18.SealKnown', WHERE WHAT IT READS IS OF BULK AT MOST 1048576: true; the input reads as it did. -/
def sealKnownUptoRow : OpenClaim := { program := "ytckodnogjedmnaa", sum := "53a46a6e7f4a7973ec2e67dd06600c7490dcb71ebb7f095069fe723c27056fd6", func := "doubletake/doubletakelaw18.SealKnown", spec := "sealKnown", inPlace := ["math.Float64bits", "math.Float64frombits"], unfollowed := true, recurses := true, apart := false, narrowed := true }
def SealKnownUptoSaid : Prop := sealKnownUptoRow.holds Try.pinned (OpenSpec.upto sealKnownSpec)

/-- 'doubletakelaw18.SealActs', WHERE WHAT IT READS IS OF BULK AT MOST 1048576: true; the input reads as it did. -/
def sealActsUptoRow : OpenClaim := { program := "ytckodnogjedmnaa", sum := "53a46a6e7f4a7973ec2e67dd06600c7490dcb71ebb7f095069fe723c27056fd6", func := "doubletake/doubletakelaw18.SealActs", spec := "sealActs", inPlace := ["math.Float64bits", "math.Float64frombits"], unfollowed := true, recurses := true, apart := false, narrowed := true }
def SealActsUptoSaid : Prop := sealActsUptoRow.holds Try.pinned (OpenSpec.upto sealActsSpec)

/-- 'doubletakelaw18.SealOrders', WHERE WHAT IT READS IS OF BULK AT MOST 1048576: true; the input reads as it did. -/
def sealOrdersUptoRow : OpenClaim := { program := "ytckodnogjedmnaa", sum := "53a46a6e7f4a7973ec2e67dd06600c7490dcb71ebb7f095069fe723c27056fd6", func := "doubletake/doubletakelaw18.SealOrders", spec := "sealOrders", inPlace := ["math.Float64bits", "math.Float64frombits"], unfollowed := true, recurses := true, apart := false, narrowed := true }
def SealOrdersUptoSaid : Prop := sealOrdersUptoRow.holds Try.pinned (OpenSpec.upto sealOrdersSpec)

end Rows
end Go.Proofs.Ytckodnogjedmnaa
