/-
  No cell of these rows narrows 'for every input' (looked for: loops, veiled, ifaces, maps, wideKeys, modest, calm, conditions, laid).
  DERIVED. THE GIVEN ROWS OF THIS SEAT. 9 by the template 'for every input the law returns true; each argument reads behind the call as it read before'; 0 by the template 'total and deterministic' (their statements: YtkjjikjilmngdaaTotals.lean).
  GIVEN WITH THE SEED: the statements are not yours to turn. If you find one false, say at which input.
  Laid BY PROGRAM, IN A SANDBOX (cutbox-rows.mjs): the forced cells as the released guide's own fill.sh prints them over the translation 55cf9d2cda0eef32… (all of the seat's roots in one cut). By AI agents, Wed Nov 11 2026. No macro, syntax, notation, axiom, sorry.
-/
import Derived.Test.YtkjjikjilmngdaaChecked
import GoSem.Claim
import GoSem.ClaimJoined
import GoSem.ClaimMapViews
import Derived.JoinedTies
import Derived.KernelRfl
namespace Go.Proofs.Ytkjjikjilmngdaa
/- THE CELL 'sum', in the pinned program and in every row, IS THE sha256 OF THE DUMP (.gsa) THAT YtkjjikjilmngdaaProg.lean LOADS. Nothing in Lean hashes anything: it is a label: what it is worth is what the hold of that sum in a sandbox is worth. -/
noncomputable def Try.pinned : Pinned := { name := "ytkjjikjilmngdaa", sum := "55cf9d2cda0eef32e30b3a9d36052252556e1a797f8283e2d4e4118ef963016c", checked := Try.checked }
namespace Rows
def none {H : Type} : Left H := { results := [], args := [] }

/-- 'doubletakelaw16.LinkOnce': WHATEVER THE INPUT: true; the input reads as it did. -/
def linkOnceSpec : ChangeSpec := { name := "linkOnce", fn := fun _ => fun
  | [d1, d2, d3] => { results := [.lit (.bool true)], args := [d1, d2, d3] }
  | _ => none }
def linkOnceRow : OpenClaim := { program := "ytkjjikjilmngdaa", sum := "55cf9d2cda0eef32e30b3a9d36052252556e1a797f8283e2d4e4118ef963016c", func := "doubletake/doubletakelaw16.LinkOnce", spec := "linkOnce", inPlace := ["math.Float64bits", "math.Float64frombits"], apart := false }
def LinkOnceSaid : Prop := linkOnceRow.holds Try.pinned (OpenSpec.ofChange linkOnceSpec)

/-- ITS FALSE NEIGHBOUR: 'it returns false'. Refute it at one input. -/
def linkOnceWrong : ChangeSpec := { name := "linkOnce", fn := fun _ => fun
  | [d1, d2, d3] => { results := [.lit (.bool false)], args := [d1, d2, d3] }
  | _ => none }
def LinkOnceWrongFalsely : Prop := linkOnceRow.holds Try.pinned (OpenSpec.ofChange linkOnceWrong)

/-- 'doubletakelaw16.LinkBound': WHATEVER THE INPUT: true; the input reads as it did. -/
def linkBoundSpec : ChangeSpec := { name := "linkBound", fn := fun _ => fun
  | [d1, d2] => { results := [.lit (.bool true)], args := [d1, d2] }
  | _ => none }
def linkBoundRow : OpenClaim := { program := "ytkjjikjilmngdaa", sum := "55cf9d2cda0eef32e30b3a9d36052252556e1a797f8283e2d4e4118ef963016c", func := "doubletake/doubletakelaw16.LinkBound", spec := "linkBound", inPlace := ["math.Float64bits", "math.Float64frombits"], apart := false }
def LinkBoundSaid : Prop := linkBoundRow.holds Try.pinned (OpenSpec.ofChange linkBoundSpec)

/-- ITS FALSE NEIGHBOUR: 'it returns false'. Refute it at one input. -/
def linkBoundWrong : ChangeSpec := { name := "linkBound", fn := fun _ => fun
  | [d1, d2] => { results := [.lit (.bool false)], args := [d1, d2] }
  | _ => none }
def LinkBoundWrongFalsely : Prop := linkBoundRow.holds Try.pinned (OpenSpec.ofChange linkBoundWrong)

/-- 'doubletakelaw16.LinkKnown': WHATEVER THE INPUT: true; the input reads as it did. -/
def linkKnownSpec : ChangeSpec := { name := "linkKnown", fn := fun _ => fun
  | [] => { results := [.lit (.bool true)], args := [] }
  | _ => none }
def linkKnownRow : OpenClaim := { program := "ytkjjikjilmngdaa", sum := "55cf9d2cda0eef32e30b3a9d36052252556e1a797f8283e2d4e4118ef963016c", func := "doubletake/doubletakelaw16.LinkKnown", spec := "linkKnown", inPlace := ["math.Float64bits", "math.Float64frombits", "math.archCeil", "math.archFloor", "math.archTrunc"], apart := false }
def LinkKnownSaid : Prop := linkKnownRow.holds Try.pinned (OpenSpec.ofChange linkKnownSpec)

/-- ITS FALSE NEIGHBOUR: 'it returns false'. Refute it at one input. -/
def linkKnownWrong : ChangeSpec := { name := "linkKnown", fn := fun _ => fun
  | [] => { results := [.lit (.bool false)], args := [] }
  | _ => none }
def LinkKnownWrongFalsely : Prop := linkKnownRow.holds Try.pinned (OpenSpec.ofChange linkKnownWrong)

/-- 'doubletakelaw16.LinkActs': WHATEVER THE INPUT: true; the input reads as it did. -/
def linkActsSpec : ChangeSpec := { name := "linkActs", fn := fun _ => fun
  | [d1, d2] => { results := [.lit (.bool true)], args := [d1, d2] }
  | _ => none }
def linkActsRow : OpenClaim := { program := "ytkjjikjilmngdaa", sum := "55cf9d2cda0eef32e30b3a9d36052252556e1a797f8283e2d4e4118ef963016c", func := "doubletake/doubletakelaw16.LinkActs", spec := "linkActs", inPlace := ["math.Float64bits", "math.Float64frombits", "math.archCeil", "math.archFloor", "math.archTrunc"], apart := false }
def LinkActsSaid : Prop := linkActsRow.holds Try.pinned (OpenSpec.ofChange linkActsSpec)

/-- ITS FALSE NEIGHBOUR: 'it returns false'. Refute it at one input. -/
def linkActsWrong : ChangeSpec := { name := "linkActs", fn := fun _ => fun
  | [d1, d2] => { results := [.lit (.bool false)], args := [d1, d2] }
  | _ => none }
def LinkActsWrongFalsely : Prop := linkActsRow.holds Try.pinned (OpenSpec.ofChange linkActsWrong)

/-- 'doubletakelaw24.NetOrder': WHATEVER THE INPUT: true; the input reads as it did. -/
def netOrderSpec : ChangeSpec := { name := "netOrder", fn := fun _ => fun
  | [d1, d2] => { results := [.lit (.bool true)], args := [d1, d2] }
  | _ => none }
def netOrderRow : OpenClaim := { program := "ytkjjikjilmngdaa", sum := "55cf9d2cda0eef32e30b3a9d36052252556e1a797f8283e2d4e4118ef963016c", func := "doubletake/doubletakelaw24.NetOrder", spec := "netOrder", unfollowed := true, recurses := true, apart := false }
def NetOrderSaid : Prop := netOrderRow.holds Try.pinned (OpenSpec.ofChange netOrderSpec)

/-- ITS FALSE NEIGHBOUR: 'it returns false'. Refute it at one input. -/
def netOrderWrong : ChangeSpec := { name := "netOrder", fn := fun _ => fun
  | [d1, d2] => { results := [.lit (.bool false)], args := [d1, d2] }
  | _ => none }
def NetOrderWrongFalsely : Prop := netOrderRow.holds Try.pinned (OpenSpec.ofChange netOrderWrong)

/-- 'doubletakelaw24.NetKeeps': WHATEVER THE INPUT: true; the input reads as it did. -/
def netKeepsSpec : ChangeSpec := { name := "netKeeps", fn := fun _ => fun
  | [d] => { results := [.lit (.bool true)], args := [d] }
  | _ => none }
def netKeepsRow : OpenClaim := { program := "ytkjjikjilmngdaa", sum := "55cf9d2cda0eef32e30b3a9d36052252556e1a797f8283e2d4e4118ef963016c", func := "doubletake/doubletakelaw24.NetKeeps", spec := "netKeeps", unfollowed := true, recurses := true, apart := false }
def NetKeepsSaid : Prop := netKeepsRow.holds Try.pinned (OpenSpec.ofChange netKeepsSpec)

/-- ITS FALSE NEIGHBOUR: 'it returns false'. Refute it at one input. -/
def netKeepsWrong : ChangeSpec := { name := "netKeeps", fn := fun _ => fun
  | [d] => { results := [.lit (.bool false)], args := [d] }
  | _ => none }
def NetKeepsWrongFalsely : Prop := netKeepsRow.holds Try.pinned (OpenSpec.ofChange netKeepsWrong)

/-- 'doubletakelaw24.NetBound': WHATEVER THE INPUT: true; the input reads as it did. -/
def netBoundSpec : ChangeSpec := { name := "netBound", fn := fun _ => fun
  | [d1, d2] => { results := [.lit (.bool true)], args := [d1, d2] }
  | _ => none }
def netBoundRow : OpenClaim := { program := "ytkjjikjilmngdaa", sum := "55cf9d2cda0eef32e30b3a9d36052252556e1a797f8283e2d4e4118ef963016c", func := "doubletake/doubletakelaw24.NetBound", spec := "netBound", unfollowed := true, recurses := true, apart := false }
def NetBoundSaid : Prop := netBoundRow.holds Try.pinned (OpenSpec.ofChange netBoundSpec)

/-- ITS FALSE NEIGHBOUR: 'it returns false'. Refute it at one input. -/
def netBoundWrong : ChangeSpec := { name := "netBound", fn := fun _ => fun
  | [d1, d2] => { results := [.lit (.bool false)], args := [d1, d2] }
  | _ => none }
def NetBoundWrongFalsely : Prop := netBoundRow.holds Try.pinned (OpenSpec.ofChange netBoundWrong)

/-- 'doubletakelaw24.NetKnown': WHATEVER THE INPUT: true; the input reads as it did. -/
def netKnownSpec : ChangeSpec := { name := "netKnown", fn := fun _ => fun
  | [] => { results := [.lit (.bool true)], args := [] }
  | _ => none }
def netKnownRow : OpenClaim := { program := "ytkjjikjilmngdaa", sum := "55cf9d2cda0eef32e30b3a9d36052252556e1a797f8283e2d4e4118ef963016c", func := "doubletake/doubletakelaw24.NetKnown", spec := "netKnown", unfollowed := true, recurses := true, apart := false }
def NetKnownSaid : Prop := netKnownRow.holds Try.pinned (OpenSpec.ofChange netKnownSpec)

/-- ITS FALSE NEIGHBOUR: 'it returns false'. Refute it at one input. -/
def netKnownWrong : ChangeSpec := { name := "netKnown", fn := fun _ => fun
  | [] => { results := [.lit (.bool false)], args := [] }
  | _ => none }
def NetKnownWrongFalsely : Prop := netKnownRow.holds Try.pinned (OpenSpec.ofChange netKnownWrong)

/-- 'doubletakelaw24.NetActs': WHATEVER THE INPUT: true; the input reads as it did. -/
def netActsSpec : ChangeSpec := { name := "netActs", fn := fun _ => fun
  | [d] => { results := [.lit (.bool true)], args := [d] }
  | _ => none }
def netActsRow : OpenClaim := { program := "ytkjjikjilmngdaa", sum := "55cf9d2cda0eef32e30b3a9d36052252556e1a797f8283e2d4e4118ef963016c", func := "doubletake/doubletakelaw24.NetActs", spec := "netActs", unfollowed := true, recurses := true, apart := false }
def NetActsSaid : Prop := netActsRow.holds Try.pinned (OpenSpec.ofChange netActsSpec)

/-- ITS FALSE NEIGHBOUR: 'it returns false'. Refute it at one input. -/
def netActsWrong : ChangeSpec := { name := "netActs", fn := fun _ => fun
  | [d] => { results := [.lit (.bool false)], args := [d] }
  | _ => none }
def NetActsWrongFalsely : Prop := netActsRow.holds Try.pinned (OpenSpec.ofChange netActsWrong)

/- THE SECOND FORM. 'bulk': how many values and letters a reading holds, each counted each time it is reached (what is shared counts as often as it is met; a slice's spare places count too). A statement '..UptoSaid' is the law's where the arguments, and the package variables that the reading takes, are together of bulk at most 1048576: NARROWER than '..Said'. Prove '..Said' where nothing that the law and all that it calls make is longer than what came in: it says more and counts as full. Else prove '..UptoSaid'. A law counts once. -/
mutual
def uptoBulk {H : Type} : DataW H → Nat
  | .lit (.string bytes) => bytes.length + 1
  | .lit _ => 1
  | .nil => 1
  | .ptr d => uptoBulk d + 1
  | .slice elems spare => uptoBulkAll elems + uptoBulkAll spare + 1
  | .agg parts => uptoBulkAll parts + 1
  | .iface _ d => uptoBulk d + 1
  | .map entries => uptoBulkEntries entries + 1
  | .held _ => 1
def uptoBulkAll {H : Type} : List (DataW H) → Nat
  | [] => 0
  | d :: r => uptoBulk d + uptoBulkAll r
def uptoBulkEntries {H : Type} : List (Lit × DataW H) → Nat
  | [] => 0
  | x :: r => uptoBulkEntry x + uptoBulkEntries r
def uptoBulkEntry {H : Type} : Lit × DataW H → Nat
  | (.string bytes, d) => bytes.length + uptoBulk d + 1
  | (_, d) => uptoBulk d + 1
 end
def uptoSmall : (H : Type) → List (DataW H) → Bool := fun _ ds => decide (uptoBulkAll ds ≤ 1048576)
def OpenSpec.upto (s : _root_.Go.ChangeSpec) : _root_.Go.OpenSpec := { _root_.Go.OpenSpec.ofChange s with cond := some uptoSmall }

/-- 'doubletakelaw16.LinkOnce', WHERE WHAT IT READS IS OF BULK AT MOST 1048576: true; the input reads as it did. -/
def linkOnceUptoRow : OpenClaim := { program := "ytkjjikjilmngdaa", sum := "55cf9d2cda0eef32e30b3a9d36052252556e1a797f8283e2d4e4118ef963016c", func := "doubletake/doubletakelaw16.LinkOnce", spec := "linkOnce", inPlace := ["math.Float64bits", "math.Float64frombits"], apart := false, narrowed := true }
def LinkOnceUptoSaid : Prop := linkOnceUptoRow.holds Try.pinned (OpenSpec.upto linkOnceSpec)

/-- 'doubletakelaw16.LinkBound', WHERE WHAT IT READS IS OF BULK AT MOST 1048576: true; the input reads as it did. -/
def linkBoundUptoRow : OpenClaim := { program := "ytkjjikjilmngdaa", sum := "55cf9d2cda0eef32e30b3a9d36052252556e1a797f8283e2d4e4118ef963016c", func := "doubletake/doubletakelaw16.LinkBound", spec := "linkBound", inPlace := ["math.Float64bits", "math.Float64frombits"], apart := false, narrowed := true }
def LinkBoundUptoSaid : Prop := linkBoundUptoRow.holds Try.pinned (OpenSpec.upto linkBoundSpec)

/-- 'doubletakelaw16.LinkKnown', WHERE WHAT IT READS IS OF BULK AT MOST 1048576: true; the input reads as it did. -/
def linkKnownUptoRow : OpenClaim := { program := "ytkjjikjilmngdaa", sum := "55cf9d2cda0eef32e30b3a9d36052252556e1a797f8283e2d4e4118ef963016c", func := "doubletake/doubletakelaw16.LinkKnown", spec := "linkKnown", inPlace := ["math.Float64bits", "math.Float64frombits", "math.archCeil", "math.archFloor", "math.archTrunc"], apart := false, narrowed := true }
def LinkKnownUptoSaid : Prop := linkKnownUptoRow.holds Try.pinned (OpenSpec.upto linkKnownSpec)

/-- 'doubletakelaw16.LinkActs', WHERE WHAT IT READS IS OF BULK AT MOST 1048576: true; the input reads as it did. -/
def linkActsUptoRow : OpenClaim := { program := "ytkjjikjilmngdaa", sum := "55cf9d2cda0eef32e30b3a9d36052252556e1a797f8283e2d4e4118ef963016c", func := "doubletake/doubletakelaw16.LinkActs", spec := "linkActs", inPlace := ["math.Float64bits", "math.Float64frombits", "math.archCeil", "math.archFloor", "math.archTrunc"], apart := false, narrowed := true }
def LinkActsUptoSaid : Prop := linkActsUptoRow.holds Try.pinned (OpenSpec.upto linkActsSpec)

/-- 'doubletakelaw24.NetOrder', WHERE WHAT IT READS IS OF BULK AT MOST 1048576: true; the input reads as it did. -/
def netOrderUptoRow : OpenClaim := { program := "ytkjjikjilmngdaa", sum := "55cf9d2cda0eef32e30b3a9d36052252556e1a797f8283e2d4e4118ef963016c", func := "doubletake/doubletakelaw24.NetOrder", spec := "netOrder", unfollowed := true, recurses := true, apart := false, narrowed := true }
def NetOrderUptoSaid : Prop := netOrderUptoRow.holds Try.pinned (OpenSpec.upto netOrderSpec)

/-- 'doubletakelaw24.NetKeeps', WHERE WHAT IT READS IS OF BULK AT MOST 1048576: true; the input reads as it did. -/
def netKeepsUptoRow : OpenClaim := { program := "ytkjjikjilmngdaa", sum := "55cf9d2cda0eef32e30b3a9d36052252556e1a797f8283e2d4e4118ef963016c", func := "doubletake/doubletakelaw24.NetKeeps", spec := "netKeeps", unfollowed := true, recurses := true, apart := false, narrowed := true }
def NetKeepsUptoSaid : Prop := netKeepsUptoRow.holds Try.pinned (OpenSpec.upto netKeepsSpec)

/-- 'doubletakelaw24.NetBound', WHERE WHAT IT READS IS OF BULK AT MOST 1048576: true; the input reads as it did. -/
def netBoundUptoRow : OpenClaim := { program := "ytkjjikjilmngdaa", sum := "55cf9d2cda0eef32e30b3a9d36052252556e1a797f8283e2d4e4118ef963016c", func := "doubletake/doubletakelaw24.NetBound", spec := "netBound", unfollowed := true, recurses := true, apart := false, narrowed := true }
def NetBoundUptoSaid : Prop := netBoundUptoRow.holds Try.pinned (OpenSpec.upto netBoundSpec)

/-- 'doubletakelaw24.NetKnown', WHERE WHAT IT READS IS OF BULK AT MOST 1048576: true; the input reads as it did. -/
def netKnownUptoRow : OpenClaim := { program := "ytkjjikjilmngdaa", sum := "55cf9d2cda0eef32e30b3a9d36052252556e1a797f8283e2d4e4118ef963016c", func := "doubletake/doubletakelaw24.NetKnown", spec := "netKnown", unfollowed := true, recurses := true, apart := false, narrowed := true }
def NetKnownUptoSaid : Prop := netKnownUptoRow.holds Try.pinned (OpenSpec.upto netKnownSpec)

/-- 'doubletakelaw24.NetActs', WHERE WHAT IT READS IS OF BULK AT MOST 1048576: true; the input reads as it did. -/
def netActsUptoRow : OpenClaim := { program := "ytkjjikjilmngdaa", sum := "55cf9d2cda0eef32e30b3a9d36052252556e1a797f8283e2d4e4118ef963016c", func := "doubletake/doubletakelaw24.NetActs", spec := "netActs", unfollowed := true, recurses := true, apart := false, narrowed := true }
def NetActsUptoSaid : Prop := netActsUptoRow.holds Try.pinned (OpenSpec.upto netActsSpec)

end Rows
end Go.Proofs.Ytkjjikjilmngdaa
