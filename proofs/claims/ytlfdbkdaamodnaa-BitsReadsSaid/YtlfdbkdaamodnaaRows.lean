/-
  No cell of these rows narrows 'for every input' (looked for: loops, veiled, ifaces, maps, wideKeys, modest, calm, conditions, laid).
  DERIVED. THE GIVEN ROWS OF THIS SEAT. 10 by the template 'for every input the law returns true; each argument reads behind the call as it read before'; 0 by the template 'total and deterministic' (their statements: YtlfdbkdaamodnaaTotals.lean).
  GIVEN WITH THE SEED: the statements are not yours to turn. If you find one false, say at which input.
  Laid BY PROGRAM, IN A SANDBOX (cutbox-rows.mjs): the forced cells as the released guide's own fill.sh prints them over the translation c29246e2292b3f26… (all of the seat's roots in one cut). By AI agents, Wed Nov 11 2026. No macro, syntax, notation, axiom, sorry.
-/
import Derived.Test.YtlfdbkdaamodnaaChecked
import GoSem.Claim
import GoSem.ClaimJoined
import GoSem.ClaimMapViews
import Derived.JoinedTies
import Derived.KernelRfl
namespace Go.Proofs.Ytlfdbkdaamodnaa
/- THE CELL 'sum', in the pinned program and in every row, IS THE sha256 OF THE DUMP (.gsa) THAT YtlfdbkdaamodnaaProg.lean LOADS. Nothing in Lean hashes anything: it is a label: what it is worth is what the hold of that sum in a sandbox is worth. -/
noncomputable def Try.pinned : Pinned := { name := "ytlfdbkdaamodnaa", sum := "c29246e2292b3f26e9fa2e51b2dc5d079b62f6387cfcf62e9ee0c82034b6553b", checked := Try.checked }
namespace Rows
def none {H : Type} : Left H := { results := [], args := [] }

/-- 'doubletakelaw3.TrapDeep': WHATEVER THE INPUT: true; the input reads as it did. -/
def trapDeepSpec : ChangeSpec := { name := "trapDeep", fn := fun _ => fun
  | [d1, d2, d3] => { results := [.lit (.bool true)], args := [d1, d2, d3] }
  | _ => none }
def trapDeepRow : OpenClaim := { program := "ytlfdbkdaamodnaa", sum := "c29246e2292b3f26e9fa2e51b2dc5d079b62f6387cfcf62e9ee0c82034b6553b", func := "doubletake/doubletakelaw3.TrapDeep", spec := "trapDeep", unfollowed := true, recurses := true, apart := false }
def TrapDeepSaid : Prop := trapDeepRow.holds Try.pinned (OpenSpec.ofChange trapDeepSpec)

/-- ITS FALSE NEIGHBOUR: 'it returns false'. Refute it at one input. -/
def trapDeepWrong : ChangeSpec := { name := "trapDeep", fn := fun _ => fun
  | [d1, d2, d3] => { results := [.lit (.bool false)], args := [d1, d2, d3] }
  | _ => none }
def TrapDeepWrongFalsely : Prop := trapDeepRow.holds Try.pinned (OpenSpec.ofChange trapDeepWrong)

/-- 'doubletakelaw3.TrapKnown': WHATEVER THE INPUT: true; the input reads as it did. -/
def trapKnownSpec : ChangeSpec := { name := "trapKnown", fn := fun _ => fun
  | [] => { results := [.lit (.bool true)], args := [] }
  | _ => none }
def trapKnownRow : OpenClaim := { program := "ytlfdbkdaamodnaa", sum := "c29246e2292b3f26e9fa2e51b2dc5d079b62f6387cfcf62e9ee0c82034b6553b", func := "doubletake/doubletakelaw3.TrapKnown", spec := "trapKnown", unfollowed := true, recurses := true, apart := false }
def TrapKnownSaid : Prop := trapKnownRow.holds Try.pinned (OpenSpec.ofChange trapKnownSpec)

/-- ITS FALSE NEIGHBOUR: 'it returns false'. Refute it at one input. -/
def trapKnownWrong : ChangeSpec := { name := "trapKnown", fn := fun _ => fun
  | [] => { results := [.lit (.bool false)], args := [] }
  | _ => none }
def TrapKnownWrongFalsely : Prop := trapKnownRow.holds Try.pinned (OpenSpec.ofChange trapKnownWrong)

/-- 'doubletakelaw3.TrapPlays': WHATEVER THE INPUT: true; the input reads as it did. -/
def trapPlaysSpec : ChangeSpec := { name := "trapPlays", fn := fun _ => fun
  | [d] => { results := [.lit (.bool true)], args := [d] }
  | _ => none }
def trapPlaysRow : OpenClaim := { program := "ytlfdbkdaamodnaa", sum := "c29246e2292b3f26e9fa2e51b2dc5d079b62f6387cfcf62e9ee0c82034b6553b", func := "doubletake/doubletakelaw3.TrapPlays", spec := "trapPlays", unfollowed := true, recurses := true, apart := false }
def TrapPlaysSaid : Prop := trapPlaysRow.holds Try.pinned (OpenSpec.ofChange trapPlaysSpec)

/-- ITS FALSE NEIGHBOUR: 'it returns false'. Refute it at one input. -/
def trapPlaysWrong : ChangeSpec := { name := "trapPlays", fn := fun _ => fun
  | [d] => { results := [.lit (.bool false)], args := [d] }
  | _ => none }
def TrapPlaysWrongFalsely : Prop := trapPlaysRow.holds Try.pinned (OpenSpec.ofChange trapPlaysWrong)

/-- 'doubletakelaw3.TrapStays': WHATEVER THE INPUT: true; the input reads as it did. -/
def trapStaysSpec : ChangeSpec := { name := "trapStays", fn := fun _ => fun
  | [d1, d2, d3] => { results := [.lit (.bool true)], args := [d1, d2, d3] }
  | _ => none }
def trapStaysRow : OpenClaim := { program := "ytlfdbkdaamodnaa", sum := "c29246e2292b3f26e9fa2e51b2dc5d079b62f6387cfcf62e9ee0c82034b6553b", func := "doubletake/doubletakelaw3.TrapStays", spec := "trapStays", unfollowed := true, recurses := true, apart := false }
def TrapStaysSaid : Prop := trapStaysRow.holds Try.pinned (OpenSpec.ofChange trapStaysSpec)

/-- ITS FALSE NEIGHBOUR: 'it returns false'. Refute it at one input. -/
def trapStaysWrong : ChangeSpec := { name := "trapStays", fn := fun _ => fun
  | [d1, d2, d3] => { results := [.lit (.bool false)], args := [d1, d2, d3] }
  | _ => none }
def TrapStaysWrongFalsely : Prop := trapStaysRow.holds Try.pinned (OpenSpec.ofChange trapStaysWrong)

/-- 'doubletakelaw3.TrapMusts': WHATEVER THE INPUT: true; the input reads as it did. -/
def trapMustsSpec : ChangeSpec := { name := "trapMusts", fn := fun _ => fun
  | [d1, d2] => { results := [.lit (.bool true)], args := [d1, d2] }
  | _ => none }
def trapMustsRow : OpenClaim := { program := "ytlfdbkdaamodnaa", sum := "c29246e2292b3f26e9fa2e51b2dc5d079b62f6387cfcf62e9ee0c82034b6553b", func := "doubletake/doubletakelaw3.TrapMusts", spec := "trapMusts", unfollowed := true, recurses := true, apart := false }
def TrapMustsSaid : Prop := trapMustsRow.holds Try.pinned (OpenSpec.ofChange trapMustsSpec)

/-- ITS FALSE NEIGHBOUR: 'it returns false'. Refute it at one input. -/
def trapMustsWrong : ChangeSpec := { name := "trapMusts", fn := fun _ => fun
  | [d1, d2] => { results := [.lit (.bool false)], args := [d1, d2] }
  | _ => none }
def TrapMustsWrongFalsely : Prop := trapMustsRow.holds Try.pinned (OpenSpec.ofChange trapMustsWrong)

/-- 'doubletakelaw4.BitsJoins': WHATEVER THE INPUT: true; the input reads as it did. -/
def bitsJoinsSpec : ChangeSpec := { name := "bitsJoins", fn := fun _ => fun
  | [d1, d2, d3, d4, d5] => { results := [.lit (.bool true)], args := [d1, d2, d3, d4, d5] }
  | _ => none }
def bitsJoinsRow : OpenClaim := { program := "ytlfdbkdaamodnaa", sum := "c29246e2292b3f26e9fa2e51b2dc5d079b62f6387cfcf62e9ee0c82034b6553b", func := "doubletake/doubletakelaw4.BitsJoins", spec := "bitsJoins", apart := false }
def BitsJoinsSaid : Prop := bitsJoinsRow.holds Try.pinned (OpenSpec.ofChange bitsJoinsSpec)

/-- ITS FALSE NEIGHBOUR: 'it returns false'. Refute it at one input. -/
def bitsJoinsWrong : ChangeSpec := { name := "bitsJoins", fn := fun _ => fun
  | [d1, d2, d3, d4, d5] => { results := [.lit (.bool false)], args := [d1, d2, d3, d4, d5] }
  | _ => none }
def BitsJoinsWrongFalsely : Prop := bitsJoinsRow.holds Try.pinned (OpenSpec.ofChange bitsJoinsWrong)

/-- 'doubletakelaw4.BitsLays': WHATEVER THE INPUT: true; the input reads as it did. -/
def bitsLaysSpec : ChangeSpec := { name := "bitsLays", fn := fun _ => fun
  | [d] => { results := [.lit (.bool true)], args := [d] }
  | _ => none }
def bitsLaysRow : OpenClaim := { program := "ytlfdbkdaamodnaa", sum := "c29246e2292b3f26e9fa2e51b2dc5d079b62f6387cfcf62e9ee0c82034b6553b", func := "doubletake/doubletakelaw4.BitsLays", spec := "bitsLays", apart := false }
def BitsLaysSaid : Prop := bitsLaysRow.holds Try.pinned (OpenSpec.ofChange bitsLaysSpec)

/-- ITS FALSE NEIGHBOUR: 'it returns false'. Refute it at one input. -/
def bitsLaysWrong : ChangeSpec := { name := "bitsLays", fn := fun _ => fun
  | [d] => { results := [.lit (.bool false)], args := [d] }
  | _ => none }
def BitsLaysWrongFalsely : Prop := bitsLaysRow.holds Try.pinned (OpenSpec.ofChange bitsLaysWrong)

/-- 'doubletakelaw4.BitsBack': WHATEVER THE INPUT: true; the input reads as it did. -/
def bitsBackSpec : ChangeSpec := { name := "bitsBack", fn := fun _ => fun
  | [d] => { results := [.lit (.bool true)], args := [d] }
  | _ => none }
def bitsBackRow : OpenClaim := { program := "ytlfdbkdaamodnaa", sum := "c29246e2292b3f26e9fa2e51b2dc5d079b62f6387cfcf62e9ee0c82034b6553b", func := "doubletake/doubletakelaw4.BitsBack", spec := "bitsBack", apart := false }
def BitsBackSaid : Prop := bitsBackRow.holds Try.pinned (OpenSpec.ofChange bitsBackSpec)

/-- ITS FALSE NEIGHBOUR: 'it returns false'. Refute it at one input. -/
def bitsBackWrong : ChangeSpec := { name := "bitsBack", fn := fun _ => fun
  | [d] => { results := [.lit (.bool false)], args := [d] }
  | _ => none }
def BitsBackWrongFalsely : Prop := bitsBackRow.holds Try.pinned (OpenSpec.ofChange bitsBackWrong)

/-- 'doubletakelaw4.BitsReads': WHATEVER THE INPUT: true; the input reads as it did. -/
def bitsReadsSpec : ChangeSpec := { name := "bitsReads", fn := fun _ => fun
  | [d1, d2] => { results := [.lit (.bool true)], args := [d1, d2] }
  | _ => none }
def bitsReadsRow : OpenClaim := { program := "ytlfdbkdaamodnaa", sum := "c29246e2292b3f26e9fa2e51b2dc5d079b62f6387cfcf62e9ee0c82034b6553b", func := "doubletake/doubletakelaw4.BitsReads", spec := "bitsReads", unfollowed := true, recurses := true, apart := false }
def BitsReadsSaid : Prop := bitsReadsRow.holds Try.pinned (OpenSpec.ofChange bitsReadsSpec)

/-- ITS FALSE NEIGHBOUR: 'it returns false'. Refute it at one input. -/
def bitsReadsWrong : ChangeSpec := { name := "bitsReads", fn := fun _ => fun
  | [d1, d2] => { results := [.lit (.bool false)], args := [d1, d2] }
  | _ => none }
def BitsReadsWrongFalsely : Prop := bitsReadsRow.holds Try.pinned (OpenSpec.ofChange bitsReadsWrong)

/-- 'doubletakelaw4.BitsKnown': WHATEVER THE INPUT: true; the input reads as it did. -/
def bitsKnownSpec : ChangeSpec := { name := "bitsKnown", fn := fun _ => fun
  | [] => { results := [.lit (.bool true)], args := [] }
  | _ => none }
def bitsKnownRow : OpenClaim := { program := "ytlfdbkdaamodnaa", sum := "c29246e2292b3f26e9fa2e51b2dc5d079b62f6387cfcf62e9ee0c82034b6553b", func := "doubletake/doubletakelaw4.BitsKnown", spec := "bitsKnown", unfollowed := true, recurses := true, apart := false }
def BitsKnownSaid : Prop := bitsKnownRow.holds Try.pinned (OpenSpec.ofChange bitsKnownSpec)

/-- ITS FALSE NEIGHBOUR: 'it returns false'. Refute it at one input. -/
def bitsKnownWrong : ChangeSpec := { name := "bitsKnown", fn := fun _ => fun
  | [] => { results := [.lit (.bool false)], args := [] }
  | _ => none }
def BitsKnownWrongFalsely : Prop := bitsKnownRow.holds Try.pinned (OpenSpec.ofChange bitsKnownWrong)

/- THE SECOND FORM. 'bulk': how many values and letters a reading holds, each counted each time it is reached (what is shared counts as often as it is met; a slice's spare places count too). A statement '..UptoSaid' is the law's where the arguments, and the package variables that the reading takes, are together of bulk at most 1048576: NARROWER than '..Said'. Prove '..Said' where nothing that the law and all that it calls make is longer than what came in: it says more and counts as full. Else prove '..UptoSaid'. A law counts once. -/
mutual
def uptoBulk {H : Type} : DataW H → Nat
  | .lit (.string bytes) => bytes.length + 1
  | .lit _ => 1
  | .nil => 1
  | .ptr d => uptoBulk d + 1
  | .slice elems spare => uptoBulkAll elems + uptoBulkAll spare + 1
  | .agg parts => uptoBulkAll parts + 1
  | .iface _ d => uptoBulk d + 1
  | .map entries => uptoBulkEntries entries + 1
  | .held _ => 1
def uptoBulkAll {H : Type} : List (DataW H) → Nat
  | [] => 0
  | d :: r => uptoBulk d + uptoBulkAll r
def uptoBulkEntries {H : Type} : List (Lit × DataW H) → Nat
  | [] => 0
  | x :: r => uptoBulkEntry x + uptoBulkEntries r
def uptoBulkEntry {H : Type} : Lit × DataW H → Nat
  | (.string bytes, d) => bytes.length + uptoBulk d + 1
  | (_, d) => uptoBulk d + 1
 end
def uptoSmall : (H : Type) → List (DataW H) → Bool := fun _ ds => decide (uptoBulkAll ds ≤ 1048576)
def OpenSpec.upto (s : _root_.Go.ChangeSpec) : _root_.Go.OpenSpec := { _root_.Go.OpenSpec.ofChange s with cond := some uptoSmall }

/-- 'doubletakelaw3.TrapDeep', WHERE WHAT IT READS IS OF BULK AT MOST 1048576: true; the input reads as it did. -/
def trapDeepUptoRow : OpenClaim := { program := "ytlfdbkdaamodnaa", sum := "c29246e2292b3f26e9fa2e51b2dc5d079b62f6387cfcf62e9ee0c82034b6553b", func := "doubletake/doubletakelaw3.TrapDeep", spec := "trapDeep", unfollowed := true, recurses := true, apart := false, narrowed := true }
def TrapDeepUptoSaid : Prop := trapDeepUptoRow.holds Try.pinned (OpenSpec.upto trapDeepSpec)

/-- 'doubletakelaw3.TrapKnown', WHERE WHAT IT READS IS OF BULK AT MOST 1048576: true; the input reads as it did. -/
def trapKnownUptoRow : OpenClaim := { program := "ytlfdbkdaamodnaa", sum := "c29246e2292b3f26e9fa2e51b2dc5d079b62f6387cfcf62e9ee0c82034b6553b", func := "doubletake/doubletakelaw3.TrapKnown", spec := "trapKnown", unfollowed := true, recurses := true, apart := false, narrowed := true }
def TrapKnownUptoSaid : Prop := trapKnownUptoRow.holds Try.pinned (OpenSpec.upto trapKnownSpec)

/-- 'doubletakelaw3.TrapPlays', WHERE WHAT IT READS IS OF BULK AT MOST 1048576: true; the input reads as it did. -/
def trapPlaysUptoRow : OpenClaim := { program := "ytlfdbkdaamodnaa", sum := "c29246e2292b3f26e9fa2e51b2dc5d079b62f6387cfcf62e9ee0c82034b6553b", func := "doubletake/doubletakelaw3.TrapPlays", spec := "trapPlays", unfollowed := true, recurses := true, apart := false, narrowed := true }
def TrapPlaysUptoSaid : Prop := trapPlaysUptoRow.holds Try.pinned (OpenSpec.upto trapPlaysSpec)

/-- 'doubletakelaw3.TrapStays', WHERE WHAT IT READS IS OF BULK AT MOST 1048576: true; the input reads as it did. -/
def trapStaysUptoRow : OpenClaim := { program := "ytlfdbkdaamodnaa", sum := "c29246e2292b3f26e9fa2e51b2dc5d079b62f6387cfcf62e9ee0c82034b6553b", func := "doubletake/doubletakelaw3.TrapStays", spec := "trapStays", unfollowed := true, recurses := true, apart := false, narrowed := true }
def TrapStaysUptoSaid : Prop := trapStaysUptoRow.holds Try.pinned (OpenSpec.upto trapStaysSpec)

/-- 'doubletakelaw3.TrapMusts', WHERE WHAT IT READS IS OF BULK AT MOST 1048576: true; the input reads as it did. -/
def trapMustsUptoRow : OpenClaim := { program := "ytlfdbkdaamodnaa", sum := "c29246e2292b3f26e9fa2e51b2dc5d079b62f6387cfcf62e9ee0c82034b6553b", func := "doubletake/doubletakelaw3.TrapMusts", spec := "trapMusts", unfollowed := true, recurses := true, apart := false, narrowed := true }
def TrapMustsUptoSaid : Prop := trapMustsUptoRow.holds Try.pinned (OpenSpec.upto trapMustsSpec)

/-- 'doubletakelaw4.BitsJoins', WHERE WHAT IT READS IS OF BULK AT MOST 1048576: true; the input reads as it did. -/
def bitsJoinsUptoRow : OpenClaim := { program := "ytlfdbkdaamodnaa", sum := "c29246e2292b3f26e9fa2e51b2dc5d079b62f6387cfcf62e9ee0c82034b6553b", func := "doubletake/doubletakelaw4.BitsJoins", spec := "bitsJoins", apart := false, narrowed := true }
def BitsJoinsUptoSaid : Prop := bitsJoinsUptoRow.holds Try.pinned (OpenSpec.upto bitsJoinsSpec)

/-- 'doubletakelaw4.BitsLays', WHERE WHAT IT READS IS OF BULK AT MOST 1048576: true; the input reads as it did. -/
def bitsLaysUptoRow : OpenClaim := { program := "ytlfdbkdaamodnaa", sum := "c29246e2292b3f26e9fa2e51b2dc5d079b62f6387cfcf62e9ee0c82034b6553b", func := "doubletake/doubletakelaw4.BitsLays", spec := "bitsLays", apart := false, narrowed := true }
def BitsLaysUptoSaid : Prop := bitsLaysUptoRow.holds Try.pinned (OpenSpec.upto bitsLaysSpec)

/-- 'doubletakelaw4.BitsBack', WHERE WHAT IT READS IS OF BULK AT MOST 1048576: true; the input reads as it did. -/
def bitsBackUptoRow : OpenClaim := { program := "ytlfdbkdaamodnaa", sum := "c29246e2292b3f26e9fa2e51b2dc5d079b62f6387cfcf62e9ee0c82034b6553b", func := "doubletake/doubletakelaw4.BitsBack", spec := "bitsBack", apart := false, narrowed := true }
def BitsBackUptoSaid : Prop := bitsBackUptoRow.holds Try.pinned (OpenSpec.upto bitsBackSpec)

/-- 'doubletakelaw4.BitsReads', WHERE WHAT IT READS IS OF BULK AT MOST 1048576: true; the input reads as it did. -/
def bitsReadsUptoRow : OpenClaim := { program := "ytlfdbkdaamodnaa", sum := "c29246e2292b3f26e9fa2e51b2dc5d079b62f6387cfcf62e9ee0c82034b6553b", func := "doubletake/doubletakelaw4.BitsReads", spec := "bitsReads", unfollowed := true, recurses := true, apart := false, narrowed := true }
def BitsReadsUptoSaid : Prop := bitsReadsUptoRow.holds Try.pinned (OpenSpec.upto bitsReadsSpec)

/-- 'doubletakelaw4.BitsKnown', WHERE WHAT IT READS IS OF BULK AT MOST 1048576: true; the input reads as it did. -/
def bitsKnownUptoRow : OpenClaim := { program := "ytlfdbkdaamodnaa", sum := "c29246e2292b3f26e9fa2e51b2dc5d079b62f6387cfcf62e9ee0c82034b6553b", func := "doubletake/doubletakelaw4.BitsKnown", spec := "bitsKnown", unfollowed := true, recurses := true, apart := false, narrowed := true }
def BitsKnownUptoSaid : Prop := bitsKnownUptoRow.holds Try.pinned (OpenSpec.upto bitsKnownSpec)

end Rows
end Go.Proofs.Ytlfdbkdaamodnaa
