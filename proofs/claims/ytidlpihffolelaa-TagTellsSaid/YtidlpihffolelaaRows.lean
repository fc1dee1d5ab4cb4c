/-
  No cell of these rows narrows 'for every input' (looked for: loops, veiled, ifaces, maps, wideKeys, modest, calm, conditions, laid).
  DERIVED. THE GIVEN ROWS OF THIS SEAT. 12 by the template 'for every input the law returns true; each argument reads behind the call as it read before'; 0 by the template 'total and deterministic' (their statements: YtidlpihffolelaaTotals.lean).
  GIVEN WITH THE SEED: the statements are not yours to turn. If you find one false, say at which input.
  Laid BY PROGRAM, IN A SANDBOX (cutbox-rows.mjs): the forced cells as the released guide's own fill.sh prints them over the translation 17b89a91d5c86c30… (all of the seat's roots in one cut). By AI agents, Wed Nov 11 2026. No macro, syntax, notation, axiom, sorry.
-/
import Derived.Test.YtidlpihffolelaaChecked
import GoSem.Claim
import GoSem.ClaimJoined
import GoSem.ClaimMapViews
import Derived.JoinedTies
import Derived.KernelRfl
namespace Go.Proofs.Ytidlpihffolelaa
/- THE CELL 'sum', in the pinned program and in every row, IS THE sha256 OF THE DUMP (.gsa) THAT YtidlpihffolelaaProg.lean LOADS. Nothing in Lean hashes anything: it is a label: what it is worth is what the hold of that sum in a sandbox is worth. -/
noncomputable def Try.pinned : Pinned := { name := "ytidlpihffolelaa", sum := "17b89a91d5c86c307f70cbcd387bce7f1b452231548c51f50e40e28e9eecdf94", checked := Try.checked }
namespace Rows
def none {H : Type} : Left H := { results := [], args := [] }

/-- 'doubletakelaw6.SeqKnown': WHATEVER THE INPUT: true; the input reads as it did. -/
def seqKnownSpec : ChangeSpec := { name := "seqKnown", fn := fun _ => fun
  | [] => { results := [.lit (.bool true)], args := [] }
  | _ => none }
def seqKnownRow : OpenClaim := { program := "ytidlpihffolelaa", sum := "17b89a91d5c86c307f70cbcd387bce7f1b452231548c51f50e40e28e9eecdf94", func := "doubletake/doubletakelaw6.SeqKnown", spec := "seqKnown", apart := false }
def SeqKnownSaid : Prop := seqKnownRow.holds Try.pinned (OpenSpec.ofChange seqKnownSpec)

/-- ITS FALSE NEIGHBOUR: 'it returns false'. Refute it at one input. -/
def seqKnownWrong : ChangeSpec := { name := "seqKnown", fn := fun _ => fun
  | [] => { results := [.lit (.bool false)], args := [] }
  | _ => none }
def SeqKnownWrongFalsely : Prop := seqKnownRow.holds Try.pinned (OpenSpec.ofChange seqKnownWrong)

/-- 'doubletakelaw6.SeqTells': WHATEVER THE INPUT: true; the input reads as it did. -/
def seqTellsSpec : ChangeSpec := { name := "seqTells", fn := fun _ => fun
  | [d1, d2] => { results := [.lit (.bool true)], args := [d1, d2] }
  | _ => none }
def seqTellsRow : OpenClaim := { program := "ytidlpihffolelaa", sum := "17b89a91d5c86c307f70cbcd387bce7f1b452231548c51f50e40e28e9eecdf94", func := "doubletake/doubletakelaw6.SeqTells", spec := "seqTells", apart := false }
def SeqTellsSaid : Prop := seqTellsRow.holds Try.pinned (OpenSpec.ofChange seqTellsSpec)

/-- ITS FALSE NEIGHBOUR: 'it returns false'. Refute it at one input. -/
def seqTellsWrong : ChangeSpec := { name := "seqTells", fn := fun _ => fun
  | [d1, d2] => { results := [.lit (.bool false)], args := [d1, d2] }
  | _ => none }
def SeqTellsWrongFalsely : Prop := seqTellsRow.holds Try.pinned (OpenSpec.ofChange seqTellsWrong)

/-- 'doubletakelaw6.SeqRound': WHATEVER THE INPUT: true; the input reads as it did. -/
def seqRoundSpec : ChangeSpec := { name := "seqRound", fn := fun _ => fun
  | [d1, d2, d3] => { results := [.lit (.bool true)], args := [d1, d2, d3] }
  | _ => none }
def seqRoundRow : OpenClaim := { program := "ytidlpihffolelaa", sum := "17b89a91d5c86c307f70cbcd387bce7f1b452231548c51f50e40e28e9eecdf94", func := "doubletake/doubletakelaw6.SeqRound", spec := "seqRound", apart := false }
def SeqRoundSaid : Prop := seqRoundRow.holds Try.pinned (OpenSpec.ofChange seqRoundSpec)

/-- ITS FALSE NEIGHBOUR: 'it returns false'. Refute it at one input. -/
def seqRoundWrong : ChangeSpec := { name := "seqRound", fn := fun _ => fun
  | [d1, d2, d3] => { results := [.lit (.bool false)], args := [d1, d2, d3] }
  | _ => none }
def SeqRoundWrongFalsely : Prop := seqRoundRow.holds Try.pinned (OpenSpec.ofChange seqRoundWrong)

/-- 'doubletakelaw6.SeqSums': WHATEVER THE INPUT: true; the input reads as it did. -/
def seqSumsSpec : ChangeSpec := { name := "seqSums", fn := fun _ => fun
  | [d1, d2, d3, d4] => { results := [.lit (.bool true)], args := [d1, d2, d3, d4] }
  | _ => none }
def seqSumsRow : OpenClaim := { program := "ytidlpihffolelaa", sum := "17b89a91d5c86c307f70cbcd387bce7f1b452231548c51f50e40e28e9eecdf94", func := "doubletake/doubletakelaw6.SeqSums", spec := "seqSums", apart := false }
def SeqSumsSaid : Prop := seqSumsRow.holds Try.pinned (OpenSpec.ofChange seqSumsSpec)

/-- ITS FALSE NEIGHBOUR: 'it returns false'. Refute it at one input. -/
def seqSumsWrong : ChangeSpec := { name := "seqSums", fn := fun _ => fun
  | [d1, d2, d3, d4] => { results := [.lit (.bool false)], args := [d1, d2, d3, d4] }
  | _ => none }
def SeqSumsWrongFalsely : Prop := seqSumsRow.holds Try.pinned (OpenSpec.ofChange seqSumsWrong)

/-- 'doubletakelaw7.WindowFar': WHATEVER THE INPUT: true; the input reads as it did. -/
def windowFarSpec : ChangeSpec := { name := "windowFar", fn := fun _ => fun
  | [d1, d2, d3] => { results := [.lit (.bool true)], args := [d1, d2, d3] }
  | _ => none }
def windowFarRow : OpenClaim := { program := "ytidlpihffolelaa", sum := "17b89a91d5c86c307f70cbcd387bce7f1b452231548c51f50e40e28e9eecdf94", func := "doubletake/doubletakelaw7.WindowFar", spec := "windowFar", apart := false }
def WindowFarSaid : Prop := windowFarRow.holds Try.pinned (OpenSpec.ofChange windowFarSpec)

/-- ITS FALSE NEIGHBOUR: 'it returns false'. Refute it at one input. -/
def windowFarWrong : ChangeSpec := { name := "windowFar", fn := fun _ => fun
  | [d1, d2, d3] => { results := [.lit (.bool false)], args := [d1, d2, d3] }
  | _ => none }
def WindowFarWrongFalsely : Prop := windowFarRow.holds Try.pinned (OpenSpec.ofChange windowFarWrong)

/-- 'doubletakelaw7.WindowNotes': WHATEVER THE INPUT: true; the input reads as it did. -/
def windowNotesSpec : ChangeSpec := { name := "windowNotes", fn := fun _ => fun
  | [d1, d2] => { results := [.lit (.bool true)], args := [d1, d2] }
  | _ => none }
def windowNotesRow : OpenClaim := { program := "ytidlpihffolelaa", sum := "17b89a91d5c86c307f70cbcd387bce7f1b452231548c51f50e40e28e9eecdf94", func := "doubletake/doubletakelaw7.WindowNotes", spec := "windowNotes", apart := false }
def WindowNotesSaid : Prop := windowNotesRow.holds Try.pinned (OpenSpec.ofChange windowNotesSpec)

/-- ITS FALSE NEIGHBOUR: 'it returns false'. Refute it at one input. -/
def windowNotesWrong : ChangeSpec := { name := "windowNotes", fn := fun _ => fun
  | [d1, d2] => { results := [.lit (.bool false)], args := [d1, d2] }
  | _ => none }
def WindowNotesWrongFalsely : Prop := windowNotesRow.holds Try.pinned (OpenSpec.ofChange windowNotesWrong)

/-- 'doubletakelaw7.WindowOrders': WHATEVER THE INPUT: true; the input reads as it did. -/
def windowOrdersSpec : ChangeSpec := { name := "windowOrders", fn := fun _ => fun
  | [d1, d2, d3] => { results := [.lit (.bool true)], args := [d1, d2, d3] }
  | _ => none }
def windowOrdersRow : OpenClaim := { program := "ytidlpihffolelaa", sum := "17b89a91d5c86c307f70cbcd387bce7f1b452231548c51f50e40e28e9eecdf94", func := "doubletake/doubletakelaw7.WindowOrders", spec := "windowOrders", apart := false }
def WindowOrdersSaid : Prop := windowOrdersRow.holds Try.pinned (OpenSpec.ofChange windowOrdersSpec)

/-- ITS FALSE NEIGHBOUR: 'it returns false'. Refute it at one input. -/
def windowOrdersWrong : ChangeSpec := { name := "windowOrders", fn := fun _ => fun
  | [d1, d2, d3] => { results := [.lit (.bool false)], args := [d1, d2, d3] }
  | _ => none }
def WindowOrdersWrongFalsely : Prop := windowOrdersRow.holds Try.pinned (OpenSpec.ofChange windowOrdersWrong)

/-- 'doubletakelaw7.WindowKnown': WHATEVER THE INPUT: true; the input reads as it did. -/
def windowKnownSpec : ChangeSpec := { name := "windowKnown", fn := fun _ => fun
  | [] => { results := [.lit (.bool true)], args := [] }
  | _ => none }
def windowKnownRow : OpenClaim := { program := "ytidlpihffolelaa", sum := "17b89a91d5c86c307f70cbcd387bce7f1b452231548c51f50e40e28e9eecdf94", func := "doubletake/doubletakelaw7.WindowKnown", spec := "windowKnown", apart := false }
def WindowKnownSaid : Prop := windowKnownRow.holds Try.pinned (OpenSpec.ofChange windowKnownSpec)

/-- ITS FALSE NEIGHBOUR: 'it returns false'. Refute it at one input. -/
def windowKnownWrong : ChangeSpec := { name := "windowKnown", fn := fun _ => fun
  | [] => { results := [.lit (.bool false)], args := [] }
  | _ => none }
def WindowKnownWrongFalsely : Prop := windowKnownRow.holds Try.pinned (OpenSpec.ofChange windowKnownWrong)

/-- 'doubletakelaw5.TagKeeps': WHATEVER THE INPUT: true; the input reads as it did. -/
def tagKeepsSpec : ChangeSpec := { name := "tagKeeps", fn := fun _ => fun
  | [d1, d2, d3, d4, d5] => { results := [.lit (.bool true)], args := [d1, d2, d3, d4, d5] }
  | _ => none }
def tagKeepsRow : OpenClaim := { program := "ytidlpihffolelaa", sum := "17b89a91d5c86c307f70cbcd387bce7f1b452231548c51f50e40e28e9eecdf94", func := "doubletake/doubletakelaw5.TagKeeps", spec := "tagKeeps", apart := false }
def TagKeepsSaid : Prop := tagKeepsRow.holds Try.pinned (OpenSpec.ofChange tagKeepsSpec)

/-- ITS FALSE NEIGHBOUR: 'it returns false'. Refute it at one input. -/
def tagKeepsWrong : ChangeSpec := { name := "tagKeeps", fn := fun _ => fun
  | [d1, d2, d3, d4, d5] => { results := [.lit (.bool false)], args := [d1, d2, d3, d4, d5] }
  | _ => none }
def TagKeepsWrongFalsely : Prop := tagKeepsRow.holds Try.pinned (OpenSpec.ofChange tagKeepsWrong)

/-- 'doubletakelaw5.TagKnown': WHATEVER THE INPUT: true; the input reads as it did. -/
def tagKnownSpec : ChangeSpec := { name := "tagKnown", fn := fun _ => fun
  | [] => { results := [.lit (.bool true)], args := [] }
  | _ => none }
def tagKnownRow : OpenClaim := { program := "ytidlpihffolelaa", sum := "17b89a91d5c86c307f70cbcd387bce7f1b452231548c51f50e40e28e9eecdf94", func := "doubletake/doubletakelaw5.TagKnown", spec := "tagKnown", apart := false }
def TagKnownSaid : Prop := tagKnownRow.holds Try.pinned (OpenSpec.ofChange tagKnownSpec)

/-- ITS FALSE NEIGHBOUR: 'it returns false'. Refute it at one input. -/
def tagKnownWrong : ChangeSpec := { name := "tagKnown", fn := fun _ => fun
  | [] => { results := [.lit (.bool false)], args := [] }
  | _ => none }
def TagKnownWrongFalsely : Prop := tagKnownRow.holds Try.pinned (OpenSpec.ofChange tagKnownWrong)

/-- 'doubletakelaw5.TagTells': WHATEVER THE INPUT: true; the input reads as it did. -/
def tagTellsSpec : ChangeSpec := { name := "tagTells", fn := fun _ => fun
  | [d1, d2, d3, d4, d5, d6] => { results := [.lit (.bool true)], args := [d1, d2, d3, d4, d5, d6] }
  | _ => none }
def tagTellsRow : OpenClaim := { program := "ytidlpihffolelaa", sum := "17b89a91d5c86c307f70cbcd387bce7f1b452231548c51f50e40e28e9eecdf94", func := "doubletake/doubletakelaw5.TagTells", spec := "tagTells", apart := false }
def TagTellsSaid : Prop := tagTellsRow.holds Try.pinned (OpenSpec.ofChange tagTellsSpec)

/-- ITS FALSE NEIGHBOUR: 'it returns false'. Refute it at one input. -/
def tagTellsWrong : ChangeSpec := { name := "tagTells", fn := fun _ => fun
  | [d1, d2, d3, d4, d5, d6] => { results := [.lit (.bool false)], args := [d1, d2, d3, d4, d5, d6] }
  | _ => none }
def TagTellsWrongFalsely : Prop := tagTellsRow.holds Try.pinned (OpenSpec.ofChange tagTellsWrong)

/-- 'doubletakelaw5.TagMarks': WHATEVER THE INPUT: true; the input reads as it did. -/
def tagMarksSpec : ChangeSpec := { name := "tagMarks", fn := fun _ => fun
  | [d1, d2, d3, d4] => { results := [.lit (.bool true)], args := [d1, d2, d3, d4] }
  | _ => none }
def tagMarksRow : OpenClaim := { program := "ytidlpihffolelaa", sum := "17b89a91d5c86c307f70cbcd387bce7f1b452231548c51f50e40e28e9eecdf94", func := "doubletake/doubletakelaw5.TagMarks", spec := "tagMarks", apart := false }
def TagMarksSaid : Prop := tagMarksRow.holds Try.pinned (OpenSpec.ofChange tagMarksSpec)

/-- ITS FALSE NEIGHBOUR: 'it returns false'. Refute it at one input. -/
def tagMarksWrong : ChangeSpec := { name := "tagMarks", fn := fun _ => fun
  | [d1, d2, d3, d4] => { results := [.lit (.bool false)], args := [d1, d2, d3, d4] }
  | _ => none }
def TagMarksWrongFalsely : Prop := tagMarksRow.holds Try.pinned (OpenSpec.ofChange tagMarksWrong)

/- THE SECOND FORM. 'bulk': how many values and letters a reading holds, each counted each time it is reached (what is shared counts as often as it is met; a slice's spare places count too). A statement '..UptoSaid' is the law's where the arguments, and the package variables that the reading takes, are together of bulk at most 1048576: NARROWER than '..Said'. Prove '..Said' where nothing that the law and all that it calls make is longer than what came in: it says more and counts as full. Else prove '..UptoSaid'. A law counts once. -/
mutual
def uptoBulk {H : Type} : DataW H → Nat
  | .lit (.string bytes) => bytes.length + 1
  | .lit _ => 1
  | .nil => 1
  | .ptr d => uptoBulk d + 1
  | .slice elems spare => uptoBulkAll elems + uptoBulkAll spare + 1
  | .agg parts => uptoBulkAll parts + 1
  | .iface _ d => uptoBulk d + 1
  | .map entries => uptoBulkEntries entries + 1
  | .held _ => 1
def uptoBulkAll {H : Type} : List (DataW H) → Nat
  | [] => 0
  | d :: r => uptoBulk d + uptoBulkAll r
def uptoBulkEntries {H : Type} : List (Lit × DataW H) → Nat
  | [] => 0
  | x :: r => uptoBulkEntry x + uptoBulkEntries r
def uptoBulkEntry {H : Type} : Lit × DataW H → Nat
  | (.string bytes, d) => bytes.length + uptoBulk d + 1
  | (_, d) => uptoBulk d + 1
 end
def uptoSmall : (H : Type) → List (DataW H) → Bool := fun _ ds => decide (uptoBulkAll ds ≤ 1048576)
def OpenSpec.upto (s : _root_.Go.ChangeSpec) : _root_.Go.OpenSpec := { _root_.Go.OpenSpec.ofChange s with cond := some uptoSmall }

/-- 'doubletakelaw6.SeqKnown', WHERE WHAT IT READS IS OF BULK AT MOST 1048576: true; the input reads as it did. -/
def seqKnownUptoRow : OpenClaim := { program := "ytidlpihffolelaa", sum := "17b89a91d5c86c307f70cbcd387bce7f1b452231548c51f50e40e28e9eecdf94", func := "doubletake/doubletakelaw6.SeqKnown", spec := "seqKnown", apart := false, narrowed := true }
def SeqKnownUptoSaid : Prop := seqKnownUptoRow.holds Try.pinned (OpenSpec.upto seqKnownSpec)

/-- 'doubletakelaw6.SeqTells', WHERE WHAT IT READS IS OF BULK AT MOST 1048576: true; the input reads as it did. -/
def seqTellsUptoRow : OpenClaim := { program := "ytidlpihffolelaa", sum := "17b89a91d5c86c307f70cbcd387bce7f1b452231548c51f50e40e28e9eecdf94", func := "doubletake/doubletakelaw6.SeqTells", spec := "seqTells", apart := false, narrowed := true }
def SeqTellsUptoSaid : Prop := seqTellsUptoRow.holds Try.pinned (OpenSpec.upto seqTellsSpec)

/-- 'doubletakelaw6.SeqRound', WHERE WHAT IT READS IS OF BULK AT MOST 1048576: true; the input reads as it did. -/
def seqRoundUptoRow : OpenClaim := { program := "ytidlpihffolelaa", sum := "17b89a91d5c86c307f70cbcd387bce7f1b452231548c51f50e40e28e9eecdf94", func := "doubletake/doubletakelaw6.SeqRound", spec := "seqRound", apart := false, narrowed := true }
def SeqRoundUptoSaid : Prop := seqRoundUptoRow.holds Try.pinned (OpenSpec.upto seqRoundSpec)

/-- 'doubletakelaw6.SeqSums', WHERE WHAT IT READS IS OF BULK AT MOST 1048576: true; the input reads as it did. -/
def seqSumsUptoRow : OpenClaim := { program := "ytidlpihffolelaa", sum := "17b89a91d5c86c307f70cbcd387bce7f1b452231548c51f50e40e28e9eecdf94", func := "doubletake/doubletakelaw6.SeqSums", spec := "seqSums", apart := false, narrowed := true }
def SeqSumsUptoSaid : Prop := seqSumsUptoRow.holds Try.pinned (OpenSpec.upto seqSumsSpec)

/-- 'doubletakelaw7.WindowFar', WHERE WHAT IT READS IS OF BULK AT MOST 1048576: true; the input reads as it did. -/
def windowFarUptoRow : OpenClaim := { program := "ytidlpihffolelaa", sum := "17b89a91d5c86c307f70cbcd387bce7f1b452231548c51f50e40e28e9eecdf94", func := "doubletake/doubletakelaw7.WindowFar", spec := "windowFar", apart := false, narrowed := true }
def WindowFarUptoSaid : Prop := windowFarUptoRow.holds Try.pinned (OpenSpec.upto windowFarSpec)

/-- 'doubletakelaw7.WindowNotes', WHERE WHAT IT READS IS OF BULK AT MOST 1048576: true; the input reads as it did. -/
def windowNotesUptoRow : OpenClaim := { program := "ytidlpihffolelaa", sum := "17b89a91d5c86c307f70cbcd387bce7f1b452231548c51f50e40e28e9eecdf94", func := "doubletake/doubletakelaw7.WindowNotes", spec := "windowNotes", apart := false, narrowed := true }
def WindowNotesUptoSaid : Prop := windowNotesUptoRow.holds Try.pinned (OpenSpec.upto windowNotesSpec)

/-- 'doubletakelaw7.WindowOrders', WHERE WHAT IT READS IS OF BULK AT MOST 1048576: true; the input reads as it did. -/
def windowOrdersUptoRow : OpenClaim := { program := "ytidlpihffolelaa", sum := "17b89a91d5c86c307f70cbcd387bce7f1b452231548c51f50e40e28e9eecdf94", func := "doubletake/doubletakelaw7.WindowOrders", spec := "windowOrders", apart := false, narrowed := true }
def WindowOrdersUptoSaid : Prop := windowOrdersUptoRow.holds Try.pinned (OpenSpec.upto windowOrdersSpec)

/-- 'doubletakelaw7.WindowKnown', WHERE WHAT IT READS IS OF BULK AT MOST 1048576: true; the input reads as it did. -/
def windowKnownUptoRow : OpenClaim := { program := "ytidlpihffolelaa", sum := "17b89a91d5c86c307f70cbcd387bce7f1b452231548c51f50e40e28e9eecdf94", func := "doubletake/doubletakelaw7.WindowKnown", spec := "windowKnown", apart := false, narrowed := true }
def WindowKnownUptoSaid : Prop := windowKnownUptoRow.holds Try.pinned (OpenSpec.upto windowKnownSpec)

/-- 'doubletakelaw5.TagKeeps', WHERE WHAT IT READS IS OF BULK AT MOST 1048576: true; the input reads as it did. -/
def tagKeepsUptoRow : OpenClaim := { program := "ytidlpihffolelaa", sum := "17b89a91d5c86c307f70cbcd387bce7f1b452231548c51f50e40e28e9eecdf94", func := "doubletake/doubletakelaw5.TagKeeps", spec := "tagKeeps", apart := false, narrowed := true }
def TagKeepsUptoSaid : Prop := tagKeepsUptoRow.holds Try.pinned (OpenSpec.upto tagKeepsSpec)

/-- 'doubletakelaw5.TagKnown', WHERE WHAT IT READS IS OF BULK AT MOST 1048576: true; the input reads as it did. -/
def tagKnownUptoRow : OpenClaim := { program := "ytidlpihffolelaa", sum := "17b89a91d5c86c307f70cbcd387bce7f1b452231548c51f50e40e28e9eecdf94", func := "doubletake/doubletakelaw5.TagKnown", spec := "tagKnown", apart := false, narrowed := true }
def TagKnownUptoSaid : Prop := tagKnownUptoRow.holds Try.pinned (OpenSpec.upto tagKnownSpec)

/-- 'doubletakelaw5.TagTells', WHERE WHAT IT READS IS OF BULK AT MOST 1048576: true; the input reads as it did. -/
def tagTellsUptoRow : OpenClaim := { program := "ytidlpihffolelaa", sum := "17b89a91d5c86c307f70cbcd387bce7f1b452231548c51f50e40e28e9eecdf94", func := "doubletake/doubletakelaw5.TagTells", spec := "tagTells", apart := false, narrowed := true }
def TagTellsUptoSaid : Prop := tagTellsUptoRow.holds Try.pinned (OpenSpec.upto tagTellsSpec)

/-- 'doubletakelaw5.TagMarks', WHERE WHAT IT READS IS OF BULK AT MOST 1048576: true; the input reads as it did. -/
def tagMarksUptoRow : OpenClaim := { program := "ytidlpihffolelaa", sum := "17b89a91d5c86c307f70cbcd387bce7f1b452231548c51f50e40e28e9eecdf94", func := "doubletake/doubletakelaw5.TagMarks", spec := "tagMarks", apart := false, narrowed := true }
def TagMarksUptoSaid : Prop := tagMarksUptoRow.holds Try.pinned (OpenSpec.upto tagMarksSpec)

end Rows
end Go.Proofs.Ytidlpihffolelaa
