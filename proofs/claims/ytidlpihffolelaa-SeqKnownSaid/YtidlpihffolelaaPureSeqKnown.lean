/- Chapter 6: the example and the ends of the numbers that go round are as the document says, with no condition. -/
import Derived.Test.YtidlpihffolelaaPSeqKnownx1
namespace Go.Proofs.Ytidlpihffolelaa.Pure
open Go.RowKit Go.Proofs.Ytidlpihffolelaa.PSeqKnown Go.Proofs.YtidlpihffolelaaW.PrintWords Go.Proofs.YtidlpihffolelaaW.PrintLast

theorem tm (a m : Int) : Int.tmod a m = if 0 ≤ a then a % m else -((-a) % m) := by
  split
  · rename_i h; exact Int.tmod_eq_emod_of_nonneg h
  · rename_i h
    have : a = -(-a) := by omega
    rw [this, Int.neg_tmod, Int.tmod_eq_emod_of_nonneg (by omega)]; simp

theorem norm_is (a : Int) : seq_Norm.f a = some (a % 65536) := by
  unfold seq_Norm.f
  rw [tm a 65536]
  congr 1
  by_cases h : 0 ≤ a
  · rw [if_pos h, tm _ _]
    unfold wrap64
    rw [if_pos (by omega)]; omega
  · rw [if_neg h, tm _ _]
    unfold wrap64
    rw [if_pos (by omega)]; omega

/-- how far ahead, the shorter way -/
def far (a b : Int) : Int := if (a - b) % 65536 ≥ 32768 then (a - b) % 65536 - 65536 else (a - b) % 65536
theorem ahead_is (a b : Int) : seq_Ahead.f a b = some (far a b) := by
  unfold seq_Ahead.f far
  rw [norm_is, norm_is]
  simp only [Option.bind_some]
  have w : wrap64 (a % 65536 - b % 65536) = a % 65536 - b % 65536 := by unfold wrap64; omega
  rw [w, norm_is]
  simp only [Option.bind_some]
  have e : (a % 65536 - b % 65536) % 65536 = (a - b) % 65536 := by omega
  rw [e]
  by_cases h : (a - b) % 65536 ≥ 32768
  · rw [if_pos h, if_pos h]; congr 1; unfold wrap64; omega
  · rw [if_neg h, if_neg h]
theorem newer_is (a b : Int) : seq_Newer.f a b = some (decide (far a b > 0)) := by
  unfold seq_Newer.f; rw [ahead_is]; rfl
theorem next_is (a : Int) : seq_Next.f a = some ((a + 1) % 65536) := by
  unfold seq_Next.f; rw [norm_is]; simp only [Option.bind_some]
  have w : wrap64 (a % 65536 + 1) = a % 65536 + 1 := by unfold wrap64; omega
  rw [w, norm_is]; simp only [Option.bind_some]; congr 1; omega
theorem known_is : doubletakelaw6_known.f = some true := by
  unfold doubletakelaw6_known.f
  rw [ahead_is]; simp only [Option.bind_some]
  rw [if_pos (by decide), next_is]; simp only [Option.bind_some]
  rw [if_pos (by decide), newer_is]; rfl

theorem SeqKnown : doubletakelaw6_SeqKnown.Pure := by
  unfold doubletakelaw6_SeqKnown.Pure
  decide +kernel

end Go.Proofs.Ytidlpihffolelaa.Pure
