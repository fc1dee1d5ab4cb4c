/- Chapter 6: ways ahead add up, as long as they are short, and whole rounds change nothing; with no condition. -/
import Derived.Test.YtidlpihffolelaaPSeqSumsx1
namespace Go.Proofs.Ytidlpihffolelaa.Pure
open Go.RowKit Go.Proofs.Ytidlpihffolelaa.PSeqSums Go.Proofs.YtidlpihffolelaaW.PrintWords Go.Proofs.YtidlpihffolelaaW.PrintLast

theorem tm (a m : Int) : Int.tmod a m = if 0 ≤ a then a % m else -((-a) % m) := by
  split
  · rename_i h; exact Int.tmod_eq_emod_of_nonneg h
  · rename_i h
    have : a = -(-a) := by omega
    rw [this, Int.neg_tmod, Int.tmod_eq_emod_of_nonneg (by omega)]; simp

theorem norm_is (a : Int) : seq_Norm.f a = some (a % 65536) := by
  unfold seq_Norm.f
  rw [tm a 65536]
  congr 1
  by_cases h : 0 ≤ a
  · rw [if_pos h, tm _ _]
    unfold wrap64
    rw [if_pos (by omega)]; omega
  · rw [if_neg h, tm _ _]
    unfold wrap64
    rw [if_pos (by omega)]; omega

/-- how far ahead, the shorter way -/
def far (a b : Int) : Int := if (a - b) % 65536 ≥ 32768 then (a - b) % 65536 - 65536 else (a - b) % 65536
theorem ahead_is (a b : Int) : seq_Ahead.f a b = some (far a b) := by
  unfold seq_Ahead.f far
  rw [norm_is, norm_is]
  simp only [Option.bind_some]
  have w : wrap64 (a % 65536 - b % 65536) = a % 65536 - b % 65536 := by unfold wrap64; omega
  rw [w, norm_is]
  simp only [Option.bind_some]
  have e : (a % 65536 - b % 65536) % 65536 = (a - b) % 65536 := by omega
  rw [e]
  by_cases h : (a - b) % 65536 ≥ 32768
  · rw [if_pos h, if_pos h]; congr 1; unfold wrap64; omega
  · rw [if_neg h, if_neg h]
theorem newer_is (a b : Int) : seq_Newer.f a b = some (decide (far a b > 0)) := by
  unfold seq_Newer.f; rw [ahead_is]; rfl
theorem next_is (a : Int) : seq_Next.f a = some ((a + 1) % 65536) := by
  unfold seq_Next.f; rw [norm_is]; simp only [Option.bind_some]
  have w : wrap64 (a % 65536 + 1) = a % 65536 + 1 := by unfold wrap64; omega
  rw [w, norm_is]; simp only [Option.bind_some]; congr 1; omega
theorem known_is : doubletakelaw6_known.f = some true := by
  unfold doubletakelaw6_known.f
  rw [ahead_is]; simp only [Option.bind_some]
  rw [if_pos (by decide), next_is]; simp only [Option.bind_some]
  rw [if_pos (by decide), newer_is]; rfl

theorem pick_is (a m : Int) (hm : 0 < m) (hb : m ≤ 4294967296) : doubletakehand_Pick.f a m = some (a % m) := by
  unfold doubletakehand_Pick.f
  rw [if_neg (by omega), tm a m]
  have h1 := Int.emod_nonneg a (show m ≠ 0 by omega)
  have h2 := Int.emod_lt_of_pos a hm
  have h3 := Int.emod_nonneg (-a) (show m ≠ 0 by omega)
  have h4 := Int.emod_lt_of_pos (-a) hm
  by_cases h : 0 ≤ a
  · rw [if_pos h, if_neg (by omega)]
  · rw [if_neg h]
    have e1 := Int.mul_ediv_add_emod (-a) m
    generalize -a % m = r at *
    generalize -a / m = q at *
    have key : a % m = if r = 0 then 0 else m - r := by
      split
      · rename_i h0
        have : a = m * (-q) := by rw [Int.mul_neg]; omega
        rw [this]; exact Int.mul_emod_right _ _
      · rename_i h0
        have : a = (m - r) + m * (-q - 1) := by rw [Int.mul_sub, Int.mul_neg]; omega
        rw [this, Int.add_mul_emod_self_left]
        exact Int.emod_eq_of_lt (by omega) (by omega)
    rw [key]
    by_cases h0 : r = 0
    · rw [if_pos h0, if_neg (by omega), h0]; rfl
    · rw [if_neg h0, if_pos (by omega)]
      congr 1; unfold wrap64; omega

theorem SeqSums : doubletakelaw6_SeqSums.Pure := by
  intro a n m r _ _ _ _
  unfold doubletakelaw6_SeqSums.f
  rw [pick_is a 65536 (by decide) (by decide), pick_is n 16000 (by decide) (by decide), pick_is m 16000 (by decide) (by decide), pick_is r 1000 (by decide) (by decide)]
  simp only [Option.bind_some, known_is, if_true]
  have ha : 0 ≤ a % 65536 ∧ a % 65536 < 65536 := by omega
  have hn : 0 ≤ n % 16000 ∧ n % 16000 < 16000 := by omega
  have hm : 0 ≤ m % 16000 ∧ m % 16000 < 16000 := by omega
  have hr : 0 ≤ r % 1000 ∧ r % 1000 < 1000 := by omega
  generalize a % 65536 = a at *
  generalize n % 16000 = n at *
  generalize m % 16000 = m at *
  generalize r % 1000 = r at *
  have w1 : wrap64 (a + n) = a + n := by unfold wrap64; omega
  have w2 : wrap64 (a + n + m) = a + n + m := by unfold wrap64; omega
  have w3 : wrap64 (r * 65536) = r * 65536 := by unfold wrap64; omega
  have w4 : wrap64 (a + n + r * 65536) = a + n + r * 65536 := by unfold wrap64; omega
  simp only [w1, w2, w3, w4, ahead_is, newer_is, Option.bind_some]
  have f1 : far (a + n) a = n := by unfold far; split <;> omega
  have f2 : far (a + n + m) (a + n) = m := by unfold far; split <;> omega
  have f3 : far (a + n + m) a = n + m := by unfold far; split <;> omega
  have f4 : far (a + n + r * 65536) a = n := by unfold far; split <;> omega
  have f5 : far a (a + n) = -n := by unfold far; split <;> omega
  have w5 : wrap64 (n + m) = n + m := by unfold wrap64; omega
  simp [f1, f2, f3, f4, f5, w5]
  omega

end Go.Proofs.Ytidlpihffolelaa.Pure
