/- Chapter 6: some steps on, and no more than half round, a number is so far ahead, and newer; two are alike just where neither is ahead; never both are newer; with no condition. -/
import Derived.Test.YtidlpihffolelaaPSeqRoundx1
namespace Go.Proofs.Ytidlpihffolelaa.Pure
open Go.RowKit Go.Proofs.Ytidlpihffolelaa.PSeqRound Go.Proofs.YtidlpihffolelaaW.PrintWords Go.Proofs.YtidlpihffolelaaW.PrintLast

theorem tm (a m : Int) : Int.tmod a m = if 0 ≤ a then a % m else -((-a) % m) := by
  split
  · rename_i h; exact Int.tmod_eq_emod_of_nonneg h
  · rename_i h
    have : a = -(-a) := by omega
    rw [this, Int.neg_tmod, Int.tmod_eq_emod_of_nonneg (by omega)]; simp

theorem norm_is (a : Int) : seq_Norm.f a = some (a % 65536) := by
  unfold seq_Norm.f
  rw [tm a 65536]
  congr 1
  by_cases h : 0 ≤ a
  · rw [if_pos h, tm _ _]
    unfold wrap64
    rw [if_pos (by omega)]; omega
  · rw [if_neg h, tm _ _]
    unfold wrap64
    rw [if_pos (by omega)]; omega

/-- how far ahead, the shorter way -/
def far (a b : Int) : Int := if (a - b) % 65536 ≥ 32768 then (a - b) % 65536 - 65536 else (a - b) % 65536
theorem ahead_is (a b : Int) : seq_Ahead.f a b = some (far a b) := by
  unfold seq_Ahead.f far
  rw [norm_is, norm_is]
  simp only [Option.bind_some]
  have w : wrap64 (a % 65536 - b % 65536) = a % 65536 - b % 65536 := by unfold wrap64; omega
  rw [w, norm_is]
  simp only [Option.bind_some]
  have e : (a % 65536 - b % 65536) % 65536 = (a - b) % 65536 := by omega
  rw [e]
  by_cases h : (a - b) % 65536 ≥ 32768
  · rw [if_pos h, if_pos h]; congr 1; unfold wrap64; omega
  · rw [if_neg h, if_neg h]
theorem newer_is (a b : Int) : seq_Newer.f a b = some (decide (far a b > 0)) := by
  unfold seq_Newer.f; rw [ahead_is]; rfl
theorem next_is (a : Int) : seq_Next.f a = some ((a + 1) % 65536) := by
  unfold seq_Next.f; rw [norm_is]; simp only [Option.bind_some]
  have w : wrap64 (a % 65536 + 1) = a % 65536 + 1 := by unfold wrap64; omega
  rw [w, norm_is]; simp only [Option.bind_some]; congr 1; omega
theorem known_is : doubletakelaw6_known.f = some true := by
  unfold doubletakelaw6_known.f
  rw [ahead_is]; simp only [Option.bind_some]
  rw [if_pos (by decide), next_is]; simp only [Option.bind_some]
  rw [if_pos (by decide), newer_is]; rfl

theorem pick_is (a m : Int) (hm : 0 < m) (hb : m ≤ 4294967296) : doubletakehand_Pick.f a m = some (a % m) := by
  unfold doubletakehand_Pick.f
  rw [if_neg (by omega), tm a m]
  have h1 := Int.emod_nonneg a (show m ≠ 0 by omega)
  have h2 := Int.emod_lt_of_pos a hm
  have h3 := Int.emod_nonneg (-a) (show m ≠ 0 by omega)
  have h4 := Int.emod_lt_of_pos (-a) hm
  by_cases h : 0 ≤ a
  · rw [if_pos h, if_neg (by omega)]
  · rw [if_neg h]
    have e1 := Int.mul_ediv_add_emod (-a) m
    generalize -a % m = r at *
    generalize -a / m = q at *
    have key : a % m = if r = 0 then 0 else m - r := by
      split
      · rename_i h0
        have : a = m * (-q) := by rw [Int.mul_neg]; omega
        rw [this]; exact Int.mul_emod_right _ _
      · rename_i h0
        have : a = (m - r) + m * (-q - 1) := by rw [Int.mul_sub, Int.mul_neg]; omega
        rw [this, Int.add_mul_emod_self_left]
        exact Int.emod_eq_of_lt (by omega) (by omega)
    rw [key]
    by_cases h0 : r = 0
    · rw [if_pos h0, if_neg (by omega), h0]; rfl
    · rw [if_neg h0, if_pos (by omega)]
      congr 1; unfold wrap64; omega

theorem round_is (a b n : Int) (h0 : 0 ≤ n) (hn : n < 300) (ha : 0 ≤ a) (ha' : a < 65536) (d : Nat) : ∀ (k : Nat) (i : Int), 0 ≤ i → i ≤ n → n - i = d → d < k →
    doubletakelaw6_SeqRound.l0 k a b n ((a + i) % 65536) i = some true := by
  induction d with
  | zero =>
    intro k i hi hin hd hk
    obtain ⟨k, rfl⟩ : ∃ m, k = m + 1 := ⟨k - 1, by omega⟩
    have e : i = n := by omega
    subst e
    simp only [doubletakelaw6_SeqRound.l0]
    rw [if_neg (by omega), pick_is b 65536 (by decide) (by decide)]
    simp only [known_is, Option.bind_some, if_true, ahead_is, newer_is, norm_is]
    have f1 : far ((a + i) % 65536) a = i := by unfold far; split <;> omega
    have f2 : far a ((a + i) % 65536) = wrap64 (-i) := by unfold far wrap64; split <;> omega
    have hb : 0 ≤ b % 65536 ∧ b % 65536 < 65536 := by omega
    have w : wrap64 (a + wrap64 (65536 * i)) = a + 65536 * i := by unfold wrap64; omega
    rw [f1, f2, w]
    simp only [if_true]
    generalize b % 65536 = b at *
    obtain ⟨hb0, hb1⟩ := hb
    have f3 : (far a b == 0) = (a == b) := by
      rw [Bool.eq_iff_iff]; simp only [beq_iff_eq]; unfold far; constructor
      · intro h; split at h <;> omega
      · rintro rfl; simp
    have f4 : (a + 65536 * i) % 65536 = a := by omega
    rw [f3, f4]
    simp
    intro h; unfold far at *; split at h <;> split <;> omega
  | succ d ih =>
    intro k i hi hin hd hk
    obtain ⟨k, rfl⟩ : ∃ m, k = m + 1 := ⟨k - 1, by omega⟩
    simp only [doubletakelaw6_SeqRound.l0]
    rw [if_pos (by omega), next_is]
    simp only [Option.bind_some]
    have w : wrap64 (i + 1) = i + 1 := by unfold wrap64; omega
    have e : ((a + i) % 65536 + 1) % 65536 = (a + (i + 1)) % 65536 := by omega
    rw [w, e]
    exact ih k (i + 1) (by omega) (by omega) (by omega) (by omega)

theorem SeqRound : doubletakelaw6_SeqRound.Pure := by
  intro a b n _ _ _
  refine ⟨400, ?_⟩
  unfold doubletakelaw6_SeqRound.f
  rw [pick_is a 65536 (by decide) (by decide), pick_is n 300 (by decide) (by decide)]
  simp only [Option.bind_some]
  have h := round_is (a % 65536) b (n % 300) (by omega) (by omega) (by omega) (by omega) (n % 300).toNat 400 0 (by omega) (by omega) (by omega) (by omega)
  have e : (a % 65536 + 0) % 65536 = a % 65536 := by omega
  rwa [e] at h

end Go.Proofs.Ytidlpihffolelaa.Pure
