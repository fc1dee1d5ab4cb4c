/- 'nearest' is the rung nearest to the number. -/
import Derived.Test.YtckodnogjedmnaaFp
namespace Dt
open Ieee

/-- K is N / (D * 2^L), rounded to the nearest whole number, to the even one between two; then L * B + K is the rung. -/
theorem isRnd_of_kept {N D L K : Nat} (hlo : 2 * K * 2 ^ L * D ≤ 2 * N + 2 ^ L * D) (hlo' : 2 * K * 2 ^ L * D = 2 * N + 2 ^ L * D → K % 2 = 0)
    (hhi : 2 * N ≤ 2 * K * 2 ^ L * D + 2 ^ L * D) (hhi' : 2 * N = 2 * K * 2 ^ L * D + 2 ^ L * D → K % 2 = 0)
    (hD : 0 < D) (hbig : 1 ≤ L → B * 2 ^ L * D ≤ N) (hK : 1 ≤ L → B ≤ K) (hlt : N < 2 * B * 2 ^ L * D) (hK2 : K ≤ 2 * B) : isRnd N D (L * B + K) := by
  have hp : 0 < 2 ^ L := Nat.two_pow_pos L
  have hpD : 0 < 2 ^ L * D := Nat.mul_pos hp hD
  have par : (L * B + K) % 2 = K % 2 := by
    have hb := B_even
    have : (L * B) % 2 = 0 := by rw [Nat.mul_mod, hb]; simp
    omega
  -- the magnitude
  have hm : mg (L * B + K) = K * 2 ^ L := by
    rcases Nat.eq_zero_or_pos L with h0 | h1
    · subst h0
      simp only [Nat.zero_mul, Nat.zero_add, Nat.pow_zero, Nat.mul_one]
      rcases Nat.lt_or_ge K B with h | h
      · exact mg_small h
      · rcases Nat.lt_or_ge K (2 * B) with h2 | h2
        · have e : K = (0 + 1) * B + (K - B) := by omega
          rw [e, mg_big (by omega)]; simp
        · have e : K = (1 + 1) * B + 0 := by omega
          have h : mg K = (B + 0) * 2 ^ 1 := by rw [e]; exact mg_big B_pos
          omega
    · have hKB := hK h1
      rcases Nat.lt_or_ge K (2 * B) with h2 | h2
      · have e : L * B + K = (L + 1) * B + (K - B) := by rw [Nat.succ_mul]; omega
        have e2 : B + (K - B) = K := by omega
        rw [e, mg_big (by omega), e2]
      · have e : L * B + K = (L + 1 + 1) * B + 0 := by rw [Nat.succ_mul, Nat.succ_mul]; omega
        have hK' : K = 2 * B := by omega
        have h : mg (L * B + K) = (B + 0) * 2 ^ (L + 1) := by rw [e]; exact mg_big B_pos
        rw [h, hK', Nat.pow_succ, Nat.add_zero]
        simp only [Nat.mul_assoc, Nat.mul_comm]
  -- the gap above is at least 2^L
  have hgap : mg (L * B + K) + 2 ^ L ≤ mg (L * B + K + 1) := by
    rw [mg_succ]
    have : 2 ^ L ≤ 2 ^ ((L * B + K) / B - 1) := by
      refine Nat.pow_le_pow_right (by decide) ?_
      rcases Nat.eq_zero_or_pos L with h0 | h1
      · omega
      · have hKB := hK h1
        have : L + 1 ≤ (L * B + K) / B := by
          rw [Nat.le_div_iff_mul_le B_pos, Nat.succ_mul]; omega
        omega
    omega
  have e1 : mg (L * B + K) * D = K * 2 ^ L * D := by rw [hm]
  have e2 : 2 * K * 2 ^ L * D = 2 * (K * 2 ^ L * D) := by rw [Nat.mul_assoc 2, Nat.mul_assoc 2]
  constructor
  · intro hr
    rw [Nat.add_mul, e1]
    by_cases hc : 1 ≤ L ∧ K = B
    · obtain ⟨h1, rfl⟩ := hc
      have hb := hbig h1
      have : mg (L * B + B - 1) < mg (L * B + B) := mg_strict (by omega)
      have : mg (L * B + B - 1) * D < mg (L * B + B) * D := (Nat.mul_lt_mul_right hD).2 this
      refine ⟨by omega, fun e => by omega⟩
    · -- the gap below is 2^L
      have hb : mg (L * B + K - 1) + 2 ^ L = mg (L * B + K) := by
        obtain ⟨r, hr'⟩ : ∃ r, L * B + K = r + 1 := ⟨L * B + K - 1, by omega⟩
        rw [hr', Nat.add_sub_cancel, mg_succ]
        congr 2
        rcases Nat.eq_zero_or_pos L with h0 | h1
        · subst h0
          have : r / B ≤ 1 := by
            have : r < 2 * B := by omega
            have := (Nat.div_lt_iff_lt_mul B_pos).2 this
            omega
          omega
        · have hKB := hK h1
          have h3 : L + 1 ≤ r / B := by
            rw [Nat.le_div_iff_mul_le B_pos, Nat.succ_mul]; omega
          have h4 : r / B < L + 2 := by
            rw [Nat.div_lt_iff_lt_mul B_pos]
            have : (L + 2) * B = L * B + 2 * B := by rw [Nat.add_mul]
            omega
          omega
      have hb' : mg (L * B + K - 1) * D + 2 ^ L * D = K * 2 ^ L * D := by rw [← Nat.add_mul, hb, e1]
      refine ⟨by omega, fun e => ?_⟩
      rw [par]; exact hlo' (by omega)
  · rw [Nat.add_mul, e1]
    have h1 : (mg (L * B + K) + 2 ^ L) * D ≤ mg (L * B + K + 1) * D := Nat.mul_le_mul_right _ hgap
    rw [Nat.add_mul, e1] at h1
    refine ⟨by omega, fun e => ?_⟩
    rw [par]; exact hhi' (by omega)

/-- What 'cut' gives, to the nearest. -/
theorem cut_even (neg : Bool) (n drop : Nat) :
    2 * Toward.even.cut neg n drop * 2 ^ drop ≤ 2 * n + 2 ^ drop ∧ (2 * Toward.even.cut neg n drop * 2 ^ drop = 2 * n + 2 ^ drop → Toward.even.cut neg n drop % 2 = 0) ∧
    2 * n ≤ 2 * Toward.even.cut neg n drop * 2 ^ drop + 2 ^ drop ∧ (2 * n = 2 * Toward.even.cut neg n drop * 2 ^ drop + 2 ^ drop → Toward.even.cut neg n drop % 2 = 0) := by
  have key : ∀ g : Nat, 0 < g → ∀ K : Nat, K = n / g + (decide (g < 2 * (n % g)) || (g == 2 * (n % g) && n / g % 2 == 1)).toNat →
      2 * K * g ≤ 2 * n + g ∧ (2 * K * g = 2 * n + g → K % 2 = 0) ∧ 2 * n ≤ 2 * K * g + g ∧ (2 * n = 2 * K * g + g → K % 2 = 0) := by
    intro g hg K hK
    have h1 := Nat.div_add_mod n g
    have h2 := Nat.mod_lt n hg
    have h3 : g * (n / g) = n / g * g := Nat.mul_comm _ _
    generalize hq : n / g = q at *
    generalize ht : n % g = t at *
    have e0 : 2 * q * g = 2 * (q * g) := Nat.mul_assoc _ _ _
    by_cases c1 : g < 2 * t
    · have : K = q + 1 := by simp [hK, c1]
      subst this
      have e : 2 * (q + 1) * g = 2 * (q * g) + 2 * g := by rw [Nat.mul_assoc, Nat.add_mul q 1 g]; omega
      rw [e]
      refine ⟨by omega, fun _ => by omega, by omega, fun _ => by omega⟩
    · by_cases c2 : g = 2 * t
      · by_cases c3 : q % 2 = 1
        · have : K = q + 1 := by simp [hK, c2, c3]
          subst this
          have e : 2 * (q + 1) * g = 2 * (q * g) + 2 * g := by rw [Nat.mul_assoc, Nat.add_mul q 1 g]; omega
          rw [e]
          refine ⟨by omega, fun _ => by omega, by omega, fun _ => by omega⟩
        · have : K = q := by simp [hK, c1, c3]
          subst this
          rw [e0]
          refine ⟨by omega, fun _ => by omega, by omega, fun _ => by omega⟩
      · have : K = q := by simp [hK, c1, c2]
        subst this
        rw [e0]
        refine ⟨by omega, fun _ => by omega, by omega, fun _ => by omega⟩
  by_cases hd : drop ≤ n.log2 + 2
  · refine key (2 ^ drop) (Nat.two_pow_pos _) _ ?_
    unfold Toward.cut
    rw [Nat.min_eq_left hd, Nat.one_shiftLeft]
  · have hn : n < 2 ^ (n.log2 + 1) := Nat.lt_log2_self
    have hz : Toward.even.cut neg n drop = 0 := by
      unfold Toward.cut
      rw [Nat.min_eq_right (by omega), Nat.one_shiftLeft]
      have e : 2 ^ (n.log2 + 2) = 2 * 2 ^ (n.log2 + 1) := by rw [Nat.pow_succ]; omega
      have q : n / 2 ^ (n.log2 + 2) = 0 := Nat.div_eq_of_lt (by omega)
      have r : n % 2 ^ (n.log2 + 2) = n := Nat.mod_eq_of_lt (by omega)
      have c1 : ¬ 2 ^ (n.log2 + 2) < 2 * n := by omega
      simp [q, r, c1]
    rw [hz]
    have hle : 2 ^ (n.log2 + 2) ≤ 2 ^ drop := Nat.pow_le_pow_right (by decide) (by omega)
    have e : 2 ^ (n.log2 + 2) = 2 * 2 ^ (n.log2 + 1) := by rw [Nat.pow_succ]; omega
    refine ⟨by omega, fun _ => rfl, by omega, fun _ => rfl⟩
end Dt
