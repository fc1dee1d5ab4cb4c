/- Rounding as a function over whole numbers: monotone, exact where it may be, on a grid, doubling. -/
import Derived.Test.YtkjjikjilmngdaaFp4
namespace Dt
open Ieee

theorem le_mg (r : Nat) : r ≤ mg r := by
  induction r with
  | zero => exact Nat.zero_le _
  | succ r ih => have := mg_lt_succ r; omega
theorem exists_between (N D : Nat) : ∀ k, N < mg k * D → ∃ r, mg r * D ≤ N ∧ N < mg (r + 1) * D := by
  intro k
  induction k with
  | zero => intro h; rw [mg_zero] at h; omega
  | succ k ih =>
    intro h
    rcases Nat.lt_or_ge N (mg k * D) with h1 | h1
    · exact ih h1
    · exact ⟨k, h1, h⟩
theorem exists_rnd (N D : Nat) (hD : 0 < D) : ∃ r, isRnd N D r := by
  have h0 : N < mg (N + 1) * D := by
    have h1 := le_mg (N + 1)
    have h2 : (N + 1) * 1 ≤ mg (N + 1) * D := Nat.mul_le_mul h1 hD
    omega
  obtain ⟨r, h1, h2⟩ := exists_between N D _ h0
  have hlow : ∀ r', 1 ≤ r' → mg r' * D ≤ N → (mg (r' - 1) + mg r') * D < 2 * N := fun r' hr hle => by
    have h3 : mg (r' - 1) < mg r' := mg_strict (by omega)
    have h4 : (mg (r' - 1) + mg r') * D < (2 * mg r') * D := (Nat.mul_lt_mul_right hD).2 (by omega)
    rw [Nat.mul_assoc] at h4; omega
  have hhigh : ∀ r', N < mg (r' + 1) * D → 2 * N < (mg (r' + 1) + mg (r' + 1 + 1)) * D := fun r' hlt => by
    have h3 : mg (r' + 1) < mg (r' + 1 + 1) := mg_lt_succ _
    have h4 : (2 * mg (r' + 1)) * D < (mg (r' + 1) + mg (r' + 1 + 1)) * D := (Nat.mul_lt_mul_right hD).2 (by omega)
    rw [Nat.mul_assoc] at h4; omega
  rcases Nat.lt_trichotomy (2 * N) ((mg r + mg (r + 1)) * D) with hc | hc | hc
  · exact ⟨r, fun hr => ⟨Nat.le_of_lt (hlow r hr h1), fun e => by have := hlow r hr h1; omega⟩, Nat.le_of_lt hc, fun e => by omega⟩
  · by_cases he : r % 2 = 0
    · exact ⟨r, fun hr => ⟨Nat.le_of_lt (hlow r hr h1), fun e => by have := hlow r hr h1; omega⟩, by omega, fun _ => he⟩
    · exact ⟨r + 1, fun hr => ⟨by rw [Nat.add_sub_cancel]; omega, fun _ => by omega⟩, Nat.le_of_lt (hhigh r h2), fun e => by have := hhigh r h2; omega⟩
  · exact ⟨r + 1, fun hr => ⟨by rw [Nat.add_sub_cancel]; omega, fun e => by rw [Nat.add_sub_cancel] at e; omega⟩, Nat.le_of_lt (hhigh r h2), fun e => by have := hhigh r h2; omega⟩

theorem exists_isS (E : Int) (D : Nat) (hD : 0 < D) : ∃ v, isS E D v := by
  obtain ⟨r, h⟩ := exists_rnd E.natAbs D hD
  exact ⟨_, r, h, rfl⟩
/-- E / D, rounded -/
noncomputable def rnd (E : Int) (D : Nat) : Int := open Classical in if h : ∃ v, isS E D v then Classical.choose h else 0
section
variable {E E' v : Int} {D D' : Nat}
theorem rnd_is (E : Int) (hD : 0 < D) : isS E D (rnd E D) := by
  have h := exists_isS E D hD
  unfold rnd
  rw [dif_pos h]
  exact Classical.choose_spec h
theorem rnd_eq (hD : 0 < D) (h : isS E D v) : rnd E D = v := (rnd_is E hD).unique hD h
theorem rnd_exact (hD : 0 < D) (h : Rep v) : rnd (v * D) D = v := by
  obtain ⟨r, _, hr⟩ := h
  exact rnd_eq hD (isS_exact v D hD ⟨r, hr⟩)
theorem rnd1_exact (h : Rep v) : rnd v 1 = v := by have := rnd_exact (D := 1) (by decide) h; simpa using this
theorem rnd_mono (hD : 0 < D) (hD' : 0 < D') (h : E * D' ≤ E' * D) : rnd E D ≤ rnd E' D' := (rnd_is E hD).mono hD hD' (rnd_is E' hD') h
theorem rnd_neg (hD : 0 < D) : rnd (-E) D = -rnd E D := rnd_eq hD ((rnd_is E hD).neg hD)
theorem rnd_zero (hD : 0 < D) : rnd 0 D = 0 := rnd_eq hD (isS_zero hD)
theorem rnd_le (hD : 0 < D) (hc : Rep v) (h : E ≤ v * D) : rnd E D ≤ v := (rnd_is E hD).le_of hD hc h
theorem rnd_ge (hD : 0 < D) (hc : Rep v) (h : v * D ≤ E) : v ≤ rnd E D := (rnd_is E hD).ge_of hD hc h
theorem rnd_nonneg (hD : 0 < D) (h : 0 ≤ E) : 0 ≤ rnd E D := rnd_ge hD Rep.zero (by simpa using h)
/-- only the quotient counts -/
theorem rnd_scale (hD : 0 < D) {c : Nat} (hc : 0 < c) : rnd (E * c) (D * c) = rnd E D := by
  refine Int.le_antisymm (rnd_mono (Nat.mul_pos hD hc) hD ?_) (rnd_mono hD (Nat.mul_pos hD hc) ?_)
  · rw [Int.natCast_mul, Int.mul_assoc, Int.mul_comm (c : Int)]; exact Int.le_refl _
  · rw [Int.natCast_mul, Int.mul_assoc, Int.mul_comm (c : Int)]; exact Int.le_refl _
/-- rounding never more than doubles -/
theorem rnd_twice (hD : 0 < D) (h : 0 ≤ E) : rnd E D * D ≤ 2 * E := by
  obtain ⟨r, hr, hv⟩ := rnd_is E hD
  rw [hv, if_neg (by omega)]
  rcases Nat.eq_zero_or_pos r with h0 | h0
  · subst h0; rw [mg_zero]; simp; omega
  · have h1 := (hr.1 h0).1
    rw [Nat.add_mul] at h1
    have h2 : mg r * D ≤ 2 * E.natAbs := by omega
    have h3 : ((mg r * D : Nat) : Int) ≤ ((2 * E.natAbs : Nat) : Int) := by exact_mod_cast h2
    rw [Int.natCast_mul] at h3
    omega
/-- the gap's power divides a rung -/
theorem gap_dvd (r : Nat) : 2 ^ (r / B - 1) ∣ mg r := by
  rcases rung_cases r with h | ⟨k, j, hj, rfl⟩
  · rw [Nat.div_eq_of_lt h]; exact ⟨mg r, by simp⟩
  · have hd : ((k + 1) * B + j) / B = k + 1 := by
      rw [Nat.mul_comm, Nat.mul_add_div B_pos, Nat.div_eq_of_lt hj, Nat.add_zero]
    rw [hd, mg_big hj, Nat.add_sub_cancel]
    exact ⟨B + j, Nat.mul_comm _ _⟩
theorem gap_le {r : Nat} (h : 1 ≤ r) : mg r ≤ mg (r - 1) + 2 ^ (r / B - 1) := by
  have h1 := mg_succ (r - 1)
  rw [Nat.sub_add_cancel h] at h1
  rw [h1]
  have : (r - 1) / B ≤ r / B := Nat.div_le_div_right (by omega)
  have := Nat.pow_le_pow_right (n := 2) (by decide) (show (r - 1) / B - 1 ≤ r / B - 1 by omega)
  omega
theorem isRnd.on_grid {N D r m t : Nat} (hD : 0 < D) (h : isRnd N D r) (hN : N = m * 2 ^ t * D) : 2 ^ t ∣ mg r := by
  rcases Nat.lt_or_ge (r / B - 1) t with he | he
  · -- the gap is finer than the grid: the number is a rung
    have hx : mg r = m * 2 ^ t := by
      subst hN
      have hg := mg_succ r
      have hdv : 2 ^ (r / B - 1) ∣ m * 2 ^ t := Nat.dvd_trans (Nat.pow_dvd_pow 2 (by omega)) (Nat.dvd_mul_left _ _)
      obtain ⟨p, hp⟩ := hdv
      obtain ⟨q, hq⟩ := gap_dvd r
      have hG := Nat.two_pow_pos (r / B - 1)
      have u3 : 1 ≤ r → mg r ≤ mg (r - 1) + 2 ^ (r / B - 1) := gap_le
      generalize 2 ^ (r / B - 1) = G at *
      have u1 : 2 * (m * 2 ^ t) ≤ mg r + mg (r + 1) := by
        have := h.2.1
        rw [← Nat.mul_assoc] at this
        exact Nat.le_of_mul_le_mul_right this hD
      have hpq : p < q + 1 := by
        have : 2 * (G * p) ≤ 2 * (G * q) + G := by omega
        have h3 : G * p < G * (q + 1) := by rw [Nat.mul_add]; omega
        exact Nat.lt_of_mul_lt_mul_left h3
      have hqp : q < p + 1 := by
        rcases Nat.eq_zero_or_pos r with h0 | h0
        · subst h0
          rw [mg_zero] at hq
          have : G * q = G * 0 := by omega
          have := Nat.eq_of_mul_eq_mul_left hG this
          omega
        · have u2 : mg (r - 1) + mg r ≤ 2 * (m * 2 ^ t) := by
            have := (h.1 h0).1
            rw [← Nat.mul_assoc] at this
            exact Nat.le_of_mul_le_mul_right this hD
          have u4 := u3 h0
          have h3 : G * q < G * (p + 1) := by rw [Nat.mul_add]; omega
          exact Nat.lt_of_mul_lt_mul_left h3
      have : p = q := by omega
      rw [hp, hq, this]
    rw [hx]; exact Nat.dvd_mul_left _ _
  · exact Nat.dvd_trans (Nat.pow_dvd_pow 2 he) (gap_dvd r)
theorem rnd_grid (hD : 0 < D) {m : Int} {t : Nat} (h : E = m * (2 ^ t : Nat) * D) : ∃ k : Int, rnd E D = k * (2 ^ t : Nat) := by
  obtain ⟨r, hr, hv⟩ := rnd_is E hD
  have hN : E.natAbs = m.natAbs * 2 ^ t * D := by rw [h, Int.natAbs_mul, Int.natAbs_mul]; simp
  obtain ⟨k, hk⟩ := hr.on_grid hD hN
  rw [hv, hk]
  split
  · exact ⟨-(k : Int), by rw [Int.natCast_mul, Int.neg_mul, Int.mul_comm]⟩
  · exact ⟨k, by rw [Int.natCast_mul, Int.mul_comm]⟩
theorem mg_dbl {r : Nat} (h : B ≤ r) : mg (r + B) = 2 * mg r := by
  rcases rung_cases r with h' | ⟨k, j, hj, rfl⟩
  · omega
  · have e : (k + 1) * B + j + B = (k + 1 + 1) * B + j := by rw [Nat.add_mul (k + 1) 1, Nat.one_mul]; omega
    rw [e, mg_big hj, mg_big hj, Nat.pow_succ, ← Nat.mul_assoc, Nat.mul_comm 2]
theorem isRnd.dbl {N D r : Nat} (h : isRnd N D r) (hr : B + 1 ≤ r) : isRnd (2 * N) D (r + B) := by
  have e1 : mg (r + B) = 2 * mg r := mg_dbl (by omega)
  have e2 : mg (r + B - 1) = 2 * mg (r - 1) := by
    have := mg_dbl (r := r - 1) (by omega)
    rwa [show r - 1 + B = r + B - 1 by omega] at this
  have e3 : mg (r + B + 1) = 2 * mg (r + 1) := by
    have := mg_dbl (r := r + 1) (by omega)
    rwa [show r + 1 + B = r + B + 1 by omega] at this
  have hp : (r + B) % 2 = r % 2 := by have := B_even; omega
  have f1 : (mg (r + B - 1) + mg (r + B)) * D = 2 * ((mg (r - 1) + mg r) * D) := by rw [e1, e2, ← Nat.mul_assoc, Nat.mul_add]
  have f2 : (mg (r + B) + mg (r + B + 1)) * D = 2 * ((mg r + mg (r + 1)) * D) := by rw [e1, e3, ← Nat.mul_assoc, Nat.mul_add]
  unfold isRnd
  rw [f1, f2, hp]
  obtain ⟨a1, a2⟩ := h.1 (by omega)
  obtain ⟨b1, b2⟩ := h.2
  exact ⟨fun _ => ⟨by omega, fun h => a2 (by omega)⟩, by omega, fun h => b2 (by omega)⟩
theorem rnd_dbl (hD : 0 < D) {m : Int} {t : Nat} (ht : 54 ≤ t) (h : E = m * (2 ^ t : Nat) * D) : rnd (2 * E) D = 2 * rnd E D := by
  by_cases h0 : E = 0
  · rw [h0, Int.mul_zero, rnd_zero hD]; rfl
  obtain ⟨r, hr, hv⟩ := rnd_is E hD
  have hN : E.natAbs = m.natAbs * 2 ^ t * D := by rw [h, Int.natAbs_mul, Int.natAbs_mul]; simp
  have hm : 1 ≤ m.natAbs := by
    rcases Nat.eq_zero_or_pos m.natAbs with h1 | h1
    · rw [h1] at hN; simp at hN; omega
    · exact h1
  have hbig : 2 ^ 54 * D ≤ E.natAbs := by
    rw [hN]
    exact Nat.mul_le_mul_right _ (Nat.le_trans (Nat.pow_le_pow_right (by decide) ht) (Nat.le_mul_of_pos_left _ hm))
  have hrB : B + 1 ≤ r := by
    rcases Nat.lt_or_ge B r with h1 | h1
    · exact h1
    · exfalso
      have h2 := hr.2.1
      have h3 : mg (B + 1) = B + 1 := by
        have := mg_big (k := 0) (j := 1) (by decide)
        simpa using this
      have h4 : mg r ≤ mg (B + 1) := mg_mono (by omega)
      have h5 : mg (r + 1) ≤ mg (B + 1) := mg_mono (by omega)
      have h6 : (mg r + mg (r + 1)) * D ≤ (2 * (B + 1)) * D := Nat.mul_le_mul_right _ (by omega)
      have h7 : (2 * (B + 1)) * D < (2 * 2 ^ 54) * D := (Nat.mul_lt_mul_right hD).2 (by decide)
      rw [Nat.mul_assoc 2 (2 ^ 54) D] at h7
      omega
  refine rnd_eq hD ⟨r + B, ?_, ?_⟩
  · have : (2 * E).natAbs = 2 * E.natAbs := by omega
    rw [this]; exact hr.dbl hrB
  · rw [hv, mg_dbl (by omega)]
    by_cases hE : E < 0
    · rw [if_pos hE, if_pos (by omega)]; push_cast; omega
    · rw [if_neg hE, if_neg (by omega)]; push_cast; omega
end
end Dt
