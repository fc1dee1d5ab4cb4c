/- Rounding of double words: what the four operations and the comparison give, over whole numbers (units of 2^-1074). -/
import Ieee.Arith
import Derived.Laws.FloatBits
namespace Dt
open Ieee

/-- rungs to a binade -/
def B : Nat := 4503599627370496
theorem B_pos : 0 < B := by decide
theorem B_even : B % 2 = 0 := by decide

/-- the magnitude of a rung, in units of 2^-1074 -/
def mg (r : Nat) : Nat := if r < B then r else (B + r % B) * 2 ^ (r / B - 1)

theorem mg_small {r : Nat} (h : r < B) : mg r = r := by simp [mg, h]
theorem mg_big {k j : Nat} (hj : j < B) : mg ((k + 1) * B + j) = (B + j) * 2 ^ k := by
  have h1 : ¬ (k + 1) * B + j < B := by rw [Nat.succ_mul]; omega
  have h2 : ((k + 1) * B + j) % B = j := by rw [Nat.mul_comm, Nat.mul_add_mod]; exact Nat.mod_eq_of_lt hj
  have h3 : ((k + 1) * B + j) / B = k + 1 := by
    rw [Nat.mul_comm, Nat.mul_add_div B_pos, Nat.div_eq_of_lt hj, Nat.add_zero]
  simp [mg, h1, h2, h3]

/-- every rung is of one of the two forms -/
theorem rung_cases (r : Nat) : r < B ∨ ∃ k j, j < B ∧ r = (k + 1) * B + j := by
  by_cases h : r < B
  · exact .inl h
  · refine .inr ⟨r / B - 1, r % B, Nat.mod_lt _ B_pos, ?_⟩
    have h1 : 1 ≤ r / B := by rw [Nat.le_div_iff_mul_le B_pos]; omega
    have h2 := Nat.div_add_mod r B
    have h3 : r / B - 1 + 1 = r / B := by omega
    rw [h3, Nat.mul_comm]; omega

/-- the gap above a rung -/
theorem mg_succ (r : Nat) : mg (r + 1) = mg r + 2 ^ (r / B - 1) := by
  rcases rung_cases r with h | ⟨k, j, hj, rfl⟩
  · have hd : r / B = 0 := Nat.div_eq_of_lt h
    rw [hd, mg_small h]
    by_cases h' : r + 1 < B
    · rw [mg_small h']
    · have : r + 1 = (0 + 1) * B + 0 := by omega
      rw [this, mg_big B_pos]; simp; try omega
  · have hd : ((k + 1) * B + j) / B = k + 1 := by
      rw [Nat.mul_comm, Nat.mul_add_div B_pos, Nat.div_eq_of_lt hj, Nat.add_zero]
    rw [hd, mg_big hj, Nat.add_sub_cancel]
    by_cases h' : j + 1 < B
    · rw [Nat.add_assoc, mg_big h', ← Nat.add_assoc, Nat.succ_mul]
    · have e : (k + 1) * B + j + 1 = (k + 1 + 1) * B + 0 := by rw [Nat.add_mul (k + 1) 1, Nat.one_mul]; omega
      rw [e, mg_big B_pos, Nat.pow_succ, Nat.add_zero]
      have hB : B = j + 1 := by omega
      have : B * (2 ^ k * 2) = (B + B) * 2 ^ k := by rw [Nat.add_mul, ← Nat.mul_assoc]; omega
      rw [this]
      have : B + B = B + j + 1 := by omega
      rw [this, Nat.succ_mul]

theorem mg_lt_succ (r : Nat) : mg r < mg (r + 1) := by
  rw [mg_succ]; have := Nat.two_pow_pos (r / B - 1); omega

theorem mg_mono {a b : Nat} (h : a ≤ b) : mg a ≤ mg b := by
  induction h with
  | refl => exact Nat.le_refl _
  | step _ ih => exact Nat.le_trans ih (Nat.le_of_lt (mg_lt_succ _))

theorem mg_strict {a b : Nat} (h : a < b) : mg a < mg b :=
  Nat.lt_of_lt_of_le (mg_lt_succ a) (mg_mono h)

theorem mg_inj {a b : Nat} (h : mg a = mg b) : a = b := by
  rcases Nat.lt_trichotomy a b with h1 | h1 | h1
  · have := mg_strict h1; omega
  · exact h1
  · have := mg_strict h1; omega

theorem mg_lt_iff {a b : Nat} : mg a < mg b ↔ a < b := by
  constructor
  · intro h
    rcases Nat.lt_or_ge a b with h1 | h1
    · exact h1
    · have := mg_mono h1; omega
  · exact mg_strict

theorem mg_le_iff {a b : Nat} : mg a ≤ mg b ↔ a ≤ b := by
  constructor
  · intro h
    rcases Nat.lt_or_ge b a with h1 | h1
    · have := mg_strict h1; omega
    · exact h1
  · exact mg_mono

/-- 'r' is the rung nearest to N / D, between two the even one -/
def isRnd (N D r : Nat) : Prop :=
  (1 ≤ r → (mg (r - 1) + mg r) * D ≤ 2 * N ∧ ((mg (r - 1) + mg r) * D = 2 * N → r % 2 = 0)) ∧
  (2 * N ≤ (mg r + mg (r + 1)) * D ∧ (2 * N = (mg r + mg (r + 1)) * D → r % 2 = 0))

theorem isRnd.mono {N1 D1 r1 N2 D2 r2 : Nat} (hD1 : 0 < D1) (hD2 : 0 < D2) (h1 : isRnd N1 D1 r1) (h2 : isRnd N2 D2 r2)
    (h : N1 * D2 ≤ N2 * D1) : r1 ≤ r2 := by
  rcases Nat.lt_or_ge r2 r1 with hlt | hge
  · exfalso
    obtain ⟨a1, a2⟩ := h1.1 (by omega)
    obtain ⟨b1, b2⟩ := h2.2
    -- 2 N1 ≥ (mg (r1-1) + mg r1) D1 ≥ (mg r2 + mg (r2+1)) D1 ; 2 N2 ≤ (mg r2 + mg (r2+1)) D2
    have m1 : mg r2 ≤ mg (r1 - 1) := mg_mono (by omega)
    have m2 : mg (r2 + 1) ≤ mg r1 := mg_mono (by omega)
    have s : mg r2 + mg (r2 + 1) ≤ mg (r1 - 1) + mg r1 := by omega
    have c1 : (mg r2 + mg (r2 + 1)) * D1 * D2 ≤ (mg (r1 - 1) + mg r1) * D1 * D2 := Nat.mul_le_mul_right _ (Nat.mul_le_mul_right _ s)
    have c2 : (mg (r1 - 1) + mg r1) * D1 * D2 ≤ 2 * N1 * D2 := Nat.mul_le_mul_right _ a1
    have c3 : 2 * N2 * D1 ≤ (mg r2 + mg (r2 + 1)) * D2 * D1 := Nat.mul_le_mul_right _ b1
    have c4 : (mg r2 + mg (r2 + 1)) * D2 * D1 = (mg r2 + mg (r2 + 1)) * D1 * D2 := Nat.mul_right_comm _ _ _
    have c5 : 2 * N1 * D2 ≤ 2 * N2 * D1 := by rw [Nat.mul_assoc, Nat.mul_assoc]; omega
    have e1 : (mg (r1 - 1) + mg r1) * D1 * D2 = 2 * N1 * D2 := by omega
    have e2 : 2 * N2 * D1 = (mg r2 + mg (r2 + 1)) * D2 * D1 := by omega
    have e3 : (mg r2 + mg (r2 + 1)) * D1 * D2 = (mg (r1 - 1) + mg r1) * D1 * D2 := by omega
    have f1 := Nat.eq_of_mul_eq_mul_right hD2 e1
    have f2 := Nat.eq_of_mul_eq_mul_right hD1 e2
    have f3 := Nat.eq_of_mul_eq_mul_right hD1 (Nat.eq_of_mul_eq_mul_right hD2 e3)
    have p1 := a2 f1
    have p2 := b2 f2
    have q1 : r1 = r2 + 1 := by
      rcases Nat.lt_or_ge (r2 + 1) r1 with h3 | h3
      · have := mg_strict h3; omega
      · omega
    omega
  · exact hge

theorem isRnd.unique {N D r1 r2 : Nat} (hD : 0 < D) (h1 : isRnd N D r1) (h2 : isRnd N D r2) : r1 = r2 :=
  Nat.le_antisymm (h1.mono hD hD h2 (Nat.le_refl _)) (h2.mono hD hD h1 (Nat.le_refl _))

theorem isRnd_exact (D r : Nat) (hD : 0 < D) : isRnd (mg r * D) D r := by
  refine ⟨fun h => ?_, ?_⟩
  · have h1 : mg (r - 1) < mg r := mg_strict (by omega)
    have h2 : (mg (r - 1) + mg r) * D < 2 * (mg r * D) := by
      rw [← Nat.mul_assoc]; exact (Nat.mul_lt_mul_right hD).2 (by omega)
    exact ⟨Nat.le_of_lt h2, fun e => by omega⟩
  · have h1 : mg r < mg (r + 1) := mg_lt_succ r
    have h2 : 2 * (mg r * D) < (mg r + mg (r + 1)) * D := by
      rw [← Nat.mul_assoc]; exact (Nat.mul_lt_mul_right hD).2 (by omega)
    exact ⟨Nat.le_of_lt h2, fun e => by omega⟩

theorem isRnd.le_of {N D r c : Nat} (hD : 0 < D) (h : isRnd N D r) (hc : N ≤ mg c * D) : r ≤ c :=
  h.mono hD hD (isRnd_exact D c hD) (Nat.mul_le_mul_right _ hc)
theorem isRnd.ge_of {N D r c : Nat} (hD : 0 < D) (h : isRnd N D r) (hc : mg c * D ≤ N) : c ≤ r :=
  (isRnd_exact D c hD).mono hD hD h (Nat.mul_le_mul_right _ hc)
theorem isRnd.eq_of {N D r c : Nat} (hD : 0 < D) (h : isRnd N D r) (hc : N = mg c * D) : r = c := by
  subst hc; exact h.unique hD (isRnd_exact D c hD)
/-- only the quotient counts -/
theorem isRnd.scale {N D r c : Nat} (hc : 0 < c) (h : isRnd (N * c) (D * c) r) : isRnd N D r := by
  have k : ∀ x y : Nat, x * (D * c) ≤ 2 * (y * c) ↔ x * D ≤ 2 * y := fun x y => by
    rw [← Nat.mul_assoc, ← Nat.mul_assoc]; exact Nat.mul_le_mul_right_iff hc
  have k' : ∀ x y : Nat, 2 * (y * c) ≤ x * (D * c) ↔ 2 * y ≤ x * D := fun x y => by
    rw [← Nat.mul_assoc, ← Nat.mul_assoc]; exact Nat.mul_le_mul_right_iff hc
  refine ⟨fun h1 => ?_, ?_⟩
  · obtain ⟨a, b⟩ := h.1 h1
    refine ⟨(k _ _).1 a, fun e => b ?_⟩
    rw [← Nat.mul_assoc, e, Nat.mul_assoc]
  · obtain ⟨a, b⟩ := h.2
    refine ⟨(k' _ _).1 a, fun e => b ?_⟩
    rw [← Nat.mul_assoc, e, Nat.mul_assoc]
end Dt
