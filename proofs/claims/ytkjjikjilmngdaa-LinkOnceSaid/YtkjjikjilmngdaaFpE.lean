/- Rounding to the nearest whole number, ties to even. -/
import Derived.Test.YtkjjikjilmngdaaFp6
import Derived.Test.YtkjjikjilmngdaaFp5
namespace Dt
open Ieee
set_option linter.unusedVariables false
set_option linter.unusedSimpArgs false

/-- Q / T to the nearest whole, of two the even one; for Q ≥ 0 -/
def evenK (Q T : Nat) : Nat := if T < 2 * (Q % T) ∨ (T = 2 * (Q % T) ∧ Q / T % 2 = 1) then Q / T + 1 else Q / T
theorem evenK_scale {Q T c : Nat} (hc : 0 < c) : evenK (Q * c) (T * c) = evenK Q T := by
  unfold evenK
  have h1 : Q * c / (T * c) = Q / T := Nat.mul_div_mul_right _ _ hc
  have h2 : Q * c % (T * c) = Q % T * c := Nat.mul_mod_mul_right _ _ _
  rw [h1, h2, show 2 * (Q % T * c) = 2 * (Q % T) * c from (Nat.mul_assoc _ _ _).symm]
  have e1 : T * c < 2 * (Q % T) * c ↔ T < 2 * (Q % T) := Nat.mul_lt_mul_right hc
  have e2 : T * c = 2 * (Q % T) * c ↔ T = 2 * (Q % T) := ⟨fun h => Nat.eq_of_mul_eq_mul_right hc h, fun h => by rw [← h]⟩
  simp only [e1, e2]
theorem evenK_near {Q T : Nat} (hT : 0 < T) : 2 * Q ≤ (2 * evenK Q T + 1) * T ∧ (2 * evenK Q T) * T ≤ 2 * Q + T := by
  have h := Nat.div_add_mod Q T
  have hm := Nat.mod_lt Q hT
  unfold evenK
  generalize Q / T = n at *
  generalize Q % T = r at *
  have e : T * n = n * T := Nat.mul_comm _ _
  split
  · rename_i hc
    have : (2 * (n + 1) + 1) * T = 2 * (n * T) + 3 * T := by rw [Nat.add_mul, Nat.mul_assoc, Nat.add_mul]; omega
    have : 2 * (n + 1) * T = 2 * (n * T) + 2 * T := by rw [Nat.mul_assoc, Nat.add_mul]; omega
    omega
  · rename_i hc
    have : (2 * n + 1) * T = 2 * (n * T) + T := by rw [Nat.add_mul, Nat.mul_assoc]; omega
    have : 2 * n * T = 2 * (n * T) := by rw [Nat.mul_assoc]
    omega
theorem evenK_mono {Q Q' T : Nat} (hT : 0 < T) (h : Q ≤ Q') : evenK Q T ≤ evenK Q' T := by
  have h1 := Nat.div_add_mod Q T
  have h2 := Nat.div_add_mod Q' T
  have m1 := Nat.mod_lt Q hT
  have m2 := Nat.mod_lt Q' hT
  have hn : Q / T ≤ Q' / T := Nat.div_le_div_right h
  unfold evenK
  generalize Q / T = n at *
  generalize Q % T = r at *
  generalize Q' / T = n' at *
  generalize Q' % T = r' at *
  rcases Nat.lt_or_eq_of_le hn with h | h
  · split <;> split <;> omega
  · subst h
    split <;> split <;> omega
theorem evenK_exact {n T : Nat} (hT : 0 < T) : evenK (n * T) T = n := by
  unfold evenK
  rw [Nat.mul_mod_left, Nat.mul_div_cancel _ hT]
  rw [if_neg (by omega)]
theorem cut_evenK (neg : Bool) (n drop : Nat) : Toward.even.cut neg n drop = evenK n (2 ^ drop) := by
  have key : ∀ g : Nat, n / g + (decide (g < 2 * (n % g)) || (g == 2 * (n % g) && n / g % 2 == 1)).toNat = evenK n g := by
    intro g
    unfold evenK
    generalize n / g = q
    generalize n % g = t
    by_cases c1 : g < 2 * t
    · simp [c1]
    · by_cases c2 : g = 2 * t
      · by_cases c3 : q % 2 = 1
        · simp [c2, c3]
        · simp [c2, c3]
      · simp [c1, c2]
  by_cases hd : drop ≤ n.log2 + 2
  · unfold Toward.cut
    rw [Nat.min_eq_left hd, Nat.one_shiftLeft]
    exact key _
  · have hn : n < 2 ^ (n.log2 + 1) := Nat.lt_log2_self
    have e : 2 ^ (n.log2 + 2) = 2 * 2 ^ (n.log2 + 1) := by rw [Nat.pow_succ]; omega
    have hle : 2 ^ (n.log2 + 2) ≤ 2 ^ drop := Nat.pow_le_pow_right (by decide) (by omega)
    unfold Toward.cut
    rw [Nat.min_eq_right (by omega), Nat.one_shiftLeft]
    refine (key _).trans ?_
    unfold evenK
    rw [Nat.div_eq_of_lt (show n < 2 ^ (n.log2 + 2) by omega), Nat.mod_eq_of_lt (show n < 2 ^ (n.log2 + 2) by omega), Nat.div_eq_of_lt (show n < 2 ^ drop by omega), Nat.mod_eq_of_lt (show n < 2 ^ drop by omega)]
    rw [if_neg (by omega), if_neg (by omega)]

/-- to the nearest whole number -/
theorem even_fl {x : Nat} {X : Int} (h : Fl x X) (h0 : 0 ≤ X) (h1 : X ≤ 1000000 * S) : ∃ (z : Nat), double.write ((double.read x).integral .even) = z ∧ Fl z ((evenK X.natAbs S : Nat) * S) ∧ evenK X.natAbs S ≤ 1000000 := by
  obtain ⟨m, p, hr, hm⟩ := read_fin h.fin
  rw [h.mg] at hm
  rw [hr]
  simp only [Datum.integral]
  have hSp : (0 : Int) < S := by have := S_pos; omega
  have hKb : evenK X.natAbs S ≤ 1000000 := by
    have h2 : X.natAbs ≤ 1000000 * S := by
      have e : ((1000000 * S : Nat) : Int) = 1000000 * (S : Int) := by rw [Int.natCast_mul]; rfl
      omega
    have := evenK_mono S_pos h2
    rwa [evenK_exact S_pos] at this
  cases hn : ng x with
  | true =>
    have hx0 : X = 0 := by
      rcases Int.lt_or_eq_of_le h0 with h' | h'
      · rw [h.ng_of_pos h'] at hn; cases hn
      · exact h'.symm
    have hm0 : m = 0 := by
      rw [hx0] at hm
      rcases Nat.eq_zero_or_pos m with h' | h'
      · exact h'
      · have := Nat.mul_pos h' (Nat.two_pow_pos p); simp at hm; omega
    subst hm0
    have hz : ∀ T, evenK 0 T = 0 := fun T => by unfold evenK; simp
    rw [Nat.zero_shiftLeft, cut_evenK, hz]
    subst hx0
    refine ⟨_, rfl, ?_, hKb⟩
    have e : double.write (.number true 0 0) = wd true 0 := by decide
    rw [e, show evenK (0 : Int).natAbs S = 0 from hz S]
    exact ⟨wd_lt (by decide), fin_wd (by decide), by rw [sv_wd (by decide)]; simp [mg_zero]⟩
  | false =>
    obtain ⟨c, hc, hS⟩ := S_eq
    obtain ⟨d, hd⟩ : ∃ d, d = (-((p : Int) - 1074)).toNat := ⟨_, rfl⟩
    obtain ⟨u, hu⟩ : ∃ u, u = ((p : Int) - 1074).toNat := ⟨_, rfl⟩
    rw [← hd, ← hu, Nat.shiftLeft_eq, cut_evenK]
    have hud : u + c = p + d := by omega
    have hX : (m * 2 ^ u) * S = X.natAbs * 2 ^ d := by
      rw [hS, Nat.mul_assoc, ← Nat.pow_add, hud, Nat.pow_add, ← Nat.mul_assoc, hm]
    have hK : evenK (m * 2 ^ u) (2 ^ d) = evenK X.natAbs S := by
      rw [← evenK_scale (Q := m * 2 ^ u) S_pos, hX, Nat.mul_comm (2 ^ d) S, evenK_scale (Nat.two_pow_pos d)]
    rw [hK]
    refine ⟨_, rfl, ?_, hKb⟩
    generalize evenK X.natAbs S = K at *
    have h := fint_exact (n := (K : Int)) (by omega) (by omega)
    have e : Go.floatOfInt .f64 (K : Int) = double.write (.number false K 0) := by
      show double.write (.number (decide ((K : Int) < 0)) (K : Int).natAbs 0) = _
      rw [decide_eq_false (by omega), Int.natAbs_natCast]
    rwa [e] at h
end Dt
