/- The stick's plain laws. -/
import Derived.Test.YtiniaphleogkiaaStP
import Derived.Test.YtiniaphleogkiaaFpI
namespace Dt
open Ieee
set_option linter.unusedVariables false
set_option linter.unusedSimpArgs false

theorem negf (x : Nat) (hx : x < 18446744073709551616) : rg (Go.Op.negFloat .f64 x) = rg x ∧ ng (Go.Op.negFloat .f64 x) = !ng x ∧ Go.Op.negFloat .f64 x < 18446744073709551616 := by
  have e : Go.Op.negFloat .f64 x = x ^^^ 2 ^ 63 := rfl
  have h1 : rg (x ^^^ 2 ^ 63) = rg x := by
    unfold rg
    have : (9223372036854775808 : Nat) = 2 ^ 63 := by decide
    rw [this, Nat.xor_mod_two_pow, Nat.mod_self, Nat.xor_zero]
  have hd : (x ^^^ 2 ^ 63) / 9223372036854775808 = (x / 9223372036854775808) ^^^ 1 := by
    have : (9223372036854775808 : Nat) = 2 ^ 63 := by decide
    rw [this, Nat.xor_div_two_pow, Nat.div_self (by decide)]
  have hc : x / 9223372036854775808 = 0 ∨ x / 9223372036854775808 = 1 := by omega
  rw [e]
  refine ⟨h1, ?_, ?_⟩
  · unfold ng
    rw [hd]
    rcases hc with h | h <;> rw [h] <;> rfl
  · have h2 : (x ^^^ 2 ^ 63) / 9223372036854775808 < 2 := by
      rw [hd]
      rcases hc with h | h <;> rw [h] <;> decide
    omega
theorem sv_neg {x : Nat} (hx : x < 18446744073709551616) : sv (Go.Op.negFloat .f64 x) = -sv x := by
  obtain ⟨h1, h2, -⟩ := negf x hx
  unfold sv
  rw [h1, h2]
  cases ng x <;> simp
theorem Fl.neg {x : Nat} {X : Int} (h : Fl x X) : Fl (Go.Op.negFloat .f64 x) (-X) := by
  obtain ⟨h1, h2, h3⟩ := negf x h.lt
  exact ⟨h3, by show rg _ < infR; rw [h1]; exact h.fin, by rw [sv_neg h.lt, h.sv]⟩
theorem cleanV_neg {x : Nat} (hx : x < 18446744073709551616) : cleanV (Go.Op.negFloat .f64 x) = -cleanV x := by
  obtain ⟨h1, -, -⟩ := negf x hx
  have hSp : (0 : Int) < S := by have := S_pos; omega
  unfold cleanV
  rw [h1, sv_neg hx]
  split <;> omega
theorem cleanV_fl {z : Nat} {X : Int} (h : Fl z X) : cleanV z = max (-(S : Int)) (min (S : Int) X) := by
  unfold cleanV
  rw [if_pos (show rg z ≤ infR from Nat.le_of_lt h.fin), h.sv]
theorem cleanV_clean {x : Nat} (hx : x < 18446744073709551616) : cleanV (clean x) = cleanV x := by
  have := cleanV_bd x
  rw [cleanV_fl (clean_fl hx)]; omega
theorem axisV_neg (X D : Int) : axisV (-X) D = -axisV X D := by
  have e : (-X).natAbs = X.natAbs := by omega
  unfold axisV
  rw [e]
  rcases Int.lt_trichotomy X 0 with h | h | h
  · rw [if_neg (by omega), if_pos h]; omega
  · subst h
    have : amt (((0 : Int).natAbs : Nat) : Int) (max 0 D) = 0 := by unfold amt; rw [if_pos (by simp; omega)]
    simp at this ⊢
    omega
  · rw [if_pos (by omega), if_neg (by omega)]
theorem axisV_mono {X Y D : Int} (h : X ≤ Y) (h1 : -(S : Int) ≤ X) (h2 : Y ≤ S) : axisV X D ≤ axisV Y D := by
  unfold axisV
  by_cases hx : X < 0
  · rw [if_pos hx]
    by_cases hy : Y < 0
    · rw [if_pos hy]
      have := amt_mono (A := Y.natAbs) (A' := X.natAbs) (D := max 0 D) (by omega) (by omega) (by omega)
      omega
    · rw [if_neg hy]; omega
  · rw [if_neg hx, if_neg (by omega)]
    have := amt_mono (A := X.natAbs) (A' := Y.natAbs) (D := max 0 D) (by omega) (by omega) (by omega)
    omega
theorem cleanV_mono {x y : Nat} (hx : num x) (hy : num y) (h : sv x ≤ sv y) : cleanV x ≤ cleanV y := by
  have hSp : (0 : Int) < S := by have := S_pos; omega
  unfold cleanV
  rw [if_pos (show rg x ≤ infR from hx), if_pos (show rg y ≤ infR from hy)]
  omega
/-- 'x <= y' holds of them: the cleaned ones stand so -/
theorem cleanV_leq {x y : Nat} (h : (double.order x y == some .lt || double.order x y == some .eq) = true) : cleanV x ≤ cleanV y := by
  by_cases hx : num x
  · by_cases hy : num y
    · have o := order_num hx hy
      refine cleanV_mono hx hy ?_
      rw [o] at h
      rcases Int.lt_trichotomy (sv x) (sv y) with h1 | h1 | h1
      · omega
      · omega
      · rw [Int.compare_eq_gt.2 h1] at h
        exact absurd h (by decide)
    · unfold num at hy
      rw [order_nan_r (by omega)] at h
      exact absurd h (by decide)
  · unfold num at hx
    rw [order_nan_l (by omega)] at h
    exact absurd h (by decide)
theorem rep64 {A : Int} (h : Rep A) (h0 : 0 ≤ A) (h1 : A ≤ S) : Rep (A * 64) := by
  obtain ⟨r, hr, hm⟩ := h
  obtain ⟨c, hc, hS⟩ := S_eq
  have e : A * 64 = ((mg r * 2 ^ 6 : Nat) : Int) := by rw [hm]; omega
  rw [e]
  rcases rung_cases r with h | ⟨k, j, hj, rfl⟩
  · rw [mg_small h]
    exact rep_pow (m := r) (k := 6) (by unfold B at *; omega) (by decide)
  · have hmg := mg_big (k := k) hj
    rw [hmg, Nat.mul_assoc, ← Nat.pow_add]
    refine rep_pow (m := B + j) (k := k + 6) (by omega) ?_
    have h2 : 2 ^ (52 + k) ≤ 2 ^ c := by
      have h3 : B * 2 ^ k ≤ (B + j) * 2 ^ k := Nat.mul_le_mul_right _ (by omega)
      rw [eq_B, ← Nat.pow_add, ← eq_B] at h3
      rw [hmg] at hm
      rw [← hS]; omega
    have := (Nat.pow_le_pow_iff_right (by decide : 1 < 2)).1 h2
    omega
/-- without a zone -/
theorem amt_plain {A : Int} (h : Rep A) (h0 : 0 ≤ A) (h1 : A ≤ S) : amt A 0 = evenK (A * 64).natAbs S := by
  have hSp : (0 : Int) < S := by have := S_pos; omega
  unfold amt
  by_cases c1 : A ≤ 0
  · have : A = 0 := by omega
    subst this
    rw [if_pos c1]; unfold evenK; simp
  · rw [if_neg c1]
    by_cases c2 : A = S
    · rw [if_pos c2, c2]
      have e : ((S : Int) * 64).natAbs = 64 * S := by omega
      rw [e, evenK_exact S_pos]
    · rw [if_neg c2]
      have e1 : share A 0 = A := by
        unfold share
        rw [Int.sub_zero, Int.sub_zero, rnd1_exact h, rnd1_exact rep_S', Int.natAbs_natCast]
        exact rnd_exact S_pos h
      rw [e1, rnd1_exact (rep64 h h0 h1)]
/-- what was told as a float is told back -/
theorem amt_step {V m : Nat} (hV : S = 64 * V) (hr : Rep ((m : Int) * V)) (hm : m ≤ 64) : amt ((m : Int) * V) 0 = m := by
  have h1 : (m : Int) * V ≤ S := by
    have : (m : Int) * V ≤ 64 * V := Int.mul_le_mul_of_nonneg_right (by omega) (by omega)
    omega
  rw [amt_plain hr (Int.mul_nonneg (by omega) (by omega)) h1]
  have e : ((m : Int) * V * 64).natAbs = m * S := by
    rw [hV]
    have : (m : Int) * V * 64 = ((m * (64 * V) : Nat) : Int) := by rw [Int.natCast_mul, Int.natCast_mul, Int.mul_assoc, Int.mul_comm (V : Int)]; rfl
    rw [this, Int.natAbs_natCast]
  rw [e, evenK_exact S_pos]
theorem axisV_step {V : Nat} {n : Int} (hV : S = 64 * V) (hr : ∀ m : Nat, m ≤ 1000000 → Rep ((m : Int) * V)) (h1 : -64 ≤ n) (h2 : n ≤ 64) : axisV (n * V) 0 = n := by
  have hSp := S_pos
  have hV0 : 0 < V := by omega
  obtain ⟨m, hm⟩ : ∃ m, m = n.natAbs := ⟨_, rfl⟩
  have e : (n * (V : Int)).natAbs = m * V := by rw [Int.natAbs_mul, ← hm]; rfl
  have ha := amt_step hV (hr m (by omega)) (by omega)
  unfold axisV
  rw [e, Int.natCast_mul, show max (0 : Int) 0 = 0 from rfl, ha]
  by_cases h : n < 0
  · rw [if_pos (Int.mul_neg_of_neg_of_pos h (by omega))]; omega
  · rw [if_neg (Int.not_lt.2 (Int.mul_nonneg (by omega) (by omega)))]; omega
/-- the nearest step -/
theorem axis_near {V : Nat} {X : Int} (hV : S = 64 * V) (h : Rep X) (h1 : -(S : Int) ≤ X) (h2 : X ≤ S) : 2 * (axisV X 0 * V) ≤ 2 * X + V ∧ 2 * X ≤ 2 * (axisV X 0 * V) + V := by
  have hSp := S_pos
  have hra : Rep ((X.natAbs : Nat) : Int) := by
    rcases Int.le_total 0 X with h' | h'
    · rwa [show ((X.natAbs : Nat) : Int) = X by omega]
    · rw [show ((X.natAbs : Nat) : Int) = -X by omega]; exact h.neg
  have hp := amt_plain hra (by omega) (by omega)
  obtain ⟨n1, n2⟩ := evenK_near (Q := (((X.natAbs : Nat) : Int) * 64).natAbs) (T := S) S_pos
  rw [← hp] at n1 n2
  have e : (((X.natAbs : Nat) : Int) * 64).natAbs = X.natAbs * 64 := by omega
  rw [e] at n1 n2
  generalize hk : amt ((X.natAbs : Nat) : Int) 0 = k at *
  have e1 : (2 * k + 1) * S = 64 * (2 * (k * V) + V) := by rw [hV, Nat.add_mul, Nat.mul_assoc 2 k, Nat.mul_left_comm k 64 V]; omega
  have e2 : 2 * k * S = 64 * (2 * (k * V)) := by rw [hV, Nat.mul_assoc 2 k, Nat.mul_left_comm k 64 V]; omega
  rw [e1] at n1
  rw [e2] at n2
  have f1 : 2 * X.natAbs ≤ 2 * (k * V) + V := by omega
  have f2 : 2 * (k * V) ≤ 2 * X.natAbs + V := by omega
  have g1 : ((k * V : Nat) : Int) = (k : Int) * V := Int.natCast_mul _ _
  unfold axisV
  rw [show max (0 : Int) 0 = 0 from rfl, hk]
  split
  · rw [Int.neg_mul]; omega
  · omega
end Dt
