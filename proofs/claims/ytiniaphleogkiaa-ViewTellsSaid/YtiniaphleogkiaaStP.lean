/- The stick, plainly: what is cleaned, what an axis is. -/
import Derived.Test.YtiniaphleogkiaaFpO
import Derived.Test.YtiniaphleogkiaaFpE
import Derived.Test.YtiniaphleogkiaaMtP
namespace Dt
open Ieee

theorem fl_one' : Fl 4607182418800017408 (S : Int) := by
  have h := fint_exact (n := 1) (by decide) (by decide)
  have e : Go.floatOfInt .f64 1 = 4607182418800017408 := by kernel_rfl
  rwa [e, Int.one_mul] at h
theorem fl_none' : Fl 13830554455654793216 (-(S : Int)) := by
  have h := fint_exact (n := -1) (by decide) (by decide)
  have e : Go.floatOfInt .f64 (-1) = 13830554455654793216 := by kernel_rfl
  rwa [e, Int.neg_mul, Int.one_mul] at h
theorem Fl.num {x : Nat} {X : Int} (h : Fl x X) : num x := Nat.le_of_lt h.fin
/-- cleaned: within -1 to 1; no NaN, no -0 -/
def clean (x : Nat) : Nat :=
  if (double.order x x != some .eq) || (double.order x 0 == some .eq) then 0
  else if double.order x 4607182418800017408 == some .gt then 4607182418800017408
  else if double.order x 13830554455654793216 == some .lt then 13830554455654793216 else x
/-- its value -/
def cleanV (x : Nat) : Int := if rg x ≤ infR then max (-(S : Int)) (min (S : Int) (sv x)) else 0
theorem clean_fl {x : Nat} (hx : x < 18446744073709551616) : Fl (clean x) (cleanV x) := by
  have f0 := fl_zero
  unfold clean cleanV
  have hSp : (0 : Int) < S := by have := S_pos; omega
  by_cases hn : num x
  · have o1 : double.order x x = some .eq := order_self.2 hn
    have e0 : sv 0 = 0 := f0.sv
    have e1 := fl_one'.sv
    have e2 := fl_none'.sv
    have h1 := order_num_eq hn f0.num
    have h2 := order_num_gt hn fl_one'.num
    have h3 := order_num_lt hn fl_none'.num
    rw [e0] at h1
    rw [e1] at h2
    rw [e2] at h3
    rw [if_pos (show rg x ≤ infR from hn), o1]
    by_cases c1 : sv x = 0
    · rw [if_pos (by rw [h1.2 c1]; rfl), c1]
      rw [Int.min_eq_right (by omega), Int.max_eq_right (by omega)]; exact f0
    · rw [if_neg (by simp; exact fun h => c1 (h1.1 h))]
      by_cases c2 : (S : Int) < sv x
      · rw [if_pos (by rw [h2.2 c2]; rfl), Int.min_eq_left (by omega), Int.max_eq_right (by omega)]; exact fl_one'
      · rw [if_neg (by simp; exact fun h => c2 (h2.1 h))]
        by_cases c3 : sv x < -(S : Int)
        · rw [if_pos (by rw [h3.2 c3]; rfl), Int.min_eq_right (by omega), Int.max_eq_left (by omega)]; exact fl_none'
        · rw [if_neg (by simp; exact fun h => c3 (h3.1 h)), Int.min_eq_right (by omega), Int.max_eq_right (by omega)]
          refine ⟨hx, ?_, rfl⟩
          unfold num at hn
          rcases Nat.lt_or_eq_of_le hn with h | h
          · exact h
          · exfalso
            have := sv_inf h
            have hm : (S : Int) < mg infR := by
              have : (S : Int).natAbs < mg infR := fl_one'.rep.lt
              omega
            rw [this] at c2 c3
            cases hg : ng x
            · rw [hg] at c2; simp at c2; omega
            · rw [hg] at c3; simp at c3; omega
  · have hn' : infR < rg x := by unfold num at hn; omega
    rw [if_neg (show ¬ rg x ≤ infR from hn), if_pos (by rw [order_nan_l hn']; rfl)]
    exact f0
theorem cleanV_bd (x : Nat) : -(S : Int) ≤ cleanV x ∧ cleanV x ≤ S := by
  have hSp : (0 : Int) < S := by have := S_pos; omega
  unfold cleanV; split <;> omega
theorem clean_num (x : Nat) (hx : x < 18446744073709551616) : num (clean x) := (clean_fl hx).num

/-- an amount, of a number A that is within 0 to 1, behind a zone D -/
noncomputable def share (A D : Int) : Int := rnd (rnd (A - D) 1 * S) (rnd (S - D) 1).natAbs
noncomputable def amt (A D : Int) : Nat := if A ≤ D then 0 else if A = S then 64 else evenK (rnd (share A D * 64) 1).natAbs S
theorem rep_one : Rep 1 := by
  have := rep_pow (m := 1) (k := 0) (by decide) (by decide)
  simpa using this
theorem rep_S' : Rep (S : Int) := fl_one'.rep
theorem rep_64 : Rep (64 * (S : Int)) := by
  have h := fint_exact (n := 64) (by decide) (by decide)
  exact h.rep
theorem amt_parts {A D : Int} (d0 : 0 ≤ D) (h : D < A) (a1 : A ≤ S) :
    (1 ≤ rnd (A - D) 1 ∧ rnd (A - D) 1 ≤ S) ∧ (1 ≤ rnd (S - D) 1 ∧ rnd (S - D) 1 ≤ S) ∧ (0 ≤ share A D ∧ share A D ≤ S) ∧ 0 ≤ rnd (share A D * 64) 1 ∧ rnd (share A D * 64) 1 ≤ 64 * S := by
  have hSp : (0 : Int) < S := by have := S_pos; omega
  have n1 : 1 ≤ rnd (A - D) 1 := rnd_ge (by decide) rep_one (by omega)
  have n2 : rnd (A - D) 1 ≤ S := rnd_le (by decide) rep_S' (by omega)
  have m1 : 1 ≤ rnd (S - D) 1 := rnd_ge (by decide) rep_one (by omega)
  have m2 : rnd (S - D) 1 ≤ S := rnd_le (by decide) rep_S' (by omega)
  have nm : rnd (A - D) 1 ≤ rnd (S - D) 1 := rnd_mono (by decide) (by decide) (by omega)
  have s0 : 0 ≤ share A D := rnd_nonneg (by omega) (Int.mul_nonneg (by omega) (by omega))
  have s1 : share A D ≤ S := by
    refine rnd_le (by omega) rep_S' ?_
    rw [show (((rnd (S - D) 1).natAbs : Nat) : Int) = rnd (S - D) 1 by omega, Int.mul_comm]
    exact Int.mul_le_mul_of_nonneg_left nm (by omega)
  exact ⟨⟨n1, n2⟩, ⟨m1, m2⟩, ⟨s0, s1⟩, rnd_nonneg (by decide) (by omega), rnd_le (by decide) rep_64 (by omega)⟩
theorem amt_le {A D : Int} (d0 : 0 ≤ D) (a1 : A ≤ S) : amt A D ≤ 64 := by
  unfold amt
  split
  · omega
  · split
    · omega
    · obtain ⟨-, -, -, h1, h2⟩ := amt_parts d0 (show D < A by omega) a1
      have h3 : (rnd (share A D * 64) 1).natAbs ≤ 64 * S := by omega
      have := evenK_mono S_pos h3
      rwa [evenK_exact S_pos] at this
theorem amt_mono {A A' D : Int} (d0 : 0 ≤ D) (h : A ≤ A') (a1 : A' ≤ S) : amt A D ≤ amt A' D := by
  by_cases h1 : A ≤ D
  · unfold amt; rw [if_pos h1]; omega
  · by_cases h2 : A' = S
    · have := amt_le (A := A) d0 (by omega)
      have e : amt A' D = 64 := by unfold amt; rw [if_neg (by omega), if_pos h2]
      omega
    · have hSp : (0 : Int) < S := by have := S_pos; omega
      obtain ⟨p1, p2, ⟨p3, p4⟩, p5, p6⟩ := amt_parts d0 (show D < A by omega) (by omega)
      obtain ⟨q1, q2, ⟨q3, q4⟩, q5, q6⟩ := amt_parts d0 (show D < A' by omega) (by omega)
      have nm : rnd (A - D) 1 ≤ rnd (A' - D) 1 := rnd_mono (by decide) (by decide) (by omega)
      have sm : share A D ≤ share A' D := by
        refine rnd_mono (by omega) (by omega) (Int.mul_le_mul_of_nonneg_right (Int.mul_le_mul_of_nonneg_right nm (by omega)) (by omega))
      have em : rnd (share A D * 64) 1 ≤ rnd (share A' D * 64) 1 := rnd_mono (by decide) (by decide) (by omega)
      unfold amt
      rw [if_neg h1, if_neg (by omega), if_neg (by omega), if_neg h2]
      exact evenK_mono S_pos (by omega)
noncomputable def axisV (X D : Int) : Int := if X < 0 then -(amt X.natAbs (max 0 D) : Int) else amt X.natAbs (max 0 D)
end Dt
