/- The bucket, plainly: levels, what is given. -/
import Derived.Test.YtppobakdlpeicaaMtS2
namespace Dt
open Ieee
set_option linter.unusedVariables false
set_option linter.unusedSimpArgs false

/-- how near a rounded number is -/
theorem grid : ∃ G : Nat, 0 < G ∧ S = G * 1099511627776 ∧ ∀ E : Int, 0 ≤ E → E ≤ 4096 * S → E - G ≤ rnd E 1 ∧ rnd E 1 ≤ E + G := by
  obtain ⟨c, hc, hS⟩ := S_eq
  obtain ⟨G, hG⟩ : ∃ G, G = 2 ^ (c - 40) := ⟨_, rfl⟩
  have hSG : S = G * 1099511627776 := by
    have : (1099511627776 : Nat) = 2 ^ 40 := rfl
    rw [hS, hG, this, ← Nat.pow_add]; congr 1; omega
  have hGp : 0 < G := by rw [hG]; exact Nat.two_pow_pos _
  refine ⟨G, hGp, hSG, fun E h0 h1 => ?_⟩
  have hr : ∀ m : Nat, m ≤ 9007199254740992 → Rep ((m : Int) * G) := fun m hm => by
    have := rep_pow (m := m) (k := c - 40) (by unfold B; omega) (by omega)
    rw [← hG, Int.natCast_mul] at this
    exact this
  have hG0 : (0 : Int) < G := by omega
  have d := Int.mul_ediv_add_emod E G
  have b1 := Int.emod_nonneg E (show (G : Int) ≠ 0 by omega)
  have b2 := Int.emod_lt_of_pos E hG0
  have hq0 : 0 ≤ E / (G : Int) := Int.ediv_nonneg h0 (by omega)
  have hq1 : E / (G : Int) ≤ 4503599627370496 := by
    refine Int.ediv_le_of_le_mul hG0 ?_
    have e : (S : Int) = G * 1099511627776 := by rw [hSG, Int.natCast_mul]; rfl
    rw [e] at h1
    omega
  obtain ⟨m, hm⟩ : ∃ m : Nat, E / (G : Int) = m := ⟨(E / (G : Int)).toNat, by omega⟩
  rw [hm] at d hq1
  have r1 := hr m (by omega)
  have r2 := hr (m + 1) (by omega)
  have e1 : ((m + 1 : Nat) : Int) * G = m * G + G := by rw [Int.natCast_add, Int.add_mul]; omega
  have e2 : (G : Int) * m = m * G := Int.mul_comm _ _
  rw [e1] at r2
  rw [e2] at d
  have g1 := rnd_ge (D := 1) (E := E) (by decide) r1 (by omega)
  have g2 := rnd_le (D := 1) (E := E) (by decide) r2 (by omega)
  omega

/-- a level at its tick, ahead of what is taken -/
noncomputable def lvl (R D L k : Int) : Int := if 0 < k then min D (rnd (L + rnd (R * k) 1) 1) else L
noncomputable def lvl' (R D L k : Int) : Int := if S ≤ lvl R D L k then rnd (lvl R D L k - S) 1 else lvl R D L k
theorem lvl_bd {R D L k : Int} (r0 : 0 ≤ R) (d0 : 0 ≤ D) (l0 : 0 ≤ L) (l1 : L ≤ D) (hD : Rep D) (hS : Rep S) (k0 : 0 ≤ k) : (0 ≤ lvl R D L k ∧ lvl R D L k ≤ D) ∧ 0 ≤ lvl' R D L k ∧ lvl' R D L k ≤ D := by
  have a1 : 0 ≤ rnd (R * k) 1 := rnd_nonneg (by decide) (Int.mul_nonneg r0 k0)
  have a2 : 0 ≤ rnd (L + rnd (R * k) 1) 1 := rnd_nonneg (by decide) (by omega)
  have b : 0 ≤ lvl R D L k ∧ lvl R D L k ≤ D := by unfold lvl; split <;> omega
  refine ⟨b, ?_⟩
  unfold lvl'
  split
  · exact ⟨rnd_nonneg (by decide) (by omega), rnd_le (by decide) hD (by omega)⟩
  · exact b
end Dt
