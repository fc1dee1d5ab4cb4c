import Derived.Test.YtppobakdlpeicaaMtS
namespace Go.Proofs.Ytppobakdlpeicaa.Mt
open Go.RowKit Dt Go.Proofs.Ytppobakdlpeicaa.Hd Ieee
set_option linter.unusedVariables false
set_option linter.unusedSimpArgs false

def loS (k p lo : Nat) : Nat := if k = 0 ∨ p < lo then p else lo
def hiS (k p hi : Nat) : Nat := if k = 0 ∨ hi < p then p else hi
theorem stay_step {U t k p lo hi : Nat} {M J : Int} (hU : U = 2 ^ t) (ht : t = 1071) (hp : p < 8000) (hlh : lo ≤ hi) (hh : hi < 8000) (hz : k = 0 → J = 0)
    (m0 : (lo : Int) * U ≤ M) (m1 : M ≤ (hi : Int) * U) (j0 : 0 ≤ J) (j1 : J ≤ ((hi : Int) - lo) * U) :
    (loS k p lo ≤ p ∧ p ≤ hiS k p hi ∧ hiS k p hi < 8000) ∧ ((loS k p lo : Nat) : Int) * U ≤ nextM k ((p : Int) * U) M ∧ nextM k ((p : Int) * U) M ≤ ((hiS k p hi : Nat) : Int) * U ∧
      0 ≤ nextJ k ((p : Int) * U) M J ∧ nextJ k ((p : Int) * U) M J ≤ (((hiS k p hi : Nat) : Int) - (loS k p lo : Nat)) * U := by
  have hU0 : (0 : Int) ≤ U := by omega
  have b1 : loS k p lo ≤ p := by unfold loS; split <;> omega
  have b2 : p ≤ hiS k p hi := by unfold hiS; split <;> omega
  have b3 : hiS k p hi < 8000 := by unfold hiS; split <;> omega
  refine ⟨⟨b1, b2, b3⟩, ?_⟩
  by_cases h : k = 0
  · have c1 : loS k p lo = p := by unfold loS; rw [if_pos (.inl h)]
    have c2 : hiS k p hi = p := by unfold hiS; rw [if_pos (.inl h)]
    unfold nextM nextJ
    rw [if_pos h, if_pos h, c1, c2, hz h]
    exact ⟨by omega, by omega, by omega, by rw [Int.sub_self, Int.zero_mul]; omega⟩
  · have c1 : loS k p lo ≤ lo := by unfold loS; split <;> omega
    have c2 : hi ≤ hiS k p hi := by unfold hiS; split <;> omega
    generalize loS k p lo = l at *
    generalize hiS k p hi = g at *
    have e1 : (l : Int) * U ≤ (lo : Int) * U := Int.mul_le_mul_of_nonneg_right (by omega) hU0
    have e2 : (hi : Int) * U ≤ (g : Int) * U := Int.mul_le_mul_of_nonneg_right (by omega) hU0
    have e3 : (l : Int) * U ≤ (p : Int) * U := Int.mul_le_mul_of_nonneg_right (by omega) hU0
    have e4 : (p : Int) * U ≤ (g : Int) * U := Int.mul_le_mul_of_nonneg_right (by omega) hU0
    have e5 : ((hi : Int) - lo) * U ≤ ((g : Int) - l) * U := Int.mul_le_mul_of_nonneg_right (by omega) hU0
    have r1 : Rep ((l : Int) * U) := rep_U hU ht (by omega)
    have r2 : Rep ((g : Int) * U) := rep_U hU ht (by omega)
    have r3 : Rep (((g : Int) - l) * U) := by
      have := rep_U (m := g - l) hU ht (by omega)
      rwa [show (((g - l : Nat) : Nat) : Int) = (g : Int) - l by omega] at this
    have e6 : (g : Int) * U - (l : Int) * U = ((g : Int) - l) * U := (Int.sub_mul _ _ _).symm
    unfold nextM nextJ
    rw [if_neg h, if_neg h]
    have d := dM_bd (X := (p : Int) * U) (M := M) (lo := (l : Int) * U) (hi := (g : Int) * U) (by omega) (by omega) e3 e4 (by rw [e6]; exact r3)
    rw [e6] at d
    have m := stepM_bd (X := (p : Int) * U) (M := M) (lo := (l : Int) * U) (hi := (g : Int) * U) (by omega) (by omega) e3 e4 r1 r2
    have j := stepJ_bd (X := (p : Int) * U) (M := M) (J := J) (H := ((g : Int) - l) * U) (by omega) j0 (by omega) r3
    exact ⟨m.1, m.2, j.1, j.2⟩
end Go.Proofs.Ytppobakdlpeicaa.Mt
