/- Numbers made whole: up. -/
import Derived.Test.YtkjjikjilmngdaaFp5
namespace Dt
open Ieee

theorem cut_up_spec (n drop : Nat) : n ≤ Toward.up.cut false n drop * 2 ^ drop ∧ (0 < Toward.up.cut false n drop → (Toward.up.cut false n drop - 1) * 2 ^ drop < n) := by
  have key : ∀ g : Nat, 0 < g → ∀ K : Nat, K = n / g + (n % g != 0).toNat → n ≤ K * g ∧ (0 < K → (K - 1) * g < n) := by
    intro g hg K hK
    have h1 := Nat.div_add_mod n g
    have h2 := Nat.mod_lt n hg
    have h3 : g * (n / g) = n / g * g := Nat.mul_comm _ _
    generalize n / g = q at *
    generalize n % g = t at *
    by_cases h : t = 0
    · have : K = q := by rw [hK, h]; rfl
      subst this
      refine ⟨by omega, fun h0 => ?_⟩
      have : (K - 1) * g < K * g := (Nat.mul_lt_mul_right hg).2 (by omega)
      omega
    · have : K = q + 1 := by rw [hK]; simp [h]
      subst this
      rw [Nat.add_sub_cancel, Nat.add_mul]
      exact ⟨by omega, fun _ => by omega⟩
  unfold Toward.cut
  simp only [Bool.not_false, Bool.true_and, Nat.one_shiftLeft]
  by_cases hd : drop ≤ n.log2 + 2
  · rw [Nat.min_eq_left hd]
    exact key _ (Nat.two_pow_pos _) _ rfl
  · rw [Nat.min_eq_right (by omega)]
    have hlt : n < 2 ^ (n.log2 + 2) := by
      have h1 : n < 2 ^ (n.log2 + 1) := Nat.lt_log2_self
      have h2 : 2 ^ (n.log2 + 1) ≤ 2 ^ (n.log2 + 2) := Nat.pow_le_pow_right (by decide) (by omega)
      omega
    have hlt2 : n < 2 ^ drop := Nat.lt_of_lt_of_le hlt (Nat.pow_le_pow_right (by decide) (by omega))
    have e1 : n / 2 ^ (n.log2 + 2) = 0 := Nat.div_eq_of_lt hlt
    have e2 : n % 2 ^ (n.log2 + 2) = n := Nat.mod_eq_of_lt hlt
    rw [e1, e2]
    by_cases h : n = 0
    · subst h; simp
    · have : (0 + (n != 0).toNat) = 1 := by simp [h]
      rw [this]
      exact ⟨by omega, fun _ => by omega⟩
theorem cut_up_neg (drop : Nat) : Toward.up.cut true 0 drop = 0 := by
  unfold Toward.cut; simp

/-- up to a whole number -/
theorem ceil_fl {x : Nat} {X : Int} (h : Fl x X) (h0 : 0 ≤ X) (h1 : X ≤ 9007199254740992 * S) : ∃ (z : Nat) (K : Int), double.write ((double.read x).integral .up) = z ∧ Fl z (K * S) ∧ 0 ≤ K ∧ K ≤ 9007199254740992 ∧ X ≤ K * S ∧ (0 < K → (K - 1) * S < X) := by
  obtain ⟨m, p, hr, hm⟩ := read_fin h.fin
  rw [h.mg] at hm
  rw [hr]
  simp only [Datum.integral]
  have hSp : (0 : Int) < S := by have := S_pos; omega
  cases hn : ng x with
  | true =>
    have hx0 : X = 0 := by
      rcases Int.lt_or_eq_of_le h0 with h' | h'
      · rw [h.ng_of_pos h'] at hn; cases hn
      · exact h'.symm
    have hm0 : m = 0 := by
      rw [hx0] at hm
      rcases Nat.eq_zero_or_pos m with h' | h'
      · exact h'
      · have := Nat.mul_pos h' (Nat.two_pow_pos p); simp at hm; omega
    subst hm0
    rw [Nat.zero_shiftLeft, cut_up_neg]
    refine ⟨_, 0, rfl, ?_, by omega, by omega, by omega, by omega⟩
    have e : double.write (.number true 0 0) = wd true 0 := by decide
    rw [e, Int.zero_mul]
    exact ⟨wd_lt (by decide), fin_wd (by decide), by rw [sv_wd (by decide)]; simp [mg_zero]⟩
  | false =>
    obtain ⟨c, hc, hS⟩ := S_eq
    obtain ⟨K, hK⟩ : ∃ K, K = Toward.up.cut false (m <<< ((p : Int) - 1074).toNat) (-((p : Int) - 1074)).toNat := ⟨_, rfl⟩
    have hsp := cut_up_spec (m <<< ((p : Int) - 1074).toNat) (-((p : Int) - 1074)).toNat
    rw [← hK] at hsp ⊢
    obtain ⟨d, hd⟩ : ∃ d, d = (-((p : Int) - 1074)).toNat := ⟨_, rfl⟩
    obtain ⟨u, hu⟩ : ∃ u, u = ((p : Int) - 1074).toNat := ⟨_, rfl⟩
    rw [← hd, ← hu, Nat.shiftLeft_eq] at hsp
    have hud : u + c = p + d := by omega
    have hX : (m * 2 ^ u) * S = X.natAbs * 2 ^ d := by
      rw [hS, Nat.mul_assoc, ← Nat.pow_add, hud, Nat.pow_add, ← Nat.mul_assoc, hm]
    have hdp := Nat.two_pow_pos d
    have q1 : X.natAbs ≤ K * S := by
      have := Nat.mul_le_mul_right S hsp.1
      rw [hX, Nat.mul_right_comm] at this
      exact Nat.le_of_mul_le_mul_right this hdp
    have q2 : 0 < K → (K - 1) * S < X.natAbs := fun hk => by
      have := (Nat.mul_lt_mul_right S_pos).2 (hsp.2 hk)
      rw [hX, Nat.mul_right_comm] at this
      exact Nat.lt_of_mul_lt_mul_right this
    have hKb : K ≤ 9007199254740992 := by
      rcases Nat.lt_or_ge 9007199254740992 K with hk | hk
      · exfalso
        have h3 := q2 (by omega)
        have h4 : 9007199254740992 * S ≤ (K - 1) * S := Nat.mul_le_mul_right _ (by omega)
        have h5 : X.natAbs ≤ 9007199254740992 * S := by
          have e : ((9007199254740992 * S : Nat) : Int) = 9007199254740992 * (S : Int) := by rw [Int.natCast_mul]; rfl
          omega
        omega
      · exact hk
    refine ⟨_, (K : Int), rfl, ?_, by omega, by omega, ?_, ?_⟩
    · have h := fint_exact (n := (K : Int)) (by omega) (by omega)
      have e : Go.floatOfInt .f64 (K : Int) = double.write (.number false K 0) := by
        show double.write (.number (decide ((K : Int) < 0)) (K : Int).natAbs 0) = _
        rw [decide_eq_false (by omega), Int.natAbs_natCast]
      rwa [e] at h
    · have : ((X.natAbs : Nat) : Int) ≤ ((K * S : Nat) : Int) := by exact_mod_cast q1
      rw [Int.natCast_mul] at this
      omega
    · intro hk
      have h2 := q2 (by omega)
      have : (((K - 1) * S : Nat) : Int) < ((X.natAbs : Nat) : Int) := by exact_mod_cast h2
      rw [Int.natCast_mul, Int.natCast_sub (by omega), Int.natCast_one] at this
      omega
end Dt
