import Derived.Test.YtkjjikjilmngdaaSeqV
import Derived.Laws.BitsAllLaws
namespace Go.Proofs.Ytkjjikjilmngdaa.Wn
open Go.RowKit Go.Proofs.Ytkjjikjilmngdaa.Sq

/-- the bits of a word, as a set -/
def Bt (v : Int) (f : Nat → Bool) : Prop := ∃ m : Nat, v = m ∧ m < 18446744073709551616 ∧ ∀ k, k < 64 → m.testBit k = f k

theorem testBit_high {m k : Nat} (h : m < 18446744073709551616) (hk : 64 ≤ k) : m.testBit k = false :=
  Nat.testBit_lt_two_pow (Nat.lt_of_lt_of_le h (by
    have e : (18446744073709551616 : Nat) = 2 ^ 64 := by decide
    rw [e]; exact Nat.pow_le_pow_right (by decide) hk))

theorem Bt.unique {v v' : Int} {f f' : Nat → Bool} (h : Bt v f) (h' : Bt v' f') (e : ∀ k, k < 64 → f k = f' k) : v = v' := by
  obtain ⟨m, rfl, hm, hk⟩ := h
  obtain ⟨m', rfl, hm', hk'⟩ := h'
  congr 1
  apply Nat.eq_of_testBit_eq
  intro i
  rcases Nat.lt_or_ge i 64 with hi | hi
  · rw [hk i hi, hk' i hi, e i hi]
  · rw [testBit_high hm hi, testBit_high hm' hi]

theorem bitv_nat {k : Int} (h1 : 1 ≤ k) (h2 : k ≤ 64) : bitv k = ((2 ^ (k - 1).toNat : Nat) : Int) ∧ 2 ^ (k - 1).toNat < 18446744073709551616 := by
  refine ⟨by unfold bitv; rw [if_pos ⟨h1, h2⟩]; simp, ?_⟩
  have e3 : (2 : Nat) ^ 64 = 18446744073709551616 := by decide
  rw [← e3]; exact Nat.pow_lt_pow_right (by decide) (by omega)

theorem Bt.or_bit {v k : Int} {f : Nat → Bool} (h : Bt v f) (h1 : 1 ≤ k) (h2 : k ≤ 64) : Bt (bits .or .u64 v (bitv k)) (fun i => decide ((i : Int) + 1 = k) || f i) := by
  obtain ⟨m, rfl, hm, hk⟩ := h
  obtain ⟨e, hb⟩ := bitv_nat h1 h2
  rw [e, u64_or_nat m _ hm hb]
  refine ⟨_, rfl, ?_, fun i hi => ?_⟩
  · have e3 : (2 : Nat) ^ 64 = 18446744073709551616 := by decide
    rw [← e3] at *; exact Nat.or_lt_two_pow hm hb
  · rw [Nat.testBit_or, Nat.testBit_two_pow, hk i hi, Bool.or_comm]
    congr 1
    rw [Bool.eq_iff_iff]; simp; omega

theorem Bt.and_bit {v k : Int} {f : Nat → Bool} (h : Bt v f) (h1 : 1 ≤ k) (h2 : k ≤ 64) : decide (0 < bits .and .u64 v (bitv k)) = f (k - 1).toNat := by
  obtain ⟨m, rfl, hm, hk⟩ := h
  obtain ⟨e, hb⟩ := bitv_nat h1 h2
  rw [e, u64_and_nat m _ hm hb, ← hk _ (by omega), nat_bit, Nat.testBit_eq_decide_div_mod_eq]
  have hp : 0 < 2 ^ (k - 1).toNat := Nat.two_pow_pos _
  have hq : ∀ q : Nat, decide (0 < ((q * 2 ^ (k - 1).toNat : Nat) : Int)) = decide (0 < q) := by
    intro q
    rw [Bool.eq_iff_iff]; simp only [decide_eq_true_eq]
    constructor
    · intro h; rcases Nat.eq_zero_or_pos q with h0 | h0
      · subst h0; simp at h
      · exact h0
    · intro h; have := Nat.mul_pos h hp; omega
  rw [hq]
  rcases Nat.mod_two_eq_zero_or_one (m / 2 ^ (k - 1).toNat) with h0 | h0 <;> rw [h0] <;> rfl

theorem Bt.shl {v a : Int} {f : Nat → Bool} (h : Bt v f) (h1 : 0 < a) : Bt (bits .or .u64 (IntKind.u64.wrap (v * 2 ^ min a.toNat 64)) (bitv a)) (fun i => decide ((i : Int) + 1 = a) || (decide (a ≤ i) && f (i - a.toNat))) := by
  have hs : Bt (IntKind.u64.wrap (v * 2 ^ min a.toNat 64)) (fun i => decide (a ≤ i) && f (i - a.toNat)) := by
    obtain ⟨m, rfl, hm, hk⟩ := h
    refine ⟨(m * 2 ^ min a.toNat 64) % 18446744073709551616, ?_, Nat.mod_lt _ (by decide), fun i hi => ?_⟩
    · rw [IntKind.wrap_u64]; simp
    · have e3 : (18446744073709551616 : Nat) = 2 ^ 64 := by decide
      rw [e3, Nat.testBit_mod_two_pow, Nat.testBit_mul_two_pow]
      by_cases c : a ≤ i
      · have e : min a.toNat 64 = a.toNat := by omega
        rw [e, hk _ (by omega)]
        simp [hi, c]
      · simp [hi, c]; intro h; omega
  by_cases c : a ≤ 64
  · exact hs.or_bit (by omega) c
  · have e : bitv a = 0 := by unfold bitv; rw [if_neg (by omega)]
    rw [e]
    obtain ⟨m, hv, hm, hk⟩ := hs
    rw [hv]
    have := u64_or_nat m 0 hm (by decide)
    refine ⟨m, by simpa using this, hm, fun i hi => ?_⟩
    rw [hk i hi]
    have : decide ((i : Int) + 1 = a) = false := by simp; omega
    simp [this]
end Go.Proofs.Ytkjjikjilmngdaa.Wn
