/- Builtin min and max of finite doubles; doubles to integers. -/
import Derived.Test.YtkjjikjilmngdaaFpE
import Derived.Laws.FloatArith
import Derived.ProofKit
namespace Dt
open Ieee Go
set_option linter.unusedVariables false
set_option linter.unusedSimpArgs false

theorem minF {P : Go.Program} {x y : Nat} {X Y : Int} (hx : Fl x X) (hy : Fl y Y) (ts : Array TypeId) (t : TypeId) : ∃ r, Fl r (min X Y) ∧ ∀ w, (Builtin.min_ ts t #[.float .f64 x, .float .f64 y]).run P w = .ok (.float .f64 r) w := by
  have o1 : FloatKind.f64.format.order x y = some (compare X Y) := forder hx hy
  rcases Int.lt_trichotomy X Y with h | h | h
  · have e : compare X Y = .lt := Int.compare_eq_lt.2 h
    rw [e] at o1
    refine ⟨x, by rw [Int.min_eq_left (by omega)]; exact hx, fun w => ?_⟩
    simp [Builtin.min_, Builtin.min2, o1]
  · have e : compare X Y = .eq := Int.compare_eq_eq.2 h
    rw [e] at o1
    refine ⟨if (FloatKind.f64.decode x).neg then x else y, ?_, fun w => ?_⟩
    · subst h; rw [Int.min_self]; split
      · exact hx
      · exact hy
    · simp [Builtin.min_, Builtin.min2, o1]
  · have e : compare X Y = .gt := Int.compare_eq_gt.2 h
    rw [e] at o1
    refine ⟨y, by rw [Int.min_eq_right (by omega)]; exact hy, fun w => ?_⟩
    simp [Builtin.min_, Builtin.min2, o1]
theorem cutZ {neg : Bool} (n drop : Nat) : Toward.zero.cut neg n drop = n / 2 ^ drop := by
  unfold Toward.cut
  simp only [Bool.toNat_false, Nat.add_zero, Nat.shiftLeft_eq, Nat.one_mul]
  rcases Nat.le_total drop (n.log2 + 2) with h | h
  · rw [Nat.min_eq_left h]
  · rw [Nat.min_eq_right h]
    have h1 : n < 2 ^ (n.log2 + 2) := Nat.lt_of_lt_of_le Nat.lt_log2_self (Nat.pow_le_pow_right (by decide) (by omega))
    have h2 : n < 2 ^ drop := Nat.lt_of_lt_of_le h1 (Nat.pow_le_pow_right (by decide) h)
    rw [Nat.div_eq_of_lt h1, Nat.div_eq_of_lt h2]
theorem tointF {r : Nat} {K : Nat} (hr : Fl r ((K * S : Nat) : Int)) (h0 : 0 < K) (h1 : K ≤ 1000000) : floatToIntVal .f64 r .i64 = some (K : Int) := by
  obtain ⟨m, p, hrd, hm⟩ := read_fin hr.fin
  rw [hr.mg] at hm
  have hng : ng r = false := hr.ng_of_pos (by have := Nat.mul_pos h0 S_pos; omega)
  rw [hng] at hrd
  obtain ⟨c, hc, hS⟩ := S_eq
  have hmK : m * 2 ^ p = K * 2 ^ c := by rw [hm, Int.natAbs_natCast, hS]
  have hcut : (m <<< ((p : Int) - 1074).toNat) / 2 ^ (-((p : Int) - 1074)).toNat = K := by
    rw [Nat.shiftLeft_eq]
    rcases Nat.lt_or_ge p 1074 with hp | hp
    · have e1 : ((p : Int) - 1074).toNat = 0 := by omega
      have e2 : (-((p : Int) - 1074)).toNat = c - p := by omega
      rw [e1, e2, Nat.pow_zero, Nat.mul_one]
      have e3 : 2 ^ c = 2 ^ p * 2 ^ (c - p) := by rw [← Nat.pow_add]; congr 1; omega
      rw [e3, ← Nat.mul_assoc, Nat.mul_right_comm] at hmK
      have := Nat.eq_of_mul_eq_mul_right (Nat.two_pow_pos p) hmK
      rw [this]; exact Nat.mul_div_cancel _ (Nat.two_pow_pos _)
    · have e1 : ((p : Int) - 1074).toNat = p - c := by omega
      have e2 : (-((p : Int) - 1074)).toNat = 0 := by omega
      rw [e1, e2, Nat.pow_zero, Nat.div_one]
      have e3 : 2 ^ p = 2 ^ (p - c) * 2 ^ c := by rw [← Nat.pow_add]; congr 1; omega
      rw [e3, ← Nat.mul_assoc] at hmK
      exact Nat.eq_of_mul_eq_mul_right (Nat.two_pow_pos c) hmK
  have hd : (FloatKind.f64.decode r).toInt .zero = some (K : Int) := by
    show (double.read r).toInt .zero = _
    rw [hrd]
    unfold Datum.toInt Datum.integral
    dsimp only
    rw [cutZ, hcut]
    unfold signed
    simp
  unfold floatToIntVal
  rw [hd]
  have hmin : IntKind.i64.min ≤ (K : Int) ∧ (K : Int) ≤ IntKind.i64.max := by
    have a1 : IntKind.i64.min = -9223372036854775808 := by decide
    have a2 : IntKind.i64.max = 9223372036854775807 := by decide
    rw [a1, a2]; omega
  show (if IntKind.i64.min ≤ (K : Int) ∧ (K : Int) ≤ IntKind.i64.max then some (K : Int) else none) = _
  rw [if_pos hmin]
theorem maxF {P : Go.Program} {x y : Nat} {X Y : Int} (hx : Fl x X) (hy : Fl y Y) (ts : Array TypeId) (t : TypeId) : ∃ r, Fl r (max X Y) ∧ ∀ w, (Builtin.max_ ts t #[.float .f64 x, .float .f64 y]).run P w = .ok (.float .f64 r) w := by
  have o1 : FloatKind.f64.format.order x y = some (compare X Y) := forder hx hy
  rcases Int.lt_trichotomy X Y with h | h | h
  · have e : compare X Y = .lt := Int.compare_eq_lt.2 h
    rw [e] at o1
    refine ⟨y, by rw [Int.max_eq_right (by omega)]; exact hy, fun w => ?_⟩
    simp [Builtin.max_, Builtin.max2, o1]
  · have e : compare X Y = .eq := Int.compare_eq_eq.2 h
    rw [e] at o1
    refine ⟨if (FloatKind.f64.decode x).neg then y else x, ?_, fun w => ?_⟩
    · subst h; rw [Int.max_self]; split
      · exact hy
      · exact hx
    · simp [Builtin.max_, Builtin.max2, o1]
  · have e : compare X Y = .gt := Int.compare_eq_gt.2 h
    rw [e] at o1
    refine ⟨x, by rw [Int.max_eq_left (by omega)]; exact hx, fun w => ?_⟩
    simp [Builtin.max_, Builtin.max2, o1]
theorem tointZ {r : Nat} {K : Nat} (hr : Fl r ((K * S : Nat) : Int)) (h1 : K ≤ 1000000) : floatToIntVal .f64 r .i64 = some (K : Int) := by
  rcases Nat.eq_zero_or_pos K with h0 | h0
  · subst h0
    obtain ⟨m, p, hrd, hm⟩ := read_fin hr.fin
    have e := hr.mg
    simp at e
    rw [e] at hm
    have hm0 : m = 0 := by
      rcases Nat.eq_zero_or_pos m with h' | h'
      · exact h'
      · have := Nat.mul_pos h' (Nat.two_pow_pos p); omega
    subst hm0
    have hd : (FloatKind.f64.decode r).toInt .zero = some (0 : Int) := by
      show (double.read r).toInt .zero = _
      rw [hrd]
      unfold Datum.toInt Datum.integral
      dsimp only
      rw [cutZ, Nat.zero_shiftLeft, Nat.zero_div]
      unfold signed
      simp
    unfold floatToIntVal
    rw [hd]
    rfl
  · exact tointF hr h0 h1
end Dt
