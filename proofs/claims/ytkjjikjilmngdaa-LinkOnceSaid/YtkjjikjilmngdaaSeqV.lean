import Derived.Test.YtkjjikjilmngdaaRows
import Derived.WalkKit
import Derived.ProofKit
import Derived.WalkLawsBesides
import Derived.WalkSpells
import Derived.BigQuiet
import Derived.Deep.QuietTactic
import Derived.Deep.RegionHeld3
import Derived.Below
import Derived.Lib.Hide
namespace Go.Proofs.Ytkjjikjilmngdaa.Sq
open Go.RowKit
set_option linter.unusedVariables false

theorem ret_i {k : IntKind} {a b : Int} (h : a = b) : Ending.returned (.int k a) = .returned (.int k b) := by rw [h]
theorem ret_b {a b : Bool} (h : a = b) : Ending.returned (.bool a) = .returned (.bool b) := by rw [h]

theorem tm (a m : Int) : Int.tmod a m = if 0 ≤ a then a % m else -((-a) % m) := by
  split
  · rename_i h; exact Int.tmod_eq_emod_of_nonneg h
  · rename_i h
    have : a = -(-a) := by omega
    rw [this, Int.neg_tmod, Int.tmod_eq_emod_of_nonneg (by omega)]; simp

theorem norm_any (n : Int) (w : World) :
    Calls Try.prog 66 #[.int .i64 n] w fun e w' => e = .returned (.int .i64 (n % 65536)) ∧ w = w' := by
  have h3 : -65535 ≤ n.tmod 65536 := by rw [tm]; split <;> omega
  have h4 : n.tmod 65536 ≤ 65535 := by rw [tm]; split <;> omega
  go_enter Try.func66, Try.ntmps66
  go_wp2
  go_ret
  exact ⟨ret_i (by rw [tm]; split <;> omega), rfl⟩

theorem next_any (n : Int) (w : World) :
    Calls Try.prog 41 #[.int .i64 n] w fun e w' => e = .returned (.int .i64 ((n + 1) % 65536)) ∧ w = w' := by
  have b1 : 0 ≤ n % 65536 := by omega
  have b2 : n % 65536 < 65536 := by omega
  go_enter Try.func41, Try.ntmps41
  go_wp2_with (go_at_call 66; refine (norm_any _ _).mono ?_; rintro e w' ⟨rfl, rfl⟩)
  go_ret
  exact ⟨ret_i (by omega), rfl⟩

/-- how far ahead, the shorter way -/
def far (a b : Int) : Int := if (a - b) % 65536 ≥ 32768 then (a - b) % 65536 - 65536 else (a - b) % 65536
theorem far_lo (a b : Int) : -32768 ≤ far a b := by unfold far; split <;> omega
theorem far_hi (a b : Int) : far a b ≤ 32767 := by unfold far; split <;> omega

theorem ahead_any (a b : Int) (w : World) :
    Calls Try.prog 67 #[.int .i64 a, .int .i64 b] w fun e w' => e = .returned (.int .i64 (far a b)) ∧ w = w' := by
  have b1 : 0 ≤ a % 65536 := by omega
  have b2 : a % 65536 < 65536 := by omega
  have b3 : 0 ≤ b % 65536 := by omega
  have b4 : b % 65536 < 65536 := by omega
  by_cases h : (a % 65536 - b % 65536) % 65536 ≥ 32768
  all_goals
    have c1 : 0 ≤ (a % 65536 - b % 65536) % 65536 := by omega
    have c2 : (a % 65536 - b % 65536) % 65536 < 65536 := by omega
    go_enter Try.func67, Try.ntmps67
    go_wp2_with (go_at_call 66; refine (norm_any _ _).mono ?_; rintro e w' ⟨rfl, rfl⟩)
    go_ret
    exact ⟨ret_i (by unfold far; split <;> omega), rfl⟩

theorem rnorm_any (n : Int) (w : World) :
    Calls Try.prog 48 #[.int .i64 n] w fun e w' => e = .returned (.int .i64 (n % 65536)) ∧ w = w' := by
  have h3 : -65535 ≤ n.tmod 65536 := by rw [tm]; split <;> omega
  have h4 : n.tmod 65536 ≤ 65535 := by rw [tm]; split <;> omega
  by_cases h : n.tmod 65536 < 0
  all_goals
    go_enter Try.func48, Try.ntmps48
    go_wp2
    go_ret
    exact ⟨ret_i (by rw [tm] at *; split at h <;> simp_all <;> omega), rfl⟩

theorem rahead_any (a b : Int) (w : World) :
    Calls Try.prog 71 #[.int .i64 a, .int .i64 b] w fun e w' => e = .returned (.int .i64 (far a b)) ∧ w = w' := by
  have b1 : 0 ≤ a % 65536 := by omega
  have b2 : a % 65536 < 65536 := by omega
  have b3 : 0 ≤ b % 65536 := by omega
  have b4 : b % 65536 < 65536 := by omega
  by_cases h : (a % 65536 - b % 65536) % 65536 ≥ 32768
  all_goals
    have c1 : 0 ≤ (a % 65536 - b % 65536) % 65536 := by omega
    have c2 : (a % 65536 - b % 65536) % 65536 < 65536 := by omega
    go_enter Try.func71, Try.ntmps71
    go_wp2_with (go_at_call 48; refine (rnorm_any _ _).mono ?_; rintro e w' ⟨rfl, rfl⟩)
    go_ret
    exact ⟨ret_i (by unfold far; split <;> omega), rfl⟩

/-- one bit, that many behind -/
def bitv (k : Int) : Int := if 1 ≤ k ∧ k ≤ 64 then 2 ^ (k - 1).toNat else 0
theorem bit_any (k : Int) (w : World) (h1 : -40000 ≤ k) (h2 : k ≤ 40000) :
    Calls Try.prog 68 #[.int .i64 k] w fun e w' => e = .returned (.int .u64 (bitv k)) ∧ w = w' := by
  by_cases g1 : k < 1
  · go_enter Try.func68, Try.ntmps68
    go_wp2
    go_ret
    exact ⟨ret_i (by unfold bitv; rw [if_neg (by omega)]), rfl⟩
  by_cases g2 : k > 64
  · go_enter Try.func68, Try.ntmps68
    go_wp2
    go_ret
    exact ⟨ret_i (by unfold bitv; rw [if_neg (by omega)]), rfl⟩
  · have g3 : 0 ≤ k - 1 := by omega
    go_enter Try.func68, Try.ntmps68
    go_wp2
    have e : k.toNat - 1 < 64 := by omega
    have e1 : (2 : Int) ^ (k.toNat - 1) = ((2 ^ (k.toNat - 1) : Nat) : Int) := by simp
    have e3 : (2 : Nat) ^ 64 = 18446744073709551616 := by decide
    have e2 : 2 ^ (k.toNat - 1) < 18446744073709551616 := by rw [← e3]; exact Nat.pow_lt_pow_right (by decide) e
    go_ret
    refine ⟨ret_i ?_, rfl⟩
    unfold bitv
    rw [if_pos (by omega), IntKind.wrap_u64, show (k - 1).toNat = k.toNat - 1 by omega]
    rw [e1]
    generalize 2 ^ (k.toNat - 1) = x at *
    omega
theorem bit_q (k : Int) (w : World) (h1 : -40000 ≤ k) (h2 : k ≤ 40000) :
    Calls Try.prog 68 #[.int .i64 k] w fun e w' => e = .returned (.int .u64 (bitv k)) ∧ w' = w := (bit_any k w h1 h2).mono fun _ _ ⟨a, b⟩ => ⟨a, b.symm⟩
end Go.Proofs.Ytkjjikjilmngdaa.Sq
