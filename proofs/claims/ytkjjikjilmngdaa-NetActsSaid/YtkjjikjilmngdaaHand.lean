import Derived.Test.YtkjjikjilmngdaaFr
import Derived.Test.YtkjjikjilmngdaaSl
import Derived.Test.YtkjjikjilmngdaaRows
import Derived.WalkKit
import Derived.WalkLawsBesides
import Derived.WalkSpells
import Derived.Outline
import Derived.Lib.Hide
namespace Go.Proofs.Ytkjjikjilmngdaa.Hd
open Go.RowKit Dt
set_option linter.unusedVariables false

theorem ret_i {k : IntKind} {a b : Int} (h : a = b) : Ending.returned (.int k a) = .returned (.int k b) := by rw [h]
theorem ret_b {a b : Bool} (h : a = b) : Ending.returned (.bool a) = .returned (.bool b) := by rw [h]
theorem i64_lo {a : Int} (h : (Lit.int .i64 a).wf = true) : -9223372036854775808 ≤ a := by
  simp [Lit.wf, IntKind.min, IntKind.max, IntKind.signed, IntKind.bits] at h; omega
theorem i64_hi {a : Int} (h : (Lit.int .i64 a).wf = true) : a ≤ 9223372036854775807 := by
  simp [Lit.wf, IntKind.min, IntKind.max, IntKind.signed, IntKind.bits] at h; omega
theorem u64_lo {a : Int} (h : (Lit.int .u64 a).wf = true) : 0 ≤ a := by
  simp [Lit.wf, IntKind.min, IntKind.max, IntKind.signed, IntKind.bits] at h; omega
theorem u64_hi {a : Int} (h : (Lit.int .u64 a).wf = true) : a < 18446744073709551616 := by
  simp [Lit.wf, IntKind.min, IntKind.max, IntKind.signed, IntKind.bits] at h; omega
theorem u8_lo {a : Int} (h : (Lit.int .u8 a).wf = true) : 0 ≤ a := by
  simp [Lit.wf, IntKind.min, IntKind.max, IntKind.signed, IntKind.bits] at h; omega
theorem u8_hi {a : Int} (h : (Lit.int .u8 a).wf = true) : a < 256 := by
  simp [Lit.wf, IntKind.min, IntKind.max, IntKind.signed, IntKind.bits] at h; omega

theorem tmod_neg (a m : Int) : Int.tmod (-a) m = -Int.tmod a m := Int.neg_tmod a m
/-- Go's remainder, brought to 0 or more -/
theorem emod_of_tmod {n m : Int} (hm : 0 < m) : n % m = if n.tmod m < 0 then n.tmod m + m else n.tmod m := by
  have h1 := Int.emod_nonneg n (show m ≠ 0 by omega)
  have h2 := Int.emod_lt_of_pos n hm
  have e := Int.mul_tdiv_add_tmod n m
  have b1 : n.tmod m < m := Int.tmod_lt_of_pos n hm
  have b2 : -m < n.tmod m := by
    have := Int.tmod_lt_of_pos (-n) hm
    rw [Int.neg_tmod] at this; omega
  generalize n.tmod m = r at *
  generalize n.tdiv m = q at *
  split
  · rename_i hr
    have : n = (r + m) + m * (q - 1) := by rw [Int.mul_sub]; omega
    rw [this, Int.add_mul_emod_self_left]
    exact Int.emod_eq_of_lt (by omega) (by omega)
  · rename_i hr
    have : n = r + m * q := by omega
    rw [this, Int.add_mul_emod_self_left]
    exact Int.emod_eq_of_lt (by omega) (by omega)
theorem tmod_bd {n m : Int} (hm : 0 < m) : -m < n.tmod m ∧ n.tmod m < m := by
  have b1 : n.tmod m < m := Int.tmod_lt_of_pos n hm
  have := Int.tmod_lt_of_pos (-n) hm
  rw [Int.neg_tmod] at this
  exact ⟨by omega, b1⟩

theorem pick_any (n m : Int) (w : World) (h1 : 1 ≤ m) (h2 : m ≤ 4611686018427387904) :
    Calls Try.prog 12 #[.int .i64 n, .int .i64 m] w fun e w' => e = .returned (.int .i64 (n % m)) ∧ w = w' := by
  have hm : ¬ m = 0 := by omega
  have hm1 : ¬ m = -1 := by omega
  have e := emod_of_tmod (n := n) (m := m) (by omega)
  obtain ⟨b1, b2⟩ := tmod_bd (n := n) (m := m) (by omega)
  have HE := Lib.hid e; clear e
  by_cases h : n.tmod m < 0
  all_goals
    go_enter Try.func12, Try.ntmps12
    go_wp2
    go_ret
    refine ⟨ret_i ?_, rfl⟩
    rw [HE.out]
    split <;> omega
end Go.Proofs.Ytkjjikjilmngdaa.Hd
