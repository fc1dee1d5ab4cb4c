/- floats in walks: what serves every seat that has math.Abs, IsNaN, IsInf. -/
import Derived.Test.YtckodnogjedmnaaHand
import Derived.Test.YtckodnogjedmnaaFp4
import Derived.Laws.BitsAllLaws
import Derived.Laws.FloatArith
import Derived.Deep.QuietTactic
import Derived.BigQuiet
namespace Go.Proofs.Ytckodnogjedmnaa.FlW
open Go.RowKit Dt Go.Proofs.Ytckodnogjedmnaa.Hd Ieee
set_option linter.unusedVariables false
set_option linter.unusedSimpArgs false

theorem run_store_float (P : Program) (w : World) (a : Addr) (m : Mode) (k : FloatKind) (b : Nat) : (store a (.float k b) m).run P w = stored P w a (.float k b) m := run_store P w a _ m rfl
attribute [local go_sem] run_store_float
theorem run_fl (op : BinOp) (t : TypeId) {x y r : Nat} (h : floatBits op .f64 x y = some r) (w : World) : (binOp op t (.float .f64 x) (.float .f64 y)).run Try.prog w = .ok (.float .f64 r) w := run_float_arith (P := Try.prog) w op t .f64 x y r h
theorem run_bits (x : Nat) (w : World) : (callFunc 60 #[.float .f64 x]).run Try.prog w = .ok (.value (.int .u64 x)) w :=
  run_callFunc_extern (e := Extern.MathFloatBits.float64bits) Try.func60 (by kernel_rfl) (by kernel_rfl) (by kernel_rfl) (by kernel_rfl) _ _
theorem run_frombits (x : Nat) (w : World) : (callFunc 59 #[.int .u64 (x : Int)]).run Try.prog w = .ok (.value (.float .f64 x)) w :=
  run_callFunc_extern (e := Extern.MathFloatBits.float64frombits) Try.func59 (by kernel_rfl) (by kernel_rfl) (by kernel_rfl) (by kernel_rfl) _ _
theorem nan_any (x : Nat) (w : World) : Calls Try.prog 55 #[.float .f64 x] w fun e w' => e = .returned (.bool (FloatKind.f64.format.order x x != some .eq)) ∧ w = w' := by
  go_enter Try.func55, Try.ntmps55
  go_wp2_with fail
  go_ret
  exact ⟨rfl, rfl⟩
theorem and_rg (x : Nat) : x &&& (18446744073709551615 - 9223372036854775808) = rg x := by
  have : 18446744073709551615 - 9223372036854775808 = 2 ^ 63 - 1 := by decide
  rw [this, Nat.and_two_pow_sub_one_eq_mod]; rfl
theorem abs_any (x : Nat) (hx : x < 18446744073709551616) (w : World) : Calls Try.prog 58 #[.float .f64 x] w fun e w' => e = .returned (.float .f64 (rg x)) ∧ w = w' := by
  have hb := run_bits x
  have hf := run_frombits (rg x)
  have ha : bits .andNot .u64 (x : Int) 9223372036854775808 = ((rg x : Nat) : Int) := by
    have h := u64_andNot_nat x 9223372036854775808 hx (by decide)
    rw [and_rg] at h
    exact h
  go_enter Try.func58, Try.ntmps58
  go_wp2_with fail
  go_ret
  exact ⟨rfl, rfl⟩
def infB (x : Nat) : Bool := FloatKind.f64.format.order (rg x) 9218868437227405311 == some .gt
theorem inf_any (x : Nat) (hx : x < 18446744073709551616) (w : World) : Calls Try.prog 56 #[.float .f64 x, .int .i64 0] w fun e w' => e = .returned (.bool (infB x)) ∧ w = w' := by
  go_enter Try.func56, Try.ntmps56
  go_wp2_with fail
  refine (abs_any _ hx _).mono ?_; rintro e w' ⟨rfl, rfl⟩
  go_wp2_with fail
  go_ret
  exact ⟨rfl, rfl⟩
end Go.Proofs.Ytckodnogjedmnaa.FlW
