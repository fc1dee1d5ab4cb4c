/- math's small functions; a raw number as a float. -/
import Derived.Test.YtiniaphleogkiaaHand
import Derived.Test.YtiniaphleogkiaaFp4
import Derived.Laws.BitsAllLaws
import Derived.Laws.FloatArith
import Derived.Deep.RegionWith
import Derived.Deep.QuietTactic
import Derived.BigQuiet
import Derived.StillTailTactics
import Derived.IntWalk
namespace Go.Proofs.Ytiniaphleogkiaa.Ma
open Go.RowKit Dt Go.Proofs.Ytiniaphleogkiaa.Hd Ieee
set_option linter.unusedVariables false
set_option linter.unusedSimpArgs false

theorem run_fl (op : BinOp) (t : TypeId) {x y r : Nat} (h : floatBits op .f64 x y = some r) (w : World) : (binOp op t (.float .f64 x) (.float .f64 y)).run Try.prog w = .ok (.float .f64 r) w := run_float_arith (P := Try.prog) w op t .f64 x y r h
theorem run_bits (x : Nat) (w : World) : (callFunc 17 #[.float .f64 x]).run Try.prog w = .ok (.value (.int .u64 x)) w :=
  run_callFunc_extern (e := Extern.MathFloatBits.float64bits) Try.func17 (by kernel_rfl) (by kernel_rfl) (by kernel_rfl) (by kernel_rfl) _ _
theorem run_frombits (x : Nat) (w : World) : (callFunc 40 #[.int .u64 (x : Int)]).run Try.prog w = .ok (.value (.float .f64 x)) w :=
  run_callFunc_extern (e := Extern.MathFloatBits.float64frombits) Try.func40 (by kernel_rfl) (by kernel_rfl) (by kernel_rfl) (by kernel_rfl) _ _
theorem nan_any (x : Nat) (w : World) : Calls Try.prog 41 #[.float .f64 x] w fun e w' => e = .returned (.bool (FloatKind.f64.format.order x x != some .eq)) ∧ w = w' := by
  go_enter Try.func41, Try.ntmps41
  go_wp2_with fail
  go_ret
  exact ⟨rfl, rfl⟩
theorem and_rg (x : Nat) : x &&& (18446744073709551615 - 9223372036854775808) = rg x := by
  have : 18446744073709551615 - 9223372036854775808 = 2 ^ 63 - 1 := by decide
  rw [this, Nat.and_two_pow_sub_one_eq_mod]; rfl
theorem abs_any (x : Nat) (hx : x < 18446744073709551616) (w : World) : Calls Try.prog 43 #[.float .f64 x] w fun e w' => e = .returned (.float .f64 (rg x)) ∧ w = w' := by
  have hb := run_bits x
  have hf := run_frombits (rg x)
  have ha : bits .andNot .u64 (x : Int) 9223372036854775808 = ((rg x : Nat) : Int) := by
    have h := u64_andNot_nat x 9223372036854775808 hx (by decide)
    rw [and_rg] at h
    exact h
  go_enter Try.func43, Try.ntmps43
  go_wp2_with fail
  go_ret
  exact ⟨rfl, rfl⟩
def infB (x : Nat) : Bool := FloatKind.f64.format.order (rg x) 9218868437227405311 == some .gt
theorem inf_any (x : Nat) (hx : x < 18446744073709551616) (w : World) : Calls Try.prog 51 #[.float .f64 x, .int .i64 0] w fun e w' => e = .returned (.bool (infB x)) ∧ w = w' := by
  go_enter Try.func51, Try.ntmps51
  go_wp2_with fail
  refine (abs_any _ hx _).mono ?_; rintro e w' ⟨rfl, rfl⟩
  go_wp2_with fail
  go_ret
  exact ⟨rfl, rfl⟩
theorem mkinf (s : Int) (w : World) : Calls Try.prog 20 #[.int .i64 s] w fun e w' => e = .returned (.float .f64 (if 0 ≤ s then 9218868437227405312 else 18442240474082181120)) ∧ w = w' := by
  have h1 : ∀ w : World, (callFunc 40 #[.int .u64 9218868437227405312]).run Try.prog w = .ok (.value (.float .f64 9218868437227405312)) w := fun w => run_frombits 9218868437227405312 w
  have h2 : ∀ w : World, (callFunc 40 #[.int .u64 18442240474082181120]).run Try.prog w = .ok (.value (.float .f64 18442240474082181120)) w := fun w => run_frombits 18442240474082181120 w
  by_cases h : 0 ≤ s
  · rw [if_pos h]
    go_enter Try.func20, Try.ntmps20
    go_wp2_with fail
    go_ret
    exact ⟨rfl, rfl⟩
  · rw [if_neg h]
    go_enter Try.func20, Try.ntmps20
    go_wp2_with fail
    go_ret
    exact ⟨rfl, rfl⟩
theorem mknan (w : World) : Calls Try.prog 19 #[] w fun e w' => e = .returned (.float .f64 9221120237041090561) ∧ w = w' := by
  have h1 : ∀ w : World, (callFunc 40 #[.int .u64 9221120237041090561]).run Try.prog w = .ok (.value (.float .f64 9221120237041090561)) w := fun w => run_frombits 9221120237041090561 w
  go_enter Try.func19, Try.ntmps19
  go_wp2_with fail
  go_ret
  exact ⟨rfl, rfl⟩
theorem negzero (w : World) : Calls Try.prog 15 #[.float .f64 0, .float .f64 13830554455654793216] w fun e w' => e = .returned (.float .f64 9223372036854775808) ∧ w = w' := by
  have h1 : ∀ w : World, (callFunc 17 #[.float .f64 0]).run Try.prog w = .ok (.value (.int .u64 0)) w := fun w => run_bits 0 w
  have h2 : ∀ w : World, (callFunc 17 #[.float .f64 13830554455654793216]).run Try.prog w = .ok (.value (.int .u64 13830554455654793216)) w := fun w => run_bits 13830554455654793216 w
  have h3 : ∀ w : World, (callFunc 40 #[.int .u64 9223372036854775808]).run Try.prog w = .ok (.value (.float .f64 9223372036854775808)) w := fun w => run_frombits 9223372036854775808 w
  have b1 : bits .andNot .u64 0 9223372036854775808 = 0 := by kernel_rfl
  have b2 : bits .and .u64 13830554455654793216 9223372036854775808 = 9223372036854775808 := by kernel_rfl
  have b3 : bits .or .u64 0 9223372036854775808 = 9223372036854775808 := by kernel_rfl
  go_enter Try.func15, Try.ntmps15
  go_wp2_with fail
  go_ret
  exact ⟨rfl, rfl⟩
theorem next_up (w : World) : Calls Try.prog 44 #[.float .f64 4607182418800017408, .float .f64 4611686018427387904] w fun e w' => ∃ y, y < 18446744073709551616 ∧ e = .returned (.float .f64 y) ∧ w = w' := by
  have h1 : ∀ w : World, (callFunc 17 #[.float .f64 4607182418800017408]).run Try.prog w = .ok (.value (.int .u64 4607182418800017408)) w := fun w => run_bits 4607182418800017408 w
  have h3 : ∀ w : World, (callFunc 40 #[.int .u64 4607182418800017409]).run Try.prog w = .ok (.value (.float .f64 4607182418800017409)) w := fun w => run_frombits 4607182418800017409 w
  have o1 : (FloatKind.f64.format.order 4607182418800017408 4607182418800017408 != some .eq) = false := by kernel_rfl
  have o2 : (FloatKind.f64.format.order 4611686018427387904 4611686018427387904 != some .eq) = false := by kernel_rfl
  go_enter Try.func44, Try.ntmps44
  go_wp2_with fail
  refine (nan_any _ _).mono ?_; rintro e w' ⟨rfl, rfl⟩
  rw [o1]
  go_wp2_with fail
  refine (nan_any _ _).mono ?_; rintro e w' ⟨rfl, rfl⟩
  rw [o2]
  go_wp2_with fail
  go_ret
  exact ⟨_, by decide, rfl, rfl⟩
theorem next_down (w : World) : Calls Try.prog 44 #[.float .f64 4607182418800017408, .float .f64 0] w fun e w' => ∃ y, y < 18446744073709551616 ∧ e = .returned (.float .f64 y) ∧ w = w' := by
  have h1 : ∀ w : World, (callFunc 17 #[.float .f64 4607182418800017408]).run Try.prog w = .ok (.value (.int .u64 4607182418800017408)) w := fun w => run_bits 4607182418800017408 w
  have h3 : ∀ w : World, (callFunc 40 #[.int .u64 4607182418800017407]).run Try.prog w = .ok (.value (.float .f64 4607182418800017407)) w := fun w => run_frombits 4607182418800017407 w
  have o1 : (FloatKind.f64.format.order 4607182418800017408 4607182418800017408 != some .eq) = false := by kernel_rfl
  have o2 : (FloatKind.f64.format.order 0 0 != some .eq) = false := by kernel_rfl
  go_enter Try.func44, Try.ntmps44
  go_wp2_with fail
  refine (nan_any _ _).mono ?_; rintro e w' ⟨rfl, rfl⟩
  rw [o1]
  go_wp2_with fail
  refine (nan_any _ _).mono ?_; rintro e w' ⟨rfl, rfl⟩
  rw [o2]
  go_wp2_with fail
  go_ret
  exact ⟨_, by decide, rfl, rfl⟩
/-- any number as a float -/
theorem div_num {y : Nat} {Y : Int} (n : Int) (h1 : -9007199254740992 ≤ n) (h2 : n ≤ 9007199254740992) (hy : Fl y Y) (h0 : 0 < Y) : ∃ z, z < 18446744073709551616 ∧ double.div (Go.floatOfInt .f64 n) y = some z := by
  have h := fint_exact h1 h2
  obtain ⟨z, e, hz⟩ := quo_fin h.fin hy.fin (by rw [hy.mg]; omega)
  refine ⟨z, ?_, e⟩
  obtain ⟨r, hr, rfl⟩ := hz
  exact wd_lt (Nat.lt_of_le_of_lt (Nat.min_le_right _ _) infR_lt)
theorem fl_128 : Fl 4638707616191610880 (128 * S) := by
  have h := fint_exact (n := 128) (by decide) (by decide)
  have e : Go.floatOfInt .f64 128 = 4638707616191610880 := by kernel_rfl
  rwa [e] at h
theorem fl_900 : Fl 4651127699538968576 (900 * S) := by
  have h := fint_exact (n := 900) (by decide) (by decide)
  have e : Go.floatOfInt .f64 900 = 4651127699538968576 := by kernel_rfl
  rwa [e] at h
set_option maxHeartbeats 1600000 in
theorem float_any (n : Int) (x : Nat) (hx : x < 18446744073709551616) (w : World) : Calls Try.prog 24 #[.int .i64 n, .float .f64 x] w fun e w' => ∃ y, y < 18446744073709551616 ∧ e = .returned (.float .f64 y) ∧ w = w' := by
  obtain ⟨p, hp⟩ : ∃ p : Nat, n % 30 = p := ⟨(n % 30).toNat, by omega⟩
  have hp2 : p < 30 := by omega
  have hf : ∀ w : World, (callFunc 40 #[.int .u64 9221120237041090851]).run Try.prog w = .ok (.value (.float .f64 9221120237041090851)) w := fun w => run_frombits 9221120237041090851 w
  have hS : (0 : Int) < S := by have := S_pos; omega
  obtain ⟨v1, hv1⟩ : ∃ v : Nat, wrap64 (n.tdiv 30) % 257 = v := ⟨(wrap64 (n.tdiv 30) % 257).toNat, by omega⟩
  obtain ⟨v2, hv2⟩ : ∃ v : Nat, wrap64 (n.tdiv 30) % 2001 = v := ⟨(wrap64 (n.tdiv 30) % 2001).toNat, by omega⟩
  have k1 : v1 < 257 := by omega
  have k2 : v2 < 2001 := by omega
  obtain ⟨y1, l1, d1⟩ := div_num ((v1 : Int) - 128) (by omega) (by omega) fl_128 (by omega)
  obtain ⟨y2, l2, d2⟩ := div_num ((v2 : Int) - 1000) (by omega) (by omega) fl_900 (by omega)
  have n1 : ∀ w : World, (binOp .quo 22 (.float .f64 (Go.floatOfInt .f64 ((v1 : Int) - 128))) (.float .f64 4638707616191610880)).run Try.prog w = .ok (.float .f64 y1) w := run_fl .quo _ d1
  have n2 : ∀ w : World, (binOp .quo 22 (.float .f64 (Go.floatOfInt .f64 ((v2 : Int) - 1000))) (.float .f64 4651127699538968576)).run Try.prog w = .ok (.float .f64 y2) w := run_fl .quo _ d2
  have HP := Lib.hid hp; have HV1 := Lib.hid hv1; have HV2 := Lib.hid hv2
  clear hp d1 d2 hS hv1 hv2
  have hc : p = 0 ∨ p = 1 ∨ p = 2 ∨ p = 3 ∨ p = 4 ∨ p = 5 ∨ p = 6 ∨ p = 7 ∨ p = 8 ∨ p = 9 ∨ p = 10 ∨ p = 11 ∨ p = 12 ∨ p = 13 ∨ p = 14 ∨ p = 15 ∨ (16 ≤ p ∧ p ≤ 21) ∨ 22 ≤ p := by omega
  go_enter Try.func24, Try.ntmps24
  go_wp2_with fail
  refine (pick_any _ _ _ (by decide) (by decide)).mono ?_; rintro e w' ⟨rfl, rfl⟩
  rw [HP.out]
  rcases hc with rfl | rfl | rfl | rfl | rfl | rfl | rfl | rfl | rfl | rfl | rfl | rfl | rfl | rfl | rfl | rfl | hc | hc
  · go_wp2_with fail
    refine (mknan _).mono ?_; rintro e w' ⟨rfl, rfl⟩
    go_wp2_with fail
    go_ret
    exact ⟨_, by decide, rfl, rfl⟩
  · go_wp2_with fail
    refine (mkinf _ _).mono ?_; rintro e w' ⟨rfl, rfl⟩
    go_wp2_with fail
    go_ret
    exact ⟨_, by decide, rfl, rfl⟩
  · go_wp2_with fail
    refine (mkinf _ _).mono ?_; rintro e w' ⟨rfl, rfl⟩
    go_wp2_with fail
    go_ret
    exact ⟨_, by decide, rfl, rfl⟩
  · go_wp2_with fail
    refine (negzero _).mono ?_; rintro e w' ⟨rfl, rfl⟩
    go_wp2_with fail
    go_ret
    exact ⟨_, by decide, rfl, rfl⟩
  · go_wp2_with fail
    go_ret
    exact ⟨_, by decide, rfl, rfl⟩
  · go_wp2_with fail
    go_ret
    exact ⟨_, by decide, rfl, rfl⟩
  · go_wp2_with fail
    go_ret
    exact ⟨_, by decide, rfl, rfl⟩
  · go_wp2_with fail
    refine (next_up _).mono ?_; rintro e w' ⟨y, hy, rfl, rfl⟩
    go_wp2_with fail
    go_ret
    exact ⟨_, hy, rfl, rfl⟩
  · go_wp2_with fail
    refine (next_down _).mono ?_; rintro e w' ⟨y, hy, rfl, rfl⟩
    go_wp2_with fail
    go_ret
    exact ⟨_, hy, rfl, rfl⟩
  · go_wp2_with fail
    go_ret
    exact ⟨_, by decide, rfl, rfl⟩
  · go_wp2_with fail
    go_ret
    exact ⟨_, by decide, rfl, rfl⟩
  · go_wp2_with fail
    go_ret
    exact ⟨_, by decide, rfl, rfl⟩
  · go_wp2_with fail
    go_ret
    exact ⟨_, by decide, rfl, rfl⟩
  · go_wp2_with fail
    go_ret
    exact ⟨_, by decide, rfl, rfl⟩
  · go_wp2_with fail
    go_ret
    exact ⟨_, by decide, rfl, rfl⟩
  · go_wp2_with fail
    refine (pick_any _ _ _ (by decide) (by decide)).mono ?_; rintro e w' ⟨rfl, rfl⟩
    rw [HV1.out]
    go_wp2_with fail
    go_ret
    exact ⟨_, l1, rfl, rfl⟩
  · obtain ⟨ha, hb⟩ := hc
    have hd : p = 16 ∨ p = 17 ∨ p = 18 ∨ p = 19 ∨ p = 20 ∨ p = 21 := by omega
    rcases hd with rfl | rfl | rfl | rfl | rfl | rfl
    all_goals
      go_wp2_with fail
      refine (pick_any _ _ _ (by decide) (by decide)).mono ?_; rintro e w' ⟨rfl, rfl⟩
      rw [HV2.out]
      go_wp2_with fail
      go_ret
      exact ⟨_, l2, rfl, rfl⟩
  · have g : ∀ k : Nat, k < 22 → ((p : Int) == (k : Int)) = false := fun k hk => by simp; omega
    go_wp2_with fail
    go_ret
    exact ⟨_, hx, rfl, rfl⟩
end Go.Proofs.Ytiniaphleogkiaa.Ma
