import Derived.Test.YtiniaphleogkiaaMth
namespace Go.Proofs.Ytiniaphleogkiaa.Ma
open Go.RowKit Dt Go.Proofs.Ytiniaphleogkiaa.Hd Ieee
set_option linter.unusedVariables false
set_option linter.unusedSimpArgs false

theorem next_up' (w : World) : Calls Try.prog 44 #[.float .f64 4607182418800017408, .float .f64 4611686018427387904] w fun e w' => e = .returned (.float .f64 4607182418800017409) ∧ w = w' := by
  have h1 : ∀ w : World, (callFunc 17 #[.float .f64 4607182418800017408]).run Try.prog w = .ok (.value (.int .u64 4607182418800017408)) w := fun w => run_bits 4607182418800017408 w
  have h3 : ∀ w : World, (callFunc 40 #[.int .u64 4607182418800017409]).run Try.prog w = .ok (.value (.float .f64 4607182418800017409)) w := fun w => run_frombits 4607182418800017409 w
  have o1 : (FloatKind.f64.format.order 4607182418800017408 4607182418800017408 != some .eq) = false := by kernel_rfl
  have o2 : (FloatKind.f64.format.order 4611686018427387904 4611686018427387904 != some .eq) = false := by kernel_rfl
  go_enter Try.func44, Try.ntmps44
  go_wp2_with fail
  refine (nan_any _ _).mono ?_; rintro e w' ⟨rfl, rfl⟩
  rw [o1]
  go_wp2_with fail
  refine (nan_any _ _).mono ?_; rintro e w' ⟨rfl, rfl⟩
  rw [o2]
  go_wp2_with fail
  go_ret
  exact ⟨rfl, rfl⟩
theorem next_down' (w : World) : Calls Try.prog 44 #[.float .f64 4607182418800017408, .float .f64 0] w fun e w' => e = .returned (.float .f64 4607182418800017407) ∧ w = w' := by
  have h1 : ∀ w : World, (callFunc 17 #[.float .f64 4607182418800017408]).run Try.prog w = .ok (.value (.int .u64 4607182418800017408)) w := fun w => run_bits 4607182418800017408 w
  have h3 : ∀ w : World, (callFunc 40 #[.int .u64 4607182418800017407]).run Try.prog w = .ok (.value (.float .f64 4607182418800017407)) w := fun w => run_frombits 4607182418800017407 w
  have o1 : (FloatKind.f64.format.order 4607182418800017408 4607182418800017408 != some .eq) = false := by kernel_rfl
  have o2 : (FloatKind.f64.format.order 0 0 != some .eq) = false := by kernel_rfl
  go_enter Try.func44, Try.ntmps44
  go_wp2_with fail
  refine (nan_any _ _).mono ?_; rintro e w' ⟨rfl, rfl⟩
  rw [o1]
  go_wp2_with fail
  refine (nan_any _ _).mono ?_; rintro e w' ⟨rfl, rfl⟩
  rw [o2]
  go_wp2_with fail
  go_ret
  exact ⟨rfl, rfl⟩
set_option maxHeartbeats 1600000 in
theorem float_det (n : Int) (x : Nat) (hx : x < 18446744073709551616) : ∃ y, y < 18446744073709551616 ∧ ∀ w, Calls Try.prog 24 #[.int .i64 n, .float .f64 x] w fun e w' => e = .returned (.float .f64 y) ∧ w = w' := by
  obtain ⟨p, hp⟩ : ∃ p : Nat, n % 30 = p := ⟨(n % 30).toNat, by omega⟩
  have hp2 : p < 30 := by omega
  have hf : ∀ w : World, (callFunc 40 #[.int .u64 9221120237041090851]).run Try.prog w = .ok (.value (.float .f64 9221120237041090851)) w := fun w => run_frombits 9221120237041090851 w
  have hS : (0 : Int) < S := by have := S_pos; omega
  obtain ⟨v1, hv1⟩ : ∃ v : Nat, wrap64 (n.tdiv 30) % 257 = v := ⟨(wrap64 (n.tdiv 30) % 257).toNat, by omega⟩
  obtain ⟨v2, hv2⟩ : ∃ v : Nat, wrap64 (n.tdiv 30) % 2001 = v := ⟨(wrap64 (n.tdiv 30) % 2001).toNat, by omega⟩
  have k1 : v1 < 257 := by omega
  have k2 : v2 < 2001 := by omega
  obtain ⟨y1, l1, d1⟩ := div_num ((v1 : Int) - 128) (by omega) (by omega) fl_128 (by omega)
  obtain ⟨y2, l2, d2⟩ := div_num ((v2 : Int) - 1000) (by omega) (by omega) fl_900 (by omega)
  have n1 : ∀ w : World, (binOp .quo 22 (.float .f64 (Go.floatOfInt .f64 ((v1 : Int) - 128))) (.float .f64 4638707616191610880)).run Try.prog w = .ok (.float .f64 y1) w := run_fl .quo _ d1
  have n2 : ∀ w : World, (binOp .quo 22 (.float .f64 (Go.floatOfInt .f64 ((v2 : Int) - 1000))) (.float .f64 4651127699538968576)).run Try.prog w = .ok (.float .f64 y2) w := run_fl .quo _ d2
  have HP := Lib.hid hp; have HV1 := Lib.hid hv1; have HV2 := Lib.hid hv2
  clear hp d1 d2 hS hv1 hv2
  have hc : p = 0 ∨ p = 1 ∨ p = 2 ∨ p = 3 ∨ p = 4 ∨ p = 5 ∨ p = 6 ∨ p = 7 ∨ p = 8 ∨ p = 9 ∨ p = 10 ∨ p = 11 ∨ p = 12 ∨ p = 13 ∨ p = 14 ∨ p = 15 ∨ (16 ≤ p ∧ p ≤ 21) ∨ 22 ≤ p := by omega
  rcases hc with rfl | rfl | rfl | rfl | rfl | rfl | rfl | rfl | rfl | rfl | rfl | rfl | rfl | rfl | rfl | rfl | hc | hc
  · refine ⟨9221120237041090561, by decide, fun w => ?_⟩
    go_enter Try.func24, Try.ntmps24
    go_wp2_with fail
    refine (pick_any _ _ _ (by decide) (by decide)).mono ?_; rintro e w' ⟨rfl, rfl⟩
    rw [HP.out]
    go_wp2_with fail
    refine (mknan _).mono ?_; rintro e w' ⟨rfl, rfl⟩
    go_wp2_with fail
    go_ret
    exact ⟨rfl, rfl⟩
  · refine ⟨9218868437227405312, by decide, fun w => ?_⟩
    go_enter Try.func24, Try.ntmps24
    go_wp2_with fail
    refine (pick_any _ _ _ (by decide) (by decide)).mono ?_; rintro e w' ⟨rfl, rfl⟩
    rw [HP.out]
    go_wp2_with fail
    refine (mkinf _ _).mono ?_; rintro e w' ⟨rfl, rfl⟩
    go_wp2_with fail
    go_ret
    exact ⟨rfl, rfl⟩
  · refine ⟨18442240474082181120, by decide, fun w => ?_⟩
    go_enter Try.func24, Try.ntmps24
    go_wp2_with fail
    refine (pick_any _ _ _ (by decide) (by decide)).mono ?_; rintro e w' ⟨rfl, rfl⟩
    rw [HP.out]
    go_wp2_with fail
    refine (mkinf _ _).mono ?_; rintro e w' ⟨rfl, rfl⟩
    go_wp2_with fail
    go_ret
    exact ⟨rfl, rfl⟩
  · refine ⟨9223372036854775808, by decide, fun w => ?_⟩
    go_enter Try.func24, Try.ntmps24
    go_wp2_with fail
    refine (pick_any _ _ _ (by decide) (by decide)).mono ?_; rintro e w' ⟨rfl, rfl⟩
    rw [HP.out]
    go_wp2_with fail
    refine (negzero _).mono ?_; rintro e w' ⟨rfl, rfl⟩
    go_wp2_with fail
    go_ret
    exact ⟨rfl, rfl⟩
  · refine ⟨0, by decide, fun w => ?_⟩
    go_enter Try.func24, Try.ntmps24
    go_wp2_with fail
    refine (pick_any _ _ _ (by decide) (by decide)).mono ?_; rintro e w' ⟨rfl, rfl⟩
    rw [HP.out]
    go_wp2_with fail
    go_ret
    exact ⟨rfl, rfl⟩
  · refine ⟨4607182418800017408, by decide, fun w => ?_⟩
    go_enter Try.func24, Try.ntmps24
    go_wp2_with fail
    refine (pick_any _ _ _ (by decide) (by decide)).mono ?_; rintro e w' ⟨rfl, rfl⟩
    rw [HP.out]
    go_wp2_with fail
    go_ret
    exact ⟨rfl, rfl⟩
  · refine ⟨13830554455654793216, by decide, fun w => ?_⟩
    go_enter Try.func24, Try.ntmps24
    go_wp2_with fail
    refine (pick_any _ _ _ (by decide) (by decide)).mono ?_; rintro e w' ⟨rfl, rfl⟩
    rw [HP.out]
    go_wp2_with fail
    go_ret
    exact ⟨rfl, rfl⟩
  · refine ⟨4607182418800017409, by decide, fun w => ?_⟩
    go_enter Try.func24, Try.ntmps24
    go_wp2_with fail
    refine (pick_any _ _ _ (by decide) (by decide)).mono ?_; rintro e w' ⟨rfl, rfl⟩
    rw [HP.out]
    go_wp2_with fail
    refine (next_up' _).mono ?_; rintro e w' ⟨rfl, rfl⟩
    go_wp2_with fail
    go_ret
    exact ⟨rfl, rfl⟩
  · refine ⟨4607182418800017407, by decide, fun w => ?_⟩
    go_enter Try.func24, Try.ntmps24
    go_wp2_with fail
    refine (pick_any _ _ _ (by decide) (by decide)).mono ?_; rintro e w' ⟨rfl, rfl⟩
    rw [HP.out]
    go_wp2_with fail
    refine (next_down' _).mono ?_; rintro e w' ⟨rfl, rfl⟩
    go_wp2_with fail
    go_ret
    exact ⟨rfl, rfl⟩
  · refine ⟨1, by decide, fun w => ?_⟩
    go_enter Try.func24, Try.ntmps24
    go_wp2_with fail
    refine (pick_any _ _ _ (by decide) (by decide)).mono ?_; rintro e w' ⟨rfl, rfl⟩
    rw [HP.out]
    go_wp2_with fail
    go_ret
    exact ⟨rfl, rfl⟩
  · refine ⟨9218868437227405311, by decide, fun w => ?_⟩
    go_enter Try.func24, Try.ntmps24
    go_wp2_with fail
    refine (pick_any _ _ _ (by decide) (by decide)).mono ?_; rintro e w' ⟨rfl, rfl⟩
    rw [HP.out]
    go_wp2_with fail
    go_ret
    exact ⟨rfl, rfl⟩
  · refine ⟨18442240474082181119, by decide, fun w => ?_⟩
    go_enter Try.func24, Try.ntmps24
    go_wp2_with fail
    refine (pick_any _ _ _ (by decide) (by decide)).mono ?_; rintro e w' ⟨rfl, rfl⟩
    rw [HP.out]
    go_wp2_with fail
    go_ret
    exact ⟨rfl, rfl⟩
  · refine ⟨4593671619917905920, by decide, fun w => ?_⟩
    go_enter Try.func24, Try.ntmps24
    go_wp2_with fail
    refine (pick_any _ _ _ (by decide) (by decide)).mono ?_; rintro e w' ⟨rfl, rfl⟩
    rw [HP.out]
    go_wp2_with fail
    go_ret
    exact ⟨rfl, rfl⟩
  · refine ⟨13817043656772681728, by decide, fun w => ?_⟩
    go_enter Try.func24, Try.ntmps24
    go_wp2_with fail
    refine (pick_any _ _ _ (by decide) (by decide)).mono ?_; rintro e w' ⟨rfl, rfl⟩
    rw [HP.out]
    go_wp2_with fail
    go_ret
    exact ⟨rfl, rfl⟩
  · refine ⟨9221120237041090851, by decide, fun w => ?_⟩
    go_enter Try.func24, Try.ntmps24
    go_wp2_with fail
    refine (pick_any _ _ _ (by decide) (by decide)).mono ?_; rintro e w' ⟨rfl, rfl⟩
    rw [HP.out]
    go_wp2_with fail
    go_ret
    exact ⟨rfl, rfl⟩
  · refine ⟨y1, l1, fun w => ?_⟩
    go_enter Try.func24, Try.ntmps24
    go_wp2_with fail
    refine (pick_any _ _ _ (by decide) (by decide)).mono ?_; rintro e w' ⟨rfl, rfl⟩
    rw [HP.out]
    go_wp2_with fail
    refine (pick_any _ _ _ (by decide) (by decide)).mono ?_; rintro e w' ⟨rfl, rfl⟩
    rw [HV1.out]
    go_wp2_with fail
    go_ret
    exact ⟨rfl, rfl⟩
  · obtain ⟨ha, hb⟩ := hc
    have hd : p = 16 ∨ p = 17 ∨ p = 18 ∨ p = 19 ∨ p = 20 ∨ p = 21 := by omega
    rcases hd with rfl | rfl | rfl | rfl | rfl | rfl
    all_goals
      refine ⟨y2, l2, fun w => ?_⟩
      go_enter Try.func24, Try.ntmps24
      go_wp2_with fail
      refine (pick_any _ _ _ (by decide) (by decide)).mono ?_; rintro e w' ⟨rfl, rfl⟩
      rw [HP.out]
      go_wp2_with fail
      refine (pick_any _ _ _ (by decide) (by decide)).mono ?_; rintro e w' ⟨rfl, rfl⟩
      rw [HV2.out]
      go_wp2_with fail
      go_ret
      exact ⟨rfl, rfl⟩
  · have g : ∀ k : Nat, k < 22 → ((p : Int) == (k : Int)) = false := fun k hk => by simp; omega
    refine ⟨x, hx, fun w => ?_⟩
    go_enter Try.func24, Try.ntmps24
    go_wp2_with fail
    refine (pick_any _ _ _ (by decide) (by decide)).mono ?_; rintro e w' ⟨rfl, rfl⟩
    rw [HP.out]
    go_wp2_with fail
    go_ret
    exact ⟨rfl, rfl⟩
end Go.Proofs.Ytiniaphleogkiaa.Ma
