import Derived.Test.YtiniaphleogkiaaVw7
namespace Go.Proofs.Ytiniaphleogkiaa.Vw
open Go.RowKit Dt Go.Proofs.Ytiniaphleogkiaa.Hd Go.Proofs.Ytiniaphleogkiaa.Ma Ieee
set_option linter.unusedVariables false
set_option linter.unusedSimpArgs false

set_option maxRecDepth 100000 in
set_option maxHeartbeats 3200000 in
theorem walk_vknown (W : World) : Calls Try.prog 10 #[] W fun e w' => e = .returned (.bool true) ∧ Below W.heap.size W w' := by
  have o0 : (FloatKind.f64.format.order 4607182418800017408 4607182418800017408 == some .eq) = true := by kernel_rfl
  have o1 : (FloatKind.f64.format.order 4617315517961601024 4617315517961601024 == some .eq) = true := by kernel_rfl
  have o2 : (FloatKind.f64.format.order 9218868437227405312 9218868437227405312 == some .eq) = true := by kernel_rfl
  have o3 : (FloatKind.f64.format.order 4613937818241073152 4613937818241073152 == some .eq) = true := by kernel_rfl
  have bz : ∀ w : World, (callFunc 17 #[.float .f64 9223372036854775808]).run Try.prog w = .ok (.value (.int .u64 9223372036854775808)) w := fun w => run_bits 9223372036854775808 w
  have h0 := btw_first (a := 9223372036854775808) (b := 4617315517961601024) (t := 9221120237041090561) (.inl (by kernel_rfl))
  have h1 := btw_first (a := 4607182418800017408) (b := 4617315517961601024) (t := 13835058055282163712) (.inr ⟨by kernel_rfl, by kernel_rfl⟩)
  have h2 := btw_last (a := 4607182418800017408) (b := 4617315517961601024) (t := 9218868437227405312) (by kernel_rfl) (by kernel_rfl) (by kernel_rfl)
  have h3 := btw_odd (a := 9218868437227405312) (b := 4617315517961601024) (t := 4598175219545276416) (g := true) (by decide) (by decide) (by kernel_rfl) (by kernel_rfl) (by kernel_rfl) (.inl (by kernel_rfl)) (by kernel_rfl)
  have h4 := btw_odd (a := 9218868437227405312) (b := 4617315517961601024) (t := 4602678819172646912) (g := false) (by decide) (by decide) (by kernel_rfl) (by kernel_rfl) (by kernel_rfl) (.inl (by kernel_rfl)) (by kernel_rfl)
  have h5 := btw_odd (a := 4613937818241073152) (b := 9221120237041090561) (t := 4600877379321698714) (g := true) (by decide) (by decide) (by kernel_rfl) (by kernel_rfl) (by kernel_rfl) (.inr ⟨by kernel_rfl, by kernel_rfl⟩) (by kernel_rfl)
  go_enter Try.func10, Try.ntmps10
  go_wp2_with fail
  refine (negzero _).mono ?_; rintro e w' ⟨rfl, rfl⟩
  go_wp2_with fail
  refine (mknan _).mono ?_; rintro e w' ⟨rfl, rfl⟩
  go_wp2_with fail
  refine (vknown_any _).mono ?_; rintro e w1 ⟨rfl, hF1⟩
  go_wp2_with fail
  refine (h0 _).mono ?_; rintro e w' ⟨rfl, rfl⟩
  go_wp2_with fail
  refine (h1 _).mono ?_; rintro e w' ⟨rfl, rfl⟩
  go_wp2_with fail
  refine (mkinf _ _).mono ?_; rintro e w' ⟨rfl, rfl⟩
  go_wp2_with fail
  refine (h2 _).mono ?_; rintro e w' ⟨rfl, rfl⟩
  go_wp2_with fail
  refine (mkinf _ _).mono ?_; rintro e w' ⟨rfl, rfl⟩
  go_wp2_with fail
  refine (h3 _).mono ?_; rintro e w' ⟨rfl, rfl⟩
  go_wp2_with fail
  refine (mkinf _ _).mono ?_; rintro e w' ⟨rfl, rfl⟩
  go_wp2_with fail
  refine (mkinf _ _).mono ?_; rintro e w' ⟨rfl, rfl⟩
  go_wp2_with fail
  refine (h4 _).mono ?_; rintro e w' ⟨rfl, rfl⟩
  go_wp2_with fail
  refine (h5 _).mono ?_; rintro e w' ⟨rfl, rfl⟩
  go_wp2_with fail
  refine (mkinf _ _).mono ?_; rintro e w' ⟨rfl, rfl⟩
  go_wp2_with fail
  refine (sooner_any 9221120237041090561 9218868437227405312 (by decide) (by decide) _).mono ?_; rintro e w' ⟨rfl, rfl⟩
  rw [show soonB 9221120237041090561 9218868437227405312 = true by kernel_rfl]
  go_wp2_with fail
  refine (sooner_any 9221120237041090561 9221120237041090561 (by decide) (by decide) _).mono ?_; rintro e w' ⟨rfl, rfl⟩
  rw [show soonB 9221120237041090561 9221120237041090561 = false by kernel_rfl]
  go_wp2_with fail
  refine (mkinf _ _).mono ?_; rintro e w' ⟨rfl, rfl⟩
  go_wp2_with fail
  refine (sooner_any 9218868437227405312 9221120237041090561 (by decide) (by decide) _).mono ?_; rintro e w' ⟨rfl, rfl⟩
  rw [show soonB 9218868437227405312 9221120237041090561 = false by kernel_rfl]
  go_wp2_with fail
  refine (sooner_any 0 9223372036854775808 (by decide) (by decide) _).mono ?_; rintro e w' ⟨rfl, rfl⟩
  rw [show soonB 0 9223372036854775808 = true by kernel_rfl]
  go_wp2_with fail
  refine (sooner_any 9223372036854775808 0 (by decide) (by decide) _).mono ?_; rintro e w' ⟨rfl, rfl⟩
  rw [show soonB 9223372036854775808 0 = false by kernel_rfl]
  go_wp2_with fail
  refine (sooner_any 4607182418800017408 4607182418800017408 (by decide) (by decide) _).mono ?_; rintro e w' ⟨rfl, rfl⟩
  rw [show soonB 4607182418800017408 4607182418800017408 = false by kernel_rfl]
  go_wp2_with fail
  have hF0 := hF1.alloc (.cells #[.float .f64 9223372036854775808, .float .f64 0, .float .f64 4607182418800017408, .float .f64 0, .float .f64 9223372036854775808, .float .f64 9221120237041090561] 22)
  have hbk : Blk (w1.alloc (.cells #[.float .f64 9223372036854775808, .float .f64 0, .float .f64 4607182418800017408, .float .f64 0, .float .f64 9223372036854775808, .float .f64 9221120237041090561] 22)) w1.heap.size (fcells [9223372036854775808, 0, 4607182418800017408, 0, 9223372036854775808, 9221120237041090561]) 22 := Blk.new w1 _ _
  generalize w1.alloc (.cells #[.float .f64 9223372036854775808, .float .f64 0, .float .f64 4607182418800017408, .float .f64 0, .float .f64 9223372036854775808, .float .f64 9221120237041090561] 22) = w2 at *
  refine (order_lit (Y := [5, 2, 1, 3, 0, 4]) hbk (by decide) (by decide) (by kernel_rfl) rfl).mono ?_
  rintro e w3 ⟨v, X, rfl, hS, hX, hF⟩
  have hF2 := hF0.trans hF (by simp)
  clear hF0 hF hbk hF1
  go_wp2_with fail
  have hbk : Blk (w3.alloc (.cells #[.int .i64 5, .int .i64 2, .int .i64 1, .int .i64 3, .int .i64 0, .int .i64 4] 3)) w3.heap.size (icells [5, 2, 1, 3, 0, 4]) 3 := Blk.new w3 _ _
  have hF3 := hF2.alloc (.cells #[.int .i64 5, .int .i64 2, .int .i64 1, .int .i64 3, .int .i64 0, .int .i64 4] 3)
  have hS3 := hS.fr ((Fr.refl [] w3).alloc (.cells #[.int .i64 5, .int .i64 2, .int .i64 1, .int .i64 3, .int .i64 0, .int .i64 4] 3)) (by simp)
  clear hF2 hS
  refine (same_yes hS3.v (icells_v hbk 6 rfl) hX (by decide)).mono ?_
  rintro e w4 ⟨rfl, k, rfl⟩
  have hF4 := hF3.drewN k
  clear hS3 hbk hX hF3
  go_wp2_with fail
  refine (order_any (d := fun _ => 0) (fun h => absurd h (by decide)) (fun t h => absurd h (by omega)) (by decide)).mono ?_
  rintro e w5 ⟨v, X, rfl, -, ⟨va, vc, rfl, -⟩, hF⟩
  have hF5 := hF4.trans hF (by simp)
  clear hF hF4
  go_wp2_with fail
  go_ret
  exact ⟨rfl, hF5.below (Nat.le_refl _) (by simp)⟩
end Go.Proofs.Ytiniaphleogkiaa.Vw
