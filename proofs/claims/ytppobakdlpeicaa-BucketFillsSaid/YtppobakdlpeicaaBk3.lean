import Derived.Test.YtppobakdlpeicaaBk2
namespace Go.Proofs.Ytppobakdlpeicaa.Bk
open Go.RowKit Dt Go.Proofs.Ytppobakdlpeicaa.Hd Go.Proofs.Ytppobakdlpeicaa.Mt Ieee
set_option linter.unusedVariables false
set_option linter.unusedSimpArgs false

/-- the example of the chapter -/
theorem known8_any (w : World) : Calls Try.prog 12 #[] w fun e w' => e = .returned (.bool true) ∧ Fr [] w w' := by
  go_enter Try.func12, Try.ntmps12
  go_wp2_with fail
  refine (new_ok 4602678819172646912 4611686018427387904 w (by decide) (by decide) (by kernel_rfl) (by kernel_rfl) (by kernel_rfl) (by kernel_rfl) (by kernel_rfl)).mono ?_; rintro e w1 ⟨rfl, k1, hF⟩
  go_wp2_with fail
  refine (take_old_yes (tt := 0) (l' := 4607182418800017408) k1 (by decide) (by decide) (by kernel_rfl) (by kernel_rfl)).mono ?_; rintro e w2 ⟨rfl, k2, hF2⟩
  go_wp2_with fail
  refine (take_old_yes (tt := 0) (l' := 0) k2 (by decide) (by decide) (by kernel_rfl) (by kernel_rfl)).mono ?_; rintro e w3 ⟨rfl, k3, hF3⟩
  go_wp2_with fail
  refine (take_old_no (tt := 0) k3 (by decide) (by decide) (by kernel_rfl)).mono ?_; rintro e w4 ⟨rfl, k4, hF4⟩
  go_wp2_with fail
  refine (take_new_yes (tt := 2) (m := 4607182418800017408) (s := 4607182418800017408) (l' := 4607182418800017408) (l2 := 0) k4 (by decide) (by decide) (by decide) (by decide) (by kernel_rfl) (by kernel_rfl) (fun w => by kernel_rfl) (by kernel_rfl) (by kernel_rfl)).mono ?_; rintro e w5 ⟨rfl, k5, hF5⟩
  have o1 : (FloatKind.f64.format.order 0 0 == some .eq) = true := by kernel_rfl
  go_wp2_with fail
  refine (level_any k5).mono ?_; rintro e w' ⟨rfl, rfl⟩
  go_wp2_with fail
  go_ret
  exact ⟨rfl, (((hF.trans hF2 (by simp)).trans hF3 (by simp)).trans hF4 (by simp)).trans hF5 (by simp)⟩
theorem refused_any (r d : Nat) (w : World) (hr : r < 18446744073709551616) (hd : d < 18446744073709551616) (h : (oddB r || oddB d || (FloatKind.f64.format.order r 0 == some .lt) || (FloatKind.f64.format.order d 4607182418800017408 == some .lt) || (FloatKind.f64.format.order d 4652007308841189376 == some .gt)) = true) :
    Calls Try.prog 16 #[.float .f64 r, .float .f64 d] w fun e w' => e = .returned (.bool true) ∧ w = w' := by
  go_enter Try.func16, Try.ntmps16
  go_wp2_with fail
  refine (new_no r d w hr hd h).mono ?_; rintro e w1 ⟨rfl, rfl⟩
  go_wp2_with fail
  go_ret
  exact ⟨rfl, rfl⟩
set_option maxHeartbeats 3200000 in
theorem walk_bknown (W : World) : Calls Try.prog 5 #[] W fun e w' => e = .returned (.bool true) ∧ Below W.heap.size W w' := by
  go_enter Try.func5, Try.ntmps5
  go_wp2_with fail
  refine (Ma.negzero _).mono ?_; rintro e w' ⟨rfl, rfl⟩
  go_wp2_with fail
  refine (new_ok 9223372036854775808 4607182418800017408 W (by decide) (by decide) (by kernel_rfl) (by kernel_rfl) (by kernel_rfl) (by kernel_rfl) (by kernel_rfl)).mono ?_; rintro e w1 ⟨rfl, b1, hF1⟩
  obtain ⟨K, hK⟩ : ∃ K, W.heap.size = K := ⟨_, rfl⟩
  rw [hK] at b1 ⊢
  have HK := Lib.hid hK; clear hK
  go_wp2_with fail
  refine (new_ok 9218868437227405311 4652007308841189376 w1 (by decide) (by decide) (by kernel_rfl) (by kernel_rfl) (by kernel_rfl) (by kernel_rfl) (by kernel_rfl)).mono ?_; rintro e w2 ⟨rfl, c2, hF2⟩
  have b2 := b1.fr hF2 (by simp)
  have hlt := b1.lt
  have hF := hF1.trans hF2 (by simp)
  have hKle : K ≤ K := Nat.le_refl _
  obtain ⟨C, hC⟩ : ∃ C, w1.heap.size = C := ⟨_, rfl⟩
  rw [hC] at c2 hlt ⊢
  have HC := Lib.hid hC
  clear hC hF1 hF2 b1
  go_wp2_with fail
  refine (known8_any _).mono ?_; rintro e w3 ⟨rfl, hF3⟩
  have b3 := b2.fr hF3 (by simp)
  have c3 := c2.fr hF3 (by simp)
  have hF := hF.trans hF3 (by simp)
  clear b2 c2 hF3
  go_wp2_with fail
  refine (level_any c3).mono ?_; rintro e w' ⟨rfl, rfl⟩
  go_wp2_with fail
  refine (take_new_yes (tt := 5) (m := 9223372036854775808) (s := 4607182418800017408) (l' := 4607182418800017408) (l2 := 0) b3 (by decide) (by decide) (by decide) (by decide) (by kernel_rfl) (by kernel_rfl) (fun w => by kernel_rfl) (by kernel_rfl) (by kernel_rfl)).mono ?_; rintro e w4 ⟨rfl, b4, hF4⟩
  have c4 := c3.fr hF4 (by simp; omega)
  have hF := hF.trans hF4 (by simp; rw [HK.out]; omega)
  clear b3 c3 hF4
  go_wp2_with fail
  refine (take_new_no (tt := 1000000) (m := 9223372036854775808) (s := 0) (l' := 0) b4 (by decide) (by decide) (by decide) (by decide) (by kernel_rfl) (by kernel_rfl) (fun w => by kernel_rfl) (by kernel_rfl)).mono ?_; rintro e w5 ⟨rfl, b5, hF5⟩
  have c5 := c4.fr hF5 (by simp; omega)
  have hF := hF.trans hF5 (by simp; rw [HK.out]; omega)
  clear b4 c4 hF5
  go_wp2_with fail
  refine (take_new_yes (tt := 1) (m := 9218868437227405311) (s := 9218868437227405311) (l' := 4652007308841189376) (l2 := 4651998512748167168) c5 (by decide) (by decide) (by decide) (by decide) (by kernel_rfl) (by kernel_rfl) (fun w => by kernel_rfl) (by kernel_rfl) (by kernel_rfl)).mono ?_; rintro e w6 ⟨rfl, c6, hF6⟩
  have hF := hF.trans hF6 (by simp; rw [HK.out]; omega)
  clear b5 c5 hF6
  go_wp2_with fail
  refine (take_old_yes (tt := -7) (l' := 4651989716655144960) c6 (by decide) (by decide) (by kernel_rfl) (by kernel_rfl)).mono ?_; rintro e w7 ⟨rfl, c7, hF7⟩
  have hF := hF.trans hF7 (by simp; rw [HK.out]; omega)
  clear c6 hF7
  go_wp2_with fail
  have o1 : (FloatKind.f64.format.order 4652007308841189376 4652007308841189376 == some .eq) = true := by kernel_rfl
  have o2 : (FloatKind.f64.format.order 4651989716655144960 4651989716655144960 == some .eq) = true := by kernel_rfl
  refine (Ma.mknan _).mono ?_; rintro e w' ⟨rfl, rfl⟩
  go_wp2_with fail
  refine (refused_any 9221120237041090561 4617315517961601024 _ (by decide) (by decide) (by kernel_rfl)).mono ?_; rintro e w' ⟨rfl, rfl⟩
  go_wp2_with fail
  refine (Ma.mknan _).mono ?_; rintro e w' ⟨rfl, rfl⟩
  go_wp2_with fail
  refine (refused_any 4607182418800017408 9221120237041090561 _ (by decide) (by decide) (by kernel_rfl)).mono ?_; rintro e w' ⟨rfl, rfl⟩
  go_wp2_with fail
  refine (Ma.mkinf _ _).mono ?_; rintro e w' ⟨rfl, rfl⟩
  go_wp2_with fail
  refine (refused_any 9218868437227405312 4617315517961601024 _ (by decide) (by decide) (by kernel_rfl)).mono ?_; rintro e w' ⟨rfl, rfl⟩
  go_wp2_with fail
  refine (refused_any 13821547256400052224 4617315517961601024 _ (by decide) (by decide) (by kernel_rfl)).mono ?_; rintro e w' ⟨rfl, rfl⟩
  go_wp2_with fail
  refine (refused_any 4607182418800017408 4602678819172646912 _ (by decide) (by decide) (by kernel_rfl)).mono ?_; rintro e w' ⟨rfl, rfl⟩
  go_wp2_with fail
  refine (refused_any 4607182418800017408 4652016104934211584 _ (by decide) (by decide) (by kernel_rfl)).mono ?_; rintro e w' ⟨rfl, rfl⟩
  go_wp2_with fail
  refine (Ma.mkinf _ _).mono ?_; rintro e w' ⟨rfl, rfl⟩
  go_wp2_with fail
  refine (refused_any 4607182418800017408 9218868437227405312 _ (by decide) (by decide) (by kernel_rfl)).mono ?_; rintro e w' ⟨rfl, rfl⟩
  go_wp2_with fail
  refine (level_any c7).mono ?_; rintro e w' ⟨rfl, rfl⟩
  go_wp2_with fail
  go_ret
  exact ⟨rfl, hF.below (Nat.le_refl _) (by simp)⟩
end Go.Proofs.Ytppobakdlpeicaa.Bk
