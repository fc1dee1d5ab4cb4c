import Derived.Test.YtiniaphleogkiaaSt5
namespace Go.Proofs.Ytiniaphleogkiaa.Sk
open Go.RowKit Dt Go.Proofs.Ytiniaphleogkiaa.Hd Go.Proofs.Ytiniaphleogkiaa.Ma Ieee
set_option linter.unusedVariables false
set_option linter.unusedSimpArgs false
attribute [local go_sem] run_negf

theorem amount_closed {w : World} {a d n m q t z : Nat} {R : Int} (h1 : (FloatKind.f64.format.order a d == some .lt || FloatKind.f64.format.order a d == some .eq) = false) (h2 : (FloatKind.f64.format.order a 4607182418800017408 == some .eq) = false)
    (e1 : double.sub a d = some n) (e2 : double.sub 4607182418800017408 d = some m) (e3 : double.div n m = some q) (e4 : double.mul q 4634204016564240384 = some t)
    (ht : t < 18446744073709551616) (hf : fin t) (ez : double.write ((double.read t).integral .even) = z) (e7 : floatToIntVal .f64 z .i64 = some R) :
    Calls Try.prog 42 #[.float .f64 a, .float .f64 d] w fun e w' => e = .returned (.int .i64 R) ∧ w = w' := by
  obtain ⟨mm, p, hr, -⟩ := read_fin hf
  exact amount_walk h1 h2 e1 e2 e3 e4 (fun w => by rw [run_even hr w, ez]) e7
theorem axis_closed {x d c mx : Nat} {n : Int} {g : Bool} (hcl : c < 18446744073709551616) (hc : clean x = c) (em : ∀ w, (Builtin.max_ #[22, 22] 22 #[.float .f64 0, .float .f64 (clean d)]).run Try.prog w = .ok (.float .f64 mx) w)
    (hg : (FloatKind.f64.format.order c 0 == some .lt) = g) (n0 : 0 ≤ n) (n1 : n ≤ 64)
    (ha : ∀ w, Calls Try.prog 42 #[.float .f64 (rg c), .float .f64 mx] w fun e w' => e = .returned (.int .i64 n) ∧ w = w') (w : World) :
    Calls Try.prog 21 #[.float .f64 x, .float .f64 d] w fun e w' => e = .returned (.int .i64 (if g then -n else n)) ∧ w = w' := by
  have HA := Lib.hid ha
  have HC := Lib.hid hc
  clear ha hc
  cases g
  all_goals
    go_enter Try.func21, Try.ntmps21
    go_wp2_with fail
    refine (clean_any _ _).mono ?_; rintro e w' ⟨rfl, rfl⟩
    rw [HC.out]
    go_wp2_with fail
    refine (abs_any _ hcl _).mono ?_; rintro e w' ⟨rfl, rfl⟩
    go_wp2_with fail
    refine (clean_any _ _).mono ?_; rintro e w' ⟨rfl, rfl⟩
    go_wp2_with fail
    refine (HA.out _).mono ?_; rintro e w' ⟨rfl, rfl⟩
    go_wp2_with fail
    go_ret
    exact ⟨rfl, rfl⟩
set_option maxRecDepth 100000 in
set_option maxHeartbeats 3200000 in
theorem walk_sknown (W : World) : Calls Try.prog 3 #[] W fun e w' => e = .returned (.bool true) ∧ Below W.heap.size W w' := by
  obtain ⟨V, hV, hr⟩ := sixtyfourth
  obtain ⟨y0, ey0, -, hf0⟩ := sfloat_any hV hr (n := 99) (c := 64) (by decide)
  have ez0 : double.div (Go.floatOfInt .f64 (64)) 4634204016564240384 = some 4607182418800017408 := by kernel_rfl
  rw [ez0] at ey0
  cases ey0
  obtain ⟨y1, ey1, -, hf1⟩ := sfloat_any hV hr (n := -99) (c := -64) (by decide)
  have ez1 : double.div (Go.floatOfInt .f64 (-64)) 4634204016564240384 = some 13830554455654793216 := by kernel_rfl
  rw [ez1] at ey1
  cases ey1
  obtain ⟨y2, ey2, -, hf2⟩ := sfloat_any hV hr (n := 0) (c := 0) (by decide)
  have ez2 : double.div (Go.floatOfInt .f64 (0)) 4634204016564240384 = some 0 := by kernel_rfl
  rw [ez2] at ey2
  cases ey2
  obtain ⟨u0, eu0, -, hm0⟩ := mix_any (a := 4604930618986332160) (b := 4604930618986332160) (by decide) (by decide)
  have ev0 : double.add (clean 4604930618986332160) (clean 4604930618986332160) = some 4609434218613702656 := by kernel_rfl
  rw [ev0] at eu0
  cases eu0
  have ew0 : clean 4609434218613702656 = 4607182418800017408 := by kernel_rfl
  rw [ew0] at hm0
  obtain ⟨u1, eu1, -, hm1⟩ := mix_any (a := 9221120237041090561) (b := 13821547256400052224) (by decide) (by decide)
  have ev1 : double.add (clean 9221120237041090561) (clean 13821547256400052224) = some 13821547256400052224 := by kernel_rfl
  rw [ev1] at eu1
  cases eu1
  have ew1 : clean 13821547256400052224 = 13821547256400052224 := by kernel_rfl
  rw [ew1] at hm1
  obtain ⟨u2, eu2, -, hm2⟩ := mix_any (a := 4602678819172646912) (b := 13826050856027422720) (by decide) (by decide)
  have ev2 : double.add (clean 4602678819172646912) (clean 13826050856027422720) = some 0 := by kernel_rfl
  rw [ev2] at eu2
  cases eu2
  have ew2 : clean 0 = 0 := by kernel_rfl
  rw [ew2] at hm2
  clear hr
  have o0 : (FloatKind.f64.format.order 0 0 == some .eq) = true := by kernel_rfl
  have o1 : (FloatKind.f64.format.order 4607182418800017408 4607182418800017408 == some .eq) = true := by kernel_rfl
  have o2 : (FloatKind.f64.format.order 13830554455654793216 13830554455654793216 == some .eq) = true := by kernel_rfl
  have o3 : (FloatKind.f64.format.order 4599075939470750515 4599075939470750515 == some .eq) = true := by kernel_rfl
  have o4 : (FloatKind.f64.format.order 13821547256400052224 13821547256400052224 == some .eq) = true := by kernel_rfl
  have b0 : ∀ w : World, (callFunc 17 #[.float .f64 0]).run Try.prog w = .ok (.value (.int .u64 0)) w := fun w => run_bits 0 w
  go_enter Try.func3, Try.ntmps3
  go_wp2_with fail
  refine (negzero _).mono ?_; rintro e w' ⟨rfl, rfl⟩
  go_wp2_with fail
  refine (sknown_any _).mono ?_; rintro e w' ⟨rfl, rfl⟩
  go_wp2_with fail
  refine (clean_any _ _).mono ?_; rintro e w' ⟨rfl, rfl⟩
  rw [show clean 9223372036854775808 = 0 by kernel_rfl]
  go_wp2_with fail
  refine (mknan _).mono ?_; rintro e w' ⟨rfl, rfl⟩
  go_wp2_with fail
  refine (clean_any _ _).mono ?_; rintro e w' ⟨rfl, rfl⟩
  rw [show clean 9221120237041090561 = 0 by kernel_rfl]
  go_wp2_with fail
  refine (mkinf _ _).mono ?_; rintro e w' ⟨rfl, rfl⟩
  go_wp2_with fail
  refine (clean_any _ _).mono ?_; rintro e w' ⟨rfl, rfl⟩
  rw [show clean 9218868437227405312 = 4607182418800017408 by kernel_rfl]
  go_wp2_with fail
  refine (mkinf _ _).mono ?_; rintro e w' ⟨rfl, rfl⟩
  go_wp2_with fail
  refine (clean_any _ _).mono ?_; rintro e w' ⟨rfl, rfl⟩
  rw [show clean 18442240474082181120 = 13830554455654793216 by kernel_rfl]
  go_wp2_with fail
  refine (clean_any _ _).mono ?_; rintro e w' ⟨rfl, rfl⟩
  rw [show clean 4599075939470750515 = 4599075939470750515 by kernel_rfl]
  go_wp2_with fail
  refine (mkinf _ _).mono ?_; rintro e w' ⟨rfl, rfl⟩
  go_wp2_with fail
  refine (axis_closed (x := 18442240474082181120) (d := 4602678819172646912) (c := 13830554455654793216) (mx := 4602678819172646912) (n := 64) (g := true) (by decide) (by kernel_rfl) (fun w => by kernel_rfl) (by kernel_rfl) (by decide) (by decide) (fun w => amount_end (by kernel_rfl) (by kernel_rfl)) _).mono ?_; rintro e w' ⟨rfl, rfl⟩
  go_wp2_with fail
  refine (mknan _).mono ?_; rintro e w' ⟨rfl, rfl⟩
  go_wp2_with fail
  refine (axis_closed (x := 4611686018427387904) (d := 9221120237041090561) (c := 4607182418800017408) (mx := 0) (n := 64) (g := false) (by decide) (by kernel_rfl) (fun w => by kernel_rfl) (by kernel_rfl) (by decide) (by decide) (fun w => amount_end (by kernel_rfl) (by kernel_rfl)) _).mono ?_; rintro e w' ⟨rfl, rfl⟩
  go_wp2_with fail
  refine (axis_closed (x := 4593671619917905920) (d := 4593671619917905920) (c := 4593671619917905920) (mx := 4593671619917905920) (n := 0) (g := false) (by decide) (by kernel_rfl) (fun w => by kernel_rfl) (by kernel_rfl) (by decide) (by decide) (fun w => amount_zero (by kernel_rfl)) _).mono ?_; rintro e w' ⟨rfl, rfl⟩
  go_wp2_with fail
  refine (axis_closed (x := 13830554455654793216) (d := 4607182418800017408) (c := 13830554455654793216) (mx := 4607182418800017408) (n := 0) (g := true) (by decide) (by kernel_rfl) (fun w => by kernel_rfl) (by kernel_rfl) (by decide) (by decide) (fun w => amount_zero (by kernel_rfl)) _).mono ?_; rintro e w' ⟨rfl, rfl⟩
  go_wp2_with fail
  refine (axis_closed (x := 4607182418800017408) (d := 4617315517961601024) (c := 4607182418800017408) (mx := 4607182418800017408) (n := 0) (g := false) (by decide) (by kernel_rfl) (fun w => by kernel_rfl) (by kernel_rfl) (by decide) (by decide) (fun w => amount_zero (by kernel_rfl)) _).mono ?_; rintro e w' ⟨rfl, rfl⟩
  go_wp2_with fail
  refine (axis_closed (x := 4575657221408423936) (d := 0) (c := 4575657221408423936) (mx := 0) (n := 0) (g := false) (by decide) (by kernel_rfl) (fun w => by kernel_rfl) (by kernel_rfl) (by decide) (by decide) (fun w => amount_closed (n := 4575657221408423936) (m := 4607182418800017408) (q := 4575657221408423936) (t := 4602678819172646912) (z := 0) (by kernel_rfl) (by kernel_rfl) (by kernel_rfl) (by kernel_rfl) (by kernel_rfl) (by kernel_rfl) (by decide) (by unfold fin; decide) (by kernel_rfl) (by kernel_rfl)) _).mono ?_; rintro e w' ⟨rfl, rfl⟩
  go_wp2_with fail
  refine (axis_closed (x := 4582412620849479680) (d := 0) (c := 4582412620849479680) (mx := 0) (n := 2) (g := false) (by decide) (by kernel_rfl) (fun w => by kernel_rfl) (by kernel_rfl) (by decide) (by decide) (fun w => amount_closed (n := 4582412620849479680) (m := 4607182418800017408) (q := 4582412620849479680) (t := 4609434218613702656) (z := 4611686018427387904) (by kernel_rfl) (by kernel_rfl) (by kernel_rfl) (by kernel_rfl) (by kernel_rfl) (by kernel_rfl) (by decide) (by unfold fin; decide) (by kernel_rfl) (by kernel_rfl)) _).mono ?_; rintro e w' ⟨rfl, rfl⟩
  go_wp2_with fail
  refine (axis_closed (x := 4602678819172646912) (d := 13837309855095848960) (c := 4602678819172646912) (mx := 0) (n := 32) (g := false) (by decide) (by kernel_rfl) (fun w => by kernel_rfl) (by kernel_rfl) (by decide) (by decide) (fun w => amount_closed (n := 4602678819172646912) (m := 4607182418800017408) (q := 4602678819172646912) (t := 4629700416936869888) (z := 4629700416936869888) (by kernel_rfl) (by kernel_rfl) (by kernel_rfl) (by kernel_rfl) (by kernel_rfl) (by kernel_rfl) (by decide) (by unfold fin; decide) (by kernel_rfl) (by kernel_rfl)) _).mono ?_; rintro e w' ⟨rfl, rfl⟩
  go_wp2_with fail
  refine (hf0 _).mono ?_; rintro e w' ⟨rfl, rfl⟩
  go_wp2_with fail
  refine (hf1 _).mono ?_; rintro e w' ⟨rfl, rfl⟩
  go_wp2_with fail
  refine (hf2 _).mono ?_; rintro e w' ⟨rfl, rfl⟩
  go_wp2_with fail
  refine (hm0 _).mono ?_; rintro e w' ⟨rfl, rfl⟩
  go_wp2_with fail
  refine (mknan _).mono ?_; rintro e w' ⟨rfl, rfl⟩
  go_wp2_with fail
  refine (hm1 _).mono ?_; rintro e w' ⟨rfl, rfl⟩
  go_wp2_with fail
  refine (hm2 _).mono ?_; rintro e w' ⟨rfl, rfl⟩
  go_wp2_with fail
  go_ret
  exact ⟨rfl, Below.refl _ _⟩
end Go.Proofs.Ytiniaphleogkiaa.Sk
