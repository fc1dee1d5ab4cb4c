import Derived.Test.YtiniaphleogkiaaSt2
import Derived.Test.YtiniaphleogkiaaStL
namespace Go.Proofs.Ytiniaphleogkiaa.Sk
open Go.RowKit Dt Go.Proofs.Ytiniaphleogkiaa.Hd Go.Proofs.Ytiniaphleogkiaa.Ma Ieee
set_option linter.unusedVariables false
set_option linter.unusedSimpArgs false

theorem run_negf (P : Program) (w : World) (b : Nat) : (Op.unary .neg (.float .f64 b)).run P w = .ok (.float .f64 (Op.negFloat .f64 b)) w := rfl
attribute [local go_sem] run_negf
theorem wf64 {x : Nat} (h : (Lit.float .f64 x).wf = true) : x < 18446744073709551616 := by
  simpa [Lit.wf] using h
theorem geq_fl {x y : Nat} {X Y : Int} (hx : Fl x X) (hy : Fl y Y) : (FloatKind.f64.format.order x y == some .gt || FloatKind.f64.format.order x y == some .eq) = decide (Y ≤ X) := by
  have o1 : FloatKind.f64.format.order x y = some (compare X Y) := forder hx hy
  rw [o1]
  rcases Int.lt_trichotomy X Y with h | h | h
  · rw [Int.compare_eq_lt.2 h, decide_eq_false (by omega)]; rfl
  · rw [Int.compare_eq_eq.2 h, decide_eq_true (by omega)]; rfl
  · rw [Int.compare_eq_gt.2 h, decide_eq_true (by omega)]; rfl
theorem neq_fl {x y : Nat} {X Y : Int} (hx : Fl x X) (hy : Fl y Y) : (FloatKind.f64.format.order x y != some .eq) = decide (X ≠ Y) := by
  have o1 : FloatKind.f64.format.order x y = some (compare X Y) := forder hx hy
  rw [o1]
  rcases Int.lt_trichotomy X Y with h | h | h
  · rw [Int.compare_eq_lt.2 h, decide_eq_true (by omega)]; rfl
  · rw [Int.compare_eq_eq.2 h, decide_eq_false (by omega)]; rfl
  · rw [Int.compare_eq_gt.2 h, decide_eq_true (by omega)]; rfl
/-- a word that is so many 64ths -/
theorem word64 {V : Nat} (hV : S = 64 * V) (hr : ∀ m : Nat, m ≤ 1000000 → Rep ((m : Int) * V)) {n : Int} {z : Nat} (h1 : -64 ≤ n) (h2 : n ≤ 64) (e : double.div (Go.floatOfInt .f64 n) 4634204016564240384 = some z) : Fl z (n * V) := by
  obtain ⟨z', e', f⟩ := div64 hV hr h1 h2
  rw [e'] at e
  cases e
  exact f
theorem cleanV_in {z : Nat} {X : Int} (h : Fl z X) (h1 : -(S : Int) ≤ X) (h2 : X ≤ S) : cleanV z = X := by rw [cleanV_fl h]; omega
theorem cleanV_word {V : Nat} (hV : S = 64 * V) (hr : ∀ m : Nat, m ≤ 1000000 → Rep ((m : Int) * V)) {n : Int} {z : Nat} (h1 : -64 ≤ n) (h2 : n ≤ 64) (e : double.div (Go.floatOfInt .f64 n) 4634204016564240384 = some z) : cleanV z = n * V := by
  refine cleanV_in (word64 hV hr h1 h2 e) ?_ ?_
  · have : (-64 : Int) * V ≤ n * V := Int.mul_le_mul_of_nonneg_right h1 (by omega)
    omega
  · have : n * (V : Int) ≤ 64 * V := Int.mul_le_mul_of_nonneg_right h2 (by omega)
    omega
theorem cleanV_zero : cleanV 0 = 0 := cleanV_in fl_zero (by omega) (by omega)
theorem cleanV_nan {x : Nat} (h : infR < rg x) : cleanV x = 0 := by unfold cleanV; rw [if_neg (by omega)]
theorem axis_zero (D : Int) : axisV 0 D = 0 := by
  unfold axisV
  rw [if_neg (by omega)]
  have : amt (((0 : Int).natAbs : Nat) : Int) (max 0 D) = 0 := by unfold amt; rw [if_pos (by simp; omega)]
  rw [this]; rfl
/-- the example of the chapter -/
theorem sknown_any (w : World) : Calls Try.prog 16 #[] w fun e w' => e = .returned (.bool true) ∧ w = w' := by
  obtain ⟨V, hV, hr⟩ := sixtyfourth
  have h1 := axis_any (x := 4602678819172646912) (d := 0) (by decide) (by decide)
  rw [cleanV_word hV hr (n := 32) (by decide) (by decide) (by kernel_rfl), cleanV_zero, axisV_step hV hr (by decide) (by decide)] at h1
  have h2 := axis_any (x := 9221120237041090561) (d := 0) (by decide) (by decide)
  rw [cleanV_nan (by decide), axis_zero] at h2
  obtain ⟨z, e, fz, hf⟩ := sfloat_any hV hr (n := -32) (c := -32) (by decide)
  have e' : double.div (Go.floatOfInt .f64 (-32)) 4634204016564240384 = some 13826050856027422720 := by kernel_rfl
  rw [e'] at e
  cases e
  have o : (FloatKind.f64.format.order 13826050856027422720 13826050856027422720 == some .eq) = true := by kernel_rfl
  clear hr fz e'
  go_enter Try.func16, Try.ntmps16
  go_wp2_with fail
  refine (h1 _).mono ?_; rintro e w' ⟨rfl, rfl⟩
  go_wp2_with fail
  refine (mknan _).mono ?_; rintro e w' ⟨rfl, rfl⟩
  go_wp2_with fail
  refine (h2 _).mono ?_; rintro e w' ⟨rfl, rfl⟩
  go_wp2_with fail
  refine (hf _).mono ?_; rintro e w' ⟨rfl, rfl⟩
  go_wp2_with fail
  go_ret
  exact ⟨rfl, rfl⟩

theorem half_step {V : Nat} (hV : S = 64 * V) : ∃ U : Nat, V = 2 * U ∧ Rep (U : Int) ∧ Fl 4575657221408423936 (U : Int) ∧ Fl 13799029258263199744 (-(U : Int)) := by
  obtain ⟨c, hc, hS⟩ := S_eq
  obtain ⟨U, hU⟩ : ∃ U, U = 2 ^ (c - 7) := ⟨_, rfl⟩
  have hSU : S = 128 * U := by
    have : (128 : Nat) = 2 ^ 7 := rfl
    rw [hS, hU, this, ← Nat.pow_add]; exact congrArg _ (by omega)
  have rU : Rep (U : Int) := by
    have := rep_pow (m := 1) (k := c - 7) (by decide) (by omega)
    rwa [Nat.one_mul, ← hU] at this
  have h128 : Fl 4638707616191610880 ((128 * S : Nat) : Int) := by rw [Int.natCast_mul]; exact fl_128
  obtain ⟨z, e, f⟩ := fdiv_exact (V := (U : Int)) (fint_exact (n := 1) (by decide) (by decide)) h128 (by have := S_pos; omega) (by rw [hSU]; push_cast; ac_rfl) rU
  have e' : double.div (Go.floatOfInt .f64 1) 4638707616191610880 = some 4575657221408423936 := by kernel_rfl
  rw [e'] at e
  cases e
  have h := f.neg
  have e2 : Go.Op.negFloat .f64 4575657221408423936 = 13799029258263199744 := by decide
  rw [e2] at h
  exact ⟨U, by omega, rU, f, h⟩
theorem walk_sround (b0 : Int) (x0 : Nat) (W : World) (h0 : (Lit.int .i64 b0).wf = true) (h1 : (Lit.float .f64 x0).wf = true) :
    Calls Try.prog 5 #[.int .i64 b0, .float .f64 x0] W fun e w' => e = .returned (.bool true) ∧ Below W.heap.size W w' := by
  have hx := wf64 h1
  clear h0 h1
  obtain ⟨V, hV, hr⟩ := sixtyfourth
  have HV := Lib.hid hV; have HR := Lib.hid hr
  clear hV hr
  go_enter Try.func5, Try.ntmps5
  go_wp2_with fail
  refine (sknown_any _).mono ?_; rintro e w' ⟨rfl, rfl⟩
  go_wp2_with fail
  refine (float_any _ _ hx _).mono ?_; rintro e w' ⟨y, hy, rfl, rfl⟩
  go_wp2_with fail
  refine (clean_any _ _).mono ?_; rintro e w' ⟨rfl, rfl⟩
  have fp := clean_fl hy
  have bp := cleanV_bd y
  have hax := fun w => axis_any (x := clean y) (d := 0) fp.lt (by decide) w
  rw [cleanV_clean hy, cleanV_zero] at hax
  have hbd := axisV_bd (cleanV y) 0 (by omega)
  obtain ⟨n1, n2⟩ := axis_near HV.out fp.rep bp.1 bp.2
  obtain ⟨z, -, fz, hf⟩ := sfloat_any HV.out HR.out (n := axisV (cleanV y) 0) (c := axisV (cleanV y) 0) (by omega)
  generalize axisV (cleanV y) 0 = n at *
  generalize clean y = p at *
  generalize cleanV y = P at *
  generalize hnV : n * (V : Int) = N at *
  -- the difference is within V / 2
  obtain ⟨U, hU, rU, fU, fU'⟩ := half_step HV.out
  have hb := rnd_abs_le (D := 1) (E := N - P) (by decide) rU (by omega) (by omega)
  obtain ⟨dd, e1, fd⟩ := fsub fz fp (rnd_is _ (by decide)) (rnd_rep_le (D := 1) (E := N - P) (by decide) rU (by omega) (by omega)).lt
  have q1 : ∀ w : World, (binOp .sub 22 (.float .f64 z) (.float .f64 p)).run Try.prog w = .ok (.float .f64 dd) w := run_fl .sub _ e1
  have o1 := leq_fl fd fU
  have o2 := geq_fl fd fU'
  rw [decide_eq_true (by omega)] at o1 o2
  clear e1 fd fU fU' hb fz n1 n2 fp bp hnV
  go_wp2_with fail
  refine (hax _).mono ?_; rintro e w' ⟨rfl, rfl⟩
  go_wp2_with fail
  refine (hf _).mono ?_; rintro e w' ⟨rfl, rfl⟩
  go_wp2_with fail
  go_ret
  exact ⟨rfl, Below.refl _ _⟩

set_option maxHeartbeats 1600000 in
theorem walk_sdead (b0 b1 : Int) (x0 x1 : Nat) (W : World) (h0 : (Lit.int .i64 b0).wf = true) (h1 : (Lit.int .i64 b1).wf = true) (h2 : (Lit.float .f64 x0).wf = true) (h3 : (Lit.float .f64 x1).wf = true) :
    Calls Try.prog 4 #[.int .i64 b0, .int .i64 b1, .float .f64 x0, .float .f64 x1] W fun e w' => e = .returned (.bool true) ∧ Below W.heap.size W w' := by
  have hx := wf64 h2
  have hy := wf64 h3
  clear h0 h1 h2 h3
  go_enter Try.func4, Try.ntmps4
  go_wp2_with fail
  refine (sknown_any _).mono ?_; rintro e w' ⟨rfl, rfl⟩
  go_wp2_with fail
  refine (float_any _ _ hx _).mono ?_; rintro e w' ⟨u, hu, rfl, rfl⟩
  go_wp2_with fail
  refine (clean_any _ _).mono ?_; rintro e w' ⟨rfl, rfl⟩
  go_wp2_with fail
  refine (float_any _ _ hy _).mono ?_; rintro e w' ⟨v, hv, rfl, rfl⟩
  go_wp2_with fail
  refine (clean_any _ _).mono ?_; rintro e w' ⟨rfl, rfl⟩
  have fp := clean_fl hu
  have fd := clean_fl hv
  have bp := cleanV_bd u
  have bd := cleanV_bd v
  have lt := lt_fl fd fl_zero
  -- the zone that is taken
  obtain ⟨d, D, hd, fd', D0, D1, hcs⟩ : ∃ (d : Nat) (D : Int), D = max 0 (cleanV v) ∧ Fl d D ∧ 0 ≤ D ∧ D ≤ S ∧ ((cleanV v < 0 ∧ d = 0) ∨ (¬ cleanV v < 0 ∧ d = clean v)) := by
    by_cases h : cleanV v < 0
    · exact ⟨0, 0, by omega, fl_zero, by omega, by omega, .inl ⟨h, rfl⟩⟩
    · exact ⟨clean v, cleanV v, by omega, fd, by omega, by omega, .inr ⟨h, rfl⟩⟩
  have hax := fun w => axis_any (x := clean u) (d := d) fp.lt fd'.lt w
  rw [cleanV_clean hu, cleanV_in fd' (by omega) D1] at hax
  obtain ⟨n, hn⟩ : ∃ n, axisV (cleanV u) D = n := ⟨_, rfl⟩
  rw [hn] at hax
  have l1 := leq_fl fp fd'
  have l2 := geq_fl fp fd'.neg
  have l7 := eq_fl fp fd'
  have l8 := lt_fl fp fd'
  have l3 := neq_fl fp fl_one'
  have l4 := neq_fl fp fl_none'
  have l5 := gt_fl fp fl_zero
  have l6 := lt_fl fp fl_zero
  generalize clean u = p at *
  generalize cleanV u = P at *
  have hz : -D ≤ P → P ≤ D → n = 0 := fun h1 h2 => by
    rw [← hn]
    unfold axisV
    have : amt ((P.natAbs : Nat) : Int) (max 0 D) = 0 := by unfold amt; rw [if_pos (by omega)]
    rw [this]; split <;> rfl
  have hS1 : D < S → amt (S : Int) D = 64 := fun h => by unfold amt; rw [if_neg (by omega), if_pos rfl]
  have hP1 : P = S → ¬ P ≤ D → n = 64 := fun h1 h2 => by
    rw [← hn, h1]
    unfold axisV
    rw [if_neg (by omega), show max 0 D = D by omega, Int.natAbs_natCast, hS1 (by omega)]; rfl
  have hP2 : P = -S → ¬ -D ≤ P → n = -64 := fun h1 h2 => by
    rw [← hn, h1]
    unfold axisV
    rw [if_pos (by omega), show max 0 D = D by omega, Int.natAbs_neg, Int.natAbs_natCast, hS1 (by omega)]; rfl
  have hP3 : 0 ≤ P → 0 ≤ n := fun h1 => by rw [← hn]; unfold axisV; rw [if_neg (by omega)]; omega
  have hP4 : P < 0 → n ≤ 0 := fun h1 => by rw [← hn]; unfold axisV; rw [if_pos h1]; omega
  have HAX := Lib.hid hax
  clear hax hn fp fd fd'
  have hsplit : (-D ≤ P ∧ P ≤ D) ∨ (P < 0 ∧ ¬ -D ≤ P) ∨ (0 < P ∧ ¬ P ≤ D) := by omega
  have HZ := Lib.hid hz; have HP1 := Lib.hid hP1; have HP2 := Lib.hid hP2; have HP3 := Lib.hid hP3; have HP4 := Lib.hid hP4
  clear hz hP1 hP2 hP3 hP4 hS1
  rcases hcs with ⟨c0, rfl⟩ | ⟨c0, rfl⟩
  all_goals
    first | rw [decide_eq_true c0] at lt | rw [decide_eq_false c0] at lt
    clear c0 hd
    rcases hsplit with ⟨s1, s2⟩ | ⟨s1, s2⟩ | ⟨s1, s2⟩
    · have hn := HZ.out s1 s2
      rw [decide_eq_true s2] at l1
      rw [decide_eq_true s1] at l2
      clear HP1 HP2 HP3 HP4 HZ l7 l8 l3 l4 l5 l6 s1 s2 D0 D1 bp bd
      subst hn
      go_wp2_with fail
      refine (HAX.out _).mono ?_; rintro e w' ⟨rfl, rfl⟩
      go_wp2_with fail
      go_ret
      exact ⟨rfl, Below.refl _ _⟩
    · have hn := HP4.out s1
      rw [decide_eq_true (by omega)] at l1
      rw [decide_eq_false s2] at l2
      rw [decide_eq_true (by omega)] at l3 l6
      rw [decide_eq_false (by omega)] at l5
      have hdn : decide (n ≤ 0) = true := decide_eq_true hn
      by_cases hP : P = -S
      · rw [decide_eq_false (by omega)] at l4
        have hn2 := HP2.out hP s2
        clear HP1 HP2 HP3 HP4 HZ l7 l8 s1 s2 D0 D1 bp bd hP hn
        subst hn2
        go_wp2_with fail
        refine (HAX.out _).mono ?_; rintro e w' ⟨rfl, rfl⟩
        go_wp2_with fail
        go_ret
        exact ⟨rfl, Below.refl _ _⟩
      · rw [decide_eq_true hP] at l4
        clear HP1 HP2 HP3 HP4 HZ l7 l8 s1 s2 D0 D1 bp bd hP
        go_wp2_with fail
        refine (HAX.out _).mono ?_; rintro e w' ⟨rfl, rfl⟩
        go_wp2_with fail
        go_ret
        exact ⟨rfl, Below.refl _ _⟩
    · have hn := HP3.out (by omega)
      rw [decide_eq_false s2] at l1
      rw [decide_eq_false (by omega)] at l7 l8
      rw [decide_eq_true (by omega)] at l4 l5
      rw [decide_eq_false (by omega)] at l6
      have hdn : decide (0 ≤ n) = true := decide_eq_true hn
      by_cases hP : P = S
      · rw [decide_eq_false (by omega)] at l3
        have hn2 := HP1.out hP s2
        clear HP1 HP2 HP3 HP4 HZ s1 s2 D0 D1 bp bd hP hn l2
        subst hn2
        go_wp2_with fail
        refine (HAX.out _).mono ?_; rintro e w' ⟨rfl, rfl⟩
        go_wp2_with fail
        go_ret
        exact ⟨rfl, Below.refl _ _⟩
      · rw [decide_eq_true hP] at l3
        clear HP1 HP2 HP3 HP4 HZ s1 s2 D0 D1 bp bd hP l2
        go_wp2_with fail
        refine (HAX.out _).mono ?_; rintro e w' ⟨rfl, rfl⟩
        go_wp2_with fail
        go_ret
        exact ⟨rfl, Below.refl _ _⟩
end Go.Proofs.Ytiniaphleogkiaa.Sk
