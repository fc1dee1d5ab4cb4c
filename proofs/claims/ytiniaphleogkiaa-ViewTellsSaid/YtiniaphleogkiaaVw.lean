import Derived.Test.YtiniaphleogkiaaMth
import Derived.Test.YtiniaphleogkiaaVwP
namespace Go.Proofs.Ytiniaphleogkiaa.Vw
open Go.RowKit Dt Go.Proofs.Ytiniaphleogkiaa.Hd Go.Proofs.Ytiniaphleogkiaa.Ma Ieee
set_option linter.unusedVariables false
set_option linter.unusedSimpArgs false

theorem sign_wrap (x : Nat) (hx : x < 18446744073709551616) : decide (wrap64 (x : Int) < 0) = ng x := by
  have hw : wrap64 (x : Int) = if x < 9223372036854775808 then (x : Int) else (x : Int) - 18446744073709551616 := by
    unfold wrap64; split <;> omega
  rw [hw]
  unfold ng
  by_cases h : x < 9223372036854775808
  · rw [if_pos h, Nat.div_eq_of_lt h, decide_eq_false (by omega)]; rfl
  · rw [if_neg h, decide_eq_true (by omega)]
    have : x / 9223372036854775808 = 1 := by omega
    rw [this]; rfl
theorem sign_any (x : Nat) (hx : x < 18446744073709551616) (w : World) : Calls Try.prog 49 #[.float .f64 x] w fun e w' => e = .returned (.bool (ng x)) ∧ w = w' := by
  have hb := run_bits x
  have ha := sign_wrap x hx
  cases hn : ng x
  all_goals
    rw [hn] at ha
    go_enter Try.func49, Try.ntmps49
    go_wp2_with fail
    go_ret
    exact ⟨rfl, rfl⟩
theorem sooner_any (a b : Nat) (ha : a < 18446744073709551616) (hb : b < 18446744073709551616) (w : World) : Calls Try.prog 34 #[.float .f64 a, .float .f64 b] w fun e w' => e = .returned (.bool (soonB a b)) ∧ w = w' := by
  obtain ⟨s, hs⟩ : ∃ s, soonB a b = s := ⟨_, rfl⟩
  rw [hs]
  unfold soonB nanB at hs
  change (if FloatKind.f64.format.order a a != some .eq then !(FloatKind.f64.format.order b b != some .eq) else if (FloatKind.f64.format.order a 0 == some .eq) && (FloatKind.f64.format.order b 0 == some .eq) then !ng a && ng b else FloatKind.f64.format.order a b == some .gt) = s at hs
  cases c1 : (FloatKind.f64.format.order a a != some .eq)
  · cases c2 : (FloatKind.f64.format.order a 0 == some .eq)
    · rw [c1, c2] at hs
      simp only [Bool.false_and, Bool.false_eq_true, if_false] at hs
      go_enter Try.func34, Try.ntmps34
      go_wp2_with fail
      refine (nan_any _ _).mono ?_; rintro e w' ⟨rfl, rfl⟩
      rw [c1]
      go_wp2_with fail
      go_ret
      exact ⟨rfl, rfl⟩
    · cases c3 : (FloatKind.f64.format.order b 0 == some .eq)
      · rw [c1, c2, c3] at hs
        simp only [Bool.and_false, Bool.false_eq_true, if_false] at hs
        go_enter Try.func34, Try.ntmps34
        go_wp2_with fail
        refine (nan_any _ _).mono ?_; rintro e w' ⟨rfl, rfl⟩
        rw [c1]
        go_wp2_with fail
        go_ret
        exact ⟨rfl, rfl⟩
      · rw [c1, c2, c3] at hs
        simp only [Bool.true_and, Bool.false_eq_true, if_false, if_true] at hs
        cases n1 : ng a
        · rw [n1] at hs
          go_enter Try.func34, Try.ntmps34
          go_wp2_with fail
          refine (nan_any _ _).mono ?_; rintro e w' ⟨rfl, rfl⟩
          rw [c1]
          go_wp2_with fail
          refine (sign_any _ ha _).mono ?_; rintro e w' ⟨rfl, rfl⟩
          rw [n1]
          go_wp2_with fail
          refine (sign_any _ hb _).mono ?_; rintro e w' ⟨rfl, rfl⟩
          go_wp2_with fail
          go_ret
          exact ⟨by rw [← hs]; rfl, rfl⟩
        · rw [n1] at hs
          go_enter Try.func34, Try.ntmps34
          go_wp2_with fail
          refine (nan_any _ _).mono ?_; rintro e w' ⟨rfl, rfl⟩
          rw [c1]
          go_wp2_with fail
          refine (sign_any _ ha _).mono ?_; rintro e w' ⟨rfl, rfl⟩
          rw [n1]
          go_wp2_with fail
          go_ret
          exact ⟨by rw [← hs]; rfl, rfl⟩
  · rw [c1] at hs
    simp only [if_true] at hs
    go_enter Try.func34, Try.ntmps34
    go_wp2_with fail
    refine (nan_any _ _).mono ?_; rintro e w' ⟨rfl, rfl⟩
    rw [c1]
    go_wp2_with fail
    refine (nan_any _ _).mono ?_; rintro e w' ⟨rfl, rfl⟩
    go_wp2_with fail
    go_ret
    exact ⟨by rw [← hs]; rfl, rfl⟩
theorem soonB_nan {a b : Nat} (h : nanB b = true) : soonB a b = false := by
  rw [nanB_eq] at h
  have hb : ¬ num b := by simpa using h
  unfold soonB
  rw [eq_zero_nan hb, nanB_eq b, decide_eq_false hb]
  unfold num at hb
  have o : double.order a b = none := order_nan_r (by omega) a
  rw [o]
  simp
theorem rsooner_any (a b : Nat) (ha : a < 18446744073709551616) (hb : b < 18446744073709551616) (w : World) : Calls Try.prog 37 #[.float .f64 a, .float .f64 b] w fun e w' => e = .returned (.bool (soonB a b)) ∧ w = w' := by
  cases c0 : nanB b
  case true =>
    rw [soonB_nan c0]
    unfold nanB at c0
    change (FloatKind.f64.format.order b b != some .eq) = true at c0
    go_enter Try.func37, Try.ntmps37
    go_wp2_with fail
    go_ret
    exact ⟨rfl, rfl⟩
  obtain ⟨s, hs⟩ : ∃ s, soonB a b = s := ⟨_, rfl⟩
  rw [hs]
  unfold soonB at hs
  rw [c0] at hs
  unfold nanB at hs c0
  change (FloatKind.f64.format.order b b != some .eq) = false at c0
  change (if FloatKind.f64.format.order a a != some .eq then !false else if (FloatKind.f64.format.order a 0 == some .eq) && (FloatKind.f64.format.order b 0 == some .eq) then !ng a && ng b else FloatKind.f64.format.order a b == some .gt) = s at hs
  cases c1 : (FloatKind.f64.format.order a a != some .eq)
  · cases c2 : (FloatKind.f64.format.order a 0 == some .eq)
    · rw [c1, c2] at hs
      simp only [Bool.false_and, Bool.false_eq_true, if_false] at hs
      go_enter Try.func37, Try.ntmps37
      go_wp2_with fail
      go_ret
      exact ⟨rfl, rfl⟩
    · cases c3 : (FloatKind.f64.format.order b 0 == some .eq)
      · rw [c1, c2, c3] at hs
        simp only [Bool.and_false, Bool.false_eq_true, if_false] at hs
        go_enter Try.func37, Try.ntmps37
        go_wp2_with fail
        go_ret
        exact ⟨rfl, rfl⟩
      · rw [c1, c2, c3] at hs
        simp only [Bool.true_and, Bool.false_eq_true, if_false, if_true] at hs
        cases n1 : ng a
        · rw [n1] at hs
          go_enter Try.func37, Try.ntmps37
          go_wp2_with fail
          refine (sign_any _ ha _).mono ?_; rintro e w' ⟨rfl, rfl⟩
          rw [n1]
          go_wp2_with fail
          refine (sign_any _ hb _).mono ?_; rintro e w' ⟨rfl, rfl⟩
          go_wp2_with fail
          go_ret
          exact ⟨by rw [← hs]; rfl, rfl⟩
        · rw [n1] at hs
          go_enter Try.func37, Try.ntmps37
          go_wp2_with fail
          refine (sign_any _ ha _).mono ?_; rintro e w' ⟨rfl, rfl⟩
          rw [n1]
          go_wp2_with fail
          go_ret
          exact ⟨by rw [← hs]; rfl, rfl⟩
  · rw [c1] at hs
    simp only [if_true] at hs
    go_enter Try.func37, Try.ntmps37
    go_wp2_with fail
    go_ret
    exact ⟨by rw [← hs]; rfl, rfl⟩
end Go.Proofs.Ytiniaphleogkiaa.Vw
