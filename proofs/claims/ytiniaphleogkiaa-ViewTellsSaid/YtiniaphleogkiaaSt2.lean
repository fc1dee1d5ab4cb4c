import Derived.Test.YtiniaphleogkiaaSt
namespace Go.Proofs.Ytiniaphleogkiaa.Sk
open Go.RowKit Dt Go.Proofs.Ytiniaphleogkiaa.Hd Go.Proofs.Ytiniaphleogkiaa.Ma Ieee
set_option linter.unusedVariables false
set_option linter.unusedSimpArgs false

theorem axisV_bd (X D : Int) (h : X.natAbs ≤ S) : -64 ≤ axisV X D ∧ axisV X D ≤ 64 := by
  have := amt_le (A := X.natAbs) (D := max 0 D) (by omega) (by omega)
  unfold axisV; split <;> omega
theorem axis_any {x d : Nat} (hx : x < 18446744073709551616) (hd : d < 18446744073709551616) (w : World) :
    Calls Try.prog 21 #[.float .f64 x, .float .f64 d] w fun e w' => e = .returned (.int .i64 (axisV (cleanV x) (cleanV d))) ∧ w = w' := by
  have fx := clean_fl hx
  have fd := clean_fl hd
  have bx := cleanV_bd x
  have bd := cleanV_bd d
  obtain ⟨mx, fm, em⟩ := maxF (P := Try.prog) fl_zero fd #[22, 22] 22
  have ha := fun w => amount_any (w := w) fx.abs fm (by omega) (by omega) (by omega) (by omega)
  have hb := axisV_bd (cleanV x) (cleanV d) (by omega)
  have hlt := lt_fl fx fl_zero
  have HA := Lib.hid ha; have hcl := fx.lt
  obtain ⟨n, hn⟩ : ∃ n, amt (((cleanV x).natAbs : Nat) : Int) (max 0 (cleanV d)) = n := ⟨_, rfl⟩
  rw [hn] at HA
  have hv : axisV (cleanV x) (cleanV d) = if cleanV x < 0 then -(n : Int) else n := by unfold axisV; rw [hn]
  have hn64 : n ≤ 64 := by rw [← hn]; exact amt_le (by omega) (by omega)
  clear fx fd bx bd fm ha hb hn
  rw [hv]
  clear hv
  by_cases hneg : cleanV x < 0
  · rw [decide_eq_true hneg] at hlt
    rw [if_pos hneg]
    clear hneg
    go_enter Try.func21, Try.ntmps21
    go_wp2_with fail
    refine (clean_any _ _).mono ?_; rintro e w' ⟨rfl, rfl⟩
    go_wp2_with fail
    refine (abs_any _ hcl _).mono ?_; rintro e w' ⟨rfl, rfl⟩
    go_wp2_with fail
    refine (clean_any _ _).mono ?_; rintro e w' ⟨rfl, rfl⟩
    go_wp2_with fail
    refine (HA.out _).mono ?_; rintro e w' ⟨rfl, rfl⟩
    go_wp2_with fail
    go_ret
    exact ⟨rfl, rfl⟩
  · rw [decide_eq_false hneg] at hlt
    rw [if_neg hneg]
    clear hneg
    go_enter Try.func21, Try.ntmps21
    go_wp2_with fail
    refine (clean_any _ _).mono ?_; rintro e w' ⟨rfl, rfl⟩
    go_wp2_with fail
    refine (abs_any _ hcl _).mono ?_; rintro e w' ⟨rfl, rfl⟩
    go_wp2_with fail
    refine (clean_any _ _).mono ?_; rintro e w' ⟨rfl, rfl⟩
    go_wp2_with fail
    refine (HA.out _).mono ?_; rintro e w' ⟨rfl, rfl⟩
    go_wp2_with fail
    go_ret
    exact ⟨rfl, rfl⟩
theorem sixtyfourth : ∃ V : Nat, S = 64 * V ∧ ∀ m : Nat, m ≤ 1000000 → Rep ((m : Int) * V) := by
  obtain ⟨c, hc, hS⟩ := S_eq
  refine ⟨2 ^ (c - 6), ?_, fun m hm => ?_⟩
  · have : (64 : Nat) = 2 ^ 6 := rfl
    rw [hS, this, ← Nat.pow_add]; exact congrArg _ (by omega)
  · have := rep_pow (m := m) (k := c - 6) (by unfold B; omega) (by omega)
    rwa [Int.natCast_mul] at this
theorem div64 {V : Nat} (hV : S = 64 * V) (hr : ∀ m : Nat, m ≤ 1000000 → Rep ((m : Int) * V)) {n : Int} (h1 : -64 ≤ n) (h2 : n ≤ 64) : ∃ z, double.div (Go.floatOfInt .f64 n) 4634204016564240384 = some z ∧ Fl z (n * V) := by
  have h64 : Fl 4634204016564240384 ((64 * S : Nat) : Int) := by rw [Int.natCast_mul]; exact fl_64
  refine fdiv_exact (fint_exact (by omega) (by omega)) h64 (by have := S_pos; omega) (by rw [hV]; push_cast; ac_rfl) ?_
  rcases Int.le_total 0 n with h | h
  · have := hr n.toNat (by omega)
    rwa [Int.toNat_of_nonneg h] at this
  · have := (hr (-n).toNat (by omega)).neg
    rwa [Int.toNat_of_nonneg (by omega), Int.neg_mul, Int.neg_neg] at this
theorem sfloat_any {V : Nat} (hV : S = 64 * V) (hr : ∀ m : Nat, m ≤ 1000000 → Rep ((m : Int) * V)) {n c : Int} (hc : max (-64) (min n 64) = c) : ∃ z, double.div (Go.floatOfInt .f64 c) 4634204016564240384 = some z ∧ Fl z (c * V) ∧
    ∀ w, Calls Try.prog 22 #[.int .i64 n] w fun e w' => e = .returned (.float .f64 z) ∧ w = w' := by
  obtain ⟨z, e1, fz⟩ := div64 hV hr (n := c) (by omega) (by omega)
  refine ⟨z, e1, fz, fun w => ?_⟩
  have n1 : ∀ w : World, (binOp .quo 22 (.float .f64 (Go.floatOfInt .f64 c)) (.float .f64 4634204016564240384)).run Try.prog w = .ok (.float .f64 z) w := run_fl .quo _ e1
  have HC := Lib.hid hc
  clear e1 fz hr
  by_cases h1 : 64 < n
  · have h2 : c = 64 := by have := HC.out; omega
    have m1 : (if 64 < n then (64 : Int) else n) = 64 := if_pos h1
    subst h2
    go_enter Try.func22, Try.ntmps22
    go_wp2_with fail
    go_ret
    exact ⟨rfl, rfl⟩
  · by_cases h3 : n ≤ -64
    · have h2 : c = -64 := by have := HC.out; omega
      have m1 : (if 64 < n then (64 : Int) else n) = n := if_neg h1
      have m2 : (if -64 < n then n else (-64 : Int)) = -64 := if_neg (by omega)
      subst h2
      go_enter Try.func22, Try.ntmps22
      go_wp2_with fail
      go_ret
      exact ⟨rfl, rfl⟩
    · have h2 : c = n := by have := HC.out; omega
      have m1 : (if 64 < n then (64 : Int) else n) = n := if_neg h1
      subst h2
      go_enter Try.func22, Try.ntmps22
      have m2 : (if -64 < c then c else (-64 : Int)) = c := if_pos (by omega)
      go_wp2_with fail
      go_ret
      exact ⟨rfl, rfl⟩
theorem mix_any {a b : Nat} (ha : a < 18446744073709551616) (hb : b < 18446744073709551616) : ∃ z, double.add (clean a) (clean b) = some z ∧ Fl z (rnd (cleanV a + cleanV b) 1) ∧
    ∀ w, Calls Try.prog 23 #[.float .f64 a, .float .f64 b] w fun e w' => e = .returned (.float .f64 (clean z)) ∧ w = w' := by
  have fa := clean_fl ha
  have fb := clean_fl hb
  have ba := cleanV_bd a
  have bb := cleanV_bd b
  have r2 : Rep (2 * (S : Int)) := fl_two.rep
  have hrp := rnd_rep_le (E := cleanV a + cleanV b) (v := 2 * (S : Int)) (D := 1) (by decide) r2 (by omega) (by omega)
  obtain ⟨z, e1, fz⟩ := fadd fa fb (rnd_is _ (by decide)) hrp.lt
  refine ⟨z, e1, fz, fun w => ?_⟩
  have n1 : ∀ w : World, (binOp .add 22 (.float .f64 (clean a)) (.float .f64 (clean b))).run Try.prog w = .ok (.float .f64 z) w := run_fl .add _ e1
  clear fa fb ba bb r2 hrp e1 fz
  go_enter Try.func23, Try.ntmps23
  go_wp2_with fail
  refine (clean_any _ _).mono ?_; rintro e w' ⟨rfl, rfl⟩
  go_wp2_with fail
  refine (clean_any _ _).mono ?_; rintro e w' ⟨rfl, rfl⟩
  go_wp2_with fail
  refine (clean_any _ _).mono ?_; rintro e w' ⟨rfl, rfl⟩
  go_wp2_with fail
  go_ret
  exact ⟨rfl, rfl⟩
end Go.Proofs.Ytiniaphleogkiaa.Sk
