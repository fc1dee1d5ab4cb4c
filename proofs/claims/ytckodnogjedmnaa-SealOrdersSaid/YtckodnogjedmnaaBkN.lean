/- bucket.New. -/
import Derived.Test.YtckodnogjedmnaaFlW
import Derived.Test.YtckodnogjedmnaaFr
namespace Go.Proofs.Ytckodnogjedmnaa.FlW
open Go.RowKit Dt Go.Proofs.Ytckodnogjedmnaa.Hd Ieee
set_option linter.unusedVariables false
set_option linter.unusedSimpArgs false
attribute [local go_sem] run_store_float

theorem odd_any (x : Nat) (hx : x < 18446744073709551616) (w : World) : Calls Try.prog 51 #[.float .f64 x] w fun e w' => e = .returned (.bool ((FloatKind.f64.format.order x x != some .eq) || infB x)) ∧ w = w' := by
  cases h : (FloatKind.f64.format.order x x != some .eq)
  all_goals
    have hn := nan_any x
    have hi := inf_any x hx
    rw [h] at hn
    go_enter Try.func51, Try.ntmps51
    go_wp2_with fail
    refine (hn _).mono ?_; rintro e w' ⟨rfl, rfl⟩
    go_wp2_with fail
    first
      | (refine (hi _).mono ?_; rintro e w' ⟨rfl, rfl⟩
         go_wp2_with fail
         go_ret
         exact ⟨by simp, rfl⟩)
      | (go_ret; exact ⟨rfl, rfl⟩)
/-- a rate, a depth, as they may be -/
def rateB (x : Nat) : Bool := decide (x < 18446744073709551616) && !(FloatKind.f64.format.order x x != some .eq) && !infB x && !(FloatKind.f64.format.order x 0 == some .lt)
def depthB (x : Nat) : Bool := decide (x < 18446744073709551616) && !(FloatKind.f64.format.order x x != some .eq) && !infB x && !(FloatKind.f64.format.order x 4607182418800017408 == some .lt) && !(FloatKind.f64.format.order x 4652007308841189376 == some .gt)
theorem bnew_any {r d : Nat} (hr : rateB r = true) (hd : depthB d = true) (w : World) : Calls Try.prog 48 #[.float .f64 r, .float .f64 d] w fun e w' => e = .returned (.tuple #[.pointer (some ⟨w.heap.size, 0, none⟩), .int .i64 0]) ∧ Blk w' w.heap.size #[.float .f64 r, .float .f64 d, .float .f64 d, .int .i64 0] 96 ∧ Fr [] w w' := by
  unfold rateB at hr
  unfold depthB at hd
  simp only [Bool.and_eq_true, Bool.not_eq_true', decide_eq_true_eq] at hr hd
  obtain ⟨⟨⟨r1, r2⟩, r3⟩, r4⟩ := hr
  obtain ⟨⟨⟨⟨d1, d2⟩, d3⟩, d4⟩, d5⟩ := hd
  have h1 := odd_any r r1
  have h2 := odd_any d d1
  rw [r2, r3] at h1
  rw [d2, d3] at h2
  simp only [Bool.or_self] at h1 h2
  have H1 := Lib.hid h1; have H2 := Lib.hid h2
  clear h1 h2 r2 r3 d2 d3
  go_enter Try.func48, Try.ntmps48
  go_wp2_with fail
  refine (H1.out _).mono ?_; rintro e w' ⟨rfl, rfl⟩
  go_wp2_with fail
  refine (H2.out _).mono ?_; rintro e w' ⟨rfl, rfl⟩
  go_wp2_with fail
  go_ret2
  exact ⟨rfl, Blk.new w _ _, (Fr.refl [] w).alloc _⟩
theorem rate_tab : ∀ k, k < 9 → ∃ z, double.div (Go.floatOfInt .f64 ((k : Nat) : Int)) 4616189618054758400 = some z ∧ rateB z = true := by
  have h : ∀ k, k < 9 → ((double.div (Go.floatOfInt .f64 ((k : Nat) : Int)) 4616189618054758400).map rateB) = some true := by decide +kernel
  intro k hk
  have := h k hk
  cases e : double.div (Go.floatOfInt .f64 ((k : Nat) : Int)) 4616189618054758400 with
  | none => rw [e] at this; cases this
  | some z => rw [e] at this; exact ⟨z, rfl, by simpa using this⟩
theorem depth_tab : ∀ k, k < 40 → ∃ y z, double.div (Go.floatOfInt .f64 ((k : Nat) : Int)) 4611686018427387904 = some y ∧ double.add 4607182418800017408 y = some z ∧ depthB z = true := by
  have h : ∀ k, k < 40 → (((double.div (Go.floatOfInt .f64 ((k : Nat) : Int)) 4611686018427387904).bind (double.add 4607182418800017408)).map depthB) = some true := by decide +kernel
  intro k hk
  have := h k hk
  cases e : double.div (Go.floatOfInt .f64 ((k : Nat) : Int)) 4611686018427387904 with
  | none => rw [e] at this; cases this
  | some y =>
    rw [e] at this
    cases e2 : double.add 4607182418800017408 y with
    | none => rw [Option.bind_some, e2] at this; cases this
    | some z => rw [Option.bind_some, e2] at this; exact ⟨y, z, rfl, e2, by simpa using this⟩
theorem rate_3 : rateB 4613937818241073152 = true := by decide +kernel
theorem depth_50 : depthB 4632233691727265792 = true := by decide +kernel
end Go.Proofs.Ytckodnogjedmnaa.FlW
