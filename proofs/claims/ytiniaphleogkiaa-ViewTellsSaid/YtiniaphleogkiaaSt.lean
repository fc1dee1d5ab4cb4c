/- The stick's functions. -/
import Derived.Test.YtiniaphleogkiaaMth
import Derived.Test.YtiniaphleogkiaaStP
import Derived.Test.YtiniaphleogkiaaFpI
namespace Go.Proofs.Ytiniaphleogkiaa.Sk
open Go.RowKit Dt Go.Proofs.Ytiniaphleogkiaa.Hd Go.Proofs.Ytiniaphleogkiaa.Ma Ieee
set_option linter.unusedVariables false
set_option linter.unusedSimpArgs false

theorem clean_any (x : Nat) (w : World) : Calls Try.prog 18 #[.float .f64 x] w fun e w' => e = .returned (.float .f64 (clean x)) ∧ w = w' := by
  obtain ⟨c, hc⟩ : ∃ c, clean x = c := ⟨_, rfl⟩
  rw [hc]
  unfold clean at hc
  change (if (FloatKind.f64.format.order x x != some .eq) || (FloatKind.f64.format.order x 0 == some .eq) then 0 else if FloatKind.f64.format.order x 4607182418800017408 == some .gt then 4607182418800017408 else if FloatKind.f64.format.order x 13830554455654793216 == some .lt then 13830554455654793216 else x) = c at hc
  cases c1 : (FloatKind.f64.format.order x x != some .eq) <;> cases c2 : (FloatKind.f64.format.order x 0 == some .eq) <;> cases c3 : (FloatKind.f64.format.order x 4607182418800017408 == some .gt) <;> cases c4 : (FloatKind.f64.format.order x 13830554455654793216 == some .lt)
  all_goals
    rw [c1, c2, c3, c4] at hc
    simp at hc
    subst hc
    go_enter Try.func18, Try.ntmps18
    go_wp2_with fail
    refine (nan_any _ _).mono ?_; rintro e w' ⟨rfl, rfl⟩
    rw [c1]
    go_wp2_with fail
    go_ret
    exact ⟨rfl, rfl⟩
theorem run_even {x m : Nat} {s : Bool} {p : Int} (hr : double.read x = .number s m p) (w : World) : (callFunc 45 #[.float .f64 x]).run Try.prog w = .ok (.value (.float .f64 (double.write ((double.read x).integral .even)))) w := by
  rw [run_callFunc_extern (e := Extern.MathFloor.toIntegral "math.RoundToEven" .even) Try.func45 (by kernel_rfl) (by kernel_rfl) (by kernel_rfl) (by kernel_rfl) _ _]
  have hd : FloatKind.f64.decode x = .number s m p := hr
  have he : Extern.MathFloor.toIntegral "math.RoundToEven" .even #[.float .f64 x] = pure (.float .f64 (double.write ((double.read x).integral .even))) := by
    show (match FloatKind.f64.decode x with
      | .nan s t => _
      | d => _) = _
    rw [hd, hr]
    rfl
  rw [he]
  rfl
/-- the walk of amount, its floats by letters -/
theorem amount_walk {w : World} {a d n m q t z : Nat} {R : Int} (h1 : (FloatKind.f64.format.order a d == some .lt || FloatKind.f64.format.order a d == some .eq) = false) (h2 : (FloatKind.f64.format.order a 4607182418800017408 == some .eq) = false)
    (e1 : double.sub a d = some n) (e2 : double.sub 4607182418800017408 d = some m) (e3 : double.div n m = some q) (e4 : double.mul q 4634204016564240384 = some t)
    (ez : ∀ w, (callFunc 45 #[.float .f64 t]).run Try.prog w = .ok (.value (.float .f64 z)) w) (e7 : floatToIntVal .f64 z .i64 = some R) :
    Calls Try.prog 42 #[.float .f64 a, .float .f64 d] w fun e w' => e = .returned (.int .i64 R) ∧ w = w' := by
  have q1 : ∀ w : World, (binOp .sub 22 (.float .f64 a) (.float .f64 d)).run Try.prog w = .ok (.float .f64 n) w := run_fl .sub _ e1
  have q2 : ∀ w : World, (binOp .sub 22 (.float .f64 4607182418800017408) (.float .f64 d)).run Try.prog w = .ok (.float .f64 m) w := run_fl .sub _ e2
  have q3 : ∀ w : World, (binOp .quo 22 (.float .f64 n) (.float .f64 m)).run Try.prog w = .ok (.float .f64 q) w := run_fl .quo _ e3
  have q4 : ∀ w : World, (binOp .mul 22 (.float .f64 q) (.float .f64 4634204016564240384)).run Try.prog w = .ok (.float .f64 t) w := run_fl .mul _ e4
  have q7 : ∀ w, (convert 22 3 (.float .f64 z)).run Try.prog w = .ok (.int .i64 R) w := fun w => run_convert_float_int w 22 3 .f64 .i64 z R (by rw [Try.underlying22]; rfl) Try.underlying3 e7
  clear e1 e2 e3 e4 e7
  go_enter Try.func42, Try.ntmps42
  go_wp2_with fail
  go_ret
  exact ⟨rfl, rfl⟩
theorem amount_zero {w : World} {a d : Nat} (h1 : (FloatKind.f64.format.order a d == some .lt || FloatKind.f64.format.order a d == some .eq) = true) :
    Calls Try.prog 42 #[.float .f64 a, .float .f64 d] w fun e w' => e = .returned (.int .i64 0) ∧ w = w' := by
  go_enter Try.func42, Try.ntmps42
  go_wp2_with fail
  go_ret
  exact ⟨rfl, rfl⟩
theorem amount_end {w : World} {a d : Nat} (h1 : (FloatKind.f64.format.order a d == some .lt || FloatKind.f64.format.order a d == some .eq) = false) (h2 : (FloatKind.f64.format.order a 4607182418800017408 == some .eq) = true) :
    Calls Try.prog 42 #[.float .f64 a, .float .f64 d] w fun e w' => e = .returned (.int .i64 64) ∧ w = w' := by
  go_enter Try.func42, Try.ntmps42
  go_wp2_with fail
  go_ret
  exact ⟨rfl, rfl⟩
/-- floats held against each other, by values -/
theorem leq_fl {x y : Nat} {X Y : Int} (hx : Fl x X) (hy : Fl y Y) : (FloatKind.f64.format.order x y == some .lt || FloatKind.f64.format.order x y == some .eq) = decide (X ≤ Y) := by
  have o1 : FloatKind.f64.format.order x y = some (compare X Y) := forder hx hy
  rw [o1]
  rcases Int.lt_trichotomy X Y with h | h | h
  · rw [Int.compare_eq_lt.2 h, decide_eq_true (by omega)]; rfl
  · rw [Int.compare_eq_eq.2 h, decide_eq_true (by omega)]; rfl
  · rw [Int.compare_eq_gt.2 h, decide_eq_false (by omega)]; rfl
theorem eq_fl {x y : Nat} {X Y : Int} (hx : Fl x X) (hy : Fl y Y) : (FloatKind.f64.format.order x y == some .eq) = decide (X = Y) := by
  have o1 : FloatKind.f64.format.order x y = some (compare X Y) := forder hx hy
  rw [o1]
  rcases Int.lt_trichotomy X Y with h | h | h
  · rw [Int.compare_eq_lt.2 h, decide_eq_false (by omega)]; rfl
  · rw [Int.compare_eq_eq.2 h, decide_eq_true (by omega)]; rfl
  · rw [Int.compare_eq_gt.2 h, decide_eq_false (by omega)]; rfl
theorem lt_fl {x y : Nat} {X Y : Int} (hx : Fl x X) (hy : Fl y Y) : (FloatKind.f64.format.order x y == some .lt) = decide (X < Y) := by
  have o1 : FloatKind.f64.format.order x y = some (compare X Y) := forder hx hy
  rw [o1]
  rcases Int.lt_trichotomy X Y with h | h | h
  · rw [Int.compare_eq_lt.2 h, decide_eq_true (by omega)]; rfl
  · rw [Int.compare_eq_eq.2 h, decide_eq_false (by omega)]; rfl
  · rw [Int.compare_eq_gt.2 h, decide_eq_false (by omega)]; rfl
theorem gt_fl {x y : Nat} {X Y : Int} (hx : Fl x X) (hy : Fl y Y) : (FloatKind.f64.format.order x y == some .gt) = decide (Y < X) := by
  have o1 : FloatKind.f64.format.order x y = some (compare X Y) := forder hx hy
  rw [o1]
  rcases Int.lt_trichotomy X Y with h | h | h
  · rw [Int.compare_eq_lt.2 h, decide_eq_false (by omega)]; rfl
  · rw [Int.compare_eq_eq.2 h, decide_eq_false (by omega)]; rfl
  · rw [Int.compare_eq_gt.2 h, decide_eq_true (by omega)]; rfl
theorem fl_64 : Fl 4634204016564240384 (64 * S) := by
  have h := fint_exact (n := 64) (by decide) (by decide)
  have e : Go.floatOfInt .f64 64 = 4634204016564240384 := by kernel_rfl
  rwa [e] at h
theorem amount_any {w : World} {a d : Nat} {A D : Int} (fa : Fl a A) (fd : Fl d D) (a0 : 0 ≤ A) (a1 : A ≤ S) (d0 : 0 ≤ D) (d1 : D ≤ S) :
    Calls Try.prog 42 #[.float .f64 a, .float .f64 d] w fun e w' => e = .returned (.int .i64 (amt A D)) ∧ w = w' := by
  have hl := leq_fl fa fd
  have he := eq_fl fa fl_one'
  by_cases h1 : A ≤ D
  · rw [decide_eq_true h1] at hl
    have : amt A D = 0 := by unfold amt; rw [if_pos h1]
    rw [this]
    exact amount_zero hl
  · rw [decide_eq_false h1] at hl
    by_cases h2 : A = S
    · rw [decide_eq_true h2] at he
      have : amt A D = 64 := by unfold amt; rw [if_neg h1, if_pos h2]
      rw [this]
      exact amount_end hl he
    · rw [decide_eq_false h2] at he
      obtain ⟨⟨n1, n2⟩, ⟨m1, m2⟩, ⟨s0, s1⟩, t0, t1⟩ := amt_parts d0 (show D < A by omega) a1
      have hR : amt A D = evenK (rnd (share A D * 64) 1).natAbs S := by unfold amt; rw [if_neg h1, if_neg h2]
      rw [hR]
      obtain ⟨n, e1, fn⟩ := fsub fa fd (rnd_is _ (by decide)) (rnd_rep (v := (S : Int)) (by decide) rep_S' (by omega)).lt
      obtain ⟨m, e2, fm⟩ := fsub fl_one' fd (rnd_is _ (by decide)) (rnd_rep (v := (S : Int)) (by decide) rep_S' (by omega)).lt
      have fm' : Fl m (((rnd (S - D) 1).natAbs : Nat) : Int) := by rwa [show (((rnd (S - D) 1).natAbs : Nat) : Int) = rnd (S - D) 1 by omega]
      obtain ⟨q, e3, fq⟩ := fdiv (V := share A D) fn fm' (by omega) (rnd_is _ (by omega)) (by have := (rep_S').lt; omega)
      have hs : isS (share A D * (64 * S)) S (rnd (share A D * 64) 1) := by
        have h1 := rnd_is (share A D * 64 * S) S_pos
        have e0 := rnd_scale (E := share A D * 64) (D := 1) (by decide) S_pos
        rw [Nat.one_mul] at e0
        rw [e0] at h1
        rwa [← Int.mul_assoc]
      obtain ⟨t, e4, ft⟩ := fmul fq fl_64 hs (rnd_rep (v := 64 * (S : Int)) (by decide) rep_64 (by omega)).lt
      obtain ⟨z, ez, fz, hK⟩ := even_fl ft t0 (by omega)
      obtain ⟨mm, p, hr, -⟩ := read_fin ft.fin
      have e7 := tointZ (K := evenK (rnd (share A D * 64) 1).natAbs S) (by rw [Int.natCast_mul]; exact fz) hK
      exact amount_walk hl he e1 e2 e3 e4 (fun w => by rw [run_even hr w, ez]) e7
end Go.Proofs.Ytiniaphleogkiaa.Sk
