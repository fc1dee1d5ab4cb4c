import Derived.Test.YtiniaphleogkiaaSt4
namespace Go.Proofs.Ytiniaphleogkiaa.Sk
open Go.RowKit Dt Go.Proofs.Ytiniaphleogkiaa.Hd Go.Proofs.Ytiniaphleogkiaa.Ma Ieee
set_option linter.unusedVariables false
set_option linter.unusedSimpArgs false
attribute [local go_sem] run_negf

theorem rclean_any (x : Nat) (w : World) : Calls Try.prog 25 #[.float .f64 x] w fun e w' => e = .returned (.float .f64 (clean x)) ∧ w = w' := by
  obtain ⟨c, hc⟩ : ∃ c, clean x = c := ⟨_, rfl⟩
  rw [hc]
  unfold clean at hc
  change (if (FloatKind.f64.format.order x x != some .eq) || (FloatKind.f64.format.order x 0 == some .eq) then 0 else if FloatKind.f64.format.order x 4607182418800017408 == some .gt then 4607182418800017408 else if FloatKind.f64.format.order x 13830554455654793216 == some .lt then 13830554455654793216 else x) = c at hc
  cases c1 : (FloatKind.f64.format.order x x != some .eq) <;> cases c2 : (FloatKind.f64.format.order x 0 == some .eq) <;> cases c3 : (FloatKind.f64.format.order x 4607182418800017408 == some .gt) <;> cases c4 : (FloatKind.f64.format.order x 13830554455654793216 == some .lt)
  all_goals
    rw [c1, c2, c3, c4] at hc
    simp at hc
    subst hc
    go_enter Try.func25, Try.ntmps25
    go_wp2_with fail
    go_ret
    exact ⟨rfl, rfl⟩
theorem rmix_any {a b z : Nat} (e1 : double.add (clean a) (clean b) = some z) (w : World) : Calls Try.prog 27 #[.float .f64 a, .float .f64 b] w fun e w' => e = .returned (.float .f64 (clean z)) ∧ w = w' := by
  have n1 : ∀ w : World, (binOp .add 22 (.float .f64 (clean a)) (.float .f64 (clean b))).run Try.prog w = .ok (.float .f64 z) w := run_fl .add _ e1
  go_enter Try.func27, Try.ntmps27
  go_wp2_with fail
  refine (rclean_any _ _).mono ?_; rintro e w' ⟨rfl, rfl⟩
  go_wp2_with fail
  refine (rclean_any _ _).mono ?_; rintro e w' ⟨rfl, rfl⟩
  go_wp2_with fail
  refine (rclean_any _ _).mono ?_; rintro e w' ⟨rfl, rfl⟩
  go_wp2_with fail
  go_ret
  exact ⟨rfl, rfl⟩
theorem rfloat_any {n c : Int} {z : Nat} (hc : max (-64) (min n 64) = c) (e1 : double.div (Go.floatOfInt .f64 c) 4634204016564240384 = some z) (w : World) :
    Calls Try.prog 28 #[.int .i64 n] w fun e w' => e = .returned (.float .f64 z) ∧ w = w' := by
  have n1 : ∀ w : World, (binOp .quo 22 (.float .f64 (Go.floatOfInt .f64 c)) (.float .f64 4634204016564240384)).run Try.prog w = .ok (.float .f64 z) w := run_fl .quo _ e1
  have HC := Lib.hid hc
  clear e1
  by_cases h1 : 64 ≤ n
  · have h2 : c = 64 := by have := HC.out; omega
    have m1 : (if n < 64 then n else (64 : Int)) = 64 := if_neg (by omega)
    subst h2
    go_enter Try.func28, Try.ntmps28
    go_wp2_with fail
    go_ret
    exact ⟨rfl, rfl⟩
  · have m1 : (if n < 64 then n else (64 : Int)) = n := if_pos (by omega)
    by_cases h3 : n ≤ -64
    · have h2 : c = -64 := by have := HC.out; omega
      have m2 : (if -64 < n then n else (-64 : Int)) = -64 := if_neg (by omega)
      subst h2
      go_enter Try.func28, Try.ntmps28
      go_wp2_with fail
      go_ret
      exact ⟨rfl, rfl⟩
    · have h2 : c = n := by have := HC.out; omega
      subst h2
      go_enter Try.func28, Try.ntmps28
      have m2 : (if -64 < c then c else (-64 : Int)) = c := if_pos (by omega)
      go_wp2_with fail
      go_ret
      exact ⟨rfl, rfl⟩
/-- the walk of the reference's Axis, by letters: a: the cleaned number without its sign; s: the sign -/
theorem raxis_walk {x d mx a : Nat} {s R : Int} {g : Bool} (em : ∀ w, (Builtin.max_ #[22, 22] 22 #[.float .f64 0, .float .f64 (clean d)]).run Try.prog w = .ok (.float .f64 mx) w)
    (hg : (FloatKind.f64.format.order (clean x) 0 == some .lt) = g) (ha : g = true ∧ Op.negFloat .f64 (clean x) = a ∧ s = -1 ∨ g = false ∧ clean x = a ∧ s = 1)
    (hr : (FloatKind.f64.format.order a mx == some .lt || FloatKind.f64.format.order a mx == some .eq) = true ∧ R = 0 ∨
      (FloatKind.f64.format.order a mx == some .lt || FloatKind.f64.format.order a mx == some .eq) = false ∧ (FloatKind.f64.format.order a 4607182418800017408 == some .eq) = true ∧ R = 64 ∨
      (FloatKind.f64.format.order a mx == some .lt || FloatKind.f64.format.order a mx == some .eq) = false ∧ (FloatKind.f64.format.order a 4607182418800017408 == some .eq) = false ∧ 0 ≤ R ∧ R ≤ 64 ∧
        ∃ n m q t z, double.sub a mx = some n ∧ double.sub 4607182418800017408 mx = some m ∧ double.div n m = some q ∧ double.mul q 4634204016564240384 = some t ∧
          (∀ w, (callFunc 45 #[.float .f64 t]).run Try.prog w = .ok (.value (.float .f64 z)) w) ∧ floatToIntVal .f64 z .i64 = some R) (w : World) :
    Calls Try.prog 26 #[.float .f64 x, .float .f64 d] w fun e w' => e = .returned (.int .i64 (s * R)) ∧ w = w' := by
  rcases hr with ⟨r1, rfl⟩ | ⟨r1, r2, rfl⟩ | ⟨r1, r2, R0, R1, n, m, q, t, z, e1, e2, e3, e4, ez, e7⟩
  · rcases ha with ⟨rfl, h1, rfl⟩ | ⟨rfl, rfl, rfl⟩
    all_goals
      go_enter Try.func26, Try.ntmps26
      go_wp2_with fail
      refine (rclean_any _ _).mono ?_; rintro e w' ⟨rfl, rfl⟩
      go_wp2_with fail
      refine (rclean_any _ _).mono ?_; rintro e w' ⟨rfl, rfl⟩
      go_wp2_with fail
      go_ret
      exact ⟨rfl, rfl⟩
  · rcases ha with ⟨rfl, h1, rfl⟩ | ⟨rfl, rfl, rfl⟩
    all_goals
      go_enter Try.func26, Try.ntmps26
      go_wp2_with fail
      refine (rclean_any _ _).mono ?_; rintro e w' ⟨rfl, rfl⟩
      go_wp2_with fail
      refine (rclean_any _ _).mono ?_; rintro e w' ⟨rfl, rfl⟩
      go_wp2_with fail
      go_ret
      exact ⟨rfl, rfl⟩
  · have q1 : ∀ w : World, (binOp .sub 22 (.float .f64 a) (.float .f64 mx)).run Try.prog w = .ok (.float .f64 n) w := run_fl .sub _ e1
    have q2 : ∀ w : World, (binOp .sub 22 (.float .f64 4607182418800017408) (.float .f64 mx)).run Try.prog w = .ok (.float .f64 m) w := run_fl .sub _ e2
    have q3 : ∀ w : World, (binOp .quo 22 (.float .f64 n) (.float .f64 m)).run Try.prog w = .ok (.float .f64 q) w := run_fl .quo _ e3
    have q4 : ∀ w : World, (binOp .mul 22 (.float .f64 q) (.float .f64 4634204016564240384)).run Try.prog w = .ok (.float .f64 t) w := run_fl .mul _ e4
    have q7 : ∀ w, (convert 22 3 (.float .f64 z)).run Try.prog w = .ok (.int .i64 R) w := fun w => run_convert_float_int w 22 3 .f64 .i64 z R (by rw [Try.underlying22]; rfl) Try.underlying3 e7
    clear e1 e2 e3 e4 e7
    rcases ha with ⟨rfl, h1, rfl⟩ | ⟨rfl, rfl, rfl⟩
    all_goals
      go_enter Try.func26, Try.ntmps26
      go_wp2_with fail
      refine (rclean_any _ _).mono ?_; rintro e w' ⟨rfl, rfl⟩
      go_wp2_with fail
      refine (rclean_any _ _).mono ?_; rintro e w' ⟨rfl, rfl⟩
      go_wp2_with fail
      go_ret
      refine ⟨?_, rfl⟩
      simp
theorem amt_words {a d : Nat} {A D : Int} (fa : Fl a A) (fd : Fl d D) (a0 : 0 ≤ A) (a1 : A ≤ S) (d0 : 0 ≤ D) (d1 : D ≤ S) :
    (FloatKind.f64.format.order a d == some .lt || FloatKind.f64.format.order a d == some .eq) = true ∧ (amt A D : Int) = 0 ∨
      (FloatKind.f64.format.order a d == some .lt || FloatKind.f64.format.order a d == some .eq) = false ∧ (FloatKind.f64.format.order a 4607182418800017408 == some .eq) = true ∧ (amt A D : Int) = 64 ∨
      (FloatKind.f64.format.order a d == some .lt || FloatKind.f64.format.order a d == some .eq) = false ∧ (FloatKind.f64.format.order a 4607182418800017408 == some .eq) = false ∧ 0 ≤ (amt A D : Int) ∧ (amt A D : Int) ≤ 64 ∧
        ∃ n m q t z, double.sub a d = some n ∧ double.sub 4607182418800017408 d = some m ∧ double.div n m = some q ∧ double.mul q 4634204016564240384 = some t ∧
          (∀ w, (callFunc 45 #[.float .f64 t]).run Try.prog w = .ok (.value (.float .f64 z)) w) ∧ floatToIntVal .f64 z .i64 = some (amt A D : Int) := by
  have hl := leq_fl fa fd
  have he := eq_fl fa fl_one'
  by_cases h1 : A ≤ D
  · rw [decide_eq_true h1] at hl
    have : amt A D = 0 := by unfold amt; rw [if_pos h1]
    exact .inl ⟨hl, by rw [this]; rfl⟩
  · rw [decide_eq_false h1] at hl
    by_cases h2 : A = S
    · rw [decide_eq_true h2] at he
      have : amt A D = 64 := by unfold amt; rw [if_neg h1, if_pos h2]
      exact .inr (.inl ⟨hl, he, by rw [this]; rfl⟩)
    · rw [decide_eq_false h2] at he
      obtain ⟨⟨n1, n2⟩, ⟨m1, m2⟩, ⟨s0, s1⟩, t0, t1⟩ := amt_parts d0 (show D < A by omega) a1
      have hle := amt_le (A := A) (D := D) d0 a1
      have hR : amt A D = evenK (rnd (share A D * 64) 1).natAbs S := by unfold amt; rw [if_neg h1, if_neg h2]
      obtain ⟨n, e1, fn⟩ := fsub fa fd (rnd_is _ (by decide)) (rnd_rep (v := (S : Int)) (by decide) rep_S' (by omega)).lt
      obtain ⟨m, e2, fm⟩ := fsub fl_one' fd (rnd_is _ (by decide)) (rnd_rep (v := (S : Int)) (by decide) rep_S' (by omega)).lt
      have fm' : Fl m (((rnd (S - D) 1).natAbs : Nat) : Int) := by rwa [show (((rnd (S - D) 1).natAbs : Nat) : Int) = rnd (S - D) 1 by omega]
      obtain ⟨q, e3, fq⟩ := fdiv (V := share A D) fn fm' (by omega) (rnd_is _ (by omega)) (by have := (rep_S').lt; omega)
      have hs : isS (share A D * (64 * S)) S (rnd (share A D * 64) 1) := by
        have h1 := rnd_is (share A D * 64 * S) S_pos
        have e0 := rnd_scale (E := share A D * 64) (D := 1) (by decide) S_pos
        rw [Nat.one_mul] at e0
        rw [e0] at h1
        rwa [← Int.mul_assoc]
      obtain ⟨t, e4, ft⟩ := fmul fq fl_64 hs (rnd_rep (v := 64 * (S : Int)) (by decide) rep_64 (by omega)).lt
      obtain ⟨z, ez, fz, hK⟩ := even_fl ft t0 (by omega)
      obtain ⟨mm, p, hr, -⟩ := read_fin ft.fin
      have e7 := tointZ (K := evenK (rnd (share A D * 64) 1).natAbs S) (by rw [Int.natCast_mul]; exact fz) hK
      rw [← hR] at e7
      exact .inr (.inr ⟨hl, he, by omega, by omega, n, m, q, t, z, e1, e2, e3, e4, fun w => by rw [run_even hr w, ez], e7⟩)
theorem raxis_any {x d : Nat} (hx : x < 18446744073709551616) (hd : d < 18446744073709551616) (w : World) :
    Calls Try.prog 26 #[.float .f64 x, .float .f64 d] w fun e w' => e = .returned (.int .i64 (axisV (cleanV x) (cleanV d))) ∧ w = w' := by
  have fx := clean_fl hx
  have fd := clean_fl hd
  have bx := cleanV_bd x
  have bd := cleanV_bd d
  obtain ⟨mx, fm, em⟩ := maxF (P := Try.prog) fl_zero fd #[22, 22] 22
  have hlt := lt_fl fx fl_zero
  by_cases hneg : cleanV x < 0
  · rw [decide_eq_true hneg] at hlt
    have fa := fx.neg
    have hw := amt_words fa fm (by omega) (by omega) (by omega) (by omega)
    have hv : axisV (cleanV x) (cleanV d) = -1 * (amt (-cleanV x) (max 0 (cleanV d)) : Int) := by
      unfold axisV
      rw [if_pos hneg, show (((cleanV x).natAbs : Nat) : Int) = -cleanV x by omega]; omega
    rw [hv]
    exact raxis_walk em hlt (.inl ⟨rfl, rfl, rfl⟩) hw w
  · rw [decide_eq_false hneg] at hlt
    have hw := amt_words fx fm (by omega) (by omega) (by omega) (by omega)
    have hv : axisV (cleanV x) (cleanV d) = 1 * (amt (cleanV x) (max 0 (cleanV d)) : Int) := by
      unfold axisV
      rw [if_neg hneg, show (((cleanV x).natAbs : Nat) : Int) = cleanV x by omega]; omega
    rw [hv]
    exact raxis_walk em hlt (.inr ⟨rfl, rfl, rfl⟩) hw w
set_option maxHeartbeats 1600000 in
theorem walk_stells (b0 b1 : Int) (x0 x1 : Nat) (b2 : Int) (W : World) (h0 : (Lit.int .i64 b0).wf = true) (h1 : (Lit.int .i64 b1).wf = true) (h2 : (Lit.float .f64 x0).wf = true) (h3 : (Lit.float .f64 x1).wf = true) (h4 : (Lit.int .i64 b2).wf = true) :
    Calls Try.prog 6 #[.int .i64 b0, .int .i64 b1, .float .f64 x0, .float .f64 x1, .int .i64 b2] W fun e w' => e = .returned (.bool true) ∧ Below W.heap.size W w' := by
  have hx := wf64 h2
  have hy := wf64 h3
  clear h0 h1 h2 h3 h4
  obtain ⟨V, hV, hr⟩ := sixtyfourth
  obtain ⟨c, hc⟩ : ∃ c : Int, max (-64) (min b2 64) = c := ⟨_, rfl⟩
  obtain ⟨zf, ef, fzf, hzf⟩ := sfloat_any hV hr hc
  have hrf := rfloat_any hc ef
  have HZF := Lib.hid hzf; have HRF := Lib.hid hrf
  clear hV hr hc fzf hzf hrf ef
  go_enter Try.func6, Try.ntmps6
  go_wp2_with fail
  refine (float_any _ _ hx _).mono ?_; rintro e w' ⟨p, hp, rfl, rfl⟩
  go_wp2_with fail
  refine (float_any _ _ hy _).mono ?_; rintro e w' ⟨q, hq, rfl, rfl⟩
  have a1 := axis_any hp hq
  have a2 := raxis_any hp hq
  obtain ⟨z1, e1, f1, m1⟩ := mix_any hp hq
  have m2 := rmix_any e1
  generalize axisV (cleanV p) (cleanV q) = i at *
  have b1 := run_bits (clean p)
  have b2 := run_bits (clean z1)
  have b3 := run_bits zf
  have A1 := Lib.hid a1; have A2 := Lib.hid a2; have M1 := Lib.hid m1; have M2 := Lib.hid m2
  clear a1 a2 m1 m2 e1 f1
  go_wp2_with fail
  refine (sknown_any _).mono ?_; rintro e w' ⟨rfl, rfl⟩
  go_wp2_with fail
  refine (clean_any _ _).mono ?_; rintro e w' ⟨rfl, rfl⟩
  go_wp2_with fail
  refine (rclean_any _ _).mono ?_; rintro e w' ⟨rfl, rfl⟩
  go_wp2_with fail
  refine (A1.out _).mono ?_; rintro e w' ⟨rfl, rfl⟩
  go_wp2_with fail
  refine (A2.out _).mono ?_; rintro e w' ⟨rfl, rfl⟩
  go_wp2_with fail
  refine (M1.out _).mono ?_; rintro e w' ⟨rfl, rfl⟩
  go_wp2_with fail
  refine (M2.out _).mono ?_; rintro e w' ⟨rfl, rfl⟩
  go_wp2_with fail
  refine (HZF.out _).mono ?_; rintro e w' ⟨rfl, rfl⟩
  go_wp2_with fail
  refine (HRF.out _).mono ?_; rintro e w' ⟨rfl, rfl⟩
  go_wp2_with fail
  go_ret
  exact ⟨rfl, Below.refl _ _⟩
end Go.Proofs.Ytiniaphleogkiaa.Sk
