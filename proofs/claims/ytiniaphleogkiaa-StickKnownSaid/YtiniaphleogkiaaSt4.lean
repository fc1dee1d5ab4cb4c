import Derived.Test.YtiniaphleogkiaaSt3
namespace Go.Proofs.Ytiniaphleogkiaa.Sk
open Go.RowKit Dt Go.Proofs.Ytiniaphleogkiaa.Hd Go.Proofs.Ytiniaphleogkiaa.Ma Ieee
set_option linter.unusedVariables false
set_option linter.unusedSimpArgs false
attribute [local go_sem] run_negf

theorem sq_le {k : Int} (h1 : -64 ≤ k) (h2 : k ≤ 64) : 0 ≤ k * k ∧ k * k ≤ 4096 := by
  rcases Int.le_total 0 k with h | h
  · exact ⟨Int.mul_nonneg h h, Int.le_trans (Int.mul_le_mul_of_nonneg_left h2 h) (by omega)⟩
  · have e : k * k = (-k) * (-k) := by rw [Int.neg_mul_neg]
    rw [e]
    exact ⟨Int.mul_nonneg (by omega) (by omega), Int.le_trans (Int.mul_le_mul_of_nonneg_left (show -k ≤ 64 by omega) (by omega)) (by omega)⟩
theorem axis_sides {P D Q : Int} (h1 : -(S : Int) ≤ P) (h2 : P ≤ S) : 0 ≤ axisV P D * axisV P Q ∧ axisV P Q * axisV P Q ≤ 4096 ∧ 0 ≤ axisV P Q * axisV P Q ∧ axisV P D * axisV P Q ≤ 4096 := by
  have hb := axisV_bd P Q (by omega)
  have hb2 := axisV_bd P D (by omega)
  have hc : (0 ≤ axisV P D ∧ 0 ≤ axisV P Q) ∨ (axisV P D ≤ 0 ∧ axisV P Q ≤ 0) := by
    unfold axisV
    by_cases h : P < 0
    · rw [if_pos h, if_pos h]; omega
    · rw [if_neg h, if_neg h]; omega
  generalize axisV P Q = k at *
  generalize axisV P D = m at *
  have a := sq_le hb.1 hb.2
  have b := sq_le hb2.1 hb2.2
  have hm : 0 ≤ m * k := by
    rcases hc with ⟨a, b⟩ | ⟨a, b⟩
    · exact Int.mul_nonneg a b
    · exact Int.mul_nonneg_of_nonpos_of_nonpos a b
  have hd : 0 ≤ (m - k) * (m - k) := by
    rcases Int.le_total 0 (m - k) with h | h
    · exact Int.mul_nonneg h h
    · exact Int.mul_nonneg_of_nonpos_of_nonpos h h
  rw [Int.sub_mul, Int.mul_sub, Int.mul_sub, Int.mul_comm k m] at hd
  omega

set_option maxHeartbeats 1600000 in
theorem walk_ssides (b0 b1 b2 : Int) (x0 x1 x2 : Nat) (b3 : Int) (W : World) (h0 : (Lit.int .i64 b0).wf = true) (h1 : (Lit.int .i64 b1).wf = true) (h2 : (Lit.int .i64 b2).wf = true) (h3 : (Lit.float .f64 x0).wf = true) (h4 : (Lit.float .f64 x1).wf = true) (h5 : (Lit.float .f64 x2).wf = true) (h6 : (Lit.int .i64 b3).wf = true) :
    Calls Try.prog 7 #[.int .i64 b0, .int .i64 b1, .int .i64 b2, .float .f64 x0, .float .f64 x1, .float .f64 x2, .int .i64 b3] W fun e w' => e = .returned (.bool true) ∧ Below W.heap.size W w' := by
  have hx := wf64 h3
  have hy := wf64 h4
  have hz := wf64 h5
  clear h0 h1 h2 h3 h4 h5 h6
  obtain ⟨V, hV, hr⟩ := sixtyfourth
  obtain ⟨c, hc⟩ : ∃ c : Int, b3 % 129 - 64 = c := ⟨_, rfl⟩
  have hcb : -64 ≤ c ∧ c ≤ 64 := by omega
  obtain ⟨zf, -, fzf, hzf⟩ := sfloat_any hV hr (n := c) (c := c) (by omega)
  have hvz : cleanV zf = c * V := by
    refine cleanV_in fzf ?_ ?_
    · have : (-64 : Int) * V ≤ c * V := Int.mul_le_mul_of_nonneg_right hcb.1 (by omega)
      omega
    · have : c * (V : Int) ≤ 64 * V := Int.mul_le_mul_of_nonneg_right hcb.2 (by omega)
      omega
  have hback := fun w => axis_any (x := zf) (d := 0) fzf.lt (by decide) w
  rw [hvz, cleanV_zero, axisV_step hV hr hcb.1 hcb.2] at hback
  have HC := Lib.hid hc; have HZF := Lib.hid hzf; have HBK := Lib.hid hback
  clear hV hr hc fzf hzf hvz hback
  go_enter Try.func7, Try.ntmps7
  go_wp2_with fail
  refine (float_any _ _ hx _).mono ?_; rintro e w' ⟨p, hp, rfl, rfl⟩
  go_wp2_with fail
  refine (float_any _ _ hy _).mono ?_; rintro e w' ⟨q, hq, rfl, rfl⟩
  go_wp2_with fail
  refine (float_any _ _ hz _).mono ?_; rintro e w' ⟨d, hd, rfl, rfl⟩
  have bp := cleanV_bd p
  have bq := cleanV_bd q
  have a1 := fun w => axis_any hp hd w
  have a2 := fun w => axis_any hq hd w
  have a3 := fun w => axis_any (x := Op.negFloat .f64 p) (negf p hp).2.2 hd w
  rw [cleanV_neg hp, axisV_neg] at a3
  have a4 := fun w => axis_any hp hq w
  have a5 := fun w => axis_any hp (d := 0) (by decide) w
  rw [cleanV_zero] at a5
  have hb := axisV_bd (cleanV p) (cleanV d) (by omega)
  obtain ⟨s1, s2, s3, s4⟩ := axis_sides (P := cleanV p) (D := 0) (Q := cleanV q) bp.1 bp.2
  obtain ⟨z1, -, f1, m1⟩ := mix_any hp hq
  obtain ⟨z2, -, f2, m2⟩ := mix_any hq hp
  have o1 : (FloatKind.f64.format.order (clean z1) (clean z2) == some .eq) = true := by
    have g1 := clean_fl f1.lt
    have g2 := clean_fl f2.lt
    rw [cleanV_fl f1] at g1
    rw [cleanV_fl f2, Int.add_comm] at g2
    rw [eq_fl g1 g2]; simp
  have o2 : (FloatKind.f64.format.order (clean (clean p)) (clean p) == some .eq) = true := by
    have g1 := clean_fl (clean_fl hp).lt
    rw [cleanV_clean hp] at g1
    rw [eq_fl g1 (clean_fl hp)]; simp
  have hmono : (FloatKind.f64.format.order p q == some .lt || FloatKind.f64.format.order p q == some .eq) = true → axisV (cleanV p) (cleanV d) ≤ axisV (cleanV q) (cleanV d) :=
    fun h => axisV_mono (cleanV_leq h) bp.1 bq.2
  generalize axisV (cleanV p) (cleanV d) = i at *
  generalize axisV (cleanV q) (cleanV d) = j at *
  generalize axisV (cleanV p) (cleanV q) = k at *
  generalize axisV (cleanV p) 0 = k0 at *
  have g1 : decide (4096 < k * k) = false := by simp; omega
  have g2 : decide (k0 * k < 0) = false := by simp; omega
  have A1 := Lib.hid a1; have A2 := Lib.hid a2; have A3 := Lib.hid a3; have A4 := Lib.hid a4; have A5 := Lib.hid a5; have M1 := Lib.hid m1; have M2 := Lib.hid m2
  have g3 : decide (i < -64) = false := by simp; omega
  have g4 : decide (64 < i) = false := by simp; omega
  clear a1 a2 a3 a4 a5 m1 m2 f1 f2 bp bq
  obtain ⟨lq, hlq⟩ : ∃ lq, (FloatKind.f64.format.order p q == some .lt || FloatKind.f64.format.order p q == some .eq) = lq := ⟨_, rfl⟩
  rw [hlq] at hmono
  have g5 : lq = true → decide (j < i) = false := fun h => by have := hmono h; simp; omega
  clear hmono
  cases lq
  case' true => have g6 := g5 rfl
  all_goals
    clear g5
    go_wp2_with fail
    refine (A1.out _).mono ?_; rintro e w' ⟨rfl, rfl⟩
    go_wp2_with fail
    refine (A2.out _).mono ?_; rintro e w' ⟨rfl, rfl⟩
    go_wp2_with fail
    refine (sknown_any _).mono ?_; rintro e w' ⟨rfl, rfl⟩
    go_wp2_with fail
    refine (A3.out _).mono ?_; rintro e w' ⟨rfl, rfl⟩
    go_wp2_with fail
    refine (A4.out _).mono ?_; rintro e w' ⟨rfl, rfl⟩
    go_wp2_with fail
    refine (A5.out _).mono ?_; rintro e w' ⟨rfl, rfl⟩
    go_wp2_with fail
    refine (pick_any _ _ _ (by decide) (by decide)).mono ?_; rintro e w' ⟨rfl, rfl⟩
    go_wp2_with fail
    rw [HC.out]
    refine (HZF.out _).mono ?_; rintro e w' ⟨rfl, rfl⟩
    go_wp2_with fail
    refine (HBK.out _).mono ?_; rintro e w' ⟨rfl, rfl⟩
    go_wp2_with fail
    refine (M1.out _).mono ?_; rintro e w' ⟨rfl, rfl⟩
    go_wp2_with fail
    refine (M2.out _).mono ?_; rintro e w' ⟨rfl, rfl⟩
    go_wp2_with fail
    refine (clean_any _ _).mono ?_; rintro e w' ⟨rfl, rfl⟩
    go_wp2_with fail
    refine (clean_any _ _).mono ?_; rintro e w' ⟨rfl, rfl⟩
    go_wp2_with fail
    refine (clean_any _ _).mono ?_; rintro e w' ⟨rfl, rfl⟩
    go_wp2_with fail
    go_ret
    exact ⟨rfl, Below.refl _ _⟩
end Go.Proofs.Ytiniaphleogkiaa.Sk
