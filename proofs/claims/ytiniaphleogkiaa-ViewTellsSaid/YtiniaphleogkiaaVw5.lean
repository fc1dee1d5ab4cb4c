import Derived.Test.YtiniaphleogkiaaVw4
namespace Go.Proofs.Ytiniaphleogkiaa.Vw
open Go.RowKit Dt Go.Proofs.Ytiniaphleogkiaa.Hd Go.Proofs.Ytiniaphleogkiaa.Ma Ieee
set_option linter.unusedVariables false
set_option linter.unusedSimpArgs false

set_option maxHeartbeats 1600000 in
theorem walk_vranks (b0 b1 b2 : Int) (x0 x1 x2 : Nat) (W : World) (h0 : (Lit.int .i64 b0).wf = true) (h1 : (Lit.int .i64 b1).wf = true) (h2 : (Lit.int .i64 b2).wf = true) (h3 : (Lit.float .f64 x0).wf = true) (h4 : (Lit.float .f64 x1).wf = true) (h5 : (Lit.float .f64 x2).wf = true) :
    Calls Try.prog 13 #[.int .i64 b0, .int .i64 b1, .int .i64 b2, .float .f64 x0, .float .f64 x1, .float .f64 x2] W fun e w' => e = .returned (.bool true) ∧ Below W.heap.size W w' := by
  have hx := wf64 h3
  have hy := wf64 h4
  have hz := wf64 h5
  clear h0 h1 h2 h3 h4 h5
  go_enter Try.func13, Try.ntmps13
  go_wp2_with fail
  refine (float_any _ _ hx _).mono ?_; rintro e w' ⟨p, hp, rfl, rfl⟩
  go_wp2_with fail
  refine (float_any _ _ hy _).mono ?_; rintro e w' ⟨q, hq, rfl, rfl⟩
  go_wp2_with fail
  refine (float_any _ _ hz _).mono ?_; rintro e w' ⟨r, hr, rfl, rfl⟩
  go_wp2_with fail
  refine (vknown_any _).mono ?_; rintro e w1 ⟨rfl, hF⟩
  have s1 := sooner_any p q hp hq
  have s2 := sooner_any q p hq hp
  have s3 := sooner_any q r hq hr
  have s4 := sooner_any p r hp hr
  have s5 := sooner_any p p hp hp
  have al := alike_any p q
  have hal : ¬ rk q < rk p → ¬ rk p < rk q → ((nanB p && nanB q) || decide (p = q)) = true := fun ha hb => by
    rcases rk_alike hp hq (by omega) with ⟨a, b⟩ | a
    · rw [nanB_eq, nanB_eq]; simp [a, b]
    · simp [a]
  rw [soonB_rk] at s1 s2 s3 s4 s5
  rw [show decide (rk p < rk p) = false by simp] at s5
  generalize rk p = P at *
  generalize rk q = Q at *
  generalize rk r = R at *
  generalize ((nanB p && nanB q) || decide (p = q)) = AL at *
  have S1 := Lib.hid s1; have S2 := Lib.hid s2; have S3 := Lib.hid s3; have S4 := Lib.hid s4; have S5 := Lib.hid s5; have A := Lib.hid al; have HF := Lib.hid hF
  clear s1 s2 s3 s4 s5 al hF
  by_cases c1 : Q < P
  · have e1 : decide (Q < P) = true := decide_eq_true c1
    have e2 : decide (P < Q) = false := decide_eq_false (by omega)
    rw [e1] at S1
    rw [e2] at S2
    by_cases c2 : R < Q
    · have e3 : decide (R < Q) = true := decide_eq_true c2
      have e4 : decide (R < P) = true := decide_eq_true (by omega)
      rw [e3] at S3
      rw [e4] at S4
      clear hal c1 c2 e1 e2 e3 e4
      go_wp2_with fail
      refine (S1.out _).mono ?_; rintro e w' ⟨rfl, rfl⟩
      go_wp2_with fail
      refine (S2.out _).mono ?_; rintro e w' ⟨rfl, rfl⟩
      go_wp2_with fail
      refine (S1.out _).mono ?_; rintro e w' ⟨rfl, rfl⟩
      go_wp2_with fail
      refine (S3.out _).mono ?_; rintro e w' ⟨rfl, rfl⟩
      go_wp2_with fail
      refine (S4.out _).mono ?_; rintro e w' ⟨rfl, rfl⟩
      go_wp2_with fail
      refine (S5.out _).mono ?_; rintro e w' ⟨rfl, rfl⟩
      go_wp2_with fail
      refine (S1.out _).mono ?_; rintro e w' ⟨rfl, rfl⟩
      go_wp2_with fail
      go_ret
      exact ⟨rfl, HF.out.below (Nat.le_refl _) (by simp)⟩
    · have e3 : decide (R < Q) = false := decide_eq_false c2
      rw [e3] at S3
      clear hal c1 c2 e1 e2 e3
      go_wp2_with fail
      refine (S1.out _).mono ?_; rintro e w' ⟨rfl, rfl⟩
      go_wp2_with fail
      refine (S2.out _).mono ?_; rintro e w' ⟨rfl, rfl⟩
      go_wp2_with fail
      refine (S1.out _).mono ?_; rintro e w' ⟨rfl, rfl⟩
      go_wp2_with fail
      refine (S3.out _).mono ?_; rintro e w' ⟨rfl, rfl⟩
      go_wp2_with fail
      refine (S5.out _).mono ?_; rintro e w' ⟨rfl, rfl⟩
      go_wp2_with fail
      refine (S1.out _).mono ?_; rintro e w' ⟨rfl, rfl⟩
      go_wp2_with fail
      go_ret
      exact ⟨rfl, HF.out.below (Nat.le_refl _) (by simp)⟩
  · have e1 : decide (Q < P) = false := decide_eq_false c1
    rw [e1] at S1
    by_cases c2 : P < Q
    · have e2 : decide (P < Q) = true := decide_eq_true c2
      rw [e2] at S2
      clear hal c1 c2 e1 e2
      go_wp2_with fail
      refine (S1.out _).mono ?_; rintro e w' ⟨rfl, rfl⟩
      go_wp2_with fail
      refine (S1.out _).mono ?_; rintro e w' ⟨rfl, rfl⟩
      go_wp2_with fail
      refine (S5.out _).mono ?_; rintro e w' ⟨rfl, rfl⟩
      go_wp2_with fail
      refine (S1.out _).mono ?_; rintro e w' ⟨rfl, rfl⟩
      go_wp2_with fail
      refine (S2.out _).mono ?_; rintro e w' ⟨rfl, rfl⟩
      go_wp2_with fail
      go_ret
      exact ⟨rfl, HF.out.below (Nat.le_refl _) (by simp)⟩
    · have e2 : decide (P < Q) = false := decide_eq_false c2
      rw [e2] at S2
      have hA := hal c1 c2
      rw [hA] at A
      clear hal c1 c2 e1 e2 hA
      go_wp2_with fail
      refine (S1.out _).mono ?_; rintro e w' ⟨rfl, rfl⟩
      go_wp2_with fail
      refine (S1.out _).mono ?_; rintro e w' ⟨rfl, rfl⟩
      go_wp2_with fail
      refine (S5.out _).mono ?_; rintro e w' ⟨rfl, rfl⟩
      go_wp2_with fail
      refine (S1.out _).mono ?_; rintro e w' ⟨rfl, rfl⟩
      go_wp2_with fail
      refine (S2.out _).mono ?_; rintro e w' ⟨rfl, rfl⟩
      go_wp2_with fail
      refine (A.out _).mono ?_; rintro e w' ⟨rfl, rfl⟩
      go_wp2_with fail
      go_ret
      exact ⟨rfl, HF.out.below (Nat.le_refl _) (by simp)⟩
end Go.Proofs.Ytiniaphleogkiaa.Vw
