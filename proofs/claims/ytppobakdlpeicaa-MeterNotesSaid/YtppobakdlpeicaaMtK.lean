import Derived.Test.YtppobakdlpeicaaMtS3
import Derived.Test.YtppobakdlpeicaaMth
namespace Go.Proofs.Ytppobakdlpeicaa.Mt
open Go.RowKit Dt Go.Proofs.Ytppobakdlpeicaa.Hd Ieee
set_option linter.unusedVariables false
set_option linter.unusedSimpArgs false

/-- the walk of Lead, its floats by letters -/
theorem lead_low {w : World} {b : Nat} {n : Int} {m j h t a q z s r : Nat} {p pp : Int} {R : Int} (hM : HasM w b n m j)
    (hp : p < 1) (hpp : pp = 1)
    (e1 : double.div m 4611686018427387904 = some h) (e2 : double.mul 4611686018427387904 j = some t) (e3 : double.add h t = some a) (e4 : double.div a (Go.floatOfInt .f64 pp) = some q)
    (ez : ∀ w, Calls Try.prog 32 #[.float .f64 q] w fun e w' => e = .returned (.float .f64 z) ∧ w = w') (e5 : double.add z 4607182418800017408 = some s)
    (e6 : ∀ w, (Builtin.min_ #[23, 23] 23 #[.float .f64 s, .float .f64 4625196817309499392]).run Try.prog w = .ok (.float .f64 r) w) (e7 : floatToIntVal .f64 r .i64 = some R) :
    Calls Try.prog 24 #[.pointer (some ⟨b, 0, none⟩), .int .i64 p] w fun e w' => e = .returned (.int .i64 R) ∧ ∃ k, w' = w.drewN k := by
  unfold HasM at hM
  have q1 : ∀ w : World, (binOp .quo 23 (.float .f64 m) (.float .f64 4611686018427387904)).run Try.prog w = .ok (.float .f64 h) w := run_fl .quo 23 e1
  have q2 : ∀ w : World, (binOp .mul 23 (.float .f64 4611686018427387904) (.float .f64 j)).run Try.prog w = .ok (.float .f64 t) w := run_fl .mul 23 e2
  have q3 : ∀ w : World, (binOp .add 23 (.float .f64 h) (.float .f64 t)).run Try.prog w = .ok (.float .f64 a) w := run_fl .add 23 e3
  obtain ⟨fp, hfp⟩ : ∃ fp, Go.floatOfInt .f64 pp = fp := ⟨_, rfl⟩
  rw [hfp] at e4
  have q4 : ∀ w : World, (binOp .quo 23 (.float .f64 a) (.float .f64 fp)).run Try.prog w = .ok (.float .f64 q) w := run_fl .quo 23 e4
  have q5 : ∀ w : World, (binOp .add 23 (.float .f64 z) (.float .f64 4607182418800017408)).run Try.prog w = .ok (.float .f64 s) w := run_fl .add 23 e5
  have q6 : ∀ w, (convert 3 23 (.int .i64 pp)).run Try.prog w = .ok (.float .f64 fp) w := fun w => by rw [← hfp]; exact run_convert_int_float w 3 23 .i64 .f64 pp (by rw [Try.underlying3]; rfl) Try.underlying23
  have q7 : ∀ w, (convert 23 3 (.float .f64 r)).run Try.prog w = .ok (.int .i64 R) w := fun w => run_convert_float_int w 23 3 .f64 .i64 r R (by rw [Try.underlying23]; rfl) Try.underlying3 e7
  have c1 := hM.cell (i := 1) rfl
  have c2 := hM.cell (i := 2) rfl
  simp at c1 c2
  have EZ := Lib.hid ez
  have h1' : decide (p < 1) = true := by simp; omega
  have h1'' : (if 1 < p then p else 1) = 1 := by split <;> omega
  have h1''' : (if 8 < p then 8 else p) = p := by split <;> omega
  subst hpp
  clear e1 e2 e3 e4 e5 e7 hfp ez hM
  go_enter Try.func24, Try.ntmps24
  go_upto_region 2 with (fail)
  go_quiet (fail)
  go_wp2_with fail
  refine (EZ.out _).mono ?_; rintro e w' ⟨rfl, rfl⟩
  go_wp2_with fail
  go_ret
  exact ⟨rfl, _, rfl⟩
theorem HasM.dr {w : World} {b : Nat} {n : Int} {m j : Nat} (h : HasM w b n m j) (k : Nat) : HasM (w.drewN k) b n m j := Blk.drewN h k
theorem fl_self {q : Nat} (h : q < 18446744073709551616) (hf : fin q) : Fl q (sv q) := ⟨h, hf, rfl⟩
set_option maxRecDepth 100000 in
set_option maxHeartbeats 3200000 in
theorem walk_mknown (W : World) : Calls Try.prog 8 #[] W fun e w' => e = .returned (.bool true) ∧ Below W.heap.size W w' := by
  have k1 : HasM (((W.alloc (.cells #[.int .i64 0, .float .f64 0, .float .f64 0] 38)).alloc (.cells #[.int .i64 0, .float .f64 0, .float .f64 0] 38)).alloc (.cells #[.int .i64 0, .float .f64 0, .float .f64 0] 38)) W.heap.size 0 0 0 := ((Blk.new W _ _).alloc _).alloc _
  have k2 : HasM (((W.alloc (.cells #[.int .i64 0, .float .f64 0, .float .f64 0] 38)).alloc (.cells #[.int .i64 0, .float .f64 0, .float .f64 0] 38)).alloc (.cells #[.int .i64 0, .float .f64 0, .float .f64 0] 38)) (W.heap.size + 1) 0 0 0 := by
    have := Blk.new (W.alloc (.cells #[.int .i64 0, .float .f64 0, .float .f64 0] 38)) #[.int .i64 0, .float .f64 0, .float .f64 0] 38
    rw [World.size_alloc] at this
    exact this.alloc _
  have k3 : HasM (((W.alloc (.cells #[.int .i64 0, .float .f64 0, .float .f64 0] 38)).alloc (.cells #[.int .i64 0, .float .f64 0, .float .f64 0] 38)).alloc (.cells #[.int .i64 0, .float .f64 0, .float .f64 0] 38)) (W.heap.size + 1 + 1) 0 0 0 := by
    have := Blk.new ((W.alloc (.cells #[.int .i64 0, .float .f64 0, .float .f64 0] 38)).alloc (.cells #[.int .i64 0, .float .f64 0, .float .f64 0] 38)) #[.int .i64 0, .float .f64 0, .float .f64 0] 38
    rwa [World.size_alloc, World.size_alloc] at this
  have hF := (((Fr.refl [] W).alloc (.cells #[.int .i64 0, .float .f64 0, .float .f64 0] 38)).alloc (.cells #[.int .i64 0, .float .f64 0, .float .f64 0] 38)).alloc (.cells #[.int .i64 0, .float .f64 0, .float .f64 0] 38)
  go_enter Try.func8, Try.ntmps8
  go_wp2_with fail
  obtain ⟨K, hK⟩ : ∃ K, K = W.heap.size := ⟨_, rfl⟩
  rw [← hK] at k1 k2 k3 ⊢
  generalize ((W.alloc (.cells #[.int .i64 0, .float .f64 0, .float .f64 0] 38)).alloc (.cells #[.int .i64 0, .float .f64 0, .float .f64 0] 38)).alloc (.cells #[.int .i64 0, .float .f64 0, .float .f64 0] 38) = w1 at *
  have HK := Lib.hid hK; clear hK
  refine (known_any _).mono ?_; rintro e w2 ⟨rfl, hF2⟩
  have K1 := Lib.hid (k1.fr hF2 (by simp)); have K2 := Lib.hid (k2.fr hF2 (by simp)); have K3 := Lib.hid (k3.fr hF2 (by simp)); have HF := Lib.hid (hF.trans hF2 (by simp))
  clear k1 k2 k3 hF hF2
  go_wp2_with fail
  refine (lead_walk (p := 3) (pp := 3) K1.out (by decide) (by decide) (h := 0) (t := 0) (a := 0) (q := 0) (z := 0) (s := 4607182418800017408) (r := 4607182418800017408) (R := 1) (by kernel_rfl) (by kernel_rfl) (by kernel_rfl) (by kernel_rfl) (fun w => ceil_any (fl_self (by decide) (by unfold fin; decide)) (by kernel_rfl) w) (by kernel_rfl) (fun w => by kernel_rfl) (by kernel_rfl)).mono ?_; rintro e w' ⟨rfl, n1, rfl⟩
  have K1' := Lib.hid (K1.out.dr n1); have K2' := Lib.hid (K2.out.dr n1); have K3' := Lib.hid (K3.out.dr n1); have HF' := Lib.hid (HF.out.drewN n1)
  clear K1 K2 K3 HF
  generalize w2.drewN n1 = w3 at *
  go_wp2_with fail
  refine (Ma.mknan _).mono ?_; rintro e w' ⟨rfl, rfl⟩
  go_wp2_with fail
  refine (note_no (by kernel_rfl)).mono ?_; rintro e w' ⟨rfl, rfl⟩
  go_wp2_with fail
  refine (Ma.mkinf _ _).mono ?_; rintro e w' ⟨rfl, rfl⟩
  go_wp2_with fail
  refine (note_no (by kernel_rfl)).mono ?_; rintro e w' ⟨rfl, rfl⟩
  go_wp2_with fail
  refine (note_no (by kernel_rfl)).mono ?_; rintro e w' ⟨rfl, rfl⟩
  go_wp2_with fail
  refine (note_no (by kernel_rfl)).mono ?_; rintro e w' ⟨rfl, rfl⟩
  go_wp2_with fail
  refine (count_any K1'.out).mono ?_; rintro e w' ⟨rfl, rfl⟩
  go_wp2_with fail
  refine (Ma.negzero _).mono ?_; rintro e w' ⟨rfl, rfl⟩
  go_wp2_with fail
  refine (note_first K1'.out (by decide) (by kernel_rfl)).mono ?_; rintro e w4 ⟨rfl, k1, hFa⟩
  have K1 := Lib.hid k1; have K2 := Lib.hid (K2'.out.fr hFa (by simp <;> omega)); have K3 := Lib.hid (K3'.out.fr hFa (by simp <;> omega)); have HF := Lib.hid (HF'.out.trans hFa (by rw [HK.out]; simp))
  clear K1' K2' K3' HF' k1 hFa
  have b0 : ∀ w : World, (callFunc 25 #[.float .f64 (rg 9223372036854775808)]).run Try.prog w = .ok (.value (.int .u64 0)) w := fun w => Ma.run_bits 0 w
  go_wp2_with fail
  refine (mean_any K1.out).mono ?_; rintro e w' ⟨rfl, rfl⟩
  go_wp2_with fail
  refine (note_first K2.out (by decide) (by kernel_rfl)).mono ?_; rintro e w5 ⟨rfl, k2, hFa⟩
  have K1' := Lib.hid (K1.out.fr hFa (by simp <;> omega)); have K2' := Lib.hid k2; have K3' := Lib.hid (K3.out.fr hFa (by simp <;> omega)); have HF' := Lib.hid (HF.out.trans hFa (by rw [HK.out]; simp))
  clear K1 K2 K3 HF k2 hFa
  go_wp2_with fail
  refine (note_first K3'.out (by decide) (by kernel_rfl)).mono ?_; rintro e w6 ⟨rfl, k3, hFa⟩
  have K1 := Lib.hid (K1'.out.fr hFa (by simp <;> omega)); have K2 := Lib.hid (K2'.out.fr hFa (by simp <;> omega)); have K3 := Lib.hid k3; have HF := Lib.hid (HF'.out.trans hFa (by rw [HK.out]; simp; omega))
  clear K1' K2' K3' HF' k3 hFa
  go_wp2_with fail
  refine (count_any K1.out).mono ?_; rintro e w' ⟨rfl, rfl⟩
  go_wp2_with fail
  clear K1
  refine (lead_walk (p := 1) (pp := 1) K2.out (by decide) (by decide) (h := 4613937818241073152) (t := 0) (a := 4613937818241073152) (q := 4613937818241073152) (z := 4613937818241073152) (s := 4616189618054758400) (r := 4616189618054758400) (R := 4) (by kernel_rfl) (by kernel_rfl) (by kernel_rfl) (by kernel_rfl) (fun w => ceil_any (fl_self (by decide) (by unfold fin; decide)) (by kernel_rfl) w) (by kernel_rfl) (fun w => by kernel_rfl) (by kernel_rfl)).mono ?_; rintro e w' ⟨rfl, m0, rfl⟩
  have K2' := Lib.hid (K2.out.dr m0); have K3' := Lib.hid (K3.out.dr m0); have HF' := Lib.hid (HF.out.drewN m0)
  clear K2 K3 HF
  have K2 := K2'; have K3 := K3'; have HF := HF'
  clear K2' K3' HF'
  generalize w6.drewN m0 = v0 at *
  go_wp2_with fail
  refine (lead_walk (p := 2) (pp := 2) K2.out (by decide) (by decide) (h := 4613937818241073152) (t := 0) (a := 4613937818241073152) (q := 4609434218613702656) (z := 4611686018427387904) (s := 4613937818241073152) (r := 4613937818241073152) (R := 3) (by kernel_rfl) (by kernel_rfl) (by kernel_rfl) (by kernel_rfl) (fun w => ceil_any (fl_self (by decide) (by unfold fin; decide)) (by kernel_rfl) w) (by kernel_rfl) (fun w => by kernel_rfl) (by kernel_rfl)).mono ?_; rintro e w' ⟨rfl, m1, rfl⟩
  have K2' := Lib.hid (K2.out.dr m1); have K3' := Lib.hid (K3.out.dr m1); have HF' := Lib.hid (HF.out.drewN m1)
  clear K2 K3 HF
  have K2 := K2'; have K3 := K3'; have HF := HF'
  clear K2' K3' HF'
  generalize v0.drewN m1 = v1 at *
  go_wp2_with fail
  refine (lead_low (p := 0) (pp := 1) K2.out (by decide) rfl (h := 4613937818241073152) (t := 0) (a := 4613937818241073152) (q := 4613937818241073152) (z := 4613937818241073152) (s := 4616189618054758400) (r := 4616189618054758400) (R := 4) (by kernel_rfl) (by kernel_rfl) (by kernel_rfl) (by kernel_rfl) (fun w => ceil_any (fl_self (by decide) (by unfold fin; decide)) (by kernel_rfl) w) (by kernel_rfl) (fun w => by kernel_rfl) (by kernel_rfl)).mono ?_; rintro e w' ⟨rfl, m2, rfl⟩
  have K2' := Lib.hid (K2.out.dr m2); have K3' := Lib.hid (K3.out.dr m2); have HF' := Lib.hid (HF.out.drewN m2)
  clear K2 K3 HF
  have K2 := K2'; have K3 := K3'; have HF := HF'
  clear K2' K3' HF'
  generalize v1.drewN m2 = v2 at *
  go_wp2_with fail
  refine (lead_walk (p := 99) (pp := 8) K2.out (by decide) (by decide) (h := 4613937818241073152) (t := 0) (a := 4613937818241073152) (q := 4600427019358961664) (z := 4607182418800017408) (s := 4611686018427387904) (r := 4611686018427387904) (R := 2) (by kernel_rfl) (by kernel_rfl) (by kernel_rfl) (by kernel_rfl) (fun w => ceil_any (fl_self (by decide) (by unfold fin; decide)) (by kernel_rfl) w) (by kernel_rfl) (fun w => by kernel_rfl) (by kernel_rfl)).mono ?_; rintro e w' ⟨rfl, m3, rfl⟩
  have K2' := Lib.hid (K2.out.dr m3); have K3' := Lib.hid (K3.out.dr m3); have HF' := Lib.hid (HF.out.drewN m3)
  clear K2 K3 HF
  have K2 := K2'; have K3 := K3'; have HF := HF'
  clear K2' K3' HF'
  generalize v2.drewN m3 = v3 at *
  go_wp2_with fail
  refine (lead_walk (p := 8) (pp := 8) K3.out (by decide) (by decide) (h := 4692333547057315840) (t := 0) (a := 4692333547057315840) (q := 4678822748175204352) (z := 4678822748175204352) (s := 4678822885614157824) (r := 4625196817309499392) (R := 16) (by kernel_rfl) (by kernel_rfl) (by kernel_rfl) (by kernel_rfl) (fun w => ceil_any (fl_self (by decide) (by unfold fin; decide)) (by kernel_rfl) w) (by kernel_rfl) (fun w => by kernel_rfl) (by kernel_rfl)).mono ?_; rintro e w' ⟨rfl, m9, rfl⟩
  have HF' := Lib.hid (HF.out.drewN m9)
  go_wp2_with fail
  go_ret
  exact ⟨rfl, HF'.out.below (Nat.le_refl _) (by simp)⟩
end Go.Proofs.Ytppobakdlpeicaa.Mt
