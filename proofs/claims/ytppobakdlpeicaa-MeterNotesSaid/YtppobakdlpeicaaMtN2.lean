import Derived.Test.YtppobakdlpeicaaMtN
namespace Go.Proofs.Ytppobakdlpeicaa.Mt
open Go.RowKit Dt Go.Proofs.Ytppobakdlpeicaa.Hd Ieee
set_option linter.unusedVariables false
set_option linter.unusedSimpArgs false
attribute [local go_sem] run_negf run_store_float

theorem lead_parts {m j : Nat} {M J : Int} {pp : Nat} (hm : Fl m M) (hj : Fl j J) (m0 : 0 ≤ M) (m1 : M ≤ 1000000 * S) (j0 : 0 ≤ J) (j1 : J ≤ 1000000 * S) (h1 : 1 ≤ pp) (hp8 : pp ≤ 8) :
    ∃ (h t a q z : Nat) (K : Int), double.div m 4611686018427387904 = some h ∧ double.mul 4611686018427387904 j = some t ∧ double.add h t = some a ∧ double.div a (Go.floatOfInt .f64 (pp : Int)) = some q ∧
      (∀ w, Calls Try.prog 32 #[.float .f64 q] w fun e w' => e = .returned (.float .f64 z) ∧ w = w') ∧ Fl z (K * S) ∧ 0 ≤ K ∧ K ≤ 3000000 ∧ leadK M J pp = min (K + 1) 16 := by
  obtain ⟨⟨a1, a2⟩, ⟨b1, b2⟩, c1, c2⟩ := way_bd m0 m1 j0 j1
  have r1 := rep_S (m := 1000000) (by omega)
  have r2 := rep_S (m := 2000000) (by omega)
  have r3 := rep_S (m := 3000000) (by omega)
  have hSp : (0 : Int) < S := by have := S_pos; omega
  obtain ⟨h, e1, f1⟩ := fdiv_nat (n := 2) (by decide) hm fl_two (rnd_rep_le (v := ((1000000 : Nat) : Int) * S) (by decide) r1 (by omega) (by omega))
  have k2 : isS (2 * S * J) S (rnd (2 * J) 1) := by
    have := rnd_is (2 * J * S) S_pos
    have e0 := rnd_scale (E := 2 * J) (D := 1) (by decide) S_pos
    rw [Nat.one_mul] at e0
    rw [e0] at this
    have e : 2 * (S : Int) * J = 2 * J * S := by rw [Int.mul_assoc, Int.mul_assoc, Int.mul_comm (S : Int) J]
    rw [e]; exact this
  obtain ⟨t, e2, f2⟩ := fmul fl_two hj k2 (rnd_rep_le (v := ((2000000 : Nat) : Int) * S) (by decide) r2 (by omega) (by omega)).lt
  obtain ⟨a, e3, f3⟩ := fadd f1 f2 (rnd_is _ (by decide)) (rnd_rep_le (v := ((3000000 : Nat) : Int) * S) (by decide) r3 (by omega) (by omega)).lt
  have fp := fint_exact (n := (pp : Int)) (by omega) (by omega)
  have q0 : 0 ≤ rnd (wayK M J) pp := rnd_nonneg (by omega) c1
  have hpm : ((3000000 : Nat) : Int) * S ≤ ((3000000 : Nat) : Int) * S * (pp : Int) := by
    have : 0 ≤ ((3000000 : Nat) : Int) * S := by omega
    have := Int.mul_le_mul_of_nonneg_left (show (1 : Int) ≤ (pp : Int) by omega) this
    rwa [Int.mul_one] at this
  have q1 : rnd (wayK M J) pp ≤ ((3000000 : Nat) : Int) * S := rnd_le (by omega) r3 (by omega)
  obtain ⟨q, e4, f4⟩ := fdiv_nat (n := pp) (by omega) f3 fp (rnd_rep_le (v := ((3000000 : Nat) : Int) * S) (by omega) r3 (by unfold wayK at *; omega) (by unfold wayK at *; rw [Int.neg_mul]; omega))
  have f4' : Fl q (rnd (wayK M J) pp) := f4
  obtain ⟨z, K, ez, fz, k0, k1, kx, ky⟩ := ceil_fl f4' q0 (by omega)
  have hKe : (rnd (wayK M J) pp + S - 1) / S = K := ceil_div hSp q0 k0 kx ky
  have hK3 : K ≤ 3000000 := by
    rcases Int.lt_or_eq_of_le k0 with h | h
    · have h3 := ky h
      have h4 : (K - 1) * (S : Int) < 3000000 * S := by omega
      have := Int.lt_of_mul_lt_mul_right h4 (by omega)
      omega
    · omega
  exact ⟨h, t, a, q, z, K, e1, e2, e3, e4, fun w => ceil_any f4' ez w, fz, k0, hK3, by unfold leadK; rw [hKe]⟩
theorem lead_low_any {w : World} {b : Nat} {n : Int} {m j : Nat} {M J p : Int} (hM : HasM w b n m j) (hm : Fl m M) (hj : Fl j J) (m0 : 0 ≤ M) (m1 : M ≤ 1000000 * S) (j0 : 0 ≤ J) (j1 : J ≤ 1000000 * S) (hp : p < 1) :
    Calls Try.prog 24 #[.pointer (some ⟨b, 0, none⟩), .int .i64 p] w fun e w' => e = .returned (.int .i64 (leadK M J 1)) ∧ ∃ k, w' = w.drewN k := by
  obtain ⟨h, t, a, q, z, K, e1, e2, e3, e4, ez, fz, k0, hK3, hL⟩ := lead_parts (pp := 1) hm hj m0 m1 j0 j1 (by decide) (by decide)
  have hSp : (0 : Int) < S := by have := S_pos; omega
  have hrep : Rep (K * S + 1 * S) := by
    have := rep_S (m := (K + 1).toNat) (by omega)
    rw [Int.toNat_of_nonneg (by omega), Int.add_mul] at this
    exact this
  obtain ⟨s, e5, f5⟩ := fadd_exact fz fl_one hrep
  have f5' : Fl s ((K + 1) * S) := by rw [Int.add_mul]; exact f5
  obtain ⟨r, fr, er⟩ := min_fl (P := Try.prog) f5' fl_sixteen #[23, 23] 23
  have hrK : min ((K + 1) * (S : Int)) (16 * (S : Int)) = ((((min (K + 1) 16).toNat * S : Nat)) : Int) := by
    rw [Int.natCast_mul, Int.toNat_of_nonneg (by omega)]
    rcases Int.le_total (K + 1) 16 with h | h
    · rw [Int.min_eq_left h, Int.min_eq_left (Int.mul_le_mul_of_nonneg_right h (by omega))]
    · rw [Int.min_eq_right h, Int.min_eq_right (Int.mul_le_mul_of_nonneg_right h (by omega))]
  rw [hrK] at fr
  have e7 := toint_fl fr (by omega) (by omega)
  have hR : (((min (K + 1) 16).toNat : Nat) : Int) = leadK M J 1 := by rw [hL]; omega
  rw [← hR]
  exact lead_low hM hp rfl e1 e2 e3 e4 ez e5 er e7
/-- the walk of the reference's Lead, by letters -/
theorem rlead_walk {w : World} {b : Nat} {n : Int} {m j h t a q z : Nat} {p p1 pp K R : Int} {g : Bool} (hM : HasR w b n m j)
    (hp : (if p < 8 then p else 8) = p1) (hp2 : (if 1 < p1 then p1 else 1) = pp) (hpb : 1 ≤ pp ∧ pp ≤ 8)
    (e1 : double.div m 4611686018427387904 = some h) (e2 : double.mul 4611686018427387904 j = some t) (e3 : double.add h t = some a) (e4 : double.div a (Go.floatOfInt .f64 pp) = some q)
    (ez : ∀ w, Calls Try.prog 32 #[.float .f64 q] w fun e w' => e = .returned (.float .f64 z) ∧ w = w')
    (hg : (FloatKind.f64.format.order z 4625196817309499392 == some .gt || FloatKind.f64.format.order z 4625196817309499392 == some .eq) = g)
    (hR : g = true ∧ R = 16 ∨ g = false ∧ floatToIntVal .f64 z .i64 = some K ∧ 0 ≤ K ∧ K < 16 ∧ R = K + 1) :
    Calls Try.prog 28 #[.pointer (some ⟨b, 0, none⟩), .int .i64 p] w fun e w' => e = .returned (.int .i64 R) ∧ w = w' := by
  unfold HasR at hM
  have q1 : ∀ w : World, (binOp .quo 23 (.float .f64 m) (.float .f64 4611686018427387904)).run Try.prog w = .ok (.float .f64 h) w := run_fl .quo 23 e1
  have q2 : ∀ w : World, (binOp .mul 23 (.float .f64 4611686018427387904) (.float .f64 j)).run Try.prog w = .ok (.float .f64 t) w := run_fl .mul 23 e2
  have q3 : ∀ w : World, (binOp .add 23 (.float .f64 h) (.float .f64 t)).run Try.prog w = .ok (.float .f64 a) w := run_fl .add 23 e3
  have q4 : ∀ w : World, (binOp .quo 23 (.float .f64 a) (.float .f64 (Go.floatOfInt .f64 pp))).run Try.prog w = .ok (.float .f64 q) w := run_fl .quo 23 e4
  have c1 := hM.cell (i := 1) rfl
  have c2 := hM.cell (i := 2) rfl
  simp at c1 c2
  have EZ := Lib.hid ez
  clear e1 e2 e3 e4 ez hM
  rcases hR with ⟨rfl, rfl⟩ | ⟨rfl, e7, k0, k1, rfl⟩
  · go_enter Try.func28, Try.ntmps28
    go_wp2_with fail
    refine (EZ.out _).mono ?_; rintro e w' ⟨rfl, rfl⟩
    go_wp2_with fail
    go_ret
    exact ⟨rfl, rfl⟩
  · have q7 : ∀ w, (convert 23 3 (.float .f64 z)).run Try.prog w = .ok (.int .i64 K) w := fun w => run_convert_float_int w 23 3 .f64 .i64 z K (by rw [Try.underlying23]; rfl) Try.underlying3 e7
    have hmin : (if K + 1 < 16 then K + 1 else 16) = K + 1 := by split <;> omega
    go_enter Try.func28, Try.ntmps28
    go_wp2_with fail
    refine (EZ.out _).mono ?_; rintro e w' ⟨rfl, rfl⟩
    go_wp2_with fail
    go_ret
    exact ⟨rfl, rfl⟩
theorem rlead_any {w : World} {b : Nat} {n : Int} {m j : Nat} {M J p : Int} {pp : Nat} (hM : HasR w b n m j) (hm : Fl m M) (hj : Fl j J) (m0 : 0 ≤ M) (m1 : M ≤ 1000000 * S) (j0 : 0 ≤ J) (j1 : J ≤ 1000000 * S)
    (hp : max 1 (min p 8) = (pp : Int)) :
    Calls Try.prog 28 #[.pointer (some ⟨b, 0, none⟩), .int .i64 p] w fun e w' => e = .returned (.int .i64 (leadK M J pp)) ∧ w = w' := by
  have hpb : 1 ≤ pp ∧ pp ≤ 8 := by omega
  obtain ⟨h, t, a, q, z, K, e1, e2, e3, e4, ez, fz, k0, hK3, hL⟩ := lead_parts (pp := pp) hm hj m0 m1 j0 j1 hpb.1 hpb.2
  have hSp : (0 : Int) < S := by have := S_pos; omega
  have og : FloatKind.f64.format.order z 4625196817309499392 = some (compare (K * S) (16 * S)) := forder fz fl_sixteen
  refine rlead_walk (p1 := min p 8) (pp := (pp : Int)) (K := K) (g := decide (16 ≤ K)) hM (by split <;> omega) (by split <;> omega) (by omega) e1 e2 e3 e4 ez ?_ ?_
  · rw [og]
    rcases Int.lt_trichotomy K 16 with h | h | h
    · rw [Int.compare_eq_lt.2 (Int.mul_lt_mul_of_pos_right h hSp), decide_eq_false (by omega)]; rfl
    · rw [h, Int.compare_eq_eq.2 rfl, decide_eq_true (by omega)]; rfl
    · rw [Int.compare_eq_gt.2 (Int.mul_lt_mul_of_pos_right h hSp), decide_eq_true (by omega)]; rfl
  · rw [hL]
    by_cases h : 16 ≤ K
    · exact .inl ⟨decide_eq_true h, by omega⟩
    · refine .inr ⟨decide_eq_false h, ?_, k0, by omega, by omega⟩
      have := tointZ (r := z) (K := K.toNat) (by rw [Int.natCast_mul, Int.toNat_of_nonneg k0]; exact fz) (by omega)
      rwa [Int.toNat_of_nonneg k0] at this
/-- Lead of any period -/
theorem lead_all {w : World} {b : Nat} {n : Int} {m j : Nat} {M J p : Int} {pp : Nat} (hM : HasM w b n m j) (hm : Fl m M) (hj : Fl j J) (m0 : 0 ≤ M) (m1 : M ≤ 1000000 * S) (j0 : 0 ≤ J) (j1 : J ≤ 1000000 * S)
    (hp : max 1 (min p 8) = (pp : Int)) :
    Calls Try.prog 24 #[.pointer (some ⟨b, 0, none⟩), .int .i64 p] w fun e w' => e = .returned (.int .i64 (leadK M J pp)) ∧ ∃ k, w' = w.drewN k := by
  by_cases h : p < 1
  · have : pp = 1 := by omega
    subst this
    exact lead_low_any hM hm hj m0 m1 j0 j1 h
  · exact lead_any hM hm hj m0 m1 j0 j1 (by split <;> omega) (by omega)
end Go.Proofs.Ytppobakdlpeicaa.Mt
