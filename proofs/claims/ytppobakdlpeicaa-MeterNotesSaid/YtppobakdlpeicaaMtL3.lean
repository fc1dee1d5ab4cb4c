import Derived.Test.YtppobakdlpeicaaMtL2
namespace Go.Proofs.Ytppobakdlpeicaa.Mt
open Go.RowKit Dt Go.Proofs.Ytppobakdlpeicaa.Hd Ieee
set_option linter.unusedVariables false
set_option linter.unusedSimpArgs false

theorem rep_S {m : Nat} (hm : m ≤ 8000000) : Rep ((m : Int) * S) := by
  obtain ⟨c, hc, hS⟩ := S_eq
  have := rep_pow (m := m) (k := c) (by unfold B; omega) (by omega)
  rw [← hS, Int.natCast_mul] at this
  exact this
/-- the way, the lead: exact numbers -/
noncomputable def wayK (M J : Int) : Int := rnd (rnd M 2 + rnd (2 * J) 1) 1
noncomputable def leadK (M J : Int) (p : Nat) : Int := min ((rnd (wayK M J) p + S - 1) / S + 1) 16
theorem fl_one : Fl 4607182418800017408 (1 * S) := by
  have h := fint_exact (n := 1) (by decide) (by decide)
  have e : Go.floatOfInt .f64 1 = 4607182418800017408 := by kernel_rfl
  rwa [e] at h
theorem fl_sixteen : Fl 4625196817309499392 (16 * S) := by
  have h := fint_exact (n := 16) (by decide) (by decide)
  have e : Go.floatOfInt .f64 16 = 4625196817309499392 := by kernel_rfl
  rwa [e] at h
theorem way_bd {M J : Int} (m0 : 0 ≤ M) (m1 : M ≤ 1000000 * S) (j0 : 0 ≤ J) (j1 : J ≤ 1000000 * S) : (0 ≤ rnd M 2 ∧ rnd M 2 ≤ 1000000 * S) ∧ (0 ≤ rnd (2 * J) 1 ∧ rnd (2 * J) 1 ≤ 2000000 * S) ∧ 0 ≤ wayK M J ∧ wayK M J ≤ 3000000 * S := by
  have r1 := rep_S (m := 1000000) (by omega)
  have r2 := rep_S (m := 2000000) (by omega)
  have r3 := rep_S (m := 3000000) (by omega)
  have a1 := rnd_nonneg (D := 2) (by decide) m0
  have a2 : rnd M 2 ≤ ((1000000 : Nat) : Int) * S := rnd_le (by decide) r1 (by omega)
  have b1 := rnd_nonneg (D := 1) (by decide) (show 0 ≤ 2 * J by omega)
  have b2 : rnd (2 * J) 1 ≤ ((2000000 : Nat) : Int) * S := rnd_le (by decide) r2 (by omega)
  have c1 : 0 ≤ wayK M J := rnd_nonneg (D := 1) (by decide) (by omega)
  have c2 : wayK M J ≤ ((3000000 : Nat) : Int) * S := rnd_le (by decide) r3 (by omega)
  exact ⟨⟨a1, by omega⟩, ⟨b1, by omega⟩, c1, by omega⟩
theorem ceil_div {Q K T : Int} (hT : 0 < T) (h0 : 0 ≤ Q) (k0 : 0 ≤ K) (h1 : Q ≤ K * T) (h2 : 0 < K → (K - 1) * T < Q) : (Q + T - 1) / T = K := by
  have a : K * T ≤ Q + T - 1 := by
    rcases Int.lt_or_eq_of_le k0 with h | h
    · have := h2 h; rw [Int.sub_mul, Int.one_mul] at this; omega
    · subst h; rw [Int.zero_mul]; omega
  have b : Q + T - 1 < (K + 1) * T := by rw [Int.add_mul, Int.one_mul]; omega
  exact Int.le_antisymm (Int.lt_add_one_iff.1 (Int.ediv_lt_of_lt_mul hT b)) (Int.le_ediv_of_mul_le hT a)
theorem lead_any {w : World} {b : Nat} {n : Int} {m j : Nat} {M J p : Int} {pp : Nat} (hM : HasM w b n m j) (hm : Fl m M) (hj : Fl j J) (m0 : 0 ≤ M) (m1 : M ≤ 1000000 * S) (j0 : 0 ≤ J) (j1 : J ≤ 1000000 * S)
    (hp : (if 8 < p then 8 else p) = (pp : Int)) (h1 : 1 ≤ pp) :
    Calls Try.prog 24 #[.pointer (some ⟨b, 0, none⟩), .int .i64 p] w fun e w' => e = .returned (.int .i64 (leadK M J pp)) ∧ ∃ k, w' = w.drewN k := by
  obtain ⟨⟨a1, a2⟩, ⟨b1, b2⟩, c1, c2⟩ := way_bd m0 m1 j0 j1
  have r1 := rep_S (m := 1000000) (by omega)
  have r2 := rep_S (m := 2000000) (by omega)
  have r3 := rep_S (m := 3000000) (by omega)
  have hSp : (0 : Int) < S := by have := S_pos; omega
  have hp8 : pp ≤ 8 := by split at hp <;> omega
  obtain ⟨h, e1, f1⟩ := fdiv_nat (n := 2) (by decide) hm fl_two (rnd_rep_le (v := ((1000000 : Nat) : Int) * S) (by decide) r1 (by omega) (by omega))
  have k2 : isS (2 * S * J) S (rnd (2 * J) 1) := by
    have := rnd_is (2 * J * S) S_pos
    have e0 := rnd_scale (E := 2 * J) (D := 1) (by decide) S_pos
    rw [Nat.one_mul] at e0
    rw [e0] at this
    have e : 2 * (S : Int) * J = 2 * J * S := by rw [Int.mul_assoc, Int.mul_assoc, Int.mul_comm (S : Int) J]
    rw [e]; exact this
  obtain ⟨t, e2, f2⟩ := fmul fl_two hj k2 (rnd_rep_le (v := ((2000000 : Nat) : Int) * S) (by decide) r2 (by omega) (by omega)).lt
  obtain ⟨a, e3, f3⟩ := fadd f1 f2 (rnd_is _ (by decide)) (rnd_rep_le (v := ((3000000 : Nat) : Int) * S) (by decide) r3 (by omega) (by omega)).lt
  have fp := fint_exact (n := (pp : Int)) (by omega) (by omega)
  have q0 : 0 ≤ rnd (wayK M J) pp := rnd_nonneg (by omega) c1
  have hpm : ((3000000 : Nat) : Int) * S ≤ ((3000000 : Nat) : Int) * S * (pp : Int) := by
    have : 0 ≤ ((3000000 : Nat) : Int) * S := by omega
    have := Int.mul_le_mul_of_nonneg_left (show (1 : Int) ≤ (pp : Int) by omega) this
    rwa [Int.mul_one] at this
  have q1 : rnd (wayK M J) pp ≤ ((3000000 : Nat) : Int) * S := rnd_le (by omega) r3 (by omega)
  obtain ⟨q, e4, f4⟩ := fdiv_nat (n := pp) (by omega) f3 fp (rnd_rep_le (v := ((3000000 : Nat) : Int) * S) (by omega) r3 (by unfold wayK at *; omega) (by unfold wayK at *; rw [Int.neg_mul]; omega))
  have f4' : Fl q (rnd (wayK M J) pp) := f4
  obtain ⟨z, K, ez, fz, k0, k1, kx, ky⟩ := ceil_fl f4' q0 (by omega)
  have hKe : (rnd (wayK M J) pp + S - 1) / S = K := ceil_div hSp q0 k0 kx ky
  have hK3 : K ≤ 3000000 := by
    rcases Int.lt_or_eq_of_le k0 with h | h
    · have h3 := ky h
      have h4 : (K - 1) * (S : Int) < 3000000 * S := by omega
      have := Int.lt_of_mul_lt_mul_right h4 (by omega)
      omega
    · omega
  have hrep : Rep (K * S + 1 * S) := by
    have := rep_S (m := (K + 1).toNat) (by omega)
    rw [Int.toNat_of_nonneg (by omega), Int.add_mul] at this
    exact this
  obtain ⟨s, e5, f5⟩ := fadd_exact fz fl_one hrep
  have f5' : Fl s ((K + 1) * S) := by rw [Int.add_mul]; exact f5
  obtain ⟨r, fr, er⟩ := min_fl (P := Try.prog) f5' fl_sixteen #[23, 23] 23
  have hrK : min ((K + 1) * (S : Int)) (16 * (S : Int)) = ((((min (K + 1) 16).toNat * S : Nat)) : Int) := by
    rw [Int.natCast_mul, Int.toNat_of_nonneg (by omega)]
    rcases Int.le_total (K + 1) 16 with h | h
    · rw [Int.min_eq_left h, Int.min_eq_left (Int.mul_le_mul_of_nonneg_right h (by omega))]
    · rw [Int.min_eq_right h, Int.min_eq_right (Int.mul_le_mul_of_nonneg_right h (by omega))]
  rw [hrK] at fr
  have e7 := toint_fl fr (by omega) (by omega)
  have hR : (((min (K + 1) 16).toNat : Nat) : Int) = leadK M J pp := by unfold leadK; rw [hKe]; omega
  rw [← hR]
  exact lead_walk hM hp (by omega) e1 e2 e3 e4 (fun w => ceil_any f4' ez w) e5 er e7
theorem lead_bd {M J : Int} {p : Nat} (hp : 1 ≤ p) (m0 : 0 ≤ M) (m1 : M ≤ 1000000 * S) (j0 : 0 ≤ J) (j1 : J ≤ 1000000 * S) : 1 ≤ leadK M J p ∧ leadK M J p ≤ 16 := by
  obtain ⟨-, -, c1, c2⟩ := way_bd m0 m1 j0 j1
  have hSp : (0 : Int) < S := by have := S_pos; omega
  have q0 : 0 ≤ rnd (wayK M J) p := rnd_nonneg (by omega) c1
  have : 0 ≤ (rnd (wayK M J) p + S - 1) / S := Int.ediv_nonneg (by omega) (by omega)
  unfold leadK; omega
theorem lead_mono {M J : Int} {p : Nat} (hp : 1 ≤ p) (m0 : 0 ≤ M) (m1 : M ≤ 1000000 * S) (j0 : 0 ≤ J) (j1 : J ≤ 1000000 * S) : leadK M J (p + 1) ≤ leadK M J p := by
  obtain ⟨-, -, c1, c2⟩ := way_bd m0 m1 j0 j1
  have hSp : (0 : Int) < S := by have := S_pos; omega
  have h1 : rnd (wayK M J) (p + 1) ≤ rnd (wayK M J) p := rnd_mono (by omega) (by omega) (Int.mul_le_mul_of_nonneg_left (by omega) c1)
  have h2 : (rnd (wayK M J) (p + 1) + S - 1) / S ≤ (rnd (wayK M J) p + S - 1) / S := Int.ediv_le_ediv hSp (by omega)
  unfold leadK; omega
end Go.Proofs.Ytppobakdlpeicaa.Mt
