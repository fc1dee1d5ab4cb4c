/- The meter's steps over rounded numbers: bounds, doubling; the words of them. -/
import Derived.Test.YtkjjikjilmngdaaFp5
import Derived.KernelRfl
namespace Dt
open Ieee

theorem rnd_rep {E v : Int} {D : Nat} (hD : 0 < D) (hv : Rep v) (h : (rnd E D).natAbs ≤ v.natAbs) : Rep (rnd E D) := by
  obtain ⟨r, hr, e⟩ := rnd_is E hD
  obtain ⟨s, hs, hm⟩ := hv
  have e2 : (rnd E D).natAbs = mg r := by rw [e]; split <;> simp
  refine ⟨r, ?_, e2.symm⟩
  rw [e2, ← hm] at h
  have := mg_le_iff.1 h
  omega
theorem rnd_abs_le {E v : Int} {D : Nat} (hD : 0 < D) (hv : Rep v) (h1 : E ≤ v * D) (h2 : -v * D ≤ E) : -v ≤ rnd E D ∧ rnd E D ≤ v :=
  ⟨rnd_ge hD hv.neg h2, rnd_le hD hv h1⟩
theorem rnd_rep_le {E v : Int} {D : Nat} (hD : 0 < D) (hv : Rep v) (h1 : E ≤ v * D) (h2 : -v * D ≤ E) : Rep (rnd E D) := by
  have := rnd_abs_le hD hv h1 h2
  exact rnd_rep hD hv (by omega)

noncomputable def dM (X M : Int) : Int := rnd (X - M) 1
noncomputable def stepM (X M : Int) : Int := rnd (M + rnd (dM X M) 8) 1
noncomputable def aJ (X M J : Int) : Int := rnd (((dM X M).natAbs : Int) - J) 1
noncomputable def stepJ (X M J : Int) : Int := rnd (J + rnd (aJ X M J) 4) 1

/-- between 0 and v, a part of v -/
theorem part_le {E : Int} {D : Nat} (hD : 2 ≤ D) (h : 0 ≤ E) : 0 ≤ rnd E D ∧ rnd E D ≤ E := by
  have h0 := rnd_nonneg (show 0 < D by omega) h
  have h1 := rnd_twice (show 0 < D by omega) h
  refine ⟨h0, ?_⟩
  have h2 : rnd E D * 2 ≤ rnd E D * D := Int.mul_le_mul_of_nonneg_left (by omega) h0
  omega
/-- a rounded difference's part does not go beyond it -/
theorem part_rnd {E : Int} {D : Nat} (hD : 4 ≤ D) (h : 0 ≤ E) : 0 ≤ rnd (rnd E 1) D ∧ rnd (rnd E 1) D ≤ E := by
  have a0 := rnd_nonneg (D := 1) (by decide) h
  have a1 := rnd_twice (D := 1) (by decide) h
  have h0 := rnd_nonneg (show 0 < D by omega) a0
  have h1 := rnd_twice (show 0 < D by omega) a0
  refine ⟨h0, ?_⟩
  have h2 : rnd (rnd E 1) D * 4 ≤ rnd (rnd E 1) D * D := Int.mul_le_mul_of_nonneg_left (by omega) h0
  omega
theorem part_rnd_neg {E : Int} {D : Nat} (hD : 4 ≤ D) (h : E ≤ 0) : E ≤ rnd (rnd E 1) D ∧ rnd (rnd E 1) D ≤ 0 := by
  have := part_rnd hD (show 0 ≤ -E by omega)
  rw [rnd_neg (by decide), rnd_neg (by omega)] at this
  omega
theorem stepM_bd {X M lo hi : Int} (h1 : lo ≤ M) (h2 : M ≤ hi) (h3 : lo ≤ X) (h4 : X ≤ hi) (rl : Rep lo) (rh : Rep hi) : lo ≤ stepM X M ∧ stepM X M ≤ hi := by
  unfold stepM dM
  rcases Int.le_total M X with h | h
  · have := part_rnd (D := 8) (by decide) (show 0 ≤ X - M by omega)
    exact ⟨rnd_ge (by decide) rl (by omega), rnd_le (by decide) rh (by omega)⟩
  · have := part_rnd_neg (D := 8) (by decide) (show X - M ≤ 0 by omega)
    exact ⟨rnd_ge (by decide) rl (by omega), rnd_le (by decide) rh (by omega)⟩
theorem dM_bd {X M lo hi : Int} (h1 : lo ≤ M) (h2 : M ≤ hi) (h3 : lo ≤ X) (h4 : X ≤ hi) (rh : Rep (hi - lo)) : -(hi - lo) ≤ dM X M ∧ dM X M ≤ hi - lo :=
  rnd_abs_le (by decide) rh (by omega) (by omega)
theorem stepJ_bd {X M J H : Int} (h1 : (dM X M).natAbs ≤ H) (h2 : 0 ≤ J) (h3 : J ≤ H) (rh : Rep H) : 0 ≤ stepJ X M J ∧ stepJ X M J ≤ H := by
  unfold stepJ aJ
  have hd0 : 0 ≤ ((dM X M).natAbs : Int) := by omega
  generalize ((dM X M).natAbs : Int) = d at *
  rcases Int.le_total J d with h | h
  · have := part_rnd (D := 4) (by decide) (show 0 ≤ d - J by omega)
    exact ⟨rnd_nonneg (by decide) (by omega), rnd_le (by decide) rh (by omega)⟩
  · have := part_rnd_neg (D := 4) (by decide) (show d - J ≤ 0 by omega)
    exact ⟨rnd_nonneg (by decide) (by omega), rnd_le (by decide) rh (by omega)⟩

/-- a multiple of 2^t -/
def Gr (t : Nat) (V : Int) : Prop := ∃ k : Int, V = k * (2 ^ t : Nat)
section
variable {t s : Nat} {V W : Int}
theorem Gr.le (h : Gr t V) (hs : s ≤ t) : Gr s V := by
  obtain ⟨k, rfl⟩ := h
  refine ⟨k * (2 ^ (t - s) : Nat), ?_⟩
  rw [Int.mul_assoc, ← Int.natCast_mul, ← Nat.pow_add, Nat.sub_add_cancel hs]
theorem Gr.add (h : Gr t V) (k : Gr t W) : Gr t (V + W) := by
  obtain ⟨a, rfl⟩ := h; obtain ⟨b, rfl⟩ := k; exact ⟨a + b, by rw [Int.add_mul]⟩
theorem Gr.sub (h : Gr t V) (k : Gr t W) : Gr t (V - W) := by
  obtain ⟨a, rfl⟩ := h; obtain ⟨b, rfl⟩ := k; exact ⟨a - b, by rw [Int.sub_mul]⟩
theorem Gr.abs (h : Gr t V) : Gr t (V.natAbs : Int) := by
  obtain ⟨a, rfl⟩ := h
  exact ⟨a.natAbs, by rw [Int.natAbs_mul, Int.natAbs_natCast, Int.natCast_mul]⟩
theorem Gr.zero (t : Nat) : Gr t 0 := ⟨0, by simp⟩
theorem Gr.rnd1 (h : Gr t V) : Gr t (rnd V 1) := by
  obtain ⟨a, rfl⟩ := h
  exact rnd_grid (m := a) (by decide) (by simp)
theorem Gr.rndD {D e : Nat} (hD : D = 2 ^ e) (h : Gr (t + e) V) : Gr t (rnd V D) := by
  obtain ⟨a, rfl⟩ := h
  have hp : 0 < D := by rw [hD]; exact Nat.two_pow_pos e
  exact rnd_grid (m := a) hp (by rw [hD, Int.mul_assoc, ← Int.natCast_mul, ← Nat.pow_add])
theorem Gr.dbl1 (h : Gr t V) (ht : 54 ≤ t) : rnd (2 * V) 1 = 2 * rnd V 1 := by
  obtain ⟨a, rfl⟩ := h
  exact rnd_dbl (m := a) (by decide) ht (by simp)
theorem Gr.dblD {D e : Nat} (hD : D = 2 ^ e) (h : Gr (t + e) V) (ht : 54 ≤ t) : rnd (2 * V) D = 2 * rnd V D := by
  obtain ⟨a, rfl⟩ := h
  have hp : 0 < D := by rw [hD]; exact Nat.two_pow_pos e
  exact rnd_dbl (m := a) hp ht (by rw [hD, Int.mul_assoc, ← Int.natCast_mul, ← Nat.pow_add])
end
section
variable {t : Nat} {X M J : Int}
theorem dM_gr (hX : Gr t X) (hM : Gr t M) : Gr t (dM X M) := (hX.sub hM).rnd1
theorem stepM_gr (hX : Gr (t + 3) X) (hM : Gr (t + 3) M) : Gr t (stepM X M) :=
  ((hM.le (by omega)).add ((dM_gr hX hM).rndD (D := 8) (e := 3) (by decide))).rnd1
theorem stepJ_gr (hX : Gr (t + 3) X) (hM : Gr (t + 3) M) (hJ : Gr (t + 3) J) : Gr t (stepJ X M J) := by
  have ha : Gr (t + 2) (aJ X M J) := (((dM_gr hX hM).abs.sub hJ).rnd1).le (by omega)
  exact ((hJ.le (by omega)).add (ha.rndD (D := 4) (e := 2) (by decide))).rnd1
theorem dM_dbl (hX : Gr t X) (hM : Gr t M) (ht : 54 ≤ t) : dM (2 * X) (2 * M) = 2 * dM X M := by
  unfold dM
  rw [← Int.mul_sub]; exact (hX.sub hM).dbl1 ht
theorem stepM_dbl (hX : Gr (t + 3) X) (hM : Gr (t + 3) M) (ht : 54 ≤ t) : stepM (2 * X) (2 * M) = 2 * stepM X M := by
  unfold stepM
  rw [dM_dbl hX hM (by omega), (dM_gr hX hM).dblD (D := 8) (e := 3) (by decide) ht, ← Int.mul_add]
  exact ((hM.le (by omega)).add ((dM_gr hX hM).rndD (D := 8) (e := 3) (by decide))).dbl1 ht
theorem stepJ_dbl (hX : Gr (t + 3) X) (hM : Gr (t + 3) M) (hJ : Gr (t + 3) J) (ht : 54 ≤ t) : stepJ (2 * X) (2 * M) (2 * J) = 2 * stepJ X M J := by
  have ha : Gr (t + 2) (aJ X M J) := (((dM_gr hX hM).abs.sub hJ).rnd1).le (by omega)
  have e1 : aJ (2 * X) (2 * M) (2 * J) = 2 * aJ X M J := by
    unfold aJ
    rw [dM_dbl hX hM (by omega)]
    have : (((2 * dM X M).natAbs : Nat) : Int) - 2 * J = 2 * (((dM X M).natAbs : Int) - J) := by omega
    rw [this]
    exact ((dM_gr hX hM).abs.sub hJ).dbl1 (by omega)
  unfold stepJ
  rw [e1, ha.dblD (D := 4) (e := 2) (by decide) ht, ← Int.mul_add]
  exact ((hJ.le (by omega)).add (ha.rndD (D := 4) (e := 2) (by decide))).dbl1 ht
end

/-- the words of one step -/
theorem rg_lt (x : Nat) : rg x < 9223372036854775808 := Nat.mod_lt _ (by decide)
theorem Fl.abs {x : Nat} {X : Int} (h : Fl x X) : Fl (rg x) (X.natAbs : Int) := by
  have hl := rg_lt x
  have e : rg (rg x) = rg x := Nat.mod_eq_of_lt hl
  have hn : ng (rg x) = false := by unfold ng; rw [Nat.div_eq_of_lt hl]; rfl
  refine ⟨by omega, by unfold Dt.fin; rw [e]; exact h.fin, ?_⟩
  unfold Dt.sv
  rw [hn, e, ← h.mg]; rfl
theorem fl_four : Fl 4616189618054758400 (4 * S) := by
  have h := fint_exact (n := 4) (by decide) (by decide)
  have e : Go.floatOfInt .f64 4 = 4616189618054758400 := by kernel_rfl
  rwa [e] at h
theorem fl_eight : Fl 4620693217682128896 (8 * S) := by
  have h := fint_exact (n := 8) (by decide) (by decide)
  have e : Go.floatOfInt .f64 8 = 4620693217682128896 := by kernel_rfl
  rwa [e] at h
theorem fl_two : Fl 4611686018427387904 (2 * S) := by
  have h := fint_exact (n := 2) (by decide) (by decide)
  have e : Go.floatOfInt .f64 2 = 4611686018427387904 := by kernel_rfl
  rwa [e] at h
/-- a quotient by a small whole number -/
theorem fdiv_nat {x y : Nat} {X : Int} {n : Nat} (hn : 0 < n) (hx : Fl x X) (hy : Fl y (n * S)) (h : Rep (rnd X n)) : ∃ z, double.div x y = some z ∧ Fl z (rnd X n) := by
  have hy' : Fl y ((n * S : Nat) : Int) := by rw [Int.natCast_mul]; exact hy
  have hp : 0 < n * S := Nat.mul_pos hn S_pos
  have h2 := rnd_is (X * S) hp
  rw [rnd_scale hn S_pos] at h2
  exact fdiv hx hy' hp h2 h.lt
theorem note_fl {x m j : Nat} {X M J H : Int} (hx : Fl x X) (hm : Fl m M) (hj : Fl j J) (rh : Rep H) (x0 : 0 ≤ X) (x1 : X ≤ H) (m0 : 0 ≤ M) (m1 : M ≤ H) (j0 : 0 ≤ J) (j1 : J ≤ H) :
    ∃ d a c j' c' m', d < 18446744073709551616 ∧ double.sub (rg x) m = some d ∧ double.sub (rg d) j = some a ∧ double.div a 4616189618054758400 = some c ∧ double.add j c = some j' ∧
      double.div d 4620693217682128896 = some c' ∧ double.add m c' = some m' ∧ Fl m' (stepM X M) ∧ Fl j' (stepJ X M J) := by
  have rh' : Rep (H - 0) := by simpa using rh
  have hX : ((X.natAbs : Nat) : Int) = X := by omega
  have hxa := hx.abs
  rw [hX] at hxa
  have d1 := dM_bd m0 m1 x0 x1 rh'
  have dr : Rep (dM X M) := rnd_rep_le (v := H) (by decide) rh (by omega) (by omega)
  obtain ⟨d, e1, fd⟩ := fsub hxa hm (rnd_is (X - M) (by decide)) dr.lt
  have ar : Rep (aJ X M J) := rnd_rep_le (v := H) (by decide) rh (by omega) (by omega)
  obtain ⟨a, e2, fa⟩ := fsub fd.abs hj (rnd_is _ (by decide)) ar.lt
  have a1 : -H ≤ aJ X M J ∧ aJ X M J ≤ H := rnd_abs_le (by decide) rh (by omega) (by omega)
  have cr : Rep (rnd (aJ X M J) 4) := rnd_rep_le (v := H) (by decide) rh (by omega) (by omega)
  obtain ⟨c, e3, fc⟩ := fdiv_nat (n := 4) (by decide) fa fl_four cr
  have b1 := stepJ_bd (X := X) (M := M) (H := H) (by unfold dM at *; omega) j0 j1 rh
  have jr : Rep (stepJ X M J) := rnd_rep (by decide) rh (by unfold stepJ at b1; omega)
  obtain ⟨j', e4, fj⟩ := fadd hj fc (rnd_is _ (by decide)) jr.lt
  have cr' : Rep (rnd (dM X M) 8) := rnd_rep_le (v := H) (by decide) rh (by omega) (by omega)
  obtain ⟨c', e5, fc'⟩ := fdiv_nat (n := 8) (by decide) fd fl_eight cr'
  have b2 := stepM_bd m0 m1 x0 x1 Rep.zero rh
  have mr : Rep (stepM X M) := rnd_rep (by decide) rh (by unfold stepM at b2; omega)
  obtain ⟨m', e6, fm⟩ := fadd hm fc' (rnd_is _ (by decide)) mr.lt
  exact ⟨d, a, c, j', c', m', fd.lt, e1, e2, e3, e4, e5, e6, fm, fj⟩
/-- the first sample's jitter, mean: words of 0 and of the sample -/
theorem fl_zero : Fl 0 0 := by
  have h := fint_exact (n := 0) (by decide) (by decide)
  have e : Go.floatOfInt .f64 0 = 0 := by kernel_rfl
  rw [e, Int.zero_mul] at h; exact h
end Dt
