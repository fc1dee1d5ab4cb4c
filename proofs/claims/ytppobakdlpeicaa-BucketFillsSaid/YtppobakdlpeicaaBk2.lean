import Derived.Test.YtppobakdlpeicaaBkt
namespace Go.Proofs.Ytppobakdlpeicaa.Bk
open Go.RowKit Dt Go.Proofs.Ytppobakdlpeicaa.Hd Go.Proofs.Ytppobakdlpeicaa.Mt Ieee
set_option linter.unusedVariables false
set_option linter.unusedSimpArgs false

theorem rep_St {m : Nat} (hm : m ≤ 8000000) : Rep ((m : Int) * S) := rep_S hm
theorem mul_tick {r : Nat} {R k : Int} (fr : Fl r R) (r0 : 0 ≤ R) (r1 : R ≤ 5 * S) (k0 : 0 ≤ k) (k1 : k ≤ 1000000) : ∃ m, double.mul r (Go.floatOfInt .f64 k) = some m ∧ Fl m (rnd (R * k) 1) ∧ 0 ≤ rnd (R * k) 1 ∧ rnd (R * k) 1 ≤ 5000000 * S := by
  have fk := fint_exact (n := k) (by omega) (by omega)
  have h : isS (R * (k * S)) S (rnd (R * k) 1) := by
    have h1 := rnd_is (R * k * S) S_pos
    have e0 := rnd_scale (E := R * k) (D := 1) (by decide) S_pos
    rw [Nat.one_mul] at e0
    rw [e0] at h1
    rwa [← Int.mul_assoc]
  have a0 : 0 ≤ R * k := Int.mul_nonneg r0 k0
  have a1 : R * k ≤ 5 * S * 1000000 := Int.le_trans (Int.mul_le_mul_of_nonneg_right r1 k0) (Int.mul_le_mul_of_nonneg_left k1 (by omega))
  have rr := rep_S (m := 5000000) (by omega)
  have b0 := rnd_nonneg (D := 1) (by decide) a0
  have b1 : rnd (R * k) 1 ≤ ((5000000 : Nat) : Int) * S := rnd_le (by decide) rr (by omega)
  obtain ⟨m, e, f⟩ := fmul fr fk h (rnd_rep (by decide) rr (by omega)).lt
  exact ⟨m, e, f, b0, b1⟩
theorem sub_one {l : Nat} {L : Int} (fl : Fl l L) (h0 : (S : Int) ≤ L) (h1 : L ≤ 1000 * S) : ∃ m, double.sub l 4607182418800017408 = some m ∧ Fl m (rnd (L - S) 1) := by
  have rr := rep_S (m := 1000) (by omega)
  have f1 := fl_one
  rw [Int.one_mul] at f1
  exact fsub fl f1 (rnd_is _ (by decide)) (rnd_rep_le (v := ((1000 : Nat) : Int) * S) (by decide) rr (by omega) (by omega)).lt
/-- Take, by values -/
theorem take_any {w : World} {b : Nat} {t tick tt : Int} {r d l : Nat} {R D L : Int} (hB : HasB w b r d l t) (ht : (if 1000000 < tick then 1000000 else tick) = tt) (fr : Fl r R) (fd : Fl d D) (fl : Fl l L)
    (r0 : 0 ≤ R) (r1 : R ≤ 5 * S) (l0 : 0 ≤ L) (l1 : L ≤ D) (d1 : D ≤ 1000 * S) (t0 : 0 ≤ t) (t1 : t ≤ 1000000) :
    Calls Try.prog 14 #[.pointer (some ⟨b, 0, none⟩), .int .i64 tick] w fun e w' => e = .returned (.bool (decide ((S : Int) ≤ lvl R D L (tt - t)))) ∧ (∃ l', HasB w' b r d l' (if t < tt then tt else t) ∧ Fl l' (lvl' R D L (tt - t))) ∧ Fr [b] w w' := by
  have f1 := fl_one
  rw [Int.one_mul] at f1
  have htt : tt ≤ 1000000 := by split at ht <;> omega
  by_cases hlt : t < tt
  · obtain ⟨m, e1, fm, m0, m1⟩ := mul_tick (k := tt - t) fr r0 r1 (by omega) (by omega)
    have rr := rep_S (m := 5001000) (by omega)
    have s0 : 0 ≤ rnd (L + rnd (R * (tt - t)) 1) 1 := rnd_nonneg (by decide) (by omega)
    have s1 : rnd (L + rnd (R * (tt - t)) 1) 1 ≤ ((5001000 : Nat) : Int) * S := rnd_le (by decide) rr (by omega)
    obtain ⟨s, e2, fs⟩ := fadd fl fm (rnd_is _ (by decide)) (rnd_rep (by decide) rr (by omega)).lt
    obtain ⟨l1', fl1, e3⟩ := min_fl (P := Try.prog) fd fs #[23, 23] 23
    have hlv : lvl R D L (tt - t) = min D (rnd (L + rnd (R * (tt - t)) 1) 1) := by unfold lvl; rw [if_pos (by omega)]
    rw [← hlv] at fl1
    have b1 : lvl R D L (tt - t) ≤ D := by rw [hlv]; omega
    rw [if_pos hlt]
    unfold lvl'
    generalize lvl R D L (tt - t) = V at *
    by_cases hc : (S : Int) ≤ V
    · obtain ⟨l2, e4, fl2⟩ := sub_one fl1 hc (by omega)
      rw [if_pos hc, decide_eq_true hc]
      refine (take_new_yes hB ht t0 hlt htt e1 e2 e3 (not_lt fl1 f1 hc) e4).mono ?_
      rintro e w' ⟨rfl, h1, h2⟩
      exact ⟨rfl, ⟨l2, h1, fl2⟩, h2⟩
    · rw [if_neg hc, decide_eq_false hc]
      refine (take_new_no hB ht t0 hlt htt e1 e2 e3 (is_lt fl1 f1 (by omega))).mono ?_
      rintro e w' ⟨rfl, h1, h2⟩
      exact ⟨rfl, ⟨l1', h1, fl1⟩, h2⟩
  · have hlv : lvl R D L (tt - t) = L := by unfold lvl; rw [if_neg (by omega)]
    rw [if_neg hlt]
    unfold lvl'
    rw [hlv]
    have hle : decide (t < tt) = false := by simpa using hlt
    by_cases hc : (S : Int) ≤ L
    · obtain ⟨l2, e4, fl2⟩ := sub_one fl hc (by omega)
      rw [if_pos hc, decide_eq_true hc]
      refine (take_old_yes hB ht hle (not_lt fl f1 hc) e4).mono ?_
      rintro e w' ⟨rfl, h1, h2⟩
      exact ⟨rfl, ⟨l2, h1, fl2⟩, h2⟩
    · rw [if_neg hc, decide_eq_false hc]
      refine (take_old_no hB ht hle (is_lt fl f1 (by omega))).mono ?_
      rintro e w' ⟨rfl, h1, h2⟩
      exact ⟨rfl, ⟨l, h1, fl⟩, h2⟩
/-- New, by values -/
theorem new_any {r d : Nat} {R D : Int} (fr : Fl r R) (fd : Fl d D) (r0 : 0 ≤ R) (d0 : (S : Int) ≤ D) (d1 : D ≤ 1000 * S) (w : World) :
    Calls Try.prog 11 #[.float .f64 r, .float .f64 d] w fun e w' => e = .returned (.tuple #[.pointer (some ⟨w.heap.size, 0, none⟩), .int .i64 0]) ∧ HasB w' w.heap.size r d d 0 ∧ Fr [] w w' := by
  have f1 := fl_one
  rw [Int.one_mul] at f1
  have f1000 : Fl 4652007308841189376 (1000 * S) := by
    have h := fint_exact (n := 1000) (by decide) (by decide)
    have e : Go.floatOfInt .f64 1000 = 4652007308841189376 := by kernel_rfl
    rwa [e] at h
  exact new_ok r d w fr.lt fd.lt (odd_fin fr) (odd_fin fd) (not_lt fr fl_zero r0) (not_lt fd f1 d0) (not_gt fd f1000 d1)
end Go.Proofs.Ytppobakdlpeicaa.Bk
