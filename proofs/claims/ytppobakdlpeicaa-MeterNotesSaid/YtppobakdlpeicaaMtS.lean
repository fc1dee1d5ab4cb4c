import Derived.Test.YtppobakdlpeicaaMtL3
namespace Go.Proofs.Ytppobakdlpeicaa.Mt
open Go.RowKit Dt Go.Proofs.Ytppobakdlpeicaa.Hd Ieee
set_option linter.unusedVariables false
set_option linter.unusedSimpArgs false

/-- 0.001 -/
theorem fl_eps : ∃ V : Int, Fl 4562254508917369340 V ∧ 0 ≤ V ∧ V ≤ S := by
  have hf : fin 4562254508917369340 := by unfold fin; decide
  have hf1 := fl_one
  refine ⟨sv 4562254508917369340, ⟨by decide, hf, rfl⟩, ?_, ?_⟩
  · unfold sv
    have : ng 4562254508917369340 = false := by decide
    rw [this]; simp
  · have h1 : (sv 4562254508917369340).natAbs ≤ (sv 4607182418800017408).natAbs := by
      rw [sv_natAbs, sv_natAbs]
      exact mg_le_iff.2 (by decide)
    rw [hf1.sv] at h1
    have hS := S_pos
    omega
theorem below_eps {l : Nat} {L : Int} (h : Fl l L) (h0 : 0 ≤ L) (h1 : L ≤ 1000000 * S) : ∃ (z : Nat) (Z : Int), double.sub l 4562254508917369340 = some z ∧ Fl z Z ∧ Z ≤ L := by
  obtain ⟨V, hV, v0, v1⟩ := fl_eps
  have r1 := rep_S (m := 1000000) (by omega)
  have hS : (0 : Int) < S := by have := S_pos; omega
  have hr : Rep (rnd (L - V) 1) := rnd_rep_le (v := ((1000000 : Nat) : Int) * S) (by decide) r1 (by omega) (by omega)
  obtain ⟨z, e, f⟩ := fsub h hV (rnd_is _ (by decide)) hr.lt
  exact ⟨z, _, e, f, rnd_le (by decide) h.rep (by omega)⟩
theorem above_eps {l : Nat} {L : Int} (h : Fl l L) (h0 : 0 ≤ L) (h1 : L ≤ 1000000 * S) : ∃ (z : Nat) (Z : Int), double.add l 4562254508917369340 = some z ∧ Fl z Z ∧ L ≤ Z := by
  obtain ⟨V, hV, v0, v1⟩ := fl_eps
  have r1 := rep_S (m := 2000000) (by omega)
  have hS : (0 : Int) < S := by have := S_pos; omega
  have hr : Rep (rnd (L + V) 1) := rnd_rep_le (v := ((2000000 : Nat) : Int) * S) (by decide) r1 (by omega) (by omega)
  obtain ⟨z, e, f⟩ := fadd h hV (rnd_is _ (by decide)) hr.lt
  exact ⟨z, _, e, f, rnd_ge (by decide) h.rep (by omega)⟩
theorem not_lt {x y : Nat} {X Y : Int} (hx : Fl x X) (hy : Fl y Y) (h : Y ≤ X) : (FloatKind.f64.format.order x y == some .lt) = false := by
  have o1 : FloatKind.f64.format.order x y = some (compare X Y) := forder hx hy
  rw [o1]
  rcases Int.lt_or_eq_of_le h with h' | h'
  · rw [Int.compare_eq_gt.2 h']; rfl
  · rw [Int.compare_eq_eq.2 h'.symm]; rfl
theorem is_lt {x y : Nat} {X Y : Int} (hx : Fl x X) (hy : Fl y Y) (h : X < Y) : (FloatKind.f64.format.order x y == some .lt) = true := by
  have o1 : FloatKind.f64.format.order x y = some (compare X Y) := forder hx hy
  rw [o1, Int.compare_eq_lt.2 h]; rfl
theorem not_gt {x y : Nat} {X Y : Int} (hx : Fl x X) (hy : Fl y Y) (h : X ≤ Y) : (FloatKind.f64.format.order x y == some .gt) = false := by
  have o1 : FloatKind.f64.format.order x y = some (compare X Y) := forder hx hy
  rw [o1]
  rcases Int.lt_or_eq_of_le h with h' | h'
  · rw [Int.compare_eq_lt.2 h']; rfl
  · rw [Int.compare_eq_eq.2 h']; rfl
theorem is_gt {x y : Nat} {X Y : Int} (hx : Fl x X) (hy : Fl y Y) (h : Y < X) : (FloatKind.f64.format.order x y == some .gt) = true := by
  have o1 : FloatKind.f64.format.order x y = some (compare X Y) := forder hx hy
  rw [o1, Int.compare_eq_gt.2 h]; rfl
end Go.Proofs.Ytppobakdlpeicaa.Mt
