/- chapter 22's example; JitterKnown. -/
import Derived.Test.YtckodnogjedmnaaJt3
namespace Go.Proofs.Ytckodnogjedmnaa.Jt
open Go.RowKit Dt Go.Proofs.Ytckodnogjedmnaa.Hd
set_option linter.unusedVariables false
set_option linter.unusedSimpArgs false

theorem one_lit {w : World} {n : Int} (x : Int) (p : Nat) (h : x = p) (hp : p ≤ 1000) : Calls Try.prog 14 #[.int .i64 x, .int .i64 n] w fun e w' => ∃ v, e = .returned v ∧ RS w' w.heap.size v p (oneR n) ∧ Fr [] w w' := by
  subst h; exact one_any hp
theorem row_first {w : World} {base n : Nat} {v : Value} {R : Nat → C4} (h : RS w base v n R) (hn : 0 < n) (c : C4) (hc : R 0 = c) : ∃ b off cap, v = .slice (some ⟨b, off, none⟩) n cap ∧ b < w.heap.size ∧ base ≤ b ∧ w.cell? ⟨b, off + 1, none⟩ = some (.int .i64 c.2.1) := by
  obtain ⟨a, cap, rfl, -, -, -, h1⟩ := h
  obtain ⟨b, off, rfl, hb, hl, hcell⟩ := h1 hn
  refine ⟨b, off, cap, rfl, hl, hb, ?_⟩
  have := hcell 0 1 (.int .i64 c.2.1) hn (by omega) (by rw [hc]; rfl)
  simpa using this
set_option maxRecDepth 100000 in
set_option maxHeartbeats 3200000 in
theorem known_j (w : World) : Calls Try.prog 12 #[] w fun e w' => e = .returned (.bool true) ∧ Fr [] w w' := by
  go_enter Try.func12, Try.ntmps12
  go_wp2_with fail
  refine (jnew_any (q := 1) (by omega) (by omega) (by omega)).mono ?_; rintro e w1 ⟨rfl, hJ1, hF1⟩
  obtain ⟨B, hB⟩ : ∃ B, w.heap.size + 1 = B := ⟨_, rfl⟩
  obtain ⟨M, hM⟩ : ∃ M, w.heap.size = M := ⟨_, rfl⟩
  obtain ⟨lo, hlo⟩ : ∃ lo, w.heap.size + 2 = lo := ⟨_, rfl⟩
  have hBM : M < lo ∧ B < lo ∧ M ≤ B := by omega
  rw [hlo] at hJ1
  rw [hB] at hJ1 ⊢
  rw [hM] at hJ1
  have hMs : w.heap.size ≤ M := by omega
  have HMS := Lib.hid hMs
  clear hB hM hlo hMs
  obtain ⟨hb1, hb2, hb3⟩ := hBM
  go_wp2_with fail
  refine (one_lit 1 1 rfl (by omega)).mono ?_; rintro e w2 ⟨v2, rfl, hv2, hF2⟩
  have hJ2 := hJ1.fr hF2 (by simp) (by simp) (by simp)
  have HF2 := Lib.hid (hF1.trans hF2 (by simp))
  clear hJ1 hF1 hF2
  go_wp2_with fail
  refine (put_yes hJ2 hv2 (by omega) (by omega) (inK_of (by omega) (by omega)) (by omega) (by omega) rfl (by omega)).mono ?_; rintro e w3 ⟨rfl, hJ3, hF3⟩
  have HF3 := Lib.hid (HF2.out.trans hF3 (fun x hx => .inr (by have := HMS.out; simp at hx; omega)))
  clear hJ2 hv2 hF3
  go_wp2_with fail
  refine (next_no hJ3 (by omega) (by simp)).mono ?_; rintro e w4 ⟨rfl, k4, rfl⟩
  have hJ4 := hJ3.fr ((Fr.refl [] w3).drewN k4) (by simp) (by simp) (by simp)
  have HF4 := Lib.hid (HF3.out.drewN k4)
  clear hJ3
  go_wp2_with fail
  refine (one_lit 1 1 rfl (by omega)).mono ?_; rintro e w5 ⟨v5, rfl, hv5, hF5⟩
  have hJ5 := hJ4.fr hF5 (by simp) (by simp) (by simp)
  have HF5 := Lib.hid (HF4.out.trans hF5 (by simp))
  clear hJ4 hF5
  go_wp2_with fail
  refine (put_yes hJ5 hv5 (by omega) (by omega) (inK_of (by omega) (by omega)) (by omega) (by omega) (by simp) (by omega)).mono ?_; rintro e w6 ⟨rfl, hJ6, hF6⟩
  have HF6 := Lib.hid (HF5.out.trans hF6 (fun x hx => .inr (by have := HMS.out; simp at hx; omega)))
  clear hJ5 hv5 hF6
  go_wp2_with fail
  refine (next_yes (R := oneR 5) hJ6 (by omega) (by simp)).mono ?_; rintro e w7 ⟨r7, rfl, hr7, hJ7, hF7⟩
  have HF7 := Lib.hid (HF6.out.trans hF7 (fun x hx => .inr (by have := HMS.out; simp at hx; omega)))
  have HR7 := Lib.hid hr7
  clear hJ6 hF7 hr7
  go_wp2_with fail
  refine (next_yes (R := oneR 1) hJ7 (by omega) (by simp)).mono ?_; rintro e w8 ⟨r8, rfl, hr8, hJ8, hF8⟩
  have HF8 := Lib.hid (HF7.out.trans hF8 (fun x hx => .inr (by have := HMS.out; simp at hx; omega)))
  obtain ⟨b7, o7, c7, rfl, -, -, g7⟩ := row_first (HR7.out.fr hF8 (fun x hx => by simp at hx; omega)) (by omega) (true, 5, 0, 0) (by kernel_rfl)
  obtain ⟨b8, o8, c8, rfl, -, -, g8⟩ := row_first hr8 (by omega) (true, 1, 0, 0) (by kernel_rfl)
  clear HR7 hJ7 hF8 hr8
  have hat := at_any hJ8
  go_wp2_with fail
  refine hat.mono ?_; rintro e w9 ⟨rfl, rfl⟩
  go_wp2_with fail
  go_ret
  exact ⟨rfl, HF8.out⟩
end Go.Proofs.Ytckodnogjedmnaa.Jt
