/- JitterKnown. -/
import Derived.Test.YtgiclbdmkefhiaaJt4
namespace Go.Proofs.Ytgiclbdmkefhiaa.Jt
open Go.RowKit Dt Go.Proofs.Ytgiclbdmkefhiaa.Hd
set_option linter.unusedVariables false
set_option linter.unusedSimpArgs false

set_option maxRecDepth 100000 in
set_option maxHeartbeats 6400000 in
theorem walk_jknown (W : World) : Calls Try.prog 8 #[] W fun e w' => e = .returned (.bool true) ∧ Below W.heap.size W w' := by
  obtain ⟨w, hw⟩ : ∃ w, W = w := ⟨_, rfl⟩
  rw [hw]; clear hw
  go_enter Try.func8, Try.ntmps8
  go_wp2_with fail
  refine (jnew_any (q := 2) (by omega) (by omega) (by omega)).mono ?_; rintro e w1 ⟨rfl, hJ1, hF1⟩
  obtain ⟨B, hB⟩ : ∃ B, w.heap.size + 1 = B := ⟨_, rfl⟩
  obtain ⟨M, hM⟩ : ∃ M, w.heap.size = M := ⟨_, rfl⟩
  obtain ⟨lo, hlo⟩ : ∃ lo, w.heap.size + 2 = lo := ⟨_, rfl⟩
  have hBM : M < lo ∧ B < lo ∧ M < B := by omega
  have hl1 : lo ≤ w1.heap.size := by have := hJ1.lo_le; omega
  rw [hlo] at hJ1
  rw [hB] at hJ1 ⊢
  rw [hM] at hJ1
  have HMS := Lib.hid (show w.heap.size ≤ M by omega)
  clear hB hM hlo
  obtain ⟨hb1, hb2, hb3⟩ := hBM
  go_wp2_with fail
  refine (jnew_any (q := 8) (by omega) (by omega) (by omega)).mono ?_; rintro e w2 ⟨rfl, hC2, hF2⟩
  obtain ⟨B', hB⟩ : ∃ B', w1.heap.size + 1 = B' := ⟨_, rfl⟩
  obtain ⟨M', hM⟩ : ∃ M', w1.heap.size = M' := ⟨_, rfl⟩
  obtain ⟨lo', hlo⟩ : ∃ lo', w1.heap.size + 2 = lo' := ⟨_, rfl⟩
  have hBM : M' < lo' ∧ B' < lo' ∧ M' < B' ∧ lo ≤ M' := by omega
  rw [hlo] at hC2
  rw [hB] at hC2 ⊢
  rw [hM] at hC2
  clear hB hM hlo hl1
  obtain ⟨hb4, hb5, hb6, hb7⟩ := hBM
  have hJ2 := hJ1.fr hF2 (by simp) (by simp) (by simp)
  have HF2 := Lib.hid (hF1.trans hF2 (by simp))
  clear hJ1 hF1 hF2
  go_wp2_with fail
  refine (known_j _).mono ?_; rintro e w3 ⟨rfl, hF⟩
  have hJ3 := hJ2.fr hF (by simp) (by simp) (by simp)
  have hC3 := hC2.fr hF (by simp) (by simp) (by simp)
  have HF3 := Lib.hid (HF2.out.trans hF (by simp))
  clear hJ2 hC2 hF
  go_wp2_with fail
  refine (one_lit 2 2 rfl (by omega)).mono ?_; rintro e w4 ⟨v4, rfl, hv4, hF⟩
  have hJ4 := hJ3.fr hF (by simp) (by simp) (by simp)
  have hC4 := hC3.fr hF (by simp) (by simp) (by simp)
  have HF4 := Lib.hid (HF3.out.trans hF (by simp))
  clear hJ3 hC3 hF
  go_wp2_with fail
  refine (put_no hJ4 hv4 (by omega) (inK_of (by omega) (by omega)) (.inr (.inl ⟨by omega, by omega⟩))).mono ?_; rintro e w' ⟨rfl, rfl⟩
  go_wp2_with fail
  refine (one_lit 2 2 rfl (by omega)).mono ?_; rintro e w5 ⟨v5, rfl, hv5, hF⟩
  have hJ5 := hJ4.fr hF (by simp) (by simp) (by simp)
  have hC5 := hC4.fr hF (by simp) (by simp) (by simp)
  have HF5 := Lib.hid (HF4.out.trans hF (by simp))
  clear hJ4 hC4 hF
  go_wp2_with fail
  refine (put_yes hJ5 hv5 (by omega) (by omega) (inK_of (by omega) (by omega)) (by omega) (by omega) (by simp) (by omega)).mono ?_; rintro e w6 ⟨rfl, hJ6, hF⟩
  have hC6 := hC5.fr hF (fun x hx => by simp at hx; omega) (by simp; omega) (by simp; omega)
  have HF6 := Lib.hid (HF5.out.trans hF (fun x hx => .inr (by have := HMS.out; simp at hx; omega)))
  clear hJ5 hC5 hF hv5
  go_wp2_with fail
  refine (one_lit 2 2 rfl (by omega)).mono ?_; rintro e w7 ⟨v7, rfl, hv7, hF⟩
  have hJ7 := hJ6.fr hF (by simp) (by simp) (by simp)
  have hC7 := hC6.fr hF (by simp) (by simp) (by simp)
  have HF7 := Lib.hid (HF6.out.trans hF (by simp))
  clear hJ6 hC6 hF
  go_wp2_with fail
  refine (put_no hJ7 hv7 (by omega) (inK_of (by omega) (by omega)) (.inr (.inr (.inl ⟨by omega, by omega, by simp⟩)))).mono ?_; rintro e w' ⟨rfl, rfl⟩
  go_wp2_with fail
  refine (one_lit 3 3 rfl (by omega)).mono ?_; rintro e w8 ⟨v8, rfl, hv8, hF⟩
  have hJ8 := hJ7.fr hF (by simp) (by simp) (by simp)
  have hC8 := hC7.fr hF (by simp) (by simp) (by simp)
  have HF8 := Lib.hid (HF7.out.trans hF (by simp))
  clear hJ7 hC7 hF
  go_wp2_with fail
  refine (put_no hJ8 hv8 (by omega) (inK_of (by omega) (by omega)) (.inr (.inr (.inr ⟨by omega, by omega, by simp, by omega⟩)))).mono ?_; rintro e w' ⟨rfl, rfl⟩
  go_wp2_with fail
  refine (one_lit 2 2 rfl (by omega)).mono ?_; rintro e w9 ⟨v9, rfl, hv9, hF⟩
  have hJ9 := hJ8.fr hF (by simp) (by simp) (by simp)
  have hC9 := hC8.fr hF (by simp) (by simp) (by simp)
  have HF9 := Lib.hid (HF8.out.trans hF (by simp))
  clear hJ8 hC8 hF
  go_wp2_with fail
  refine (put_yes hJ9 hv9 (by omega) (by omega) (inK_of (by omega) (by omega)) (by omega) (by omega) (by simp) (by omega)).mono ?_; rintro e w10 ⟨rfl, hJ10, hF⟩
  have hC10 := hC9.fr hF (fun x hx => by simp at hx; omega) (by simp; omega) (by simp; omega)
  have HF10 := Lib.hid (HF9.out.trans hF (fun x hx => .inr (by have := HMS.out; simp at hx; omega)))
  clear hJ9 hC9 hF hv9
  go_wp2_with fail
  refine (count_any hJ10).mono ?_; rintro e w' ⟨rfl, rfl⟩
  go_wp2_with fail
  refine (next_yes (R := oneR 0) hJ10 (by omega) (by simp)).mono ?_; rintro e w11 ⟨r11, rfl, hr11, hJ11, hF⟩
  have hC11 := hC10.fr hF (fun x hx => by simp at hx; omega) (by simp; omega) (by simp; omega)
  have HF11 := Lib.hid (HF10.out.trans hF (fun x hx => .inr (by have := HMS.out; simp at hx; omega)))
  clear hJ10 hC10 hF hr11
  go_wp2_with fail
  refine (one_lit 2 2 rfl (by omega)).mono ?_; rintro e w12 ⟨v12, rfl, hv12, hF⟩
  have hJ12 := hJ11.fr hF (by simp) (by simp) (by simp)
  have hC12 := hC11.fr hF (by simp) (by simp) (by simp)
  have HF12 := Lib.hid (HF11.out.trans hF (by simp))
  clear hJ11 hC11 hF
  go_wp2_with fail
  refine (put_no hJ12 hv12 (by omega) (inK_of (by omega) (by omega)) (.inl (by omega))).mono ?_; rintro e w' ⟨rfl, rfl⟩
  go_wp2_with fail
  refine (one_lit 2 2 rfl (by omega)).mono ?_; rintro e w13 ⟨v13, rfl, hv13, hF⟩
  have hJ13 := hJ12.fr hF (by simp) (by simp) (by simp)
  have hC13 := hC12.fr hF (by simp) (by simp) (by simp)
  have HF13 := Lib.hid (HF12.out.trans hF (by simp))
  clear hJ12 hC12 hF
  go_wp2_with fail
  refine (put_yes hJ13 hv13 (by omega) (by omega) (inK_of (by omega) (by omega)) (by omega) (by omega) (by simp) (by omega)).mono ?_; rintro e w14 ⟨rfl, hJ14, hF⟩
  have hC14 := hC13.fr hF (fun x hx => by simp at hx; omega) (by simp; omega) (by simp; omega)
  have HF14 := Lib.hid (HF13.out.trans hF (fun x hx => .inr (by have := HMS.out; simp at hx; omega)))
  clear hJ13 hC13 hF hv13
  have hat := at_any hJ14
  have hcn := count_any hJ14
  go_wp2_with fail
  refine hat.mono ?_; rintro e w' ⟨rfl, rfl⟩
  go_wp2_with fail
  refine hcn.mono ?_; rintro e w' ⟨rfl, rfl⟩
  go_wp2_with fail
  refine (one_lit 8 8 rfl (by omega)).mono ?_; rintro e w15 ⟨v15, rfl, hv15, hF⟩
  have hC15 := hC14.fr hF (by simp) (by simp) (by simp)
  have HF15 := Lib.hid (HF14.out.trans hF (by simp))
  clear hJ14 hC14 hF
  go_wp2_with fail
  refine (put_yes hC15 hv15 (by omega) (by omega) (inK_of (by omega) (by omega)) (by omega) (by omega) (by simp) (by omega)).mono ?_; rintro e w16 ⟨rfl, hC16, hF⟩
  have HF16 := Lib.hid (HF15.out.trans hF (fun x hx => .inr (by have := HMS.out; simp at hx; omega)))
  clear hC15 hF hv15
  go_wp2_with fail
  refine (one_lit 8 8 rfl (by omega)).mono ?_; rintro e w17 ⟨v17, rfl, hv17, hF⟩
  have hC17 := hC16.fr hF (by simp) (by simp) (by simp)
  have HF17 := Lib.hid (HF16.out.trans hF (by simp))
  clear hC16 hF
  go_wp2_with fail
  refine (put_no hC17 hv17 (by omega) (inK_of (by omega) (by omega)) (.inl (by omega))).mono ?_; rintro e w' ⟨rfl, rfl⟩
  go_wp2_with fail
  go_ret
  exact ⟨rfl, HF17.out.below (Nat.le_refl _) (by simp)⟩
end Go.Proofs.Ytgiclbdmkefhiaa.Jt
