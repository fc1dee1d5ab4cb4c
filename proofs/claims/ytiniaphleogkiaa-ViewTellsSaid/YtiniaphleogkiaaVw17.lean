import Derived.Test.YtiniaphleogkiaaVw16
namespace Go.Proofs.Ytiniaphleogkiaa.Vw
open Go.RowKit Dt Go.Proofs.Ytiniaphleogkiaa.Hd Go.Proofs.Ytiniaphleogkiaa.Ma Ieee
set_option linter.unusedVariables false
set_option linter.unusedSimpArgs false

theorem slf_below {w w' : World} {a : Option Addr} {len cap : Nat} {f : Nat → Nat} (h : SlF w a len cap f) (hb : Below w.heap.size w w') : SlF w' a len cap f :=
  ⟨⟨h.1.le, h.1.nil, h.1.reach, fun hp => by
    obtain ⟨b, off, e, lt, hc⟩ := h.1.cells hp
    exact ⟨b, off, e, Nat.lt_of_lt_of_le lt hb.size, fun i hi => (hb.cell (p := ⟨b, off + i, none⟩) lt).trans (hc i hi)⟩⟩, h.2⟩
set_option maxRecDepth 100000 in
set_option maxHeartbeats 3200000 in
theorem walk_vtells (b0 b1 b2 : Int) (x0 x1 x2 : Nat) (a0 : Option Addr) (len0 cap0 : Nat) (z0 : Nat → Int) (a1 : Option Addr) (len1 cap1 : Nat) (z1 : Nat → Nat) (W : World) (h0 : (Lit.int .i64 b0).wf = true) (h1 : (Lit.int .i64 b1).wf = true) (h2 : (Lit.int .i64 b2).wf = true) (h3 : (Lit.float .f64 x0).wf = true) (h4 : (Lit.float .f64 x1).wf = true) (h5 : (Lit.float .f64 x2).wf = true) (s0 : SlI .i64 W a0 len0 cap0 z0) (s1 : SlF W a1 len1 cap1 z1) :
    Calls Try.prog 11 #[.int .i64 b0, .int .i64 b1, .int .i64 b2, .float .f64 x0, .float .f64 x1, .float .f64 x2, .slice a0 len0 cap0, .slice a1 len1 cap1] W fun e w' => e = .returned (.bool true) ∧ Below W.heap.size W w' := by
  obtain ⟨D, hD, hfl⟩ := floats_det z0 z1 len1 (fun t ht => by have := s1.2 t ht; exact wf64 this)
  have hx := wf64 h3
  have hy := wf64 h4
  have hz := wf64 h5
  clear h0 h1 h2 h3 h4 h5
  have HS0 := Lib.hid s0; have HS1 := Lib.hid s1
  have HFL := Lib.hid hfl
  clear s0 s1 hfl
  obtain ⟨n, hn⟩ : ∃ n, min len0 20 = n := ⟨_, rfl⟩
  have hn20 : n ≤ 20 := by omega
  have HN := Lib.hid hn; clear hn
  go_enter Try.func11, Try.ntmps11
  go_wp2_with fail
  refine (float_any _ _ hx _).mono ?_; rintro e w' ⟨p, hp, rfl, rfl⟩
  go_wp2_with fail
  refine (float_any _ _ hy _).mono ?_; rintro e w' ⟨q, hq, rfl, rfl⟩
  go_wp2_with fail
  refine (float_any _ _ hz _).mono ?_; rintro e w' ⟨r, hr, rfl, rfl⟩
  go_wp2_with fail
  refine (vknown_any _).mono ?_; rintro e w1 ⟨rfl, hF1⟩
  obtain ⟨z, hz1, hz2⟩ := btw_both hp hq hr
  have hal := alike_any z z
  rw [decide_eq_true rfl, Bool.or_true] at hal
  have HF1 := Lib.hid hF1; clear hF1
  go_wp2_with fail
  refine (hz1 _).mono ?_; rintro e w' ⟨rfl, rfl⟩
  go_wp2_with fail
  refine (hz2 _).mono ?_; rintro e w' ⟨rfl, rfl⟩
  go_wp2_with fail
  refine (hal _).mono ?_; rintro e w' ⟨rfl, rfl⟩
  go_wp2_with fail
  refine (sooner_any p q hp hq _).mono ?_; rintro e w' ⟨rfl, rfl⟩
  go_wp2_with fail
  refine (rsooner_any p q hp hq _).mono ?_; rintro e w' ⟨rfl, rfl⟩
  have hso : (soonB p q == soonB p q) = true := by simp
  go_wp2_with fail
  refine (HFL.out _ _ _ _ _ _ (HS0.out.of_below (HF1.out.below (Nat.le_refl _) (by simp))) (slf_below HS1.out (HF1.out.below (Nat.le_refl _) (by simp)))).mono ?_; rintro e w2 ⟨v2, rfl, hS2, hF2⟩
  rw [HN.out] at hS2
  obtain ⟨a2, cap2, rfl, hcs2⟩ := hS2
  have HC2 := Lib.hid hcs2; have HF2 := Lib.hid hF2; clear hcs2 hF2
  go_wp2_with fail
  refine (order_any (d := D) (fun h => by obtain ⟨b, off, e, -, h2, h3⟩ := HC2.out h; exact ⟨b, off, e, h2, h3⟩) (fun t _ => hD t) hn20).mono ?_
  rintro e w3 ⟨v3, X, rfl, hO3, hS3, hF3⟩
  have HF3 := Lib.hid ((HF1.out.trans HF2.out (by simp)).trans hF3 (by simp)); have HO3 := Lib.hid hO3; have HX3 := Lib.hid hS3; clear hF3 hO3 hS3
  go_wp2_with fail
  refine (HFL.out _ _ _ _ _ _ (HS0.out.of_below (HF3.out.below (Nat.le_refl _) (by simp))) (slf_below HS1.out (HF3.out.below (Nat.le_refl _) (by simp)))).mono ?_; rintro e w4 ⟨v4, rfl, hS4, hF4⟩
  rw [HN.out] at hS4
  obtain ⟨a4, cap4, rfl, hcs4⟩ := hS4
  have HC4 := Lib.hid hcs4; have HF4 := Lib.hid hF4; clear hcs4 hF4
  go_wp2_with fail
  refine (rorder_any (d := D) (fun h => by obtain ⟨b, off, e, -, h2, h3⟩ := HC4.out h; exact ⟨b, off, e, h2, h3⟩) hD hn20).mono ?_
  rintro e w5 ⟨v5, Y, rfl, hO5, hS5, hF5⟩
  have hX5 := (HX3.out.fr HF4.out (by simp)).fr hF5 (by simp)
  have hF6 := (HF3.out.trans HF4.out (by simp)).trans hF5 (by simp)
  have hU := HO3.out.unique hO5
  have HX5 := Lib.hid hX5; have HF6 := Lib.hid hF6; have HU := Lib.hid hU; have HS5 := Lib.hid hS5
  clear hX5 hF6 hU hS5 hF5 hO5
  go_wp2_with fail
  refine (same_yes HX5.out.v HS5.out.v HU.out (by omega)).mono ?_
  rintro e w9 ⟨rfl, m9, rfl⟩
  go_wp2_with fail
  go_ret
  exact ⟨rfl, (HF6.out.drewN m9).below (Nat.le_refl _) (by simp)⟩
end Go.Proofs.Ytiniaphleogkiaa.Vw
