/- chapter 24: its example. -/
import Derived.Test.YtkjjikjilmngdaaNtK
namespace Go.Proofs.Ytkjjikjilmngdaa.Nt
open Go.RowKit Dt Go.Proofs.Ytkjjikjilmngdaa.Hd
set_option linter.unusedVariables false
set_option linter.unusedSimpArgs false

theorem kn1 : sendS ⟨[], [], 0⟩ 7 8 [7] 3 = ⟨[], [⟨4, 7, 8, [7]⟩], 0⟩ := rfl
theorem kn2 : deliverS ⟨[], [⟨4, 7, 8, [7]⟩], 0⟩ 3 = ([], ⟨[], [⟨4, 7, 8, [7]⟩], 0⟩) := rfl
theorem kn3 : deliverS ⟨[], [⟨4, 7, 8, [7]⟩], 0⟩ 4 = ([⟨4, 7, 8, [7]⟩], ⟨[], [], 0⟩) := rfl
set_option maxRecDepth 100000 in
set_option maxHeartbeats 3200000 in
theorem known_any (w : World) : Calls Try.prog 26 #[] w fun e w' => e = .returned (.bool true) ∧ Fr [] w w' := by
  go_enter Try.func26, Try.ntmps26
  go_wp2_with fail
  have hN := HasN.new w (K := []) w (by simp) (Fr.refl [] w)
  generalize w.alloc (.cells #[.slice none 0 0, .slice none 0 0, .int .i64 0] 71) = w1 at *
  refine (one_any 7 _).mono ?_; rintro e w2 ⟨a, rfl, hbv, hF⟩
  have hN2 := (hN.fr0 hF).1
  clear hN hF
  rw [show byt 7 = 7 by unfold byt; decide] at hbv
  rw [show wrap64 (7 + 1) = 8 from IntWalk.wrap64_in 8 (by decide)]
  go_wp2_with fail
  refine (hsend (src := 7) (dst := 8) (tick := 3) (bs := [7]) hN2 hbv (by decide) (by decide)).mono ?_; rintro e w3 ⟨rfl, hN3, -⟩
  rw [kn1] at hN3
  clear hN2 hbv
  go_wp2_with fail
  refine (hdeliver hN3 3).mono ?_; rintro e w4 ⟨ov, rfl, hN4, hD4, -⟩
  rw [kn2] at hN4 hD4
  obtain ⟨a4, c4, rfl⟩ := hD4.val
  clear hN3 hD4
  go_wp2_with fail
  refine (hdeliver hN4 4).mono ?_; rintro e w5 ⟨ov, rfl, hN5, hD5, -⟩
  rw [kn3] at hN5 hD5
  obtain ⟨g, cap, a5, c5, rfl, hc1, hc2, d0, d1, d2, hbv5⟩ := hD5.at (t := 0) rfl
  clear hN4 hD5
  rw [Nat.zero_mul, Nat.zero_add] at d1 d2
  rw [Nat.zero_mul] at d0
  go_wp2_with fail
  refine (is_yes (n := 7) (m := 8) rfl (by rw [show byt 7 = 7 by unfold byt; decide]; exact hbv5) (by decide) (by decide)).mono ?_; rintro e w6 ⟨rfl, hF6⟩
  have hN6 := (hN5.fr0 hF6).1
  clear hN5 hbv5 d0 d1 d2 hF6
  go_wp2_with fail
  refine (hflight hN6).mono ?_; rintro e w7 ⟨rfl, rfl⟩
  have hfr := hN6.fr
  clear hN6
  go_wp2_with fail
  go_ret
  exact ⟨rfl, hfr⟩
end Go.Proofs.Ytkjjikjilmngdaa.Nt
