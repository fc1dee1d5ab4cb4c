import Derived.Test.YtkjjikjilmngdaaWinO
import Derived.Test.YtkjjikjilmngdaaHand
import Derived.Deep.LoopGhost
namespace Go.Proofs.Ytkjjikjilmngdaa.Wn
open Go.RowKit Dt Go.Proofs.Ytkjjikjilmngdaa.Sq Go.Proofs.Ytkjjikjilmngdaa.Hd
set_option linter.unusedVariables false

/-- does a window with these bits cover a number? -/
def covS (last : Int) (f : Nat → Bool) (n : Int) : Bool :=
  decide (far n last = 0) || (decide (-64 ≤ far n last ∧ far n last < 0) && f (-(far n last) - 1).toNat)

theorem bits_and_zero (v : Int) {f : Nat → Bool} (h : Bt v f) : bits .and .u64 v 0 = 0 := by
  obtain ⟨m, rfl, hm, hk⟩ := h
  have := u64_and_nat m 0 hm (by decide)
  simpa using this

theorem covers_any (last v n : Int) (f : Nat → Bool) (w : World) (hb : Bt v f) :
    Calls Try.prog 45 #[.int .i64 last, .int .u64 v, .int .i64 n] w fun e w' => e = .returned (.bool (covS last f n)) ∧ w = w' := by
  have g1 := far_lo n last
  have g2 := far_hi n last
  by_cases hz : far n last = 0
  · have hfin : covS last f n = true := by simp [covS, hz]
    rw [hfin]
    have hz' : (far n last == 0) = true := by simp [hz]
    clear hfin hz
    have HB := Lib.hid hb; clear hb
    go_enter Try.func45, Try.ntmps45
    go_wp2_with (first | (go_at_call 67; refine (ahead_any _ _ _).mono ?_; rintro e w' ⟨rfl, rfl⟩))
    go_ret
    exact ⟨rfl, rfl⟩
  · have hz' : (far n last == 0) = false := by simp [hz]
    by_cases hr : -64 ≤ far n last ∧ far n last < 0
    · have hand := hb.and_bit (k := -(far n last)) (by omega) (by omega)
      have hfin : covS last f n = decide (0 < bits .and .u64 v (bitv (-(far n last)))) := by
        unfold covS; rw [hand]; simp [hz, hr]
      rw [hfin]
      clear hfin hand hz
      have HB := Lib.hid hb; clear hb
      go_enter Try.func45, Try.ntmps45
      go_wp2_with (first | (go_at_call 67; refine (ahead_any _ _ _).mono ?_; rintro e w' ⟨rfl, rfl⟩) | (go_at_call 68; refine (bit_any _ _ (by omega) (by omega)).mono ?_; rintro e w' ⟨rfl, rfl⟩))
      go_ret
      exact ⟨rfl, rfl⟩
    · have e0 : bitv (-(far n last)) = 0 := by unfold bitv; rw [if_neg (by omega)]
      have hand := bits_and_zero v hb
      have hfin : covS last f n = false := by unfold covS; simp [hz, hr]
      rw [hfin]
      clear hfin hz
      have HB := Lib.hid hb; clear hb
      go_enter Try.func45, Try.ntmps45
      go_wp2_with (first | (go_at_call 67; refine (ahead_any _ _ _).mono ?_; rintro e w' ⟨rfl, rfl⟩) | (go_at_call 68; refine (bit_any _ _ (by omega) (by omega)).mono ?_; rintro e w' ⟨rfl, rfl⟩; rw [e0]))
      go_ret
      exact ⟨by simp, rfl⟩
end Go.Proofs.Ytkjjikjilmngdaa.Wn
