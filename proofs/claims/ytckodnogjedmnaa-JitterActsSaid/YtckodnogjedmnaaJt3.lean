/- chapter 22: rows that are alike; what is known. -/
import Derived.Test.YtckodnogjedmnaaJt2
namespace Go.Proofs.Ytckodnogjedmnaa.Jt
open Go.RowKit Dt Go.Proofs.Ytckodnogjedmnaa.Hd
set_option linter.unusedVariables false
set_option linter.unusedSimpArgs false

set_option maxRecDepth 100000 in
set_option maxHeartbeats 1600000 in
theorem same_row {w : World} {bu bv n : Nat} {u v : Value} {R : Nat → C4} (hu : RS w bu u n R) (hv : RS w bv v n R) (hn : n ≤ 1000000) :
    Calls Try.prog 19 #[u, v] w fun e w' => e = .returned (.bool true) ∧ ∃ k, w' = w.drewN k := by
  obtain ⟨a1, c1, rfl, -, -, -, hc1⟩ := hu
  obtain ⟨a2, c2, rfl, -, -, -, hc2⟩ := hv
  have H1 := Lib.hid hc1; have H2 := Lib.hid hc2
  clear hc1 hc2
  go_enter Try.func19, Try.ntmps19
  go_wp2_with fail
  go_loopw [5] (fun iv wr => ∃ k m : Nat, k ≤ n ∧ iv = .int .i64 k ∧ wr = w.drewN m) (fun iv _ => n - (intOf iv).toNat)
  case atStart => exact ⟨0, 0, by omega, rfl, rfl⟩
  case round =>
    obtain ⟨k, m, hk, rfl, rfl⟩ := hrel
    by_cases hlt : k < n
    · obtain ⟨b, off, rfl, -, -, hb⟩ := H1.out (by omega)
      obtain ⟨b', off', rfl, -, -, hb'⟩ := H2.out (by omega)
      obtain ⟨x0, x1, x2, x3, hx⟩ : ∃ x0 x1 x2 x3, R k = (x0, x1, x2, x3) := ⟨_, _, _, _, rfl⟩
      have g0 := hb k 0 (.bool x0) hlt (by omega) (by rw [hx]; rfl)
      have g1 := hb k 1 (.int .i64 x1) hlt (by omega) (by rw [hx]; rfl)
      have g2 := hb k 2 (.int .i64 x2) hlt (by omega) (by rw [hx]; rfl)
      have g3 := hb k 3 (.int .i64 x3) hlt (by omega) (by rw [hx]; rfl)
      have k0 := hb' k 0 (.bool x0) hlt (by omega) (by rw [hx]; rfl)
      have k1 := hb' k 1 (.int .i64 x1) hlt (by omega) (by rw [hx]; rfl)
      have k2 := hb' k 2 (.int .i64 x2) hlt (by omega) (by rw [hx]; rfl)
      have k3 := hb' k 3 (.int .i64 x3) hlt (by omega) (by rw [hx]; rfl)
      rw [← Nat.add_assoc] at g0 g1 g2 g3 k0 k1 k2 k3
      rw [Nat.add_zero] at g0 k0
      change (w.drewN m).cell? _ = _ at g0 g1 g2 g3 k0 k1 k2 k3
      have q1 : (k : Int) < n := by omega
      have q0 : (0 : Int) ≤ k := by omega
      clear hb hb' hx
      obtain ⟨wm, hwm⟩ : ∃ wm, w.drewN m = wm := ⟨_, rfl⟩
      rw [hwm] at g0 g1 g2 g3 k0 k1 k2 k3 ⊢
      have HWM := Lib.hid hwm; clear hwm
      go_wp2_with fail
      go_quiet (fail)
      go_wp2_with fail
      go_roundw
      case rel => exact ⟨k + 1, m + nq, by omega, by go_num, by rw [← HWM.out, World.drewN_drewN]⟩
      case measure => simp [intOf]; omega
    · have hkn : k = n := by omega
      have q1 : ¬ (k : Int) < n := by omega
      go_wp2_with fail
      go_ret
      exact ⟨rfl, m, rfl⟩
end Go.Proofs.Ytckodnogjedmnaa.Jt
