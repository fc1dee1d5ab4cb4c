import Derived.Test.YtlfdbkdaamodnaaBit10
import Derived.Deep.Cut
namespace Go.Proofs.Ytlfdbkdaamodnaa.Bt
open Go.RowKit Dt Go.Proofs.Ytlfdbkdaamodnaa.Hd
set_option linter.unusedVariables false
set_option linter.unusedSimpArgs false

/-- the signed number in v's k bits -/
def sgn (v k : Nat) : Int := if 2 ^ k ≤ 2 * v ∧ k ≠ 0 then (v : Int) - 2 ^ k else v

theorem sgn_shift {v k : Nat} (hv : v < 2 ^ k) (h1 : 0 < k) (h2 : k ≤ 64) : wrap64 (IntKind.u64.wrap ((v : Int) * 2 ^ (64 - k))) / 2 ^ (64 - k) = sgn v k := by
  obtain ⟨P, hP⟩ : ∃ P, 2 ^ (64 - k) = P := ⟨_, rfl⟩
  obtain ⟨Q, hQ⟩ : ∃ Q, 2 ^ (k - 1) = Q := ⟨_, rfl⟩
  have hk : 2 ^ k = 2 * Q := by rw [← hQ, ← Nat.pow_succ']; congr 1; omega
  have hQP : Q * P = 9223372036854775808 := by rw [← hQ, ← hP, ← Nat.pow_add]; have : k - 1 + (64 - k) = 63 := by omega
                                               rw [this]
  have hPp : 0 < P := by rw [← hP]; exact Nat.two_pow_pos _
  have hPi : ((2 : Int) ^ (64 - k)) = (P : Int) := by rw [← hP]; push_cast; rfl
  have hki : ((2 : Int) ^ k) = 2 * (Q : Int) := by have : ((2 ^ k : Nat) : Int) = ((2 * Q : Nat) : Int) := by rw [hk]
                                                   push_cast at this; exact this
  rw [hk] at hv
  rw [hPi]
  have hvP : v * P < 18446744073709551616 := by
    have := Nat.mul_lt_mul_of_pos_right hv hPp
    rw [Nat.mul_assoc, hQP] at this; exact this
  have e1 : (v : Int) * (P : Int) = ((v * P : Nat) : Int) := by push_cast; rfl
  rw [e1, IntWalk.u64_in _ (by omega)]
  have hPi0 : (P : Int) ≠ 0 := by omega
  by_cases c : Q ≤ v
  · have h3 := Nat.mul_le_mul_right P c
    rw [hQP] at h3
    have e2 : wrap64 ((v * P : Nat) : Int) = ((v * P : Nat) : Int) - 18446744073709551616 := by unfold wrap64; omega
    have e3 : ((v * P : Nat) : Int) - 18446744073709551616 = ((v : Int) - 2 * Q) * P := by
      have : ((Q * P : Nat) : Int) = 9223372036854775808 := by rw [hQP]; rfl
      push_cast at this ⊢
      rw [Int.sub_mul, Int.mul_assoc, this]; omega
    rw [e2, e3, Int.mul_ediv_cancel _ hPi0]
    unfold sgn; rw [hk, hki, if_pos ⟨by omega, by omega⟩]
  · have h3 := Nat.mul_lt_mul_of_pos_right (Nat.lt_of_not_le c) hPp
    rw [hQP] at h3
    have e2 : wrap64 ((v * P : Nat) : Int) = ((v * P : Nat) : Int) := by unfold wrap64; omega
    have e3 : ((v * P : Nat) : Int) = (v : Int) * P := by push_cast; rfl
    rw [e2, e3, Int.mul_ediv_cancel _ hPi0]
    unfold sgn; rw [hk, if_neg (fun h => by omega)]

theorem signed_zero {w : World} {A : Nat} {n : Int} (hk : n ≤ 0) :
    Calls Try.prog 48 #[.pointer (some ⟨A, 0, none⟩), .int .i64 n] w fun e w' => e = .returned (.int .i64 0) ∧ w = w' := by
  have HK : Hid (((0 : Nat) : Int) = max 0 (min n 64)) := Lib.hid (by omega)
  go_enter Try.func48, Try.ntmps48
  go_wp2_with fail
  refine (within_any _ _ 0 HK.out).mono ?_; rintro e w' ⟨rfl, rfl⟩
  go_wp2_with fail
  go_ret
  exact ⟨rfl, rfl⟩
theorem signed_no {w : World} {B A : Nat} {bv : Value} {bs : List Nat} {p : Nat} {n : Int} {k : Nat} (h : HasRd w B A bv bs p) (hk : (k : Int) = max 0 (min n 64)) (hle : 8 * bs.length < p + k) :
    Calls Try.prog 48 #[.pointer (some ⟨A, 0, none⟩), .int .i64 n] w fun e w' => e = .panicked [{ v := Tr.thrownV 100 p, recovered := false }] ∧ ∃ m, w' = w.drewN m := by
  have HK := Lib.hid hk
  have hk64 : k ≤ 64 := by omega
  have hk0 : 0 < k := by have := h.fit; omega
  have hkk : (k : Int) = max 0 (min (k : Int) 64) := by omega
  clear hk
  have HH := Lib.hid h; clear h
  have HKK := Lib.hid hkk; clear hkk
  have hd : ((k : Int) == 0) = false := by simp; omega
  go_enter Try.func48, Try.ntmps48
  go_wp2_with fail
  refine (within_any _ _ k HK.out).mono ?_; rintro e w' ⟨rfl, rfl⟩
  go_wp2_with fail
  refine (get_no HH.out HKK.out hle).mono ?_; rintro e w1 ⟨rfl, m, rfl⟩
  dsimp only
  exact ⟨rfl, rfl, _, rfl⟩
set_option maxHeartbeats 1600000 in
theorem signed_yes {w : World} {B A : Nat} {bv : Value} {bs : List Nat} {p : Nat} {n : Int} {k : Nat} (h : HasRd w B A bv bs p) (hk : (k : Int) = max 0 (min n 64)) (hle : p + k ≤ 8 * bs.length) :
    Calls Try.prog 48 #[.pointer (some ⟨A, 0, none⟩), .int .i64 n] w fun e w' => e = .returned (.int .i64 (sgn (getN bs p k) k)) ∧ HasRd w' B A bv bs (p + k) ∧ Fr [A] w w' := by
  rcases Nat.eq_zero_or_pos k with h0 | h0
  · subst h0
    exact (signed_zero (w := w) (A := A) (n := n) (by omega)).mono fun e w' ⟨he, hw⟩ => ⟨he, hw ▸ h, hw ▸ Fr.refl _ _⟩
  · have HK := Lib.hid hk
    have hk64 : k ≤ 64 := by omega
    have hkk : (k : Int) = max 0 (min (k : Int) 64) := by omega
    clear hk
    have HH := Lib.hid h; clear h
    have HKK := Lib.hid hkk; clear hkk
    have hd : ((k : Int) == 0) = false := by simp; omega
    go_enter Try.func48, Try.ntmps48
    go_wp2_with fail
    refine (within_any _ _ k HK.out).mono ?_; rintro e w' ⟨rfl, rfl⟩
    go_wp2_with fail
    refine (get_yes HH.out HKK.out hle).mono ?_; rintro e w1 ⟨rfl, hR, hF⟩
    go_wp2_with fail
    go_ret
    exact ⟨ret_i (sgn_shift (getN_lt _ _ _) h0 hk64), hR, hF⟩
end Go.Proofs.Ytlfdbkdaamodnaa.Bt
