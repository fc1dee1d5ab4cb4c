/- chapter 24: pieces of a row of flights changed about. -/
import Derived.Test.YtkjjikjilmngdaaNt
namespace Go.Proofs.Ytkjjikjilmngdaa.Nt
open Go.RowKit Dt Go.Proofs.Ytkjjikjilmngdaa.Hd
set_option linter.unusedVariables false
set_option linter.unusedSimpArgs false

theorem FR.swap {w : World} {g n p q : Nat} {X : Nat → FgV} (h : FR w g X n) (hp : p < n) (hq : q < n) {xp xq : FgV} (e1 : X p = xp) (e2 : X q = xq) : FR (((w.setCells g (p * 4) xq.cs).setCells g (q * 4) xp.cs)).drew g (fun t => if t = q then X p else if t = p then X q else X t) n := by
  subst e1 e2
  exact ((h.set hp (X q)).set hq (X p)).drew
theorem FR.swap_fr {w a : World} {g p q : Nat} (hF : Fr [g] a w) (xp xq : FgV) : Fr [g] a (((w.setCells g (p * 4) xq.cs).setCells g (q * 4) xp.cs)).drew := (FR.fr_set (FR.fr_set hF p xq) q xp).drew
set_option maxRecDepth 100000 in
set_option maxHeartbeats 3200000 in
theorem swapR_any {w : World} {g N cap : Nat} {X : Nat → FgV} {f : Value} {a b n : Nat} (h : FR w g X N) (h1 : a + n ≤ b) (h2 : b + n ≤ N) (hN : N ≤ 1000000) :
    Calls Try.prog 88 #[.slice (some ⟨g, 0, none⟩) N cap, .int .i64 a, .int .i64 b, .int .i64 n, f] w fun e w' =>
      e = .returned (.tuple #[]) ∧ FR w' g (swF X a b n) N ∧ Fr [g] w w' := by
  have HR := Lib.hid h
  clear h
  go_enter Try.func88, Try.ntmps88
  go_wp2_with fail
  go_loopw [10] (fun iv wr => ∃ (i : Nat), i ≤ n ∧ iv = .int .i64 i ∧ FR wr g (swF X a b i) N ∧ Fr [g] w wr) (fun iv _ => n - (intOf iv).toNat)
  case atStart => exact ⟨0, by omega, rfl, HR.out.congr (fun t _ => swF_zero X a b t), Fr.refl _ _⟩
  case round =>
    obtain ⟨i, hi, rfl, hr, hF⟩ := hrel
    by_cases hlt : i < n
    · have q1 : (i : Int) < n := by omega
      have HX := Lib.hid hr
      have q2 : (a : Int) + i < N := by omega
      have q3 : (b : Int) + i < N := by omega
      obtain ⟨p, hp⟩ : ∃ p, a + i = p := ⟨_, rfl⟩
      obtain ⟨q, hq⟩ : ∃ q, b + i = q := ⟨_, rfl⟩
      have e1 : (a : Int) + i = (p : Int) := by omega
      have e2 : (b : Int) + i = (q : Int) := by omega
      have lp := fun (u : World) => hr.range (t := p) (by omega)
      obtain ⟨xp, hxp⟩ : ∃ x, swF X a b i p = x := ⟨_, rfl⟩
      obtain ⟨xq, hxq⟩ : ∃ x, swF X a b i q = x := ⟨_, rfl⟩
      have a0 := hr.cell (t := p) (j := 0) (by omega) rfl
      have a1 := hr.cell (t := p) (j := 1) (by omega) rfl
      have a2 := hr.cell (t := p) (j := 2) (by omega) rfl
      have a3 := hr.cell (t := p) (j := 3) (by omega) rfl
      have b0 := hr.cell (t := q) (j := 0) (by omega) rfl
      have b1 := hr.cell (t := q) (j := 1) (by omega) rfl
      have b2 := hr.cell (t := q) (j := 2) (by omega) rfl
      have b3 := hr.cell (t := q) (j := 3) (by omega) rfl
      rw [hxp] at a0 a1 a2 a3
      rw [hxq] at b0 b1 b2 b3
      have f0 := hr.free (p * 4)
      have f1 := hr.free (p * 4 + 1)
      have f2 := hr.free (p * 4 + 2)
      have f3 := hr.free (p * 4 + 3)
      have g0 := hr.free (q * 4)
      have g1 := hr.free (q * 4 + 1)
      have g2 := hr.free (q * 4 + 2)
      have g3 := hr.free (q * 4 + 3)
      rw [Nat.add_zero] at a0 b0
      have HP := Lib.hid hp; have HQ := Lib.hid hq; have HXP := Lib.hid hxp; have HXQ := Lib.hid hxq
      clear hp hq hxp hxq hr lp
      go_wp2_with fail
      go_region
      have hw1 := FR.swap HX.out (p := p) (q := q) (by have := HP.out; omega) (by have := HQ.out; omega) HXP.out HXQ.out
      have hw2 := FR.swap_fr hF (p := p) (q := q) xp xq
      change Exit.inBlock _ _ _ _ (((wr.setCells g (p * 4) xq.cs).setCells g (q * 4) xp.cs)).drew
      generalize (((wr.setCells g (p * 4) xq.cs).setCells g (q * 4) xp.cs)).drew = w2 at *
      clear a0 a1 a2 a3 b0 b1 b2 b3 f0 f1 f2 f3 g0 g1 g2 g3 e1 e2
      go_wp2_with fail
      go_roundw
      case rel =>
        refine ⟨i + 1, by omega, by go_num, hw1.congr (fun t ht => ?_), hw2⟩
        rw [swF_step X (by omega)]
        have e1 := HP.out; have e2 := HQ.out
        subst e1 e2
        have k1 : swF X a b i (a + i) = X (a + i) := by unfold swF; rw [if_neg (by omega), if_neg (by omega)]
        have k2 : swF X a b i (b + i) = X (b + i) := by unfold swF; rw [if_neg (by omega), if_neg (by omega)]
        rw [k1, k2]
        by_cases c : t = a + i
        · rw [if_pos c, if_neg (by omega), if_pos c]
        · rw [if_neg c]
          by_cases c2 : t = b + i
          · rw [if_pos c2, if_pos c2]
          · rw [if_neg c2, if_neg c2, if_neg c]
      case measure => simp [intOf]; omega
    · have hin : i = n := by omega
      subst hin
      have q1 : ¬ (i : Int) < i := by omega
      go_wp2_with fail
      go_end0
      exact ⟨rfl, hr, hF⟩
set_option maxRecDepth 100000 in
set_option maxHeartbeats 3200000 in
theorem rotR_any {w : World} {g N cap : Nat} {X : Nat → FgV} {f : Value} {a m b : Nat} (h : FR w g X N) (h1 : a < m) (h2 : m < b) (h3 : b ≤ N) (hN : N ≤ 1000000) :
    Calls Try.prog 84 #[.slice (some ⟨g, 0, none⟩) N cap, .int .i64 a, .int .i64 m, .int .i64 b, f] w fun e w' =>
      e = .returned (.tuple #[]) ∧ FR w' g (rotF X a m b) N ∧ Fr [g] w w' := by
  have HR := Lib.hid h
  clear h
  have e1 : (m : Int) - a = ((m - a : Nat) : Int) := by omega
  have e2 : (b : Int) - m = ((b - m : Nat) : Int) := by omega
  go_enter Try.func84, Try.ntmps84
  go_wp2_with fail
  clear e1 e2
  go_loopw [10, 11] (fun iv jv wr => ∃ (i j : Nat) (Y : Nat → FgV), 0 < i ∧ i ≤ m - a ∧ 0 < j ∧ j ≤ b - m ∧ iv = .int .i64 i ∧ jv = .int .i64 j ∧ FR wr g Y N ∧ (∀ t, rotF Y (m - i) m (m + j) t = rotF X a m b t) ∧ Fr [g] w wr) (fun iv jv _ => (intOf iv).toNat + (intOf jv).toNat)
  case atStart => exact ⟨m - a, b - m, X, by omega, Nat.le_refl _, by omega, Nat.le_refl _, rfl, rfl, HR.out, fun t => by rw [show m - (m - a) = a by omega, show m + (b - m) = b by omega], Fr.refl _ _⟩
  case round =>
    obtain ⟨i, j, Y, i0, i1, j0, j1, rfl, rfl, hY, hrot, hF⟩ := hrel
    have HY := Lib.hid hY; have HRT := Lib.hid hrot; have HF := Lib.hid hF
    clear hY hrot hF
    have e1 : (m : Int) - i = ((m - i : Nat) : Int) := by omega
    rcases Nat.lt_trichotomy i j with hij | hij | hij
    · have q1 : ((i : Int) != j) = true := by simp; omega
      have q2 : ¬ ((j : Int) < i) := by omega
      have e2 : (m : Int) + j - i = ((m + j - i : Nat) : Int) := by omega
      have e3 : (j : Int) - i = ((j - i : Nat) : Int) := by omega
      go_wp2_with fail
      refine (swapR_any (a := m - i) (b := m + j - i) (n := i) HY.out (by omega) (by omega) hN).mono ?_; rintro e w2 ⟨rfl, hw, hf⟩
      have HW := Lib.hid hw; have HF2 := Lib.hid (HF.out.trans hf (fun x hx => .inl hx))
      clear hw hf e1 e2
      go_wp2_with fail
      go_roundw
      case rel => exact ⟨i, j - i, _, i0, i1, by omega, by omega, rfl, rfl, HW.out, fun t => by rw [rot_right Y (by omega) i0 hij]; exact HRT.out t, HF2.out⟩
      case measure => simp [intOf]; omega
    · subst hij
      have q1 : ((i : Int) != i) = false := by simp
      go_wp2_with fail
      refine (swapR_any (a := m - i) (b := m) (n := i) HY.out (by omega) (by omega) hN).mono ?_; rintro e w2 ⟨rfl, hw, hf⟩
      have HW := Lib.hid hw; have HF2 := Lib.hid (HF.out.trans hf (fun x hx => .inl hx))
      clear hw hf e1
      go_wp2_with fail
      go_end0
      exact ⟨rfl, HW.out.congr (fun t _ => by rw [rot_end Y (by omega)]; exact (HRT.out t).symm), HF2.out⟩
    · have q1 : ((i : Int) != j) = true := by simp; omega
      have q2 : (j : Int) < i := by omega
      have e3 : (i : Int) - j = ((i - j : Nat) : Int) := by omega
      go_wp2_with fail
      refine (swapR_any (a := m - i) (b := m) (n := j) HY.out (by omega) (by omega) hN).mono ?_; rintro e w2 ⟨rfl, hw, hf⟩
      have HW := Lib.hid hw; have HF2 := Lib.hid (HF.out.trans hf (fun x hx => .inl hx))
      clear hw hf e1
      go_wp2_with fail
      go_roundw
      case rel => exact ⟨i - j, j, _, by omega, by omega, j0, j1, rfl, rfl, HW.out, fun t => by rw [rot_left Y (by omega) j0 hij]; exact HRT.out t, HF2.out⟩
      case measure => simp [intOf]; omega
end Go.Proofs.Ytkjjikjilmngdaa.Nt
