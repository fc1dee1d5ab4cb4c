/- chapter 24: symmetric merging of flights: one element on the left. -/
import Derived.Test.YtkjjikjilmngdaaNt3
namespace Go.Proofs.Ytkjjikjilmngdaa.Nt
open Go.RowKit Dt Go.Proofs.Ytkjjikjilmngdaa.Hd
set_option linter.unusedVariables false
set_option linter.unusedSimpArgs false

set_option maxRecDepth 100000 in
set_option maxHeartbeats 6400000 in
theorem sym_left {w : World} {g N cap : Nat} {F : Nat → FgV} {P : Nat → Nat} {a m b : Nat} (hm : m = a + 1) (h : FR w g (fun t => F (P t)) N) (h1 : m < b) (h2 : b ≤ N) (hN : N ≤ 1000000) (hB : SrtF (fun t => (F t).due) P (a + 1) b) (hL : LowF P a (a + 1) b) :
    Calls Try.prog 81 #[.slice (some ⟨g, 0, none⟩) N cap, .int .i64 a, .int .i64 m, .int .i64 b, cmpF] w (SymP w g N F P a b) := by
  have z1 : ((m : Int) - a == 1) = true := by simp; omega
  have hma : a < m := by omega
  have HR := Lib.hid h; have HA := Lib.hid hB; have HL := Lib.hid hL; have HM := Lib.hid hm
  clear h hB hL hm
  unfold cmpF
  go_enter Try.func81, Try.ntmps81
  go_wp2_with fail
  go_loopw [10, 11] (fun iv jv wr => ∃ (i j : Nat), m ≤ i ∧ i ≤ j ∧ j ≤ b ∧ iv = .int .i64 i ∧ jv = .int .i64 j ∧ (∀ t, m ≤ t → t < i → (F (P t)).due < (F (P a)).due) ∧ (∀ t, j ≤ t → t < b → (F (P a)).due ≤ (F (P t)).due) ∧ FR wr g (fun t => F (P t)) N ∧ Fr [g] w wr) (fun iv jv _ => (intOf jv).toNat - (intOf iv).toNat)
  case atStart => exact ⟨m, b, Nat.le_refl _, by omega, Nat.le_refl _, rfl, rfl, fun t h1 h2 => by omega, fun t h1 h2 => by omega, HR.out, Fr.refl _ _⟩
  case round =>
    obtain ⟨i, j, hai, hij, hjm, rfl, rfl, hlo, hhi, hr, hF⟩ := hrel
    have HLO := Lib.hid hlo; have HHI := Lib.hid hhi; have HF := Lib.hid hF
    clear hlo hhi hF
    by_cases hlt : i < j
    · obtain ⟨h, hh⟩ : ∃ h, (i + j) / 2 = h := ⟨_, rfl⟩
      have hb1 : i ≤ h ∧ h < j := by omega
      have hI : ((i : Int) + (j : Int)) / 2 = (h : Int) := by omega
      obtain ⟨x, hx⟩ : ∃ x, F (P h) = x := ⟨_, rfl⟩
      obtain ⟨y, hy⟩ : ∃ y, F (P a) = y := ⟨_, rfl⟩
      obtain ⟨a0, a1, a2, a3⟩ := hr.cells4 (t := h) (x := x) (by omega) hx
      obtain ⟨b0, b1, b2, b3⟩ := hr.cells4 (t := a) (x := y) (by omega) hy
      have q1 : (i : Int) < j := by omega
      have q2 : (h : Int) < N := by omega
      have q3 : (a : Int) < N := by omega
      have HX := Lib.hid hx; have HY := Lib.hid hy; have HRW := Lib.hid hr
      clear hx hy hr hh
      have hdec := cmpD_lt x.due y.due
      by_cases hs : x.due < y.due
      · rw [decide_eq_true hs] at hdec
        go_wp2_with fail
        go_still_tail 9, (by kernel_rfl)
        change wpList _ _ _ _ _ wr.drew
        go_wp2_with fail
        refine (cmp_any x y _).mono ?_; rintro e w2 ⟨rfl, hf⟩
        have HW := Lib.hid (HRW.out.drew.fr hf (by simp)); have HF2 := Lib.hid (HF.out.drew.trans hf (fun x hx => .inl (by simp at hx)))
        clear hf a0 a1 a2 a3 b0 b1 b2 b3
        go_wp2_with fail
        go_roundw
        case rel =>
          refine ⟨h + 1, j, by omega, by omega, by omega, by go_num, rfl, fun t h1 h2 => ?_, HHI.out, HW.out, HF2.out⟩
          have := HA.out.le (s := t) (t := h) (by have := HM.out; omega) (by omega) (by omega)
          rw [HY.out]; rw [HX.out] at this; omega
        case measure => simp [intOf]; omega
      · rw [decide_eq_false hs] at hdec
        go_wp2_with fail
        go_still_tail 9, (by kernel_rfl)
        change wpList _ _ _ _ _ wr.drew
        go_wp2_with fail
        refine (cmp_any x y _).mono ?_; rintro e w2 ⟨rfl, hf⟩
        have HW := Lib.hid (HRW.out.drew.fr hf (by simp)); have HF2 := Lib.hid (HF.out.drew.trans hf (fun x hx => .inl (by simp at hx)))
        clear hf a0 a1 a2 a3 b0 b1 b2 b3
        go_wp2_with fail
        go_roundw
        case rel =>
          refine ⟨i, h, hai, by omega, by omega, rfl, rfl, HLO.out, fun t h1 h2 => ?_, HW.out, HF2.out⟩
          have := HA.out.le (s := h) (t := t) (by have := HM.out; omega) h1 (by omega)
          rw [HY.out]; rw [HX.out] at this; omega
        case measure => simp [intOf]; omega
    · have hij2 : i = j := by omega
      subst hij2
      obtain ⟨c, rfl⟩ : ∃ c, i = c + 1 := ⟨i - 1, by omega⟩
      have q1 : ¬ ((c + 1 : Nat) : Int) < ((c + 1 : Nat) : Int) := by omega
      have HRW := Lib.hid hr
      clear hr
      go_wp2_with fail
      go_loopw [13] (fun kv w2 => ∃ (q : Nat), a ≤ q ∧ q ≤ c ∧ kv = .int .i64 q ∧ FR w2 g (fun t => F (rotF P a (a + 1) (q + 1) t)) N ∧ Fr [g] w w2) (fun kv _ => c - (intOf kv).toNat)
      case atStart =>
        exact ⟨a, Nat.le_refl _, by omega, rfl, HRW.out.congr (fun t ht => by rw [rotF_none P (.inr rfl) (by omega) (by omega)]), HF.out⟩
      case round =>
        obtain ⟨q, haq, hqc, rfl, hr, hF⟩ := hrel
        clear HF HRW
        have ec : ((c + 1 : Nat) : Int) - 1 = (c : Int) := by omega
        by_cases hlt : q < c
        · have q2 : (q : Int) < (c : Int) := by omega
          obtain ⟨r, hr1⟩ : ∃ r, q + 1 = r := ⟨_, rfl⟩
          have em : (q : Int) + 1 = (r : Int) := by omega
          have q3 : (r : Int) < N := by omega
          have q4 : (q : Int) < N := by omega
          obtain ⟨x, hx⟩ : ∃ x, F (rotF P a (a + 1) (q + 1) q) = x := ⟨_, rfl⟩
          obtain ⟨y, hy⟩ : ∃ y, F (rotF P a (a + 1) (q + 1) r) = y := ⟨_, rfl⟩
          obtain ⟨a0, a1, a2, a3⟩ := hr.cells4 (t := q) (x := x) (by omega) hx
          obtain ⟨b0, b1, b2, b3⟩ := hr.cells4 (t := r) (x := y) (by omega) hy
          obtain ⟨f0, f1, f2, f3⟩ := hr.free4 q
          obtain ⟨g0, g1, g2, g3⟩ := hr.free4 r
          have hw1 := FR.swap hr (p := q) (q := r) (xp := x) (xq := y) (by omega) (by omega) hx hy
          have hw2 := FR.swap_fr hF (p := q) (q := r) x y
          have HX := Lib.hid hx; have HY := Lib.hid hy; have HW1 := Lib.hid hw1; have HW2 := Lib.hid hw2; have HR1 := Lib.hid hr1
          clear hx hy hw1 hw2 hr hF hr1
          go_wp2_with fail
          go_region
          change Exit.inBlock _ _ _ _ (((wr.setCells g (q * 4) y.cs).setCells g (r * 4) x.cs)).drew
          have hw1 := HW1.out; have hw2 := HW2.out
          clear HW1 HW2 em
          generalize (((wr.setCells g (q * 4) y.cs).setCells g (r * 4) x.cs)).drew = w2 at *
          have HW1 := Lib.hid hw1; have HW2 := Lib.hid hw2
          clear hw1 hw2 a0 a1 a2 a3 b0 b1 b2 b3 f0 f1 f2 f3 g0 g1 g2 g3
          go_wp2_with fail
          go_roundw
          case rel =>
            refine ⟨q + 1, by omega, by omega, by go_num, HW1.out.congr (fun t ht => ?_), HW2.out⟩
            have e1 := HR1.out
            subst e1
            rw [rot_up P (show a + 1 ≤ q + 1 by omega)]
            have k1 : rotF P a (a + 1) (q + 1) q = P a := by unfold rotF; rw [if_neg (by omega), if_neg (by omega)]; congr 1; omega
            have k2 : rotF P a (a + 1) (q + 1) (q + 1) = P (q + 1) := by unfold rotF; rw [if_pos (by omega)]
            rw [Nat.add_sub_cancel]
            by_cases c1 : t = q + 1
            · rw [if_pos c1, if_pos c1, k1]
            · rw [if_neg c1, if_neg c1]
              by_cases c2 : t = q
              · rw [if_pos c2, if_pos c2, k2]
              · rw [if_neg c2, if_neg c2]
          case measure => simp [intOf]; omega
        · have hqi : q = c := by omega
          subst hqi
          have q2 : ¬ (q : Int) < (q : Int) := by omega
          have HRW := Lib.hid hr; have HF := Lib.hid hF
          clear hr hF
          go_wp2_with fail
          (try simp only [Exit.inBlock, Exit.then])
          refine bodyPost_ret (results_none rfl _ _ _) rfl ?_
          have hm := HM.out
          refine ⟨rfl, ⟨_, HRW.out, (rot_shf P (by omega) (by omega)).mono (Nat.le_refl _) hjm, srt_ins0 HA.out HL.out (by omega) hjm (fun h => HLO.out (q + 1 - 1) (by omega) (by omega)) (fun h => HHI.out (q + 1) (Nat.le_refl _) h)⟩, HF.out⟩
end Go.Proofs.Ytkjjikjilmngdaa.Nt
