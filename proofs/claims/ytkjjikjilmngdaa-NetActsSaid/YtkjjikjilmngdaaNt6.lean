/- chapter 24: insertion sort of flights. -/
import Derived.Test.YtkjjikjilmngdaaNt5
namespace Go.Proofs.Ytkjjikjilmngdaa.Nt
open Go.RowKit Dt Go.Proofs.Ytkjjikjilmngdaa.Hd
set_option linter.unusedVariables false
set_option linter.unusedSimpArgs false

theorem ins_none {w : World} {v f : Value} {a n : Int} (h : n ≤ a + 1) (ha : 0 ≤ a) (ha2 : a ≤ 1000000) :
    Calls Try.prog 80 #[v, .int .i64 a, .int .i64 n, f] w fun e w' => e = .returned (.tuple #[]) ∧ w = w' := by
  go_enter Try.func80, Try.ntmps80
  go_wp2_with fail
  go_loopw [8] (fun iv wr => iv = .int .i64 (a + 1) ∧ w = wr) (fun _ _ => 0)
  case atStart => exact ⟨rfl, rfl⟩
  case round =>
    obtain ⟨rfl, rfl⟩ := hrel
    go_wp2_with fail
    go_end0
    exact ⟨rfl, rfl⟩
set_option maxRecDepth 100000 in
set_option maxHeartbeats 6400000 in
theorem ins_any {w : World} {g N cap : Nat} {F : Nat → FgV} {P : Nat → Nat} {a b : Nat} (h : FR w g (fun t => F (P t)) N) (h1 : a < b) (h2 : b ≤ N) (hN : N ≤ 1000000) (hid : ∀ t, a ≤ t → t < b → P t = t) :
    Calls Try.prog 80 #[.slice (some ⟨g, 0, none⟩) N cap, .int .i64 a, .int .i64 b, cmpF] w (SymP w g N F P a b) := by
  have HR := Lib.hid h; have HID := Lib.hid hid
  clear h hid
  unfold cmpF
  go_enter Try.func80, Try.ntmps80
  go_wp2_with fail
  go_loopw [8] (fun iv wr => ∃ (i : Nat) (Q : Nat → Nat), a < i ∧ i ≤ b ∧ iv = .int .i64 i ∧ FR wr g (fun t => F (Q t)) N ∧ Shf a i P Q ∧ SrtF (fun t => (F t).due) Q a i ∧ Fr [g] w wr) (fun iv _ => b - (intOf iv).toNat)
  case atStart => exact ⟨a + 1, P, by omega, by omega, by go_num, HR.out, Shf.refl _ _ _, SrtF.one _ _ (Nat.le_refl _), Fr.refl _ _⟩
  case round =>
    obtain ⟨i, Q, hai, hib, rfl, hr, hs, ht, hF⟩ := hrel
    have HRW := Lib.hid hr; have HS := Lib.hid hs; have HT := Lib.hid ht; have HF := Lib.hid hF
    clear hr hs ht hF
    by_cases hlt : i < b
    · have q1 : (i : Int) < b := by omega
      have hQi : Q i = i := by rw [HS.out.out (.inr (Nat.le_refl _))]; exact HID.out i (by omega) (by omega)
      have hlow : LowF Q a i (i + 1) := fun u v g1 g2 g3 g4 => by
        have : v = i := by omega
        subst this
        obtain ⟨u', k1, k2, e⟩ := HS.out.at g1 g2
        rw [hQi, e, HID.out u' k1 (by omega)]; exact k2
      have HLOW := Lib.hid hlow
      clear hlow hQi
      go_wp2_with fail
      go_loopw [9] (fun jv wr => ∃ (j : Nat), a ≤ j ∧ j ≤ i ∧ jv = .int .i64 j ∧ FR wr g (fun t => F (rotF Q j i (i + 1) t)) N ∧ (∀ t, j ≤ t → t < i → (F (Q i)).due < (F (Q t)).due) ∧ Fr [g] w wr) (fun jv _ => (intOf jv).toNat)
      case atStart => exact ⟨i, by omega, Nat.le_refl _, rfl, HRW.out.congr (fun t ht => by rw [rotF_none Q (.inl rfl) (by omega) (by omega)]), fun t h1 h2 => by omega, HF.out⟩
      case round =>
        obtain ⟨j, haj, hji, rfl, hr, hlts, hF⟩ := hrel
        have HLT := Lib.hid hlts
        clear hlts HF HRW
        by_cases hj0 : a < j
        · obtain ⟨p, rfl⟩ : ∃ p, j = p + 1 := ⟨j - 1, by omega⟩
          obtain ⟨r, hr1⟩ : ∃ r, p + 1 = r := ⟨_, rfl⟩
          have em : (r : Int) - 1 = (p : Int) := by omega
          have epw : IntKind.i64.wrap (p : Int) = (p : Int) := IntWalk.i64_in _ (by omega)
          have q2 : (a : Int) < (r : Int) := by omega
          have q3 : (r : Int) < N := by omega
          have q4 : (p : Int) < N := by omega
          have k1 : rotF Q (p + 1) i (i + 1) r = Q i := by unfold rotF; rw [if_neg (by omega), if_pos (by omega)]; congr 1; omega
          have k2 : rotF Q (p + 1) i (i + 1) p = Q p := by unfold rotF; rw [if_pos (by omega)]
          obtain ⟨x, hx⟩ : ∃ x, F (Q i) = x := ⟨_, rfl⟩
          obtain ⟨y, hy⟩ : ∃ y, F (Q p) = y := ⟨_, rfl⟩
          have hx2 : F (rotF Q (p + 1) i (i + 1) r) = x := by rw [k1]; exact hx
          have hy2 : F (rotF Q (p + 1) i (i + 1) p) = y := by rw [k2]; exact hy
          have HX := Lib.hid hx; have HY := Lib.hid hy; have HX2 := Lib.hid hx2; have HY2 := Lib.hid hy2; have HR1 := Lib.hid hr1
          obtain ⟨a0, a1, a2, a3⟩ := hr.cells4 (t := r) (x := x) (by omega) hx2
          obtain ⟨b0, b1, b2, b3⟩ := hr.cells4 (t := p) (x := y) (by omega) hy2
          have HRW := Lib.hid hr; have HF := Lib.hid hF
          rw [hr1]
          clear hx hy hx2 hy2 k1 k2 hr hF hr1
          have hdec := cmpD_lt x.due y.due
          by_cases hs : x.due < y.due
          · rw [decide_eq_true hs] at hdec
            go_wp2_with fail
            go_still_tail 14, (by kernel_rfl)
            change wpList _ _ _ _ _ wr.drew
            go_wp2_with fail
            refine (cmp_any x y _).mono ?_; rintro e w2 ⟨rfl, hf⟩
            have hr2 := HRW.out.drew.fr hf (by simp)
            have hF2 := HF.out.drew.trans hf (fun x hx => .inl (by simp at hx))
            obtain ⟨c0, c1, c2, c3⟩ := hr2.cells4 (t := r) (x := x) (by have := HR1.out; omega) HX2.out
            obtain ⟨d0, d1, d2, d3⟩ := hr2.cells4 (t := p) (x := y) (by omega) HY2.out
            obtain ⟨f0, f1, f2, f3⟩ := hr2.free4 r
            obtain ⟨g0, g1, g2, g3⟩ := hr2.free4 p
            have HW1 := Lib.hid (FR.swap hr2 (p := r) (q := p) (xp := x) (xq := y) (by have := HR1.out; omega) (by omega) HX2.out HY2.out)
            have HW2 := Lib.hid (FR.swap_fr hF2 (p := r) (q := p) x y)
            clear hf a0 a1 a2 a3 b0 b1 b2 b3 hr2 hF2
            go_wp2_with fail
            go_region
            change Exit.inBlock _ _ _ _ (((w2.setCells g (r * 4) y.cs).setCells g (p * 4) x.cs)).drew
            have hw1 := HW1.out; have hw2 := HW2.out
            clear HW1 HW2 em epw
            generalize (((w2.setCells g (r * 4) y.cs).setCells g (p * 4) x.cs)).drew = w3 at *
            have HW1 := Lib.hid hw1; have HW2 := Lib.hid hw2
            clear hw1 hw2 c0 c1 c2 c3 d0 d1 d2 d3 f0 f1 f2 f3 g0 g1 g2 g3
            go_wp2_with fail
            go_roundw
            case rel =>
              have e1 := HR1.out
              refine ⟨p, by omega, by omega, by go_num, HW1.out.congr (fun t ht => ?_), fun t g1 g2 => ?_, HW2.out⟩
              · subst e1
                rw [rot_down Q (by omega)]
                have k1 : rotF Q (p + 1) i (i + 1) (p + 1) = Q i := by unfold rotF; rw [if_neg (by omega), if_pos (by omega)]; congr 1; omega
                have k2 : rotF Q (p + 1) i (i + 1) p = Q p := by unfold rotF; rw [if_pos (by omega)]
                by_cases c1 : t = p
                · rw [if_pos c1, if_pos c1, k1]
                · rw [if_neg c1, if_neg c1]
                  by_cases c2 : t = p + 1
                  · rw [if_pos c2, if_pos c2, k2]
                  · rw [if_neg c2, if_neg c2]
              · rcases Nat.lt_or_eq_of_le g1 with g3 | g3
                · exact HLT.out t g3 g2
                · rw [← g3, HX.out, HY.out]; exact hs
            case measure => have := HR1.out; simp [intOf]; omega
          · rw [decide_eq_false hs] at hdec
            go_wp2_with fail
            go_still_tail 14, (by kernel_rfl)
            change wpList _ _ _ _ _ wr.drew
            go_wp2_with fail
            refine (cmp_any x y _).mono ?_; rintro e w2 ⟨rfl, hf⟩
            have HR2 := Lib.hid (HRW.out.drew.fr hf (by simp))
            have HF2 := Lib.hid (HF.out.drew.trans hf (fun x hx => .inl (by simp at hx)))
            clear hf a0 a1 a2 a3 b0 b1 b2 b3 em epw
            go_wp2_with fail
            go_roundw
            case rel =>
              have e1 := HR1.out
              refine ⟨i + 1, _, by omega, by omega, by go_num, HR2.out, (HS.out.mono (Nat.le_refl _) (by omega)).trans ((rot_shf Q hji (by omega)).mono haj (Nat.le_refl _)), srt_ins HT.out HLOW.out haj hji (fun _ => ?_) (fun h => HLT.out (p + 1) (Nat.le_refl _) h), HF2.out⟩
              rw [Nat.add_sub_cancel, HX.out, HY.out]; omega
            case measure => simp [intOf]; omega
        · have hja : j = a := by omega
          subst hja
          have hdj : decide ((j : Int) < (j : Int)) = false := by simp
          have HRW := Lib.hid hr; have HF := Lib.hid hF
          clear hr hF
          go_wp2_with fail
          go_quiet (fail)
          have HR2 := Lib.hid (show FR (wr.drewN nq) g (fun t => F (rotF Q j i (i + 1) t)) N from HRW.out)
          have HF2 := Lib.hid (HF.out.drewN nq)
          clear HRW HF
          generalize wr.drewN nq = w1 at *
          go_wp2_with fail
          go_roundw
          case rel =>
            exact ⟨i + 1, _, by omega, by omega, by go_num, HR2.out, (HS.out.mono (Nat.le_refl _) (by omega)).trans ((rot_shf Q hji (by omega)).mono haj (Nat.le_refl _)), srt_ins HT.out HLOW.out haj hji (fun h => by omega) (fun h => HLT.out j (Nat.le_refl _) h), HF2.out⟩
          case measure => simp [intOf]; omega
    · have hin2 : i = b := by omega
      subst hin2
      have q1 : ¬ (i : Int) < i := by omega
      go_wp2_with fail
      go_end0
      exact ⟨rfl, ⟨Q, HRW.out, HS.out, HT.out⟩, HF.out⟩
end Go.Proofs.Ytkjjikjilmngdaa.Nt
