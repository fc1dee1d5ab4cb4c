/- chapter 24: symmetric merging of flights. -/
import Derived.Test.YtkjjikjilmngdaaNt4
namespace Go.Proofs.Ytkjjikjilmngdaa.Nt
open Go.RowKit Dt Go.Proofs.Ytkjjikjilmngdaa.Hd
set_option linter.unusedVariables false
set_option linter.unusedSimpArgs false

/-- what the merge's search ends with -/
structure Got (k : Nat → Int) (P : Nat → Nat) (s0 r0 mid m s : Nat) : Prop where
  h1 : s0 ≤ s
  h2 : s ≤ r0
  lo : ∀ t, s0 ≤ t → t < s → k (P t) ≤ k (P (mid + m - 1 - t))
  hi : ∀ t, s ≤ t → t < r0 → k (P (mid + m - 1 - t)) < k (P t)
theorem Got.cut {k : Nat → Int} {P : Nat → Nat} {a m b mid s0 r0 s : Nat} (h : Got k P s0 r0 mid m s) (hmid : mid = (a + b) / 2) (h1 : a < m) (h2 : m < b) (hs0 : s0 = if mid < m then mid + m - b else a) (hr0 : r0 = if mid < m then mid else m) : Cut k P a m b mid s := by
  obtain ⟨g1, g2, lo, hi⟩ := h
  have e0 : s0 = max a (mid + m - b) := by rw [hs0]; split <;> omega
  have e1 : r0 = min mid m := by rw [hr0]; split <;> omega
  refine ⟨by omega, by omega, by omega, by omega, fun g g' => ?_, fun g g' => ?_⟩
  · have := lo (s - 1) (by omega) (by omega)
    rwa [show mid + m - 1 - (s - 1) = mid + m - s by omega] at this
  · have := hi s (Nat.le_refl _) (by omega)
    rwa [show mid + m - 1 - s = mid + m - s - 1 by omega] at this
set_option maxRecDepth 100000 in
set_option maxHeartbeats 12800000 in
theorem sym_gen {w : World} {g N cap : Nat} {F : Nat → FgV} {P : Nat → Nat} {a m b : Nat} (h : FR w g (fun t => F (P t)) N) (h1 : a + 2 ≤ m) (h2 : m + 2 ≤ b) (h3 : b ≤ N) (hN : N ≤ 1000000) (hA : SrtF (fun t => (F t).due) P a m) (hB : SrtF (fun t => (F t).due) P m b) (hL : LowF P a m b)
    (IH : ∀ (w' : World) (P' : Nat → Nat) (a' m' b' : Nat), b' - a' < b - a → a' < m' → m' < b' → b' ≤ N → FR w' g (fun t => F (P' t)) N → SrtF (fun t => (F t).due) P' a' m' → SrtF (fun t => (F t).due) P' m' b' → LowF P' a' m' b' →
      Calls Try.prog 81 #[.slice (some ⟨g, 0, none⟩) N cap, .int .i64 a', .int .i64 m', .int .i64 b', cmpF] w' (SymP w' g N F P' a' b')) :
    Calls Try.prog 81 #[.slice (some ⟨g, 0, none⟩) N cap, .int .i64 a, .int .i64 m, .int .i64 b, cmpF] w (SymP w g N F P a b) := by
  have z1 : ((m : Int) - a == 1) = false := by simp; omega
  have z2 : ((b : Int) - m == 1) = false := by simp; omega
  obtain ⟨mid, hmid⟩ : ∃ mid, mid = (a + b) / 2 := ⟨_, rfl⟩
  have m1 : a < mid := by omega
  have m2 : mid < b := by omega
  have hI : ((a : Int) + (b : Int)) / 2 = (mid : Int) := by omega
  obtain ⟨s0, hs0⟩ : ∃ s0, s0 = if mid < m then mid + m - b else a := ⟨_, rfl⟩
  obtain ⟨r0, hr0⟩ : ∃ r0, r0 = if mid < m then mid else m := ⟨_, rfl⟩
  have e0 : s0 = max a (mid + m - b) := by rw [hs0]; split <;> omega
  have e1 : r0 = min mid m := by rw [hr0]; split <;> omega
  have E0 := Lib.hid e0; have E1 := Lib.hid e1; have HS0 := Lib.hid hs0; have HR0 := Lib.hid hr0; have HMID := Lib.hid hmid
  have HR := Lib.hid h; have HA := Lib.hid hA; have HB := Lib.hid hB; have HL := Lib.hid hL; have HIH := Lib.hid IH
  clear h hA hB hL IH e0 e1 hs0 hr0 hmid
  unfold cmpF at *
  go_enter Try.func81, Try.ntmps81
  go_upto_if 140 with (fail)
  go_cut [20, 21] from 138 to 146 (fun sv rv w1 => sv = .int .i64 s0 ∧ rv = .int .i64 r0 ∧ w = w1)
  case first =>
    by_cases c : mid < m
    · have q1 : (mid : Int) < m := by omega
      have e2 : (mid : Int) + m - b = ((mid + m - b : Nat) : Int) := by omega
      go_wp2_with fail
      go_meet
      case rel =>
        have k0 := HS0.out; have k1 := HR0.out
        rw [if_pos c] at k0 k1
        exact ⟨by rw [k0], by rw [k1], rfl⟩
    · have q1 : ¬ (mid : Int) < m := by omega
      go_wp2_with fail
      go_meet
      case rel =>
        have k0 := HS0.out; have k1 := HR0.out
        rw [if_neg c] at k0 k1
        exact ⟨by rw [k0], by rw [k1], rfl⟩
  case rest =>
    obtain ⟨rfl, rfl, rfl⟩ := hcut
    go_wp2_with fail
    go_loopw [20, 21] (fun sv rv wr => ∃ (s r : Nat), s0 ≤ s ∧ s ≤ r ∧ r ≤ r0 ∧ sv = .int .i64 s ∧ rv = .int .i64 r ∧ (∀ t, s0 ≤ t → t < s → (F (P t)).due ≤ (F (P (mid + m - 1 - t))).due) ∧ (∀ t, r ≤ t → t < r0 → (F (P (mid + m - 1 - t))).due < (F (P t)).due) ∧ FR wr g (fun t => F (P t)) N ∧ Fr [g] w wr) (fun sv rv _ => (intOf rv).toNat - (intOf sv).toNat)
    case atStart => exact ⟨s0, r0, Nat.le_refl _, by have := E0.out; have := E1.out; omega, Nat.le_refl _, rfl, rfl, fun t h1 h2 => by omega, fun t h1 h2 => by omega, HR.out, Fr.refl _ _⟩
    case round =>
      obtain ⟨s, r, hs0, hsr, hr0, rfl, rfl, hlo, hhi, hr, hF⟩ := hrel
      have HLO := Lib.hid hlo; have HHI := Lib.hid hhi; have HF := Lib.hid hF; have HRW := Lib.hid hr
      clear hlo hhi hF hr
      by_cases hlt : s < r
      · obtain ⟨c, hc⟩ : ∃ c, (s + r) / 2 = c := ⟨_, rfl⟩
        have hb1 : s ≤ c ∧ c < r := by omega
        have hI : ((s : Int) + (r : Int)) / 2 = (c : Int) := by omega
        obtain ⟨p, hp⟩ : ∃ p, mid + m - 1 - c = p := ⟨_, rfl⟩
        have hb2 : m ≤ p ∧ p < b := by have := E0.out; have := E1.out; omega
        have hb3 : a ≤ c ∧ c < m := by have := E0.out; have := E1.out; omega
        have ep : (mid : Int) + m - 1 - c = (p : Int) := by have := E0.out; have := E1.out; omega
        have epw : IntKind.i64.wrap (p : Int) = (p : Int) := IntWalk.i64_in _ (by omega)
        obtain ⟨x, hx⟩ : ∃ x, F (P p) = x := ⟨_, rfl⟩
        obtain ⟨y, hy⟩ : ∃ y, F (P c) = y := ⟨_, rfl⟩
        obtain ⟨a0, a1, a2, a3⟩ := HRW.out.cells4 (t := p) (x := x) (by omega) hx
        obtain ⟨b0, b1, b2, b3⟩ := HRW.out.cells4 (t := c) (x := y) (by omega) hy
        have q1 : (s : Int) < r := by omega
        have q2 : (p : Int) < N := by omega
        have q3 : (c : Int) < N := by omega
        have HX := Lib.hid hx; have HY := Lib.hid hy; have HP := Lib.hid hp
        clear hx hy hc hp
        have hdec := cmpD_lt x.due y.due
        by_cases hs : x.due < y.due
        · rw [decide_eq_true hs] at hdec
          go_wp2_with fail
          go_still_tail 11, (by kernel_rfl)
          change wpList _ _ _ _ _ wr.drew
          go_wp2_with fail
          refine (cmp_any x y _).mono ?_; rintro e w2 ⟨rfl, hf⟩
          have HW := Lib.hid (HRW.out.drew.fr hf (by simp)); have HF2 := Lib.hid (HF.out.drew.trans hf (fun x hx => .inl (by simp at hx)))
          clear hf a0 a1 a2 a3 b0 b1 b2 b3 ep epw
          go_wp2_with fail
          go_roundw
          case rel =>
            refine ⟨s, c, hs0, by omega, by omega, rfl, rfl, HLO.out, fun t h1 h2 => ?_, HW.out, HF2.out⟩
            have e1 := E1.out; have e0 := E0.out
            have k1 := HA.out.le (s := c) (t := t) (by omega) h1 (by omega)
            have k2 := HB.out.le (s := mid + m - 1 - t) (t := p) (by omega) (by have := HP.out; omega) (by omega)
            simp only [HX.out, HY.out] at k1 k2
            omega
          case measure => simp [intOf]; omega
        · rw [decide_eq_false hs] at hdec
          go_wp2_with fail
          go_still_tail 11, (by kernel_rfl)
          change wpList _ _ _ _ _ wr.drew
          go_wp2_with fail
          refine (cmp_any x y _).mono ?_; rintro e w2 ⟨rfl, hf⟩
          have HW := Lib.hid (HRW.out.drew.fr hf (by simp)); have HF2 := Lib.hid (HF.out.drew.trans hf (fun x hx => .inl (by simp at hx)))
          clear hf a0 a1 a2 a3 b0 b1 b2 b3 ep epw
          go_wp2_with fail
          go_roundw
          case rel =>
            refine ⟨c + 1, r, by omega, by omega, by omega, by go_num, rfl, fun t h1 h2 => ?_, HHI.out, HW.out, HF2.out⟩
            have e1 := E1.out; have e0 := E0.out
            have k1 := HA.out.le (s := t) (t := c) (by omega) (by omega) (by omega)
            have k2 := HB.out.le (s := p) (t := mid + m - 1 - t) (by omega) (by have := HP.out; omega) (by omega)
            simp only [HX.out, HY.out] at k1 k2
            omega
          case measure => simp [intOf]; omega
      · have hsr2 : s = r := by omega
        subst hsr2
        have q0 : ¬ (s : Int) < s := by omega
        have ee : (mid : Int) + m - s = ((mid + m - s : Nat) : Int) := by have := E0.out; have := E1.out; omega
        have hgot : Got (fun t => (F t).due) P s0 r0 mid m s := ⟨hs0, hr0, HLO.out, HHI.out⟩
        have hcut := hgot.cut HMID.out (by omega) (by omega) HS0.out HR0.out
        obtain ⟨c1, c2, c3, c4, -, -⟩ := id hcut
        have HH := Lib.hid (hcut.halves HA.out HB.out HL.out (by omega) (by omega) (by omega) (by omega))
        clear hgot hcut HLO HHI
        dsimp only at HH
        rcases (show (a < s ∧ s < mid ∧ s < m ∧ mid + m < b + s) ∨ (a < s ∧ s < mid ∧ s < m ∧ ¬ mid + m < b + s) ∨ (a < s ∧ s < mid ∧ ¬ s < m ∧ mid + m < b + s) ∨ (a < s ∧ s < mid ∧ ¬ s < m ∧ ¬ mid + m < b + s) ∨ (a < s ∧ ¬ s < mid ∧ s < m ∧ mid + m < b + s) ∨ (a < s ∧ ¬ s < mid ∧ s < m ∧ ¬ mid + m < b + s) ∨ (a < s ∧ ¬ s < mid ∧ ¬ s < m ∧ mid + m < b + s) ∨ (a < s ∧ ¬ s < mid ∧ ¬ s < m ∧ ¬ mid + m < b + s) ∨ (¬ a < s ∧ s < mid ∧ s < m ∧ mid + m < b + s) ∨ (¬ a < s ∧ s < mid ∧ s < m ∧ ¬ mid + m < b + s) by omega) with hcase | hcase | hcase | hcase | hcase | hcase | hcase | hcase | hcase | hcase
        · -- a < s: 1, s < mid: 1, s < m: 1, e < b: 1
          obtain ⟨cA, cB, cC, cD⟩ := hcase
          have q1 : (s : Int) < m := by omega
          have q2 : (m : Int) < ((mid + m - s : Nat) : Int) := by omega
          have q3 : (a : Int) < s := by omega
          have q4 : (s : Int) < mid := by omega
          have q5 : (mid : Int) < ((mid + m - s : Nat) : Int) := by omega
          have q6 : ((mid + m - s : Nat) : Int) < b := by omega
          go_wp2_with fail
          refine (rotR_any (a := s) (m := m) (b := mid + m - s) HRW.out (by omega) (by omega) (by omega) hN).mono ?_; rintro e w2 ⟨rfl, hw, hf⟩
          have HW1 := Lib.hid (show FR w2 g (fun t => F (rotF P s m (mid + m - s) t)) N from hw.congr (fun t _ => (rotF_comp F P t).symm))
          have HF1 := Lib.hid (HF.out.trans hf (fun x hx => .inl hx))
          clear hw hf
          go_wp2_with fail
          refine (HIH.out _ (rotF P s m (mid + m - s)) a s mid (by omega) (by omega) (by omega) (by omega) HW1.out HH.out.1 HH.out.2.1 HH.out.2.2.1).mono ?_; rintro e w3 ⟨rfl, ⟨Q1, hw, hs, ht⟩, hf⟩
          have HW2 := Lib.hid hw; have HF2 := Lib.hid (HF1.out.trans hf (fun x hx => .inl hx)); have HS1 := Lib.hid hs; have HT1 := Lib.hid ht
          clear hw hf hs ht
          go_wp2_with fail
          have hup : ∀ t, mid ≤ t → Q1 t = rotF P s m (mid + m - s) t := fun t ht => HS1.out.out (.inr ht)
          have HUP := Lib.hid hup; clear hup
          refine (HIH.out _ Q1 mid (mid + m - s) b (by omega) (by omega) (by omega) (by omega) HW2.out (HH.out.2.2.2.1.congr (fun t h _ => HUP.out t h)) (HH.out.2.2.2.2.1.congr (fun t h _ => HUP.out t (by omega))) (fun u v g1 g2 g3 g4 => by rw [HUP.out u g1, HUP.out v (by omega)]; exact HH.out.2.2.2.2.2.1 u v g1 g2 g3 g4)).mono ?_; rintro e w4 ⟨rfl, ⟨Q2, hw, hs, ht⟩, hf⟩
          have HW3 := Lib.hid hw; have HF3 := Lib.hid (HF2.out.trans hf (fun x hx => .inl hx)); have HS2 := Lib.hid hs; have HT2 := Lib.hid ht
          clear hw hf hs ht
          go_wp2_with fail
          go_end0
          have hfin := sym_fin (P := P) (a := a) (b := b) (m := m) (s := s) (e := mid + m - s) (mid := mid) (by omega) (by omega) (by omega) (by omega) (by omega) (by omega) (fun t => rfl) HH.out.2.2.2.2.2.2 HS1.out HS2.out HT1.out HT2.out
          exact ⟨rfl, ⟨Q2, HW3.out, hfin.1, hfin.2⟩, HF3.out⟩
        · -- a < s: 1, s < mid: 1, s < m: 1, e < b: 0
          obtain ⟨cA, cB, cC, cD⟩ := hcase
          have q1 : (s : Int) < m := by omega
          have q2 : (m : Int) < ((mid + m - s : Nat) : Int) := by omega
          have q3 : (a : Int) < s := by omega
          have q4 : (s : Int) < mid := by omega
          have q5 : (mid : Int) < ((mid + m - s : Nat) : Int) := by omega
          have q6 : ¬ ((mid + m - s : Nat) : Int) < b := by omega
          go_wp2_with fail
          refine (rotR_any (a := s) (m := m) (b := mid + m - s) HRW.out (by omega) (by omega) (by omega) hN).mono ?_; rintro e w2 ⟨rfl, hw, hf⟩
          have HW1 := Lib.hid (show FR w2 g (fun t => F (rotF P s m (mid + m - s) t)) N from hw.congr (fun t _ => (rotF_comp F P t).symm))
          have HF1 := Lib.hid (HF.out.trans hf (fun x hx => .inl hx))
          clear hw hf
          go_wp2_with fail
          refine (HIH.out _ (rotF P s m (mid + m - s)) a s mid (by omega) (by omega) (by omega) (by omega) HW1.out HH.out.1 HH.out.2.1 HH.out.2.2.1).mono ?_; rintro e w3 ⟨rfl, ⟨Q1, hw, hs, ht⟩, hf⟩
          have HW2 := Lib.hid hw; have HF2 := Lib.hid (HF1.out.trans hf (fun x hx => .inl hx)); have HS1 := Lib.hid hs; have HT1 := Lib.hid ht
          clear hw hf hs ht
          go_wp2_with fail
          have hup : ∀ t, mid ≤ t → Q1 t = rotF P s m (mid + m - s) t := fun t ht => HS1.out.out (.inr ht)
          have HUP := Lib.hid hup; clear hup
          obtain ⟨Q2, hQ2⟩ : ∃ Q2, Q2 = Q1 := ⟨_, rfl⟩
          have HW3 := Lib.hid (show FR _ g (fun t => F (Q2 t)) N by rw [hQ2]; exact HW2.out); have HF3 := HF2
          have HS2 := Lib.hid (show Shf mid b Q1 Q2 by rw [hQ2]; exact Shf.refl _ _ _)
          have HT2 := Lib.hid (show SrtF (fun t => (F t).due) Q2 mid b by rw [hQ2]; exact (HH.out.2.2.2.1.mono (Nat.le_refl _) (by omega)).congr (fun t h _ => HUP.out t h))
          clear hQ2
          go_end0
          have hfin := sym_fin (P := P) (a := a) (b := b) (m := m) (s := s) (e := mid + m - s) (mid := mid) (by omega) (by omega) (by omega) (by omega) (by omega) (by omega) (fun t => rfl) HH.out.2.2.2.2.2.2 HS1.out HS2.out HT1.out HT2.out
          exact ⟨rfl, ⟨Q2, HW3.out, hfin.1, hfin.2⟩, HF3.out⟩
        · -- a < s: 1, s < mid: 1, s < m: 0, e < b: 1
          obtain ⟨cA, cB, cC, cD⟩ := hcase
          have q1 : decide ((s : Int) < m) = false := decide_eq_false (by omega)
          have q3 : (a : Int) < s := by omega
          have q4 : (s : Int) < mid := by omega
          have q5 : decide ((mid : Int) < ((mid + m - s : Nat) : Int)) = false := decide_eq_false (by omega)
          go_wp2_with fail
          have HW1 := Lib.hid (show FR wr g (fun t => F (rotF P s m (mid + m - s) t)) N from HRW.out.congr (fun t _ => by rw [rotF_none P (by omega) (by omega) (by omega)]))
          have HF1 := HF
          refine (HIH.out _ (rotF P s m (mid + m - s)) a s mid (by omega) (by omega) (by omega) (by omega) HW1.out HH.out.1 HH.out.2.1 HH.out.2.2.1).mono ?_; rintro e w3 ⟨rfl, ⟨Q1, hw, hs, ht⟩, hf⟩
          have HW2 := Lib.hid hw; have HF2 := Lib.hid (HF1.out.trans hf (fun x hx => .inl hx)); have HS1 := Lib.hid hs; have HT1 := Lib.hid ht
          clear hw hf hs ht
          go_wp2_with fail
          have hup : ∀ t, mid ≤ t → Q1 t = rotF P s m (mid + m - s) t := fun t ht => HS1.out.out (.inr ht)
          have HUP := Lib.hid hup; clear hup
          obtain ⟨Q2, hQ2⟩ : ∃ Q2, Q2 = Q1 := ⟨_, rfl⟩
          have HW3 := Lib.hid (show FR _ g (fun t => F (Q2 t)) N by rw [hQ2]; exact HW2.out); have HF3 := HF2
          have HS2 := Lib.hid (show Shf mid b Q1 Q2 by rw [hQ2]; exact Shf.refl _ _ _)
          have HT2 := Lib.hid (show SrtF (fun t => (F t).due) Q2 mid b by rw [hQ2]; exact (HH.out.2.2.2.2.1.mono (by omega) (Nat.le_refl _)).congr (fun t h _ => HUP.out t h))
          clear hQ2
          go_end0
          have hfin := sym_fin (P := P) (a := a) (b := b) (m := m) (s := s) (e := mid + m - s) (mid := mid) (by omega) (by omega) (by omega) (by omega) (by omega) (by omega) (fun t => rfl) HH.out.2.2.2.2.2.2 HS1.out HS2.out HT1.out HT2.out
          exact ⟨rfl, ⟨Q2, HW3.out, hfin.1, hfin.2⟩, HF3.out⟩
        · -- a < s: 1, s < mid: 1, s < m: 0, e < b: 0
          obtain ⟨cA, cB, cC, cD⟩ := hcase
          exfalso; have := E0.out; have := E1.out; omega
        · -- a < s: 1, s < mid: 0, s < m: 1, e < b: 1
          obtain ⟨cA, cB, cC, cD⟩ := hcase
          have q1 : (s : Int) < m := by omega
          have q2 : ¬ (m : Int) < ((mid + m - s : Nat) : Int) := by omega
          have q3 : (a : Int) < s := by omega
          have q4 : ¬ (s : Int) < mid := by omega
          have q5 : (mid : Int) < ((mid + m - s : Nat) : Int) := by omega
          have q6 : ((mid + m - s : Nat) : Int) < b := by omega
          go_wp2_with fail
          have HW1 := Lib.hid (show FR wr g (fun t => F (rotF P s m (mid + m - s) t)) N from HRW.out.congr (fun t _ => by rw [rotF_none P (by omega) (by omega) (by omega)]))
          have HF1 := HF
          obtain ⟨Q1, hQ1⟩ : ∃ Q1, Q1 = rotF P s m (mid + m - s) := ⟨_, rfl⟩
          have HW2 := Lib.hid (show FR _ g (fun t => F (Q1 t)) N by rw [hQ1]; exact HW1.out); have HF2 := HF1
          have HS1 := Lib.hid (show Shf a mid (rotF P s m (mid + m - s)) Q1 by rw [hQ1]; exact Shf.refl _ _ _)
          have HT1 := Lib.hid (show SrtF (fun t => (F t).due) Q1 a mid by rw [hQ1]; exact HH.out.1.mono (Nat.le_refl _) (by omega))
          clear hQ1
          have hup : ∀ t, mid ≤ t → Q1 t = rotF P s m (mid + m - s) t := fun t ht => HS1.out.out (.inr ht)
          have HUP := Lib.hid hup; clear hup
          refine (HIH.out _ Q1 mid (mid + m - s) b (by omega) (by omega) (by omega) (by omega) HW2.out (HH.out.2.2.2.1.congr (fun t h _ => HUP.out t h)) (HH.out.2.2.2.2.1.congr (fun t h _ => HUP.out t (by omega))) (fun u v g1 g2 g3 g4 => by rw [HUP.out u g1, HUP.out v (by omega)]; exact HH.out.2.2.2.2.2.1 u v g1 g2 g3 g4)).mono ?_; rintro e w4 ⟨rfl, ⟨Q2, hw, hs, ht⟩, hf⟩
          have HW3 := Lib.hid hw; have HF3 := Lib.hid (HF2.out.trans hf (fun x hx => .inl hx)); have HS2 := Lib.hid hs; have HT2 := Lib.hid ht
          clear hw hf hs ht
          go_wp2_with fail
          go_end0
          have hfin := sym_fin (P := P) (a := a) (b := b) (m := m) (s := s) (e := mid + m - s) (mid := mid) (by omega) (by omega) (by omega) (by omega) (by omega) (by omega) (fun t => rfl) HH.out.2.2.2.2.2.2 HS1.out HS2.out HT1.out HT2.out
          exact ⟨rfl, ⟨Q2, HW3.out, hfin.1, hfin.2⟩, HF3.out⟩
        · -- a < s: 1, s < mid: 0, s < m: 1, e < b: 0
          obtain ⟨cA, cB, cC, cD⟩ := hcase
          exfalso; have := E0.out; have := E1.out; omega
        · -- a < s: 1, s < mid: 0, s < m: 0, e < b: 1
          obtain ⟨cA, cB, cC, cD⟩ := hcase
          have q1 : decide ((s : Int) < m) = false := decide_eq_false (by omega)
          have q3 : (a : Int) < s := by omega
          have q4 : ¬ (s : Int) < mid := by omega
          have q5 : decide ((mid : Int) < ((mid + m - s : Nat) : Int)) = false := decide_eq_false (by omega)
          go_wp2_with fail
          have HW1 := Lib.hid (show FR wr g (fun t => F (rotF P s m (mid + m - s) t)) N from HRW.out.congr (fun t _ => by rw [rotF_none P (by omega) (by omega) (by omega)]))
          have HF1 := HF
          obtain ⟨Q1, hQ1⟩ : ∃ Q1, Q1 = rotF P s m (mid + m - s) := ⟨_, rfl⟩
          have HW2 := Lib.hid (show FR _ g (fun t => F (Q1 t)) N by rw [hQ1]; exact HW1.out); have HF2 := HF1
          have HS1 := Lib.hid (show Shf a mid (rotF P s m (mid + m - s)) Q1 by rw [hQ1]; exact Shf.refl _ _ _)
          have HT1 := Lib.hid (show SrtF (fun t => (F t).due) Q1 a mid by rw [hQ1]; exact HH.out.1.mono (Nat.le_refl _) (by omega))
          clear hQ1
          have hup : ∀ t, mid ≤ t → Q1 t = rotF P s m (mid + m - s) t := fun t ht => HS1.out.out (.inr ht)
          have HUP := Lib.hid hup; clear hup
          obtain ⟨Q2, hQ2⟩ : ∃ Q2, Q2 = Q1 := ⟨_, rfl⟩
          have HW3 := Lib.hid (show FR _ g (fun t => F (Q2 t)) N by rw [hQ2]; exact HW2.out); have HF3 := HF2
          have HS2 := Lib.hid (show Shf mid b Q1 Q2 by rw [hQ2]; exact Shf.refl _ _ _)
          have HT2 := Lib.hid (show SrtF (fun t => (F t).due) Q2 mid b by rw [hQ2]; exact (HH.out.2.2.2.2.1.mono (by omega) (Nat.le_refl _)).congr (fun t h _ => HUP.out t h))
          clear hQ2
          go_end0
          have hfin := sym_fin (P := P) (a := a) (b := b) (m := m) (s := s) (e := mid + m - s) (mid := mid) (by omega) (by omega) (by omega) (by omega) (by omega) (by omega) (fun t => rfl) HH.out.2.2.2.2.2.2 HS1.out HS2.out HT1.out HT2.out
          exact ⟨rfl, ⟨Q2, HW3.out, hfin.1, hfin.2⟩, HF3.out⟩
        · -- a < s: 1, s < mid: 0, s < m: 0, e < b: 0
          obtain ⟨cA, cB, cC, cD⟩ := hcase
          exfalso; have := E0.out; have := E1.out; omega
        · -- a < s: 0, s < mid: 1, s < m: 1, e < b: 1
          obtain ⟨cA, cB, cC, cD⟩ := hcase
          have q1 : (s : Int) < m := by omega
          have q2 : (m : Int) < ((mid + m - s : Nat) : Int) := by omega
          have q3 : decide ((a : Int) < s) = false := decide_eq_false (by omega)
          have q5 : (mid : Int) < ((mid + m - s : Nat) : Int) := by omega
          have q6 : ((mid + m - s : Nat) : Int) < b := by omega
          go_wp2_with fail
          refine (rotR_any (a := s) (m := m) (b := mid + m - s) HRW.out (by omega) (by omega) (by omega) hN).mono ?_; rintro e w2 ⟨rfl, hw, hf⟩
          have HW1 := Lib.hid (show FR w2 g (fun t => F (rotF P s m (mid + m - s) t)) N from hw.congr (fun t _ => (rotF_comp F P t).symm))
          have HF1 := Lib.hid (HF.out.trans hf (fun x hx => .inl hx))
          clear hw hf
          go_wp2_with fail
          obtain ⟨Q1, hQ1⟩ : ∃ Q1, Q1 = rotF P s m (mid + m - s) := ⟨_, rfl⟩
          have HW2 := Lib.hid (show FR _ g (fun t => F (Q1 t)) N by rw [hQ1]; exact HW1.out); have HF2 := HF1
          have HS1 := Lib.hid (show Shf a mid (rotF P s m (mid + m - s)) Q1 by rw [hQ1]; exact Shf.refl _ _ _)
          have HT1 := Lib.hid (show SrtF (fun t => (F t).due) Q1 a mid by rw [hQ1]; exact HH.out.2.1.mono (by omega) (Nat.le_refl _))
          clear hQ1
          have hup : ∀ t, mid ≤ t → Q1 t = rotF P s m (mid + m - s) t := fun t ht => HS1.out.out (.inr ht)
          have HUP := Lib.hid hup; clear hup
          refine (HIH.out _ Q1 mid (mid + m - s) b (by omega) (by omega) (by omega) (by omega) HW2.out (HH.out.2.2.2.1.congr (fun t h _ => HUP.out t h)) (HH.out.2.2.2.2.1.congr (fun t h _ => HUP.out t (by omega))) (fun u v g1 g2 g3 g4 => by rw [HUP.out u g1, HUP.out v (by omega)]; exact HH.out.2.2.2.2.2.1 u v g1 g2 g3 g4)).mono ?_; rintro e w4 ⟨rfl, ⟨Q2, hw, hs, ht⟩, hf⟩
          have HW3 := Lib.hid hw; have HF3 := Lib.hid (HF2.out.trans hf (fun x hx => .inl hx)); have HS2 := Lib.hid hs; have HT2 := Lib.hid ht
          clear hw hf hs ht
          go_wp2_with fail
          go_end0
          have hfin := sym_fin (P := P) (a := a) (b := b) (m := m) (s := s) (e := mid + m - s) (mid := mid) (by omega) (by omega) (by omega) (by omega) (by omega) (by omega) (fun t => rfl) HH.out.2.2.2.2.2.2 HS1.out HS2.out HT1.out HT2.out
          exact ⟨rfl, ⟨Q2, HW3.out, hfin.1, hfin.2⟩, HF3.out⟩
        · -- a < s: 0, s < mid: 1, s < m: 1, e < b: 0
          obtain ⟨cA, cB, cC, cD⟩ := hcase
          have q1 : (s : Int) < m := by omega
          have q2 : (m : Int) < ((mid + m - s : Nat) : Int) := by omega
          have q3 : decide ((a : Int) < s) = false := decide_eq_false (by omega)
          have q5 : (mid : Int) < ((mid + m - s : Nat) : Int) := by omega
          have q6 : ¬ ((mid + m - s : Nat) : Int) < b := by omega
          go_wp2_with fail
          refine (rotR_any (a := s) (m := m) (b := mid + m - s) HRW.out (by omega) (by omega) (by omega) hN).mono ?_; rintro e w2 ⟨rfl, hw, hf⟩
          have HW1 := Lib.hid (show FR w2 g (fun t => F (rotF P s m (mid + m - s) t)) N from hw.congr (fun t _ => (rotF_comp F P t).symm))
          have HF1 := Lib.hid (HF.out.trans hf (fun x hx => .inl hx))
          clear hw hf
          go_wp2_with fail
          obtain ⟨Q1, hQ1⟩ : ∃ Q1, Q1 = rotF P s m (mid + m - s) := ⟨_, rfl⟩
          have HW2 := Lib.hid (show FR _ g (fun t => F (Q1 t)) N by rw [hQ1]; exact HW1.out); have HF2 := HF1
          have HS1 := Lib.hid (show Shf a mid (rotF P s m (mid + m - s)) Q1 by rw [hQ1]; exact Shf.refl _ _ _)
          have HT1 := Lib.hid (show SrtF (fun t => (F t).due) Q1 a mid by rw [hQ1]; exact HH.out.2.1.mono (by omega) (Nat.le_refl _))
          clear hQ1
          have hup : ∀ t, mid ≤ t → Q1 t = rotF P s m (mid + m - s) t := fun t ht => HS1.out.out (.inr ht)
          have HUP := Lib.hid hup; clear hup
          obtain ⟨Q2, hQ2⟩ : ∃ Q2, Q2 = Q1 := ⟨_, rfl⟩
          have HW3 := Lib.hid (show FR _ g (fun t => F (Q2 t)) N by rw [hQ2]; exact HW2.out); have HF3 := HF2
          have HS2 := Lib.hid (show Shf mid b Q1 Q2 by rw [hQ2]; exact Shf.refl _ _ _)
          have HT2 := Lib.hid (show SrtF (fun t => (F t).due) Q2 mid b by rw [hQ2]; exact (HH.out.2.2.2.1.mono (Nat.le_refl _) (by omega)).congr (fun t h _ => HUP.out t h))
          clear hQ2
          go_end0
          have hfin := sym_fin (P := P) (a := a) (b := b) (m := m) (s := s) (e := mid + m - s) (mid := mid) (by omega) (by omega) (by omega) (by omega) (by omega) (by omega) (fun t => rfl) HH.out.2.2.2.2.2.2 HS1.out HS2.out HT1.out HT2.out
          exact ⟨rfl, ⟨Q2, HW3.out, hfin.1, hfin.2⟩, HF3.out⟩
theorem sym_any : ∀ (d : Nat) {w : World} {g N cap : Nat} {F : Nat → FgV} {P : Nat → Nat} {a m b : Nat}, b - a ≤ d → a < m → m < b → b ≤ N → N ≤ 1000000 → FR w g (fun t => F (P t)) N → SrtF (fun t => (F t).due) P a m → SrtF (fun t => (F t).due) P m b → LowF P a m b →
    Calls Try.prog 81 #[.slice (some ⟨g, 0, none⟩) N cap, .int .i64 a, .int .i64 m, .int .i64 b, cmpF] w (SymP w g N F P a b) := by
  intro d
  induction d with
  | zero => intros; omega
  | succ d ih =>
    intro w g N cap F P a m b hd h1 h2 h3 hN h hA hB hL
    by_cases c1 : m = a + 1
    · subst c1; exact sym_left rfl h h2 h3 hN hB hL
    · by_cases c2 : b = m + 1
      · subst c2; exact sym_right rfl h (by omega) (by omega) hN hA hL
      · exact sym_gen h (by omega) (by omega) h3 hN hA hB hL (fun w' P' a' m' b' g0 g1 g2 g3 k1 k2 k3 k4 => ih (by omega) g1 g2 g3 hN k1 k2 k3 k4)
end Go.Proofs.Ytkjjikjilmngdaa.Nt
