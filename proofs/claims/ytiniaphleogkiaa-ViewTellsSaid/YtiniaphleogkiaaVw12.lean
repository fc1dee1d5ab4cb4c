import Derived.Test.YtiniaphleogkiaaVw9
import Derived.Deep.Cut
namespace Go.Proofs.Ytiniaphleogkiaa.Vw
open Go.RowKit Dt Go.Proofs.Ytiniaphleogkiaa.Hd Go.Proofs.Ytiniaphleogkiaa.Ma Ieee
set_option linter.unusedVariables false
set_option linter.unusedSimpArgs false

set_option maxRecDepth 100000 in
set_option maxHeartbeats 3200000 in
/-- one more at the end of those that are in order -/
theorem symm_any {w : World} {g B0 b off m cap cap0 : Nat} {d P : Nat → Nat} (hrow : Row w g P (m + 1)) (hPm : P m = m) (hO : OrdF (fun t => rk (d t)) m P) (hd : Deps w B0 b off (m + 1) cap0 d) (hw : ∀ t, t < m + 1 → d t < 18446744073709551616) (hm : 2 ≤ m) (hm2 : m ≤ 1000) (h0 : B0 ≠ g) (h1 : b ≠ g) :
    Calls Try.prog 54 #[.slice (some ⟨g, 0, none⟩) (m + 1) cap, .int .i64 0, .int .i64 m, .int .i64 ((m : Int) + 1), .func (.func 48) #[] #[.pointer (some ⟨B0, 0, none⟩)]] w fun e w' =>
      e = .returned (.tuple #[]) ∧ (∃ X, Row w' g X (m + 1) ∧ OrdF (fun t => rk (d t)) (m + 1) X) ∧ Fr [g] w w' := by
  have z1 : ((m : Int) == 1) = false := by simp; omega
  have z2 : ((m : Int) + 1 - m == 1) = true := by simp; omega
  have HR := Lib.hid hrow; have HD := Lib.hid hd; have HW := Lib.hid hw; have HO := Lib.hid hO
  clear hrow hd hw hO
  go_enter Try.func54, Try.ntmps54
  go_wp2_with fail
  go_loopw [14, 15] (fun iv jv wr => ∃ (i j k : Nat), i ≤ j ∧ j ≤ m ∧ iv = .int .i64 i ∧ jv = .int .i64 j ∧ (∀ t, t < i → rk (d m) ≤ rk (d (P t))) ∧ (∀ t, j ≤ t → t < m → rk (d (P t)) < rk (d m)) ∧ wr = w.drewN k) (fun iv jv _ => (intOf jv).toNat - (intOf iv).toNat)
  case atStart => exact ⟨0, m, 0, by omega, Nat.le_refl _, rfl, rfl, fun t h => by omega, fun t h1 h2 => by omega, rfl⟩
  case round =>
    obtain ⟨i, j, k, hij, hjm, rfl, rfl, hlo, hhi, rfl⟩ := hrel
    by_cases hlt : i < j
    · obtain ⟨h, hh⟩ : ∃ h, (i + j) / 2 = h := ⟨_, rfl⟩
      have hb1 : i ≤ h ∧ h < j := by omega
      have hI : ((i : Int) + (j : Int)) / 2 = (h : Int) := by omega
      have l1 := (HR.out.drewN k).cell (t := m) (by omega)
      have l2 := (HR.out.drewN k).cell (t := h) (by omega)
      rw [hPm] at l1
      have hPh := HO.out.lt h (by omega)
      have hcmp := fun q => cmp_any (w := (w.drewN k).drewN q) (HD.out.fr (((Fr.refl [] w).drewN k).drewN q) (by simp) (by simp)).box (HD.out.fr (((Fr.refl [] w).drewN k).drewN q) (by simp) (by simp)).cells HW.out (by omega) (i := m) (j := P h) (by omega) (by omega)
      have hdec := cmpI_lt (d m) (d (P h))
      have HC := Lib.hid hcmp; have HLO := Lib.hid hlo; have HHI := Lib.hid hhi
      clear hcmp hlo hhi hh
      have q1 : (i : Int) < j := by omega
      have q2 : (h : Int) < (m : Int) + 1 := by omega
      have q3 : (m : Int) < (m : Int) + 1 := by omega
      obtain ⟨wk, hwk⟩ : ∃ wk, w.drewN k = wk := ⟨_, rfl⟩
      rw [hwk] at l1 l2 HC ⊢
      have HWK := Lib.hid hwk; clear hwk
      by_cases hs : rk (d (P h)) < rk (d m)
      · rw [decide_eq_true hs] at hdec
        go_wp2_with fail
        go_quiet ((go_at_call 48; exact Calls.quiet_of (HC.out _)))
        go_wp2_with fail
        go_roundw
        case rel =>
          refine ⟨i, h, k + nq, by omega, by omega, rfl, rfl, HLO.out, fun t h1 h2 => ?_, by rw [← HWK.out, World.drewN_drewN]⟩
          rcases Nat.lt_or_eq_of_le h1 with h3 | h3
          · have := HO.out.srt h t h3 h2
            unfold bef at this
            dsimp only at this
            omega
          · subst h3; exact hs
        case measure => simp [intOf]; omega
      · rw [decide_eq_false hs] at hdec
        go_wp2_with fail
        go_quiet ((go_at_call 48; exact Calls.quiet_of (HC.out _)))
        go_wp2_with fail
        go_roundw
        case rel =>
          refine ⟨h + 1, j, k + nq, by omega, by omega, by go_num, rfl, fun t h1 => ?_, HHI.out, by rw [← HWK.out, World.drewN_drewN]⟩
          rcases Nat.lt_or_eq_of_le (show t ≤ h by omega) with h3 | h3
          · have := HO.out.srt t h h3 (by omega)
            unfold bef at this
            dsimp only at this
            omega
          · subst h3; omega
        case measure => simp [intOf]; omega
    · have hij2 : i = j := by omega
      subst hij2
      have q1 : ¬ (i : Int) < i := by omega
      have HLO := Lib.hid hlo; have HHI := Lib.hid hhi
      have HR1 := Lib.hid (HR.out.drewN k); have HF1 := Lib.hid ((Fr.refl [g] w).drewN k)
      clear hlo hhi HR HD HW
      generalize w.drewN k = wk at *
      go_wp2_with fail
      go_loopw [17] (fun kv wr => ∃ (q : Nat) (Y : Nat → Nat), i ≤ q ∧ q ≤ m ∧ kv = .int .i64 q ∧ Row wr g Y (m + 1) ∧ (∀ t, t < m + 1 → Y t = insF P m q t) ∧ Fr [g] w wr) (fun kv _ => (intOf kv).toNat)
      case atStart =>
        refine ⟨m, P, by omega, Nat.le_refl _, rfl, HR1.out, fun t ht => ?_, HF1.out⟩
        unfold insF
        by_cases c : t < m
        · rw [if_pos c]
        · have : t = m := by omega
          subst this
          rw [if_neg c, if_pos rfl]; exact hPm
      case round =>
        obtain ⟨q, Y, hiq, hqm, rfl, hY, hYe, hF⟩ := hrel
        have HY := Lib.hid hY; have HYE := Lib.hid hYe; have HF := Lib.hid hF
        clear hY hYe hF HR1 HF1
        by_cases hlt : i < q
        · obtain ⟨p, rfl⟩ : ∃ p, q = p + 1 := ⟨q - 1, by omega⟩
          have e1 : Y (p + 1) = m := by rw [HYE.out _ (by omega)]; unfold insF; rw [if_neg (by omega), if_pos rfl]
          have e2 : Y p = P p := by rw [HYE.out _ (by omega)]; unfold insF; rw [if_pos (by omega)]
          have l1 := HY.out.cell (t := p + 1) (by omega)
          have l2 := HY.out.cell (t := p) (by omega)
          have fz1 := HY.out.free (p + 1)
          have fz2 := HY.out.free p
          rw [e1] at l1
          rw [e2] at l2
          have q2 : (i : Int) < ((p + 1 : Nat) : Int) := by omega
          have em : ((p + 1 : Nat) : Int) - 1 = (p : Int) := by omega
          have q3 : ((p + 1 : Nat) : Int) < (m : Int) + 1 := by omega
          have q4 : (p : Int) < (m : Int) + 1 := by omega
          go_wp2_with fail
          go_region
          have HY2 := Lib.hid (((HY.out.set (show p + 1 < m + 1 by omega) (P p)).set (show p < m + 1 by omega) m).drewN 1)
          have HF2 := Lib.hid (((HF.out.setCell (p := ⟨g, p + 1, none⟩) (.inl (by simp)) (.int .i64 (P p))).setCell (p := ⟨g, p, none⟩) (.inl (by simp)) (.int .i64 m)).drewN 1)
          clear l1 l2 fz1 fz2 HY HF
          go_wp2_with fail
          go_roundw
          case rel =>
            refine ⟨p, _, by omega, by omega, by go_num, HY2.out, fun t ht => ?_, HF2.out⟩
            rw [insF_step (show p + 1 ≤ m by omega)]
            dsimp only
            by_cases c1 : t = p
            · rw [if_pos c1, if_pos c1]
            · rw [if_neg c1, if_neg c1]
              by_cases c2 : t = p + 1
              · rw [if_pos c2, if_pos c2]
              · rw [if_neg c2, if_neg c2]; exact HYE.out t ht
          case measure => simp [intOf]
        · have hqi : q = i := by omega
          have q2 : ¬ (i : Int) < (q : Int) := by omega
          go_wp2_with fail
          (try simp only [Exit.inBlock, Exit.then])
          refine bodyPost_ret (results_none rfl _ _ _) rfl ?_
          refine ⟨rfl, ⟨Y, HY.out, (HO.out.ins (j := i) (by omega) HHI.out (fun h => HLO.out (i - 1) (by omega))).congr (fun t ht => ?_)⟩, HF.out⟩
          rw [HYE.out t ht, hqi]
end Go.Proofs.Ytiniaphleogkiaa.Vw
