import Derived.Test.YtidlpihffolelaaWin4
namespace Go.Proofs.Ytidlpihffolelaa.Wn
open Go.RowKit Dt Go.Proofs.Ytidlpihffolelaa.Sq Go.Proofs.Ytidlpihffolelaa.Hd
set_option linter.unusedVariables false

def wf1 (base : Int) : WS := ⟨true, base % 65536, fun _ => false⟩
theorem note_wf1 (base : Int) : noteS s0 base = (1, wf1 base) := by simp [noteS, s0, wf1]
def wf2 (base step : Int) : WS := (noteS (wf1 base) (base + step)).2
theorem note_wf2 (base step : Int) (h1 : 1 ≤ step) (h2 : step ≤ 200) : (noteS (wf1 base) (base + step)).1 = 1 := by
  unfold noteS wf1
  have hf : far ((base + step) % 65536) (base % 65536) = step := far_self base step (by omega) (by omega)
  rw [if_neg (by simp), hf, if_pos (by omega)]
theorem wf2_last (base step : Int) (h1 : 1 ≤ step) (h2 : step ≤ 200) : (wf2 base step).last = (base + step) % 65536 := by
  unfold wf2 noteS wf1
  have hf : far ((base + step) % 65536) (base % 65536) = step := far_self base step (by omega) (by omega)
  rw [if_neg (by simp), hf, if_pos (by omega)]
theorem wf2_any (base step : Int) (h1 : 1 ≤ step) (h2 : step ≤ 200) : (wf2 base step).any = true := by
  unfold wf2 noteS wf1
  have hf : far ((base + step) % 65536) (base % 65536) = step := far_self base step (by omega) (by omega)
  rw [if_neg (by simp), hf, if_pos (by omega)]
theorem wf2_f (base step : Int) (h1 : 1 ≤ step) (h2 : step ≤ 200) (i : Nat) : (wf2 base step).f i = decide ((i : Int) + 1 = step) := by
  unfold wf2 noteS wf1
  have hf : far ((base + step) % 65536) (base % 65536) = step := far_self base step (by omega) (by omega)
  rw [if_neg (by simp), hf, if_pos (by omega)]; simp
theorem note_old (s : WS) (n k : Int) (ha : s.any = true) (hk : 65 ≤ k) (hk2 : k ≤ 6000) (hl : s.last = (n + k) % 65536) : noteS s n = (3, s) := by
  have hf : far (n % 65536) s.last = -k := by rw [hl]; unfold far; split <;> omega
  unfold noteS
  rw [if_neg (by simp [ha]), hf, if_neg (by omega), if_pos (by omega)]
theorem note_back (base step : Int) (h1 : 1 ≤ step) (h2 : step ≤ 200) : noteS (wf2 base step) base = (if step > 64 then 3 else 2, wf2 base step) := by
  by_cases h : step > 64
  · rw [if_pos h]
    exact note_old _ _ step (wf2_any base step h1 h2) (by omega) (by omega) (wf2_last base step h1 h2)
  · rw [if_neg h]
    have hf : far (base % 65536) (wf2 base step).last = -step := by rw [wf2_last base step h1 h2]; unfold far; split <;> omega
    unfold noteS
    rw [if_neg (by simp [wf2_any base step h1 h2]), hf, if_neg (by omega), if_neg (by omega), if_neg (by omega), if_pos]
    rw [wf2_f base step h1 h2]; simp; omega
theorem note_eq {w : World} {b : Nat} {s s' : WS} {n c : Int} (H : HasW w b s) (h : noteS s n = (c, s')) :
    Calls Try.prog 24 #[.pointer (some ⟨b, 0, none⟩), .int .i64 n] w fun e w' => e = .returned (.int .i64 c) ∧ HasW w' b s' ∧ Fr [b] w w' :=
  note_is H (by rw [h]) (by rw [h])

theorem walk_far (a0 a1 : Int) (a2 : Option Addr) (len2 cap2 : Nat) (z2 : Nat → Int) (W : World) (w0 : (Lit.int .i64 a0).wf = true) (w1 : (Lit.int .i64 a1).wf = true) (w2 : SlI .i64 W a2 len2 cap2 z2) :
    Calls Try.prog 7 #[.int .i64 a0, .int .i64 a1, .slice a2 len2 cap2] W fun e w' => e = .returned (.bool true) ∧ Below W.heap.size W w' := by
  have hn := new_win W
  have f0 : Fr [W.heap.size] W (W.alloc (.cells #[.bool false, .int .i64 0, .int .u64 0] 31)) := (Fr.refl _ _).alloc _
  obtain ⟨⟨hle, -, hre, hcells⟩, hwf⟩ := w2
  have b1 : 0 ≤ a0 % 65536 := by omega
  have b2 : a0 % 65536 < 65536 := by omega
  have c1 : 0 ≤ a1 % 200 := by omega
  have c2 : a1 % 200 < 200 := by omega
  have HC := Lib.hid hcells; clear hcells
  have HW := Lib.hid hwf; clear hwf
  by_cases hst : 1 + a1 % 200 > 64
  all_goals
    have HB := note_back (a0 % 65536) (1 + a1 % 200) (by omega) (by omega)
    first | rw [if_pos hst] at HB | rw [if_neg hst] at HB
    have HN1 := Lib.hid (note_wf1 (a0 % 65536))
    have HN2 := Lib.hid (note_wf2 (a0 % 65536) (1 + a1 % 200) (by omega) (by omega))
    have HNL := Lib.hid (wf2_last (a0 % 65536) (1 + a1 % 200) (by omega) (by omega))
    have HNA := Lib.hid (wf2_any (a0 % 65536) (1 + a1 % 200) (by omega) (by omega))
    have HNB := Lib.hid HB
    clear HB
    go_enter Try.func7, Try.ntmps7
    go_wp2_with fail
    generalize hwa : W.alloc (.cells #[.bool false, .int .i64 0, .int .u64 0] 31) = wa at *
    clear hwa
    refine (pick_any _ _ _ (by decide) (by decide)).mono ?_; rintro e w' ⟨rfl, rfl⟩
    go_wp2_with fail
    refine (pick_any _ _ _ (by decide) (by decide)).mono ?_; rintro e w' ⟨rfl, rfl⟩
    generalize a0 % 65536 = base at *
    generalize a1 % 200 = st at *
    go_wp2_with fail
    refine (known7_any _).mono ?_; rintro e w1 ⟨rfl, fr1⟩; have H1 := hn.fr fr1 (by simp); have f1 := f0.trans fr1 (by simp); clear hn f0 fr1
    go_wp2_with fail
    refine (note_eq H1 HN1.out).mono ?_; rintro e w2 ⟨rfl, H2, fr2⟩; have f2 := f1.trans fr2 (by simp); clear H1 f1 fr2
    go_wp2_with fail
    refine (note_is H2 HN2.out rfl).mono ?_; rintro e w3 ⟨rfl, H3, fr3⟩; have f3 := f2.trans fr3 (by simp); clear H2 f2 fr3
    go_wp2_with fail
    refine (note_eq H3 HNB.out).mono ?_; rintro e w4 ⟨rfl, H4, fr4⟩; have f4 := f3.trans fr4 (by simp); clear H3 f3 fr4
    go_wp2_with fail
    go_loopw [9] (fun i wr => ∃ j : Nat, j ≤ len2 ∧ j ≤ 20 ∧ i = .int .i64 j ∧ HasW wr W.heap.size (wf2 base (1 + st)) ∧ Fr [W.heap.size] W wr) (fun i _ => 20 - (intOf i).toNat)
    case atStart => exact ⟨0, by omega, by omega, rfl, H4, f4⟩
    case round =>
      obtain ⟨j, hj, hj2, rfl, H5, f5⟩ := hrel
      clear H4 f4
      by_cases hlt : j < len2
      · obtain ⟨b, off, rfl, hlb, hc⟩ := HC.out (by omega)
        have hcj := hc j hlt
        have hcj' := (f5.cell (p := ⟨b, off + j, none⟩) hlb (by simp; omega)).trans hcj
        clear hc hcj
        by_cases hlt2 : j < 20
        · go_wp2_with fail
          refine (pick_any _ _ _ (by decide) (by decide)).mono ?_; rintro e w' ⟨rfl, rfl⟩
          have p1 : 0 ≤ z2 j % 5000 := by omega
          have p2 : z2 j % 5000 < 5000 := by omega
          generalize z2 j % 5000 = q at *
          go_wp2_with fail
          have HO := note_old (wf2 base (1 + st)) (base + (1 + st) - (65 + q)) (65 + q) HNA.out (by omega) (by omega) (by rw [HNL.out]; congr 1; omega)
          refine (note_eq H5 HO).mono ?_; rintro e w6 ⟨rfl, H6, fr6⟩; have f6 := f5.trans fr6 (by simp); clear H5 f5 fr6 HO
          go_wp2_with fail
          refine (wlast_any _ _ _ H6).mono ?_; rintro e w' ⟨rfl, rfl⟩; rw [HNL.out]
          go_wp2_with fail
          go_roundw
          case rel => exact ⟨j + 1, by omega, by omega, by go_num, H6, f6⟩
          case measure => simp [intOf]; omega
        · go_wp2_with fail
          go_ret
          exact ⟨rfl, f5.below (Nat.le_refl _) (by simp)⟩
      · go_wp2_with fail
        go_ret
        exact ⟨rfl, f5.below (Nat.le_refl _) (by simp)⟩
end Go.Proofs.Ytidlpihffolelaa.Wn
