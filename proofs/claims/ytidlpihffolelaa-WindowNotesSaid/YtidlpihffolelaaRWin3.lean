import Derived.Test.YtidlpihffolelaaRWin2
import Derived.Deep.RegionWith
namespace Go.Proofs.Ytidlpihffolelaa.Wn
open Go.RowKit Dt Go.Proofs.Ytidlpihffolelaa.Sq Go.Proofs.Ytidlpihffolelaa.Hd
set_option linter.unusedVariables false

def nearI (base n : Int) : Int := if n.tmod 17 = 16 then n else base + n.tmod 80
theorem near_any (base n : Int) (w : World) (h1 : 0 ≤ base) (h2 : base ≤ 1000000) :
    Calls Try.prog 26 #[.int .i64 base, .int .i64 n] w fun e w' => e = .returned (.int .i64 (nearI base n)) ∧ w = w' := by
  obtain ⟨b1, b2⟩ := tmod_bd (n := n) (m := 17) (by omega)
  obtain ⟨b3, b4⟩ := tmod_bd (n := n) (m := 80) (by omega)
  by_cases h : n.tmod 17 = 16
  · have h' : (n.tmod 17 == 16) = true := by simp [h]
    have HI := Lib.hid h; clear h
    go_enter Try.func26, Try.ntmps26
    go_wp2
    go_ret
    exact ⟨Hd.ret_i (by unfold nearI; rw [if_pos HI.out]), rfl⟩
  · have h' : (n.tmod 17 == 16) = false := by simp [h]
    have HI := Lib.hid h; clear h
    go_enter Try.func26, Try.ntmps26
    go_wp2
    go_ret
    exact ⟨Hd.ret_i (by unfold nearI; rw [if_neg HI.out]), rfl⟩

theorem rnote_is {w : World} {b : Nat} {s s' : WS} {n c : Int} (H : RWin w b s) (h1 : (rnoteS s n).1 = c) (h2 : (rnoteS s n).2 = s') :
    Calls Try.prog 27 #[.pointer (some ⟨b, 0, none⟩), .int .i64 n] w fun e w' => e = .returned (.int .i64 c) ∧ RWin w' b s' ∧ Fr [b] w w' := by
  subst h1; subst h2; exact rnote_any w b s n H
theorem rwin_new (w : World) : RWin (w.alloc (.cells (rvals false 0 (fun _ => false)) 37)) w.heap.size s0 := ⟨Blk.new w _ _, by decide, by decide⟩

set_option maxRecDepth 100000 in
set_option maxHeartbeats 3200000 in
theorem walk_notes (a0 : Int) (a1 : Option Addr) (len1 cap1 : Nat) (z1 : Nat → Int) (W : World) (w0 : (Lit.int .i64 a0).wf = true) (w1 : SlI .i64 W a1 len1 cap1 z1) :
    Calls Try.prog 8 #[.int .i64 a0, .slice a1 len1 cap1] W fun e w' => e = .returned (.bool true) ∧ Below W.heap.size W w' := by
  have hn := new_win W
  have f0 : Fr [] W (W.alloc (.cells #[.bool false, .int .i64 0, .int .u64 0] 31)) := (Fr.refl _ _).alloc _
  obtain ⟨⟨hle, -, hre, hcells⟩, hwf⟩ := w1
  have b1 : 0 ≤ a0 % 70000 := by omega
  have b2 : a0 % 70000 < 70000 := by omega
  have HC := Lib.hid hcells; clear hcells
  have HW := Lib.hid hwf; clear hwf
  have hz : ∀ w, (zeroValue 37).run Try.prog w = .ok (.agg (rvals false 0 (fun _ => false))) w := fun _ => by kernel_rfl
  go_enter Try.func8, Try.ntmps8
  go_wp2_with fail
  have hr := rwin_new (W.alloc (.cells #[.bool false, .int .i64 0, .int .u64 0] 31))
  have f1 := f0.alloc (.cells (rvals false 0 (fun _ => false)) 37)
  have hn1 := hn.fr ((Fr.refl [] _).alloc (.cells (rvals false 0 (fun _ => false)) 37)) (by simp)
  simp only [World.size_alloc] at hr
  generalize (W.alloc (.cells #[.bool false, .int .i64 0, .int .u64 0] 31)).alloc (.cells (rvals false 0 (fun _ => false)) 37) = Wa at *
  clear hn f0 hz
  refine (pick_any _ _ _ (by decide) (by decide)).mono ?_; rintro e w' ⟨rfl, rfl⟩
  generalize a0 % 70000 = base at *
  go_wp2_with fail
  go_loopw [0, 7] (fun bs i wr => ∃ (j : Nat) (c : Int) (s r : WS), j ≤ len1 ∧ j ≤ 60 ∧ 0 ≤ c ∧ c ≤ 70000 + 20 * j ∧ bs = .int .i64 c ∧ i = .int .i64 j ∧ HasW wr W.heap.size s ∧ RWin wr (W.heap.size + 1) r ∧ Rel s r ∧ Fr [] W wr) (fun _ i _ => 60 - (intOf i).toNat)
  case atStart => exact ⟨0, base, s0, s0, by omega, by omega, by omega, by omega, rfl, rfl, hn1, hr, rel_0, f1⟩
  case round =>
    obtain ⟨j, c, s, r, hj, hj2, hc1, hc2, rfl, rfl, hS, hR, hrl, f2⟩ := hrel
    clear hn1 hr f1
    by_cases hlt : j < len1
    · obtain ⟨b, off, rfl, hlb, hc⟩ := HC.out (by omega)
      have hcj := (f2.cell (p := ⟨b, off + j, none⟩) hlb (by simp)).trans (hc j hlt)
      clear hc
      by_cases hlt2 : j < 60
      · have q1 : z1 j ≤ 9223372036854775807 := i64_hi (HW.out j hlt)
        have q2 : -9223372036854775808 ≤ z1 j := i64_lo (HW.out j hlt)
        go_wp2_with fail
        refine (pick_any _ _ _ (by decide) (by decide)).mono ?_; rintro e w' ⟨rfl, rfl⟩
        go_wp2_with fail
        refine (near_any _ _ _ (by omega) (by omega)).mono ?_; rintro e w' ⟨rfl, rfl⟩
        have hrn := hrl.note (nearI (c + (z1 j).tdiv 80 % 20) (z1 j))
        generalize nearI (c + (z1 j).tdiv 80 % 20) (z1 j) = m at *
        obtain ⟨cc, hc1'⟩ : ∃ cc, (noteS s m).1 = cc := ⟨_, rfl⟩
        obtain ⟨s', hs'⟩ : ∃ s', (noteS s m).2 = s' := ⟨_, rfl⟩
        obtain ⟨r', hr'⟩ : ∃ r', (rnoteS r m).2 = r' := ⟨_, rfl⟩
        obtain ⟨hrn1, hrn2⟩ := hrn
        rw [hc1'] at hrn1
        rw [hs', hr'] at hrn2
        have HN1 := Lib.hid hc1'; have HN2 := Lib.hid hs'; have HN3 := Lib.hid hrn1.symm; have HN4 := Lib.hid hr'; have HRL := Lib.hid hrn2
        clear hc1' hs' hrn1 hr' hrn2 hrl
        go_wp2_with fail
        go_region_with (first
          | (go_at_call 24; refine (note_is (hS.fr ((Fr.refl [] _).drew) (by simp)) HN1.out HN2.out).mono ?_; rintro e w1 ⟨rfl, S1, fr1⟩; have R1 := (hR.fr ((Fr.refl [] _).drew) (by simp)).fr fr1 (by simp))
          | (go_at_call 27; refine (rnote_is R1 HN3.out HN4.out).mono ?_; rintro e w2 ⟨rfl, R2, fr2⟩; have S2 := S1.fr fr2 (by simp); have l0 := Blk.cell (i := 0) R2.1 rvals_0; have l1 := Blk.cell (i := 1) R2.1 rvals_1; rw [← HRL.out.any] at l0; rw [← HRL.out.last] at l1)
          | (go_at_call 28; refine (wany_any _ _ _ S2).mono ?_; rintro e w' ⟨rfl, rfl⟩)
          | (go_at_call 25; refine (wlast_any _ _ _ S2).mono ?_; rintro e w' ⟨rfl, rfl⟩)
          | (go_at_call 29; refine (wbits_any _ _ _ S2).mono ?_; rintro e w' ⟨v, rfl, hv, rfl⟩)
          | (go_at_call 30; refine (rbits_any _ _ _ R2).mono ?_; rintro e w' ⟨v', rfl, hv', rfl⟩; obtain rfl := HRL.out.bits hv hv'))
        all_goals
          have f3 := (((f2.drew).trans fr1 (S' := [W.heap.size]) (by simp)).trans fr2 (S' := [W.heap.size + 1]) (by simp))
          clear hS hR f2 fr1 fr2 S1 R1 l0 l1 hcj hv hv'
          go_wp2_with fail
          go_roundw
          case rel => exact ⟨j + 1, _, s', r', by omega, by omega, by omega, by omega, rfl, by go_num, S2, R2, HRL.out, f3⟩
          case measure => simp [intOf]; omega
      · go_wp2_with fail
        refine (known7_any _).mono ?_; rintro e w5 ⟨rfl, fr5⟩; have f5 := f2.trans fr5 (by simp)
        go_wp2_with fail
        go_ret
        exact ⟨rfl, f5.below (Nat.le_refl _) (by simp)⟩
    · go_wp2_with fail
      refine (known7_any _).mono ?_; rintro e w5 ⟨rfl, fr5⟩; have f5 := f2.trans fr5 (by simp)
      go_wp2_with fail
      go_ret
      exact ⟨rfl, f5.below (Nat.le_refl _) (by simp)⟩
end Go.Proofs.Ytidlpihffolelaa.Wn
