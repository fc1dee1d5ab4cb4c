import Derived.Test.YtidlpihffolelaaWin3
namespace Go.Proofs.Ytidlpihffolelaa.Wn
open Go.RowKit Dt Go.Proofs.Ytidlpihffolelaa.Sq Go.Proofs.Ytidlpihffolelaa.Hd
set_option linter.unusedVariables false

def wk1 : WS := (noteS s0 65535).2
def wk2 : WS := (noteS wk1 63).2
def wk3 : WS := (noteS wk2 65535).2
def wk4 : WS := (noteS wk3 65534).2
def wk5 : WS := (noteS wk4 0).2
def wk6 : WS := (noteS wk5 64).2
def wk7 : WS := (noteS wk6 65535).2
theorem wk2_bits {v : Int} (h : Bt v wk2.f) : v = 9223372036854775808 := h.of_dec 9223372036854775808 (by decide) (by decide)
theorem wk7_bits {v : Int} (h : Bt v wk7.f) : v = 9223372036854775809 := h.of_dec 9223372036854775809 (by decide) (by decide)
theorem wk7_last : wk7.last = 64 := by decide
theorem wk7_any : wk7.any = true := by decide
theorem s0_any : s0.any = false := by decide
theorem Bt.lit (m : Nat) (h : m < 18446744073709551616) : Bt m (fun k => m.testBit k) := ⟨m, rfl, h, fun _ _ => rfl⟩

theorem covers_is {last v n : Int} {c : Bool} (w : World) {f : Nat → Bool} (hb : Bt v f) (h : covS last f n = c) :
    Calls Try.prog 31 #[.int .i64 last, .int .u64 v, .int .i64 n] w fun e w' => e = .returned (.bool c) ∧ w = w' := by
  subst h; exact covers_any last v n f w hb

set_option maxRecDepth 100000 in
theorem law_known (w : World) :
    Calls Try.prog 10 #[] w fun e w' => e = .returned (.bool true) ∧ Below w.heap.size w w' := by
  have hn := new_win w
  have f0 : Fr [w.heap.size] w (w.alloc (.cells #[.bool false, .int .i64 0, .int .u64 0] 31)) := (Fr.refl _ _).alloc _
  go_enter Try.func10, Try.ntmps10
  go_wp2_with fail
  generalize w.alloc (.cells #[.bool false, .int .i64 0, .int .u64 0] 31) = wa at *
  refine (wany_any _ _ _ hn).mono ?_; rintro e w' ⟨rfl, rfl⟩; rw [s0_any]
  go_wp2_with fail
  refine (note_is hn (c := 1) (s' := wk1) (by decide) rfl).mono ?_; rintro e w1 ⟨rfl, H1, fr1⟩; have f1 := f0.trans fr1 (by simp); clear hn f0 fr1
  go_wp2_with fail
  refine (note_is H1 (c := 1) (s' := wk2) (by decide) rfl).mono ?_; rintro e w2 ⟨rfl, H2, fr2⟩; have f2 := f1.trans fr2 (by simp); clear H1 f1 fr2
  go_wp2_with fail
  refine (wbits_any _ _ _ H2).mono ?_; rintro e w' ⟨v, rfl, hv, rfl⟩; obtain rfl := wk2_bits hv; clear hv
  go_wp2_with fail
  refine (note_is H2 (c := 2) (s' := wk3) (by decide) rfl).mono ?_; rintro e w3 ⟨rfl, H3, fr3⟩; have f3 := f2.trans fr3 (by simp); clear H2 f2 fr3
  go_wp2_with fail
  refine (note_is H3 (c := 3) (s' := wk4) (by decide) rfl).mono ?_; rintro e w4 ⟨rfl, H4, fr4⟩; have f4 := f3.trans fr4 (by simp); clear H3 f3 fr4
  go_wp2_with fail
  refine (note_is H4 (c := 1) (s' := wk5) (by decide) rfl).mono ?_; rintro e w5 ⟨rfl, H5, fr5⟩; have f5 := f4.trans fr5 (by simp); clear H4 f4 fr5
  go_wp2_with fail
  refine (note_is H5 (c := 1) (s' := wk6) (by decide) rfl).mono ?_; rintro e w6 ⟨rfl, H6, fr6⟩; have f6 := f5.trans fr6 (by simp); clear H5 f5 fr6
  go_wp2_with fail
  refine (note_is H6 (c := 3) (s' := wk7) (by decide) rfl).mono ?_; rintro e w7 ⟨rfl, H7, fr7⟩; have f7 := f6.trans fr7 (by simp); clear H6 f6 fr7
  go_wp2_with fail
  refine (known7_any _).mono ?_; rintro e w8 ⟨rfl, fr8⟩; have H8 := H7.fr fr8 (by simp); have f8 := f7.trans fr8 (by simp); clear H7 f7 fr8
  go_wp2_with fail
  refine (wany_any _ _ _ H8).mono ?_; rintro e w' ⟨rfl, rfl⟩; rw [wk7_any]
  go_wp2_with fail
  refine (wlast_any _ _ _ H8).mono ?_; rintro e w' ⟨rfl, rfl⟩; rw [wk7_last]
  go_wp2_with fail
  refine (wbits_any _ _ _ H8).mono ?_; rintro e w' ⟨v, rfl, hv, rfl⟩; obtain rfl := wk7_bits hv; clear hv
  go_wp2_with fail
  refine (covers_is (c := true) _ (Bt.lit 0 (by decide)) (by decide)).mono ?_; rintro e w' ⟨rfl, rfl⟩
  go_wp2_with fail
  refine (covers_is (c := false) _ (Bt.lit 0 (by decide)) (by decide)).mono ?_; rintro e w' ⟨rfl, rfl⟩
  go_wp2_with fail
  refine (covers_is (c := true) _ (Bt.lit 1 (by decide)) (by decide)).mono ?_; rintro e w' ⟨rfl, rfl⟩
  go_wp2_with fail
  refine (covers_is (c := true) _ (Bt.lit 2 (by decide)) (by decide)).mono ?_; rintro e w' ⟨rfl, rfl⟩
  go_wp2_with fail
  refine (covers_is (c := false) _ (Bt.lit 9223372036854775808 (by decide)) (by decide)).mono ?_; rintro e w' ⟨rfl, rfl⟩
  go_wp2_with fail
  go_ret
  exact ⟨rfl, f8.below (Nat.le_refl _) (by simp)⟩

theorem far_self (n m : Int) (h1 : -32768 ≤ m) (h2 : m ≤ 32767) : far ((n + m) % 65536) (n % 65536) = m := by
  unfold far; split <;> omega
end Go.Proofs.Ytidlpihffolelaa.Wn
