import Derived.Test.YtidlpihffolelaaWin
namespace Go.Proofs.Ytidlpihffolelaa.Wn
open Go.RowKit Dt Go.Proofs.Ytidlpihffolelaa.Sq
set_option linter.unusedVariables false

theorem wany_any (w : World) (b : Nat) (s : WS) (H : HasW w b s) :
    Calls Try.prog 28 #[.pointer (some ⟨b, 0, none⟩)] w fun e w' => e = .returned (.bool s.any) ∧ w = w' := by
  obtain ⟨⟨v, h, hb⟩, h1, h2⟩ := H
  have c0 := Blk.cell (i := 0) h rfl
  go_enter Try.func28, Try.ntmps28
  go_wp2
  go_ret
  exact ⟨rfl, rfl⟩
theorem wlast_any (w : World) (b : Nat) (s : WS) (H : HasW w b s) :
    Calls Try.prog 25 #[.pointer (some ⟨b, 0, none⟩)] w fun e w' => e = .returned (.int .i64 s.last) ∧ w = w' := by
  obtain ⟨⟨v, h, hb⟩, h1, h2⟩ := H
  have c0 := Blk.cell (i := 1) h rfl
  go_enter Try.func25, Try.ntmps25
  go_wp2
  go_ret
  exact ⟨rfl, rfl⟩
theorem wbits_any (w : World) (b : Nat) (s : WS) (H : HasW w b s) :
    Calls Try.prog 29 #[.pointer (some ⟨b, 0, none⟩)] w fun e w' => ∃ v : Int, e = .returned (.int .u64 v) ∧ Bt v s.f ∧ w = w' := by
  obtain ⟨⟨v, h, hb⟩, h1, h2⟩ := H
  have c0 := Blk.cell (i := 2) h rfl
  have HB := Lib.hid hb; clear hb
  go_enter Try.func29, Try.ntmps29
  go_wp2
  go_ret
  exact ⟨v, rfl, HB.out, rfl⟩

def s0 : WS := ⟨false, 0, fun _ => false⟩
theorem new_win (w : World) : HasW (w.alloc (.cells #[.bool false, .int .i64 0, .int .u64 0] 31)) w.heap.size s0 :=
  ⟨⟨0, Blk.new w _ _, ⟨0, rfl, by decide, fun k _ => by simp [s0]⟩⟩, by decide, by decide⟩
theorem HasW.lt {w : World} {b : Nat} {s : WS} (H : HasW w b s) : b < w.heap.size := by
  obtain ⟨⟨v, h, hb⟩, h1, h2⟩ := H; exact Blk.lt h
theorem HasW.fr {w w' : World} {b : Nat} {s : WS} {S : List Nat} (H : HasW w b s) (h : Fr S w w') (hb : b ∉ S) : HasW w' b s := by
  obtain ⟨⟨v, k, hv⟩, h1, h2⟩ := H; exact ⟨⟨v, h.blk k hb, hv⟩, h1, h2⟩

theorem note_is {w : World} {b : Nat} {s s' : WS} {n c : Int} (H : HasW w b s) (h1 : (noteS s n).1 = c) (h2 : (noteS s n).2 = s') :
    Calls Try.prog 24 #[.pointer (some ⟨b, 0, none⟩), .int .i64 n] w fun e w' => e = .returned (.int .i64 c) ∧ HasW w' b s' ∧ Fr [b] w w' := by
  subst h1; subst h2; exact note_any w b s n H

def kn1 : WS := (noteS s0 5).2
def kn2 : WS := (noteS kn1 7).2
def kn3 : WS := (noteS kn2 6).2
def kn4 : WS := (noteS kn3 5).2
theorem kn4_last : kn4.last = 7 := by decide
theorem Bt.of_dec {v : Int} {f : Nat → Bool} (m : Nat) (h : Bt v f) (hm : m < 18446744073709551616) (hd : ∀ k, k < 64 → m.testBit k = f k) : v = m :=
  h.unique ⟨m, rfl, hm, fun k hk => rfl⟩ (fun k hk => (hd k hk).symm)
theorem kn4_bits {v : Int} (h : Bt v kn4.f) : v = 3 := h.of_dec 3 (by decide) (by decide)

theorem known7_any (w : World) :
    Calls Try.prog 23 #[] w fun e w' => e = .returned (.bool true) ∧ Fr [] w w' := by
  have hn := new_win w
  have f0 : Fr [w.heap.size] w (w.alloc (.cells #[.bool false, .int .i64 0, .int .u64 0] 31)) := (Fr.refl _ _).alloc _
  go_enter Try.func23, Try.ntmps23
  go_wp2_with fail
  generalize w.alloc (.cells #[.bool false, .int .i64 0, .int .u64 0] 31) = wa at *
  refine (note_is hn (c := 1) (s' := kn1) (by decide) rfl).mono ?_; rintro e w1 ⟨rfl, H1, fr1⟩; have f1 := f0.trans fr1 (by simp); clear hn f0 fr1
  go_wp2_with fail
  refine (note_is H1 (c := 1) (s' := kn2) (by decide) rfl).mono ?_; rintro e w2 ⟨rfl, H2, fr2⟩; have f2 := f1.trans fr2 (by simp); clear H1 f1 fr2
  go_wp2_with fail
  refine (note_is H2 (c := 1) (s' := kn3) (by decide) rfl).mono ?_; rintro e w3 ⟨rfl, H3, fr3⟩; have f3 := f2.trans fr3 (by simp); clear H2 f2 fr3
  go_wp2_with fail
  refine (note_is H3 (c := 2) (s' := kn4) (by decide) rfl).mono ?_; rintro e w4 ⟨rfl, H4, fr4⟩; have f4 := f3.trans fr4 (by simp); clear H3 f3 fr4
  go_wp2_with fail
  refine (wlast_any _ _ _ H4).mono ?_; rintro e w' ⟨rfl, rfl⟩; rw [kn4_last]
  go_wp2_with fail
  refine (wbits_any _ _ _ H4).mono ?_; rintro e w' ⟨v, rfl, hv, rfl⟩; obtain rfl := kn4_bits hv; clear hv
  go_wp2_with fail
  go_ret
  exact ⟨rfl, f4.mono (by simp)⟩
end Go.Proofs.Ytidlpihffolelaa.Wn
