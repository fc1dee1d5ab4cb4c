import Derived.Test.YtidlpihffolelaaTagPl
import Derived.Test.YtidlpihffolelaaTag5
namespace Go.Proofs.Ytidlpihffolelaa.Tg
open Go.RowKit Dt Go.Proofs.Ytidlpihffolelaa.Hd
set_option linter.unusedVariables false

theorem len_own {w : World} {base : Nat} {e : TypeId} {v : Value} {n : Nat} {xs : List Value} (h : w.ownsRow base e 1 v n xs) : ∃ a cap, v = .slice a n cap := by
  obtain ⟨a, cap, hv, _⟩ := own_any h; exact ⟨a, cap, hv⟩

set_option maxRecDepth 100000 in
theorem law_known5 (w : World) : Calls Try.prog 12 #[] w fun e w' => e = .returned (.bool true) ∧ Below w.heap.size w w' := by
  have q1 : Bs [0, 0, 0, 1] := ⟨by decide, by decide⟩
  have q2 : closeS 0 ([0, 0, 0, 1].take 0) = [0, 0, 0, 1] := by decide
  have q3 : sumS 0 [0] = 259 := by decide
  have q4 : sumS (-1) [] = 0 := by decide
  have q5 : sumS 2147483647 [] = 1 := by decide
  have q6 : markS [] = 17179869196 := by decide
  have q7 : Bs [] := ⟨(by intro x hx; cases hx), by decide⟩
  have q8 : Bs [0] := ⟨by decide, by decide⟩
  have q9 : (closeS 0 []).length = 4 := closeS_len _ _
  have H1 := Lib.hid q1; have H2 := Lib.hid q2; have H3 := Lib.hid q3; have H4 := Lib.hid q4; have H5 := Lib.hid q5; have H6 := Lib.hid q6; have H7 := Lib.hid q7; have H8 := Lib.hid q8; have H9 := Lib.hid q9
  clear q1 q2 q3 q4 q5 q6 q7 q8 q9
  go_enter Try.func12, Try.ntmps12
  go_wp2_with fail
  have hF := (Fr.refl [] w).alloc (.cells #[.int .u8 0, .int .u8 0, .int .u8 1] 5)
  have hls : LS (w.alloc (.cells #[.int .u8 0, .int .u8 0, .int .u8 1] 5)) (.slice (some ⟨w.heap.size, 0, none⟩) 3 3) (u8s [0, 0, 1]) :=
    LS.of_blk (Blk.new w #[.int .u8 0, .int .u8 0, .int .u8 1] 5) (cap := 3) (by decide) (by decide)
  generalize w.alloc (.cells #[.int .u8 0, .int .u8 0, .int .u8 1] 5) = w0 at *
  refine (open_short _ _ _ _ hls (by decide)).mono ?_; rintro e w' ⟨rfl, rfl⟩
  clear hls
  go_wp2_with fail
  have hF1 := hF.alloc (.cells #[.int .u8 0, .int .u8 0, .int .u8 0, .int .u8 1] 5)
  have hls : LS (w0.alloc (.cells #[.int .u8 0, .int .u8 0, .int .u8 0, .int .u8 1] 5)) (.slice (some ⟨w0.heap.size, 0, none⟩) 4 4) (u8s [0, 0, 0, 1]) :=
    LS.of_blk (Blk.new w0 #[.int .u8 0, .int .u8 0, .int .u8 0, .int .u8 1] 5) (cap := 4) (by decide) (by decide)
  generalize w0.alloc (.cells #[.int .u8 0, .int .u8 0, .int .u8 0, .int .u8 1] 5) = w1 at *
  refine (open_yes _ _ _ _ 0 hls H1.out rfl H2.out).mono ?_; rintro e w2 ⟨v2, rfl, hown2, hF2⟩
  have hF3 := hF1.trans hF2 (by simp)
  obtain ⟨a2, cap2, rfl⟩ := len_own hown2
  clear hls hF hF1 hF2 hown2
  go_wp2_with fail
  refine (known5_any _).mono ?_; rintro e w3 ⟨rfl, hF4⟩
  have hF5 := hF3.trans hF4 (by simp)
  clear hF3 hF4
  go_wp2_with fail
  have hF6 := hF5.alloc (.cells #[.int .u8 0] 5)
  have hls : LS (w3.alloc (.cells #[.int .u8 0] 5)) (.slice (some ⟨w3.heap.size, 0, none⟩) 1 1) (u8s [0]) :=
    LS.of_blk (Blk.new w3 #[.int .u8 0] 5) (cap := 1) (by decide) (by decide)
  generalize w3.alloc (.cells #[.int .u8 0] 5) = w4 at *
  refine (sum_any _ _ _ _ hls H8.out).mono ?_; rintro e w' ⟨rfl, rfl⟩
  rw [H3.out]
  clear hls hF5
  go_wp2_with fail
  refine (sum_any _ _ _ [] (LS.nil _) H7.out).mono ?_; rintro e w' ⟨rfl, rfl⟩
  rw [H4.out]
  go_wp2_with fail
  refine (sum_any _ _ _ [] (LS.nil _) H7.out).mono ?_; rintro e w' ⟨rfl, rfl⟩
  rw [H5.out]
  go_wp2_with fail
  refine (close_any _ _ _ [] (LS.nil _) H7.out).mono ?_; rintro e w5 ⟨v5, rfl, hown5, hF7⟩
  rw [H9.out] at hown5
  obtain ⟨a5, cap5, rfl⟩ := len_own hown5
  have hF8 := hF6.trans hF7 (by simp)
  clear hown5 hF6 hF7
  go_wp2_with fail
  refine (mark_any _ _ [] (LS.nil _) H7.out).mono ?_; rintro e w' ⟨rfl, rfl⟩
  rw [H6.out]
  go_wp2_with fail
  go_ret
  exact ⟨rfl, hF8.below (Nat.le_refl _) (by simp)⟩
end Go.Proofs.Ytidlpihffolelaa.Tg
