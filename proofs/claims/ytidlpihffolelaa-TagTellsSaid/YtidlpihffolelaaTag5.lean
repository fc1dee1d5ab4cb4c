import Derived.Test.YtidlpihffolelaaTag4
import Derived.Lib.SlBytesConst
namespace Go.Proofs.Ytidlpihffolelaa.Tg
open Go.RowKit Dt Go.Proofs.Ytidlpihffolelaa.Hd
set_option linter.unusedVariables false

theorem strOf_ab : strOf [97, 98] = ⟨#[97, 98]⟩ := by decide

theorem known5_any (w : World) : Calls Try.prog 34 #[] w fun e w' => e = .returned (.bool true) ∧ Fr [] w w' := by
  have hB2 : Bs [97, 98] := ⟨by decide, by decide⟩
  have hB6 : Bs (closeS 3 [97, 98]) := ⟨closeS_lt _ _ (by decide), by rw [closeS_len]; decide⟩
  have hS0 : sumS 0 [] = 1 := by decide
  have hcl : (closeS 3 [97, 98]).length = 2 + 4 := closeS_len _ _
  have htk : (closeS 3 [97, 98]).take 2 = [97, 98] := by rw [closeS]; rfl
  have H1 := Lib.hid hB2; have H2 := Lib.hid hB6; have H3 := Lib.hid hS0; have H4 := Lib.hid hcl; have H5 := Lib.hid htk
  clear hB2 hB6 hS0 hcl htk
  have kc := fun (w : World) (C : Array Value) (n c : Nat) => Lib.run_convert_bytes_const (P := Try.prog) w 43 5 C n c Try.underlying43 Try.underlying5
  go_enter Try.func34, Try.ntmps34
  go_wp2_with fail
  have hF := (Fr.refl [] w).alloc (.cells #[.int .u8 97, .int .u8 98] 5 (2, 3))
  have hls : LS (w.alloc (.cells #[.int .u8 97, .int .u8 98] 5 (2, 3))) (.slice (some ⟨w.heap.size, 0, none⟩) 2 2) (u8s [97, 98]) :=
    LS.of_heap (vs := #[.int .u8 97, .int .u8 98]) (T := 5) (fr := (2, 3)) (heap_alloc_new _ _) (cap := 2) (by decide) (by decide)
  generalize w.alloc (.cells #[.int .u8 97, .int .u8 98] 5 (2, 3)) = w0 at *
  refine (close_any _ _ _ _ hls H1.out).mono ?_; rintro e w1 ⟨v1, rfl, hown1, hF1⟩
  have hF1' := hF.trans hF1 (by simp)
  go_wp2_with fail
  refine (open_yes _ _ _ _ 2 (LS.of_own' hown1) H2.out H4.out (by rw [H5.out])).mono ?_; rintro e w2 ⟨v2, rfl, hown2, hF2⟩
  have hF2' := hF1'.trans hF2 (by simp)
  rw [H5.out] at hown2
  have hl2 := LS.of_own' hown2
  have hst := run_str (P := Try.prog) (src := 43) (dst := 9) hl2 Try.underlying43 Try.underlying5 Try.underlying9
  rw [strOf_ab] at hst
  clear hls hown1 hF1 hF1' hF2 hown2 hF kc
  go_wp2_with fail
  refine (sum_any _ _ _ [] (LS.nil _) ⟨(by intro x hx; cases hx), by decide⟩).mono ?_; rintro e w' ⟨rfl, rfl⟩
  rw [H3.out]
  go_wp2_with fail
  go_ret
  exact ⟨rfl, hF2'⟩
end Go.Proofs.Ytidlpihffolelaa.Tg
