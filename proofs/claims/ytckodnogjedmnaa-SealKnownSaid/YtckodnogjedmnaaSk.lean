/- chapter 18: New of no config; SealKnown. -/
import Derived.Test.YtckodnogjedmnaaRt
import Derived.Laws.EntriesVeiled
namespace Go.Proofs.Ytckodnogjedmnaa.Lo
open Go.RowKit Dt Go.Proofs.Ytckodnogjedmnaa.Hd Go.Proofs.Ytckodnogjedmnaa.Cfg Go.Proofs.Ytckodnogjedmnaa.Jt Go.Proofs.Ytckodnogjedmnaa.FlW Ieee
set_option linter.unusedVariables false
set_option linter.unusedSimpArgs false
attribute [local go_sem] run_store_float

theorem within_no {n lo hi : Int} (h1 : n < lo) (w : World) : Calls Try.prog 47 #[.int .i64 n, .int .i64 lo, .int .i64 hi] w fun e w' => e = .returned (.bool false) ∧ w = w' := by
  go_enter Try.func47, Try.ntmps47
  go_wp2_with fail
  go_ret
  exact ⟨rfl, rfl⟩
theorem odd_0 : ((FloatKind.f64.format.order 0 0 != some .eq) || infB 0) = false := by decide +kernel
theorem ord_00 : (FloatKind.f64.format.order 0 0 == some .lt) = false := by decide +kernel
theorem ord_01 : (FloatKind.f64.format.order 0 4607182418800017408 == some .lt) = true := by decide +kernel
theorem bnew_zero (w : World) : Calls Try.prog 48 #[.float .f64 0, .float .f64 0] w fun e w' => e = .returned (.tuple #[.pointer none, .int .i64 1]) ∧ w = w' := by
  have h1 := odd_any 0 (by decide)
  rw [odd_0] at h1
  have H1 := Lib.hid h1
  have r4 := ord_00
  have r5 := ord_01
  clear h1
  go_enter Try.func48, Try.ntmps48
  go_wp2_with fail
  refine (H1.out _).mono ?_; rintro e w' ⟨rfl, rfl⟩
  go_wp2_with fail
  refine (H1.out _).mono ?_; rintro e w' ⟨rfl, rfl⟩
  go_wp2_with fail
  go_ret2
  exact ⟨rfl, rfl⟩
/-- the config of nothing -/
def zcells : Array Value := #[.int .i64 0, .int .i64 0, .int .i64 0, .int .i64 0, .int .i64 0, .int .i64 0, .float .f64 0, .float .f64 0, .slice none 0 0, .slice none 0 0]
set_option maxRecDepth 100000 in
set_option maxHeartbeats 1600000 in
theorem legal_zero (w : World) : Calls Try.prog 41 #[.agg #[.int .i64 0, .int .i64 0, .int .i64 0, .int .i64 0, .int .i64 0, .int .i64 0, .float .f64 0, .float .f64 0, .slice none 0 0, .slice none 0 0]] w fun e w' => e = .returned (.bool false) ∧ Fr [] w w' := by
  go_enter Try.func41, Try.ntmps41
  go_wp2_with fail
  have hX := Blk.new w zcells 46
  have hF := (Fr.refl [] w).alloc (.cells zcells 46)
  change Calls _ _ _ (w.alloc (.cells zcells 46)) _
  generalize w.alloc (.cells zcells 46) = w1 at *
  generalize w.heap.size = g at *
  have x0 := Blk.cell (i := 0) hX rfl
  have x2 := Blk.cell (i := 2) hX rfl
  have x3 := Blk.cell (i := 3) hX rfl
  have x4 := Blk.cell (i := 4) hX rfl
  have x6 := Blk.cell (i := 6) hX rfl
  have x7 := Blk.cell (i := 7) hX rfl
  simp only [zcells, List.getElem_toArray, List.getElem_cons_zero, List.getElem_cons_succ] at x0 x2 x3 x4 x6 x7
  refine (within_no (by omega) _).mono ?_; rintro e w' ⟨rfl, rfl⟩
  go_wp2_with fail
  refine (bnew_zero _).mono ?_; rintro e w2 ⟨rfl, rfl⟩
  go_wp2_with fail
  refine (within_no (by omega) _).mono ?_; rintro e w' ⟨rfl, rfl⟩
  go_wp2_with fail
  go_ret
  exact ⟨rfl, hF⟩
set_option maxRecDepth 100000 in
set_option maxHeartbeats 1600000 in
theorem lnew_zero (w : World) : Calls Try.prog 21 #[.agg #[.int .i64 0, .int .i64 0, .int .i64 0, .int .i64 0, .int .i64 0, .int .i64 0, .float .f64 0, .float .f64 0, .slice none 0 0, .slice none 0 0]] w fun e w' => e = .returned (.tuple #[.pointer none, .int .i64 1]) ∧ Fr [] w w' := by
  go_enter Try.func21, Try.ntmps21
  go_wp2_with fail
  have hF := (Fr.refl [] w).alloc (.cells zcells 46)
  change Calls _ _ _ (w.alloc (.cells zcells 46)) _
  generalize w.alloc (.cells zcells 46) = w1 at *
  refine (legal_zero _).mono ?_; rintro e w2 ⟨rfl, hF2⟩
  go_wp2_with fail
  go_ret2
  exact ⟨rfl, hF.trans hF2 (by simp)⟩
end Go.Proofs.Ytckodnogjedmnaa.Lo
