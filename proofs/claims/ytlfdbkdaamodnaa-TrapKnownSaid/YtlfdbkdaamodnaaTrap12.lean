import Derived.Test.YtlfdbkdaamodnaaTrap11
import Derived.Deep.Cut
namespace Go.Proofs.Ytlfdbkdaamodnaa.Tr
open Go.RowKit Dt Go.Proofs.Ytlfdbkdaamodnaa.Hd
set_option linter.unusedVariables false
set_option linter.unusedSimpArgs false

set_option maxRecDepth 100000 in
set_option maxHeartbeats 1600000 in
theorem walk_known (W : World) : Calls Try.prog 4 #[] W fun e w' => e = .returned (.bool true) ∧ Below W.heap.size W w' := by
  have hmf : ∀ (fn : Fn) (first cap : Array Value) (w : World), (Instr.makeFunc fn first cap).run Try.prog w = .ok (.func fn first cap) w := fun _ _ _ _ => rfl
  go_enter Try.func4, Try.ntmps4
  go_wp2_with fail
  refine (known_any _).mono ?_
  rintro e w1 ⟨rfl, hF1⟩
  go_upto_region 5 with (fail)
  have b0 := (Blk.new w1 #[.int .i64 0] 3).alloc (.cells #[.int .i64 0] 3)
  have b1 := Blk.new (w1.alloc (.cells #[.int .i64 0] 3)) #[.int .i64 0] 3
  rw [World.size_alloc] at b1
  have hF2 := (hF1.alloc (.cells #[.int .i64 0] 3)).alloc (.cells #[.int .i64 0] 3)
  have hM := hF1.size
  clear hF1
  generalize w1.heap.size = M at *
  generalize (w1.alloc (.cells #[.int .i64 0] 3)).alloc (.cells #[.int .i64 0] 3) = w2 at *
  have hl := b1.lt
  have HM := Lib.hid hM; clear hM
  go_wp2_with fail
  refine (catch_any (S := [M + 1]) (by simpa using hl) (fun _ => by kernel_rfl) (fun w0 hF => outer19_any (hF.blk b1 (by simp)))).mono ?_
  rintro e w4 ⟨o, w3, hok, rfl, hF3, ⟨rfl, hB⟩, hF4⟩
  simp only [Out.asCatch]
  have d0 := hF3.blk b0 (by simp)
  have d1 := hF4.blk hB (by simp; omega)
  have hF5 := hF2.trans hF3 (by have := HM.out; simp; omega)
  clear hF2 hF3 hF4 b0 b1 hB hl hok
  go_upto_region 6 with (fail)
  have e0 := d0.alloc (.cells #[.int .i64 4, .int .i64 7] 26)
  have e1 := d1.alloc (.cells #[.int .i64 4, .int .i64 7] 26)
  have e2 := Blk.new w4 #[.int .i64 4, .int .i64 7] 26
  have hF6 := hF5.alloc (.cells #[.int .i64 4, .int .i64 7] 26)
  clear d0 d1 hF5
  generalize w4.heap.size = F at *
  generalize w4.alloc (.cells #[.int .i64 4, .int .i64 7] 26) = w5 at *
  go_wp2_with fail
  refine (catch_nil _).mono ?_
  rintro e w6 ⟨rfl, hF⟩
  have d0 := hF.blk e0 (by simp)
  have d1 := hF.blk e1 (by simp)
  have d2 := hF.blk e2 (by simp)
  have hF7 := hF6.trans hF (by simp)
  clear e0 e1 e2 hF6 hF
  go_upto_region 7 with (fail)
  have e0 := d0.alloc (.cells #[.int .i64 0, .int .i64 0] 26)
  have e1 := d1.alloc (.cells #[.int .i64 0, .int .i64 0] 26)
  have e2 := d2.alloc (.cells #[.int .i64 0, .int .i64 0] 26)
  have e3 := Blk.new w6 #[.int .i64 0, .int .i64 0] 26
  have hF6 := hF7.alloc (.cells #[.int .i64 0, .int .i64 0] 26)
  clear d0 d1 d2 hF7
  generalize w6.heap.size = H at *
  generalize w6.alloc (.cells #[.int .i64 0, .int .i64 0] 26) = w7 at *
  go_wp2_with fail
  refine (other_any (S := []) (by simp) (fun _ => by kernel_rfl) (fun w0 hF => cry25 w0)).mono ?_
  rintro e w8 ⟨wx, rfl, hF, -, -⟩
  have d0 := hF.blk e0 (by simp)
  have d1 := hF.blk e1 (by simp)
  have d2 := hF.blk e2 (by simp)
  have d3 := hF.blk e3 (by simp)
  have hF7 := hF6.trans hF (by simp)
  clear e0 e1 e2 e3 hF6 hF
  go_wp2_with fail
  refine (other_any (S := []) (by simp) (fun _ => by kernel_rfl) (fun w0 hF => cry27 w0)).mono ?_
  rintro e w9 ⟨wx, rfl, hF, -, -⟩
  have e0 := hF.blk d0 (by simp)
  have e1 := hF.blk d1 (by simp)
  have e2 := hF.blk d2 (by simp)
  have e3 := hF.blk d3 (by simp)
  have hF6 := hF7.trans hF (by simp)
  clear d0 d1 d2 d3 hF7 hF
  have c0 := e0.cell (i := 0) rfl
  have c1 := e1.cell (i := 0) rfl
  have c2 := e2.cell (i := 0) rfl
  have c3 := e2.cell (i := 1) rfl
  have c4 := e3.cell (i := 0) rfl
  have c5 := e3.cell (i := 1) rfl
  simp at c0 c1 c2 c3 c4 c5
  go_wp2_with fail
  refine (thrown_yes _).mono ?_
  rintro e wa ⟨rfl, hF⟩
  go_wp2_with fail
  go_ret
  exact ⟨by first | rfl | exact ret_b (by simp), (hF6.trans hF (by simp)).below (Nat.le_refl _) (by simp)⟩
end Go.Proofs.Ytlfdbkdaamodnaa.Tr
