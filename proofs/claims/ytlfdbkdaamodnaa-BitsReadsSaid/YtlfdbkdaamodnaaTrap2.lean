import Derived.Test.YtlfdbkdaamodnaaTrap
namespace Go.Proofs.Ytlfdbkdaamodnaa.Tr
open Go.RowKit Dt Go.Proofs.Ytlfdbkdaamodnaa.Hd
set_option linter.unusedVariables false

theorem k1_any (w : World) : Calls Try.prog 57 #[] w fun e w1 => ∃ o : Out, o.ok ∧ e = o.asBody ∧ Fr [] w w1 ∧ o = .thrown 5 2 [] := by
  go_enter Try.func57, Try.ntmps57
  go_wp2_with fail
  refine (throw_any _ _ _).mono ?_; rintro e w1 ⟨rfl, rfl⟩
  exact ⟨rfl, .thrown 5 2 [], rfl, rfl, Fr.refl _ _, rfl⟩
theorem k2_any (w : World) : Calls Try.prog 58 #[] w fun e w1 => ∃ o : Out, o.ok ∧ e = o.asBody ∧ Fr [] w w1 ∧ o = .done := by
  go_enter Try.func58, Try.ntmps58
  go_wp2_with fail
  refine bodyPost_end (results_none rfl _ _ _) rfl ?_
  exact ⟨.done, trivial, rfl, Fr.refl _ _, rfl⟩
set_option maxHeartbeats 800000 in
theorem known_any (w : World) : Calls Try.prog 13 #[] w fun e w1 => e = .returned (.bool true) ∧ Fr [] w w1 := by
  go_enter Try.func13, Try.ntmps13
  go_wp2_with fail
  refine (catch_any (S := []) (by simp) (fun _ => by kernel_rfl) (fun w0 _ => k1_any w0)).mono ?_
  rintro e w1 ⟨o, w1', hok, rfl, hF, rfl, -⟩
  simp only [Out.asCatch]
  go_wp2_with fail
  refine (catch_any (S := []) (by simp) (fun _ => by kernel_rfl) (fun w0 _ => k2_any w0)).mono ?_
  rintro e w2 ⟨o, w2', hok2, rfl, hF2, rfl, -⟩
  simp only [Out.asCatch]
  have hF3 := (hF.alloc (.cells #[.int .i64 5, .int .i64 2] 26)).trans hF2 (by simp)
  have b1 := hF2.blk (Blk.new w1 #[.int .i64 5, .int .i64 2] 26) (by simp)
  have c1 := b1.cell (i := 0) rfl
  have c2 := b1.cell (i := 1) rfl
  have l1 := b1.lt
  clear hF hF2 b1 hok hok2
  generalize w1.heap.size = B at *
  go_wp2_with fail
  go_ret
  exact ⟨rfl, hF3.alloc _⟩
end Go.Proofs.Ytlfdbkdaamodnaa.Tr
