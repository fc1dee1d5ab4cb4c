import Derived.Test.YtlfdbkdaamodnaaTrap4
import Derived.Laws.EntriesVeiled
namespace Go.Proofs.Ytlfdbkdaamodnaa.Tr
open Go.RowKit Dt Go.Proofs.Ytlfdbkdaamodnaa.Hd
set_option linter.unusedVariables false

theorem go_any {bn ba bc bt be bg : Nat} {n a c : Int} (hn : n ≤ 20) (ha : a < n) : ∀ (d k : Nat), n = k + 1 + d → ∀ (w : World) (e : Int), DS w bn ba bc bt be bg n a c 0 e → 0 ≤ e → e + (n - k) ≤ 100 →
    Calls Try.prog 15 #[.int .i64 k, .pointer (some ⟨bn, 0, none⟩), .pointer (some ⟨bg, 0, none⟩), .pointer (some ⟨ba, 0, none⟩), .pointer (some ⟨bc, 0, none⟩), .pointer (some ⟨be, 0, none⟩), .pointer (some ⟨bt, 0, none⟩)] w
      fun x w'' => x = .returned (.tuple #[]) ∧ Fr [bt, be] w w'' ∧ DS w'' bn ba bc bt be bg n a c (0 + tl k a) (e + (n - k) - tl k a) := by
  intro d
  induction d with
  | zero => exact fun k hk w e h he he2 => go_step_any hn ha (by omega) h he he2 (fun h' => by omega)
  | succ d ih =>
    exact fun k hk w e h he he2 => go_step_any hn ha (by omega) h he he2 (fun _ w' e' h' he' he2' => by
      have := ih (k + 1) (by push_cast; omega) w' e' h' he' (by push_cast; omega)
      push_cast at this
      exact this)

set_option maxRecDepth 100000 in
set_option maxHeartbeats 1600000 in
theorem walk_deep (a0 a1 a2 : Int) (W : World) (w0 : (Lit.int .i64 a0).wf = true) (w1 : (Lit.int .i64 a1).wf = true) (w2 : (Lit.int .i64 a2).wf = true) :
    Calls Try.prog 3 #[.int .i64 a0, .int .i64 a1, .int .i64 a2] W fun e w' => e = .returned (.bool true) ∧ Below W.heap.size W w' := by
  have hmf : ∀ (fn : Fn) (first cap : Array Value) (w : World), (Instr.makeFunc fn first cap).run Try.prog w = .ok (.func fn first cap) w := fun _ _ _ _ => rfl
  obtain ⟨n, hn⟩ : ∃ n : Nat, a0 % 15 = n := ⟨(a0 % 15).toNat, by omega⟩
  have hn15 : n < 15 := by omega
  have hk1 : 0 ≤ a1 % (1 + (n : Int)) := Int.emod_nonneg _ (by omega)
  have hk2 : a1 % (1 + (n : Int)) < 1 + (n : Int) := Int.emod_lt_of_pos _ (by omega)
  obtain ⟨k, hk⟩ : ∃ k : Nat, a1 % (1 + (n : Int)) = k := ⟨(a1 % (1 + (n : Int))).toNat, by omega⟩
  have hkn : k ≤ n := by omega
  have HN := Lib.hid hn; have HK := Lib.hid hk
  clear hn hk hk1 hk2 w0 w1 w2
  go_enter Try.func3, Try.ntmps3
  go_wp2_with fail
  refine (known_any _).mono ?_
  rintro e w1 ⟨rfl, hF1⟩
  have b0 := hF1.blk (((Blk.new W #[.int .i64 a0] 3).alloc (.cells #[.int .i64 a1] 3)).alloc (.cells #[.int .i64 a2] 3)) (by simp)
  have b1 := hF1.blk ((Blk.new (W.alloc (.cells #[.int .i64 a0] 3)) #[.int .i64 a1] 3).alloc (.cells #[.int .i64 a2] 3)) (by simp)
  have b2 := hF1.blk (Blk.new ((W.alloc (.cells #[.int .i64 a0] 3)).alloc (.cells #[.int .i64 a1] 3)) #[.int .i64 a2] 3) (by simp)
  have hF2 := ((((Fr.refl [] W).alloc (.cells #[.int .i64 a0] 3)).alloc (.cells #[.int .i64 a1] 3)).alloc (.cells #[.int .i64 a2] 3)).trans hF1 (by simp)
  simp only [World.size_alloc] at b1 b2
  obtain ⟨K, hK⟩ : ∃ K, K = W.heap.size := ⟨_, rfl⟩
  rw [← hK] at b0 b1 b2 
  rw [← hK]
  have c0 := b0.cell (i := 0) rfl
  have f0 := b0.free 0
  simp at c0
  clear hF1
  have HKK := Lib.hid hK; clear hK
  go_wp2_with fail
  refine (pick_any _ _ _ (by decide) (by decide)).mono ?_; rintro e w' ⟨rfl, rfl⟩
  rw [HN.out]
  have e0 : Blk (w1.setCell ⟨K, 0, none⟩ (.int .i64 (1 + (n : Int)))) K #[.int .i64 (1 + (n : Int))] 3 := b0.set 0 (.int .i64 (1 + (n : Int)))
  have e1 := b1.other (a := ⟨K, 0, none⟩) (by simp) (.int .i64 (1 + (n : Int)))
  have e2 := b2.other (a := ⟨K, 0, none⟩) (by simp; omega) (.int .i64 (1 + (n : Int)))
  have hF3 := hF2.setCell (p := ⟨K, 0, none⟩) (.inr (by rw [HKK.out]; simp)) (.int .i64 (1 + (n : Int)))
  go_upto_region 4 with (fail)
  clear b0 b1 b2 c0 f0 hF2
  generalize w1.setCell ⟨K, 0, none⟩ (.int .i64 (1 + (n : Int))) = w2 at *
  have c0 := e0.cell (i := 0) rfl
  have c1 := e1.cell (i := 0) rfl
  have f1 := e1.free 0
  simp at c0 c1
  go_wp2_with fail
  refine (pick_any a1 (1 + (n : Int)) _ (by omega) (by omega)).mono ?_; rintro e w' ⟨rfl, rfl⟩
  rw [HK.out]
  have b0 := e0.other (a := ⟨K + 1, 0, none⟩) (by simp) (.int .i64 (k : Int))
  have b1 : Blk (w2.setCell ⟨K + 1, 0, none⟩ (.int .i64 (k : Int))) (K + 1) #[.int .i64 (k : Int)] 3 := e1.set 0 (.int .i64 (k : Int))
  have b2 := e2.other (a := ⟨K + 1, 0, none⟩) (by simp) (.int .i64 (k : Int))
  have hF4 := hF3.setCell (p := ⟨K + 1, 0, none⟩) (.inr (by rw [HKK.out]; simp)) (.int .i64 (k : Int))
  go_upto_region 5 with (fail)
  clear e0 e1 e2 c0 c1 f1 hF3
  generalize w2.setCell ⟨K + 1, 0, none⟩ (.int .i64 (k : Int)) = w3 at *
  have hKM := b2.lt
  go_upto_region 9 with (fail)
  obtain ⟨M, hM⟩ : ∃ M, M = w3.heap.size := ⟨_, rfl⟩
  rw [← hM] at hKM ⊢
  have hD : DS (((w3.alloc (.cells #[.int .i64 0] 3)).alloc (.cells #[.int .i64 0] 3)).alloc (.cells #[.func (.func 15) #[] #[.pointer (some ⟨K, 0, none⟩), .pointer (some ⟨M + 1 + 1, 0, none⟩), .pointer (some ⟨K + 1, 0, none⟩), .pointer (some ⟨K + 1 + 1, 0, none⟩), .pointer (some ⟨M + 1, 0, none⟩), .pointer (some ⟨M, 0, none⟩)]] 24)) K (K + 1) (K + 1 + 1) M (M + 1) (M + 1 + 1) (1 + (n : Int)) k a2 0 0 := by
    refine ⟨((b0.alloc _).alloc _).alloc _, ((b1.alloc _).alloc _).alloc _, ((b2.alloc _).alloc _).alloc _, ?_, ?_, ?_, by omega⟩
    · rw [hM]; exact ((Blk.new w3 _ _).alloc _).alloc _
    · have := (Blk.new (w3.alloc (.cells #[.int .i64 0] 3)) #[.int .i64 0] 3).alloc (.cells #[.func (.func 15) #[] #[.pointer (some ⟨K, 0, none⟩), .pointer (some ⟨M + 1 + 1, 0, none⟩), .pointer (some ⟨K + 1, 0, none⟩), .pointer (some ⟨K + 1 + 1, 0, none⟩), .pointer (some ⟨M + 1, 0, none⟩), .pointer (some ⟨M, 0, none⟩)]] 24)
      rwa [World.size_alloc, ← hM] at this
    · have := Blk.new ((w3.alloc (.cells #[.int .i64 0] 3)).alloc (.cells #[.int .i64 0] 3)) #[.func (.func 15) #[] #[.pointer (some ⟨K, 0, none⟩), .pointer (some ⟨M + 1 + 1, 0, none⟩), .pointer (some ⟨K + 1, 0, none⟩), .pointer (some ⟨K + 1 + 1, 0, none⟩), .pointer (some ⟨M + 1, 0, none⟩), .pointer (some ⟨M, 0, none⟩)]] 24
      rwa [World.size_alloc, World.size_alloc, ← hM] at this
  have hF5 := ((hF4.alloc (.cells #[.int .i64 0] 3)).alloc (.cells #[.int .i64 0] 3)).alloc (.cells #[.func (.func 15) #[] #[.pointer (some ⟨K, 0, none⟩), .pointer (some ⟨M + 1 + 1, 0, none⟩), .pointer (some ⟨K + 1, 0, none⟩), .pointer (some ⟨K + 1 + 1, 0, none⟩), .pointer (some ⟨M + 1, 0, none⟩), .pointer (some ⟨M, 0, none⟩)]] 24)
  generalize ((w3.alloc (.cells #[.int .i64 0] 3)).alloc (.cells #[.int .i64 0] 3)).alloc (.cells #[.func (.func 15) #[] #[.pointer (some ⟨K, 0, none⟩), .pointer (some ⟨M + 1 + 1, 0, none⟩), .pointer (some ⟨K + 1, 0, none⟩), .pointer (some ⟨K + 1 + 1, 0, none⟩), .pointer (some ⟨M + 1, 0, none⟩), .pointer (some ⟨M, 0, none⟩)]] 24) = w4 at *
  have hMW : W.heap.size ≤ M := by rw [hM]; exact hF4.size
  clear b0 b1 b2 hF4 hM
  have hMW' := Lib.hid hMW; clear hMW
  have c0 := hD.g.cell (i := 0) rfl
  simp at c0
  go_wp2_with fail
  refine (go_any (by omega) (by omega) n 0 (by omega) w4 0 hD (by omega) (by omega)).mono ?_
  rintro e w5 ⟨rfl, hF6, hD5⟩
  have et : (0 : Int) + tl ((0 : Nat) : Int) k = 1 := by unfold tl; rw [if_pos (by omega)]; rfl
  have ee : (0 : Int) + (1 + (n : Int) - ((0 : Nat) : Int)) - tl ((0 : Nat) : Int) k = (n : Int) := by unfold tl; rw [if_pos (by omega)]; omega
  rw [et, ee] at hD5
  have hF7 : Fr [] W w5 := hF5.trans hF6 (fun x hx => by have := hMW'.out; simp at hx; omega)
  clear hF5 hF6 hD et ee c0
  have c1 := hD5.t.cell (i := 0) rfl
  have c2 := hD5.e.cell (i := 0) rfl
  have c3 := hD5.n.cell (i := 0) rfl
  simp at c1 c2 c3
  go_wp2_with fail
  go_ret
  exact ⟨ret_b (by simp; omega), hF7.below (Nat.le_refl _) (by simp)⟩
end Go.Proofs.Ytlfdbkdaamodnaa.Tr
