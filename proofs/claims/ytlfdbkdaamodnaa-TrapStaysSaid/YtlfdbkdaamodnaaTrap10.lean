import Derived.Test.YtlfdbkdaamodnaaTrap9
namespace Go.Proofs.Ytlfdbkdaamodnaa.Tr
open Go.RowKit Dt Go.Proofs.Ytlfdbkdaamodnaa.Hd
set_option linter.unusedVariables false
set_option linter.unusedSimpArgs false

theorem outer_any {w : World} {bm bc bt m : Nat} {s : ByteArray} (hm : m ≤ 100) (km : Blk w bm #[.int .i64 m] 3) (kc : Blk w bc #[.int .i64 0] 3) (kt : Blk w bt #[.string s] 9) :
    Calls Try.prog 33 #[.pointer (some ⟨bm, 0, none⟩), .pointer (some ⟨bc, 0, none⟩), .pointer (some ⟨bt, 0, none⟩)] w
      fun e w1 => ∃ o : Out, o.ok ∧ e = o.asBody ∧ Fr [bc] w w1 ∧ ((∃ older, o = .other 9 (.string s) older) ∧ Blk w1 bc #[.int .i64 1] 3) := by
  have hmf : ∀ (fn : Fn) (first cap : Array Value) (w : World), (Instr.makeFunc fn first cap).run Try.prog w = .ok (.func fn first cap) w := fun _ _ _ _ => rfl
  have c1 := km.cell (i := 0) rfl
  simp only [List.getElem_toArray, List.getElem_cons_zero] at c1
  go_enter Try.func33, Try.ntmps33
  go_wp2_with fail
  refine (deeper_any m w hm kc kt).mono ?_
  rintro e w1 ⟨o, hok, rfl, hF, ⟨older, rfl⟩, hB⟩
  exact ⟨rfl, .other 9 (.string s) older, hok, rfl, hF, ⟨_, rfl⟩, hB⟩

set_option maxRecDepth 100000 in
set_option maxHeartbeats 3200000 in
theorem walk_stays (a0 a1 : Int) (s : ByteArray) (W : World) (w0 : (Lit.int .i64 a0).wf = true) (w1 : (Lit.int .i64 a1).wf = true) (w2 : s.size ≤ 140737488351232) :
    Calls Try.prog 6 #[.int .i64 a0, .int .i64 a1, .string s] W fun e w' => e = .returned (.bool true) ∧ Below W.heap.size W w' := by
  have hmf : ∀ (fn : Fn) (first cap : Array Value) (w : World), (Instr.makeFunc fn first cap).run Try.prog w = .ok (.func fn first cap) w := fun _ _ _ _ => rfl
  obtain ⟨n, hn⟩ : ∃ n : Nat, a0 % 12 = n := ⟨(a0 % 12).toNat, by omega⟩
  obtain ⟨m, hm⟩ : ∃ m : Nat, a1 % 12 = m := ⟨(a1 % 12).toNat, by omega⟩
  have hn12 : n < 12 := by omega
  have hm12 : m < 12 := by omega
  have HN := Lib.hid hn; have HM := Lib.hid hm
  clear hn hm w0 w1 w2
  go_enter Try.func6, Try.ntmps6
  go_wp2_with fail
  refine (known_any _).mono ?_
  rintro e w1 ⟨rfl, hF1⟩
  have b0 := hF1.blk (((Blk.new W #[.int .i64 a0] 3).alloc (.cells #[.int .i64 a1] 3)).alloc (.cells #[.string s] 9)) (by simp)
  have b1 := hF1.blk ((Blk.new (W.alloc (.cells #[.int .i64 a0] 3)) #[.int .i64 a1] 3).alloc (.cells #[.string s] 9)) (by simp)
  have b2 := hF1.blk (Blk.new ((W.alloc (.cells #[.int .i64 a0] 3)).alloc (.cells #[.int .i64 a1] 3)) #[.string s] 9) (by simp)
  have hF2 := ((((Fr.refl [] W).alloc (.cells #[.int .i64 a0] 3)).alloc (.cells #[.int .i64 a1] 3)).alloc (.cells #[.string s] 9)).trans hF1 (by simp)
  simp only [World.size_alloc] at b1 b2
  obtain ⟨K, hK⟩ : ∃ K, K = W.heap.size := ⟨_, rfl⟩
  rw [← hK] at b0 b1 b2 ⊢
  have c0 := b0.cell (i := 0) rfl
  have f0 := b0.free 0
  simp at c0
  clear hF1
  have HKK := Lib.hid hK; clear hK
  go_wp2_with fail
  refine (pick_any _ _ _ (by decide) (by decide)).mono ?_; rintro e w' ⟨rfl, rfl⟩
  rw [HN.out]
  have e0 : Blk (w1.setCell ⟨K, 0, none⟩ (.int .i64 (n : Int))) K #[.int .i64 n] 3 := b0.set 0 (.int .i64 n)
  have e1 := b1.other (a := ⟨K, 0, none⟩) (by simp) (.int .i64 (n : Int))
  have e2 := b2.other (a := ⟨K, 0, none⟩) (by simp; omega) (.int .i64 (n : Int))
  have hF3 := hF2.setCell (p := ⟨K, 0, none⟩) (.inr (by rw [HKK.out]; simp)) (.int .i64 (n : Int))
  go_upto_region 4 with (fail)
  clear b0 b1 b2 c0 f0 hF2
  generalize w1.setCell ⟨K, 0, none⟩ (.int .i64 (n : Int)) = w2 at *
  have c1 := e1.cell (i := 0) rfl
  have f1 := e1.free 0
  simp at c1
  go_wp2_with fail
  refine (pick_any _ _ _ (by decide) (by decide)).mono ?_; rintro e w' ⟨rfl, rfl⟩
  rw [HM.out]
  have b0 := e0.other (a := ⟨K + 1, 0, none⟩) (by simp) (.int .i64 (m : Int))
  have b1 : Blk (w2.setCell ⟨K + 1, 0, none⟩ (.int .i64 (m : Int))) (K + 1) #[.int .i64 (m : Int)] 3 := e1.set 0 (.int .i64 (m : Int))
  have b2 := e2.other (a := ⟨K + 1, 0, none⟩) (by simp) (.int .i64 (m : Int))
  have hF4 := hF3.setCell (p := ⟨K + 1, 0, none⟩) (.inr (by rw [HKK.out]; simp)) (.int .i64 (m : Int))
  go_upto_region 5 with (fail)
  clear e0 e1 e2 c1 f1 hF3
  generalize w2.setCell ⟨K + 1, 0, none⟩ (.int .i64 (m : Int)) = w3 at *
  have hKM := b2.lt
  go_upto_region 6 with (fail)
  have e0 := b0.alloc (.cells #[.int .i64 0] 3)
  have e1 := b1.alloc (.cells #[.int .i64 0] 3)
  have e2 := b2.alloc (.cells #[.int .i64 0] 3)
  have ed := Blk.new w3 #[.int .i64 0] 3
  have hF5 := hF4.alloc (.cells #[.int .i64 0] 3)
  have hMW := hF4.size
  clear b0 b1 b2 hF4
  generalize w3.heap.size = M at *
  generalize w3.alloc (.cells #[.int .i64 0] 3) = w4 at *
  have hMl := ed.lt
  go_wp2_with fail
  refine (catch_any (S := [M]) (by simpa using hMl) (fun _ => by kernel_rfl) (fun w0 hF => stays_body (hF.blk e0 (by simp)) (hF.blk e1 (by simp)) (hF.blk ed (by simp)) hn12 (by omega) (by omega))).mono ?_
  rintro e w6 ⟨o, w5, hok, rfl, hF6, ⟨rfl, hD⟩, hF7⟩
  have hD2 := hF7.blk hD (by simp; omega)
  have hMW' := Lib.hid hMW; clear hMW
  have hF8 := hF5.trans hF6 (by have := hMW'.out; simpa using this)
  have b0 := hF6.blk e0 (by simp; omega)
  have b1 := hF6.blk e1 (by simp; omega)
  have b2 := hF6.blk e2 (by simp; omega)
  clear e0 e1 e2 ed hF5 hF6 hF7 hD hMl
  simp only [Out.asCatch]
  go_upto_region 7 with (fail)
  have e0 := b0.alloc (.cells #[.int .i64 n, .int .i64 m] 26)
  have e1 := b1.alloc (.cells #[.int .i64 n, .int .i64 m] 26)
  have e2 := b2.alloc (.cells #[.int .i64 n, .int .i64 m] 26)
  have ed := hD2.alloc (.cells #[.int .i64 n, .int .i64 m] 26)
  have ef := Blk.new w6 #[.int .i64 n, .int .i64 m] 26
  have hF9 := hF8.alloc (.cells #[.int .i64 n, .int .i64 m] 26)
  clear b0 b1 b2 hD2 hF8
  generalize w6.heap.size = F at *
  generalize w6.alloc (.cells #[.int .i64 n, .int .i64 m] 26) = w7 at *
  have c0 := e0.cell (i := 0) rfl
  have c1 := e1.cell (i := 0) rfl
  have c2 := e2.cell (i := 0) rfl
  have c3 := ed.cell (i := 0) rfl
  have c4 := ef.cell (i := 0) rfl
  have c5 := ef.cell (i := 1) rfl
  simp at c0 c1 c2 c3 c4 c5
  by_cases hs : s.toList = []
  · have hs2 : (!s.toList.isEmpty) = false := by rw [hs]; rfl
    go_wp2_with fail
    go_ret
    exact ⟨rfl, hF9.below (Nat.le_refl _) (by simp)⟩
  · have hs2 : (!s.toList.isEmpty) = true := by simpa using hs
    have hs3 : s.toList.isEmpty = false := by simpa using hs
    have hs' := Lib.hid hs; clear hs
    go_upto_region 12 with (fail)
    have b1 := e1.alloc (.cells #[.int .i64 0] 3)
    have b2 := e2.alloc (.cells #[.int .i64 0] 3)
    have bc := Blk.new w7 #[.int .i64 0] 3
    have hFa := hF9.alloc (.cells #[.int .i64 0] 3)
    have hMC := hF9.size
    have hcl := bc.lt
    clear e0 e1 e2 ed ef hF9 c0 c1 c2 c3 c4 c5
    generalize w7.heap.size = C at *
    generalize w7.alloc (.cells #[.int .i64 0] 3) = w8 at *
    have hMC' := Lib.hid hMC; clear hMC
    go_wp2_with fail
    refine (other_any (S := [C]) (by simpa using hcl) (fun _ => by kernel_rfl) (fun w0 hF => outer_any (by omega) (hF.blk b1 (by simp)) (hF.blk bc (by simp)) (hF.blk b2 (by simp)))).mono ?_
    rintro e w9 ⟨wx, rfl, hFb, hR, hFc⟩
    have hFd := hFa.trans hFb (by have := hMC'.out; simpa using this)
    have d2 := hFb.blk b2 (by simp; intro h; subst h; unfold Blk at bc b2; rw [bc] at b2; simp at b2)
    have dc := hFc.blk hR (by simp; omega)
    have c2 := d2.cell (i := 0) rfl
    have c3 := dc.cell (i := 0) rfl
    simp at c2 c3
    clear hFa hFb hFc hR b1 b2 bc
    go_wp2_with fail
    go_ret
    exact ⟨by first | rfl | exact ret_b (by simp), hFd.below (Nat.le_refl _) (by simp)⟩
end Go.Proofs.Ytlfdbkdaamodnaa.Tr
