import Derived.Test.YtlfdbkdaamodnaaTrap6
import Derived.Laws.EntriesVeiled
namespace Go.Proofs.Ytlfdbkdaamodnaa.Tr
open Go.RowKit Dt Go.Proofs.Ytlfdbkdaamodnaa.Hd
set_option linter.unusedVariables false

theorem SlI.old {k : IntKind} {w w' : World} {a : Option Addr} {len cap : Nat} {f : Nat → Int} (h : SlI k w a len cap f) (hF : Fr [] w w') : SlI k w' a len cap f := h.of_below (hF.below (Nat.le_refl _) (by simp))
theorem SlB.old {w w' : World} {a : Option Addr} {len cap : Nat} {f : Nat → Bool} (h : SlB w a len cap f) (hF : Fr [] w w') : SlB w' a len cap f :=
  ⟨h.le, h.nil, h.reach, fun hp => by
    obtain ⟨b, off, e, lt, hc⟩ := h.cells hp
    exact ⟨b, off, e, Nat.lt_of_lt_of_le lt hF.size, fun i hi => (hF.cell (p := ⟨b, off + i, none⟩) lt (by simp)).trans (hc i hi)⟩⟩

theorem eql26 (c a : Int) (w : World) : (binOp .eql 26 (.agg #[.int .i64 c, .int .i64 a]) (.agg #[.int .i64 c, .int .i64 a])).run Try.prog w = .ok (.bool true) w := by
  simp [go_sem]
set_option maxRecDepth 100000 in
set_option maxHeartbeats 3200000 in
theorem walk_musts (a0 : Option Addr) (len0 cap0 : Nat) (z0 : Nat → Int) (a1 : Option Addr) (len1 cap1 : Nat) (z1 : Nat → Bool) (W : World) (s0 : SlI .i64 W a0 len0 cap0 z0) (s1 : SlB W a1 len1 cap1 z1) :
    Calls Try.prog 7 #[.slice a0 len0 cap0, .slice a1 len1 cap1] W fun e w' => e = .returned (.bool true) ∧ Below W.heap.size W w' := by
  have hmf : ∀ (fn : Fn) (first cap : Array Value) (w : World), (Instr.makeFunc fn first cap).run Try.prog w = .ok (.func fn first cap) w := fun _ _ _ _ => rfl
  have HS0 := Lib.hid s0; have HS1 := Lib.hid s1
  clear s0 s1
  go_enter Try.func7, Try.ntmps7
  go_wp2_with fail
  refine (known_any _).mono ?_
  rintro e w1 ⟨rfl, hF1⟩
  have b0 := hF1.blk ((Blk.new W #[.slice a0 len0 cap0] 43).alloc (.cells #[.slice a1 len1 cap1] 44)) (by simp)
  have b1 := hF1.blk (Blk.new (W.alloc (.cells #[.slice a0 len0 cap0] 43)) #[.slice a1 len1 cap1] 44) (by simp)
  have hF2 := (((Fr.refl [] W).alloc (.cells #[.slice a0 len0 cap0] 43)).alloc (.cells #[.slice a1 len1 cap1] 44)).trans hF1 (by simp)
  rw [World.size_alloc] at b1
  obtain ⟨K, hK⟩ : ∃ K, K = W.heap.size := ⟨_, rfl⟩
  rw [← hK] at b0 b1 ⊢
  have HK := Lib.hid hK; clear hK hF1
  go_upto_region 4 with (fail)
  have hKM := b1.lt
  have e0 := b0.alloc (.cells #[.int .i64 0] 3)
  have e1 := b1.alloc (.cells #[.int .i64 0] 3)
  have ed := Blk.new w1 #[.int .i64 0] 3
  have hF3 := hF2.alloc (.cells #[.int .i64 0] 3)
  have hMW := hF2.size
  clear b0 b1 hF2
  obtain ⟨M, hM⟩ : ∃ M, M = w1.heap.size := ⟨_, rfl⟩
  rw [← hM] at hKM ed hMW ⊢
  have hMl := ed.lt
  generalize w1.alloc (.cells #[.int .i64 0] 3) = w2 at *
  have HM := Lib.hid hM; clear hM
  have HMW := Lib.hid hMW; clear hMW
  go_wp2_with fail
  obtain ⟨N, hN⟩ : ∃ N, N = min len0 30 := ⟨_, rfl⟩
  have hS0 := SlI.old HS0.out hF3
  have hS1 := SlB.old HS1.out hF3
  have hd0 : 0 < len0 → ∀ b, a0.map (·.block) = some b → b ≠ M := fun hp b h => by
    obtain ⟨b', off, e, lt, -⟩ := HS0.out.1.cells hp
    rw [e] at h; simp at h
    have := HMW.out; omega
  have hd1 : 0 < len1 → ∀ b, a1.map (·.block) = some b → b ≠ M := fun hp b h => by
    obtain ⟨b', off, e, lt, -⟩ := HS1.out.cells hp
    rw [e] at h; simp at h
    have := HMW.out; omega
  refine (catch_any (S := [M]) (by simpa using hMl) (fun _ => by kernel_rfl) (fun w0 hF => musts_body (hF.blk e0 (by simp)) (hF.blk e1 (by simp)) (hF.blk ed (by simp)) (SlI.old hS0 hF) (SlB.old hS1 hF) hN (by omega) (by omega) hd0 hd1)).mono ?_
  rintro e w4 ⟨o, w3, hok, rfl, hF4, hR, hF5⟩
  have hF6 := hF3.trans hF4 (by have := HMW.out; simpa using this)
  have g0 := hF4.blk e0 (by simp; omega)
  have g1 := hF4.blk e1 (by simp; omega)
  have hN1 : N ≤ len0 := by omega
  have hN2 : N ≤ 30 := by omega
  have hr0 := HS0.out.1.reach
  have hl0 := HS0.out.1.le
  have hr1 := HS1.out.reach
  have hl1 := HS1.out.le
  have HN := Lib.hid hN; clear hN
  have HC0 := Lib.hid (show 0 < len0 → ∃ b off, a0 = some ⟨b, off, none⟩ ∧ ∀ w', Fr [] W w' → ∀ i, i < len0 → w'.cell? ⟨b, off + i, none⟩ = some (.int .i64 (z0 i)) from fun hp => by
    obtain ⟨b, off, e, lt, hc⟩ := HS0.out.1.cells hp
    exact ⟨b, off, e, fun w' hF i hi => (hF.cell (p := ⟨b, off + i, none⟩) lt (by simp)).trans (hc i hi)⟩)
  have HC1 := Lib.hid (show 0 < len1 → ∃ b off, a1 = some ⟨b, off, none⟩ ∧ ∀ w', Fr [] W w' → ∀ i, i < len1 → w'.cell? ⟨b, off + i, none⟩ = some (.bool (z1 i)) from fun hp => by
    obtain ⟨b, off, e, lt, hc⟩ := HS1.out.cells hp
    exact ⟨b, off, e, fun w' hF i hi => (hF.cell (p := ⟨b, off + i, none⟩) lt (by simp)).trans (hc i hi)⟩)
  clear hS0 hS1 HS0 HS1 hd0 hd1 e0 e1 ed hF3 hF4 HM
  have hne : M ∉ [w2.heap.size, w2.heap.size + 1] := by simp; omega
  rcases hR with ⟨s, hs, hbad, hgood, rfl, hD⟩ | ⟨hgood, rfl, hD⟩
  · have hD4 := hF5.blk hD hne
    clear hD hF5 hne hMl
    simp only [Out.asCatch]
    have HG := Lib.hid hgood; have HB := Lib.hid hbad; clear hgood hbad
    go_upto_region 5 with (fail)
    have m0 := g0.alloc (.cells #[.int .i64 (z0 s), .int .i64 s] 26)
    have m1 := g1.alloc (.cells #[.int .i64 (z0 s), .int .i64 s] 26)
    have m2 := hD4.alloc (.cells #[.int .i64 (z0 s), .int .i64 s] 26)
    have m3 := Blk.new w4 #[.int .i64 (z0 s), .int .i64 s] 26
    have hF7 := hF6.alloc (.cells #[.int .i64 (z0 s), .int .i64 s] 26)
    clear g0 g1 hD4 hF6
    generalize w4.heap.size = F at *
    generalize w4.alloc (.cells #[.int .i64 (z0 s), .int .i64 s] 26) = w5 at *
    have c0 := m0.cell (i := 0) rfl
    have c1 := m1.cell (i := 0) rfl
    have c2 := m2.cell (i := 0) rfl
    have c3 := m3.cell (i := 0) rfl
    have c4 := m3.cell (i := 1) rfl
    simp at c0 c1 c2 c3 c4
    go_wp2_with fail
    go_loop [8] (fun i => ∃ j : Nat, j ≤ s ∧ i = .int .i64 j) (fun i => 30 - (intOf i).toNat)
    case atStart => exact ⟨0, by omega, rfl⟩
    case round =>
      obtain ⟨j, hj, rfl⟩ := hrel
      have hj0 : j < len0 := by omega
      have hj30 : (j : Int) < 30 := by omega
      obtain ⟨b, off, rfl, hc⟩ := HC0.out (by omega)
      have hcj := hc w5 hF7 j hj0
      clear hc
      have q0 : 0 ≤ (j : Int) := by omega
      have q1 : (j : Int) < (len0 : Int) := by omega
      by_cases hjs : j < s
      · by_cases hj1 : j < len1
        · obtain ⟨b', off', rfl, hc'⟩ := HC1.out (by omega)
          have hcj' := hc' w5 hF7 j hj1
          have ht : z1 j = true := by
            have := HG.out j hjs
            unfold bad at this
            cases h : z1 j with
            | true => rfl
            | false => exact absurd ⟨hj1, h⟩ this
          rw [ht] at hcj'
          clear hc' ht hcj
          go_wp2_with fail
          go_round
          case rel => exact ⟨j + 1, by omega, by go_num⟩
          case measure => simp [intOf]; omega
        · have hj1' : decide (j < len1) = false := by simp; omega
          have hj1'' : ¬ (j : Int) < (len1 : Int) := by omega
          clear hcj
          go_wp2_with fail
          go_round
          case rel => exact ⟨j + 1, by omega, by go_num⟩
          case measure => simp [intOf]; omega
      · obtain rfl : j = s := by omega
        have hj1 : j < len1 := HB.out.1
        obtain ⟨b', off', rfl, hc'⟩ := HC1.out (by omega)
        have hcj' := hc' w5 hF7 j hj1
        rw [HB.out.2] at hcj'
        clear hc'
        go_wp2_with fail
        clear hj hjs
        have heq : ∀ w, (binOp .eql 26 (.agg #[.int .i64 (z0 j), .int .i64 j]) (.agg #[.int .i64 (z0 j), .int .i64 j])).run Try.prog w = .ok (.bool true) w := fun w => eql26 _ _ w
        go_quiet (fail)
        go_wp2_with fail
        go_ret
        exact ⟨rfl, (hF7.drewN _).below (Nat.le_refl _) (by simp)⟩
  · have hD4 := hF5.blk hD hne
    clear hD hF5 hne hMl
    simp only [Out.asCatch]
    have HG := Lib.hid hgood; clear hgood
    go_upto_region 5 with (fail)
    have m0 := g0.alloc (.cells #[.int .i64 0, .int .i64 0] 26)
    have m1 := g1.alloc (.cells #[.int .i64 0, .int .i64 0] 26)
    have m2 := hD4.alloc (.cells #[.int .i64 0, .int .i64 0] 26)
    have m3 := Blk.new w4 #[.int .i64 0, .int .i64 0] 26
    have hF7 := hF6.alloc (.cells #[.int .i64 0, .int .i64 0] 26)
    clear g0 g1 hD4 hF6
    generalize w4.heap.size = F at *
    generalize w4.alloc (.cells #[.int .i64 0, .int .i64 0] 26) = w5 at *
    have c0 := m0.cell (i := 0) rfl
    have c1 := m1.cell (i := 0) rfl
    have c2 := m2.cell (i := 0) rfl
    have c3 := m3.cell (i := 0) rfl
    have c4 := m3.cell (i := 1) rfl
    simp at c0 c1 c2 c3 c4
    go_wp2_with fail
    go_loop [8] (fun i => ∃ j : Nat, j ≤ N ∧ i = .int .i64 j) (fun i => 30 - (intOf i).toNat)
    case atStart => exact ⟨0, by omega, rfl⟩
    case round =>
      obtain ⟨j, hj, rfl⟩ := hrel
      by_cases hjs : j < N
      · have hj0 : j < len0 := by omega
        have hj30 : (j : Int) < 30 := by omega
        have q0 : 0 ≤ (j : Int) := by omega
        have q1 : (j : Int) < (len0 : Int) := by omega
        by_cases hj1 : j < len1
        · obtain ⟨b', off', rfl, hc'⟩ := HC1.out (by omega)
          have hcj' := hc' w5 hF7 j hj1
          have ht : z1 j = true := by
            have := HG.out j hjs
            unfold bad at this
            cases h : z1 j with
            | true => rfl
            | false => exact absurd ⟨hj1, h⟩ this
          rw [ht] at hcj'
          clear hc' ht
          go_wp2_with fail
          go_round
          case rel => exact ⟨j + 1, by omega, by go_num⟩
          case measure => simp [intOf]; omega
        · have hj1' : decide (j < len1) = false := by simp; omega
          have hj1'' : ¬ (j : Int) < (len1 : Int) := by omega
          go_wp2_with fail
          go_round
          case rel => exact ⟨j + 1, by omega, by go_num⟩
          case measure => simp [intOf]; omega
      · obtain rfl : j = N := by omega
        clear hj hjs
        have heq : ∀ w, (binOp .eql 26 (.agg #[.int .i64 0, .int .i64 0]) (.agg #[.int .i64 0, .int .i64 0])).run Try.prog w = .ok (.bool true) w := fun w => eql26 _ _ w
        by_cases hj1 : j < len0
        · have hj30 : ¬ (j : Int) < 30 := by have := HN.out; omega
          have e : j = 30 := by omega
          subst e
          go_wp2_with fail
          go_ret
          first
            | exact ⟨rfl, hF7.below (Nat.le_refl _) (by simp)⟩
            | exact ⟨ret_b (by simp; omega), hF7.below (Nat.le_refl _) (by simp)⟩
        · have hj0 : ¬ (j : Int) < (len0 : Int) := by omega
          have e : j = len0 := by omega
          subst e
          go_wp2_with fail
          go_ret
          first
            | exact ⟨rfl, hF7.below (Nat.le_refl _) (by simp)⟩
            | exact ⟨ret_b (by simp; omega), hF7.below (Nat.le_refl _) (by simp)⟩
end Go.Proofs.Ytlfdbkdaamodnaa.Tr
