import Derived.Test.YtkjjikjilmngdaaLk5
namespace Go.Proofs.Ytkjjikjilmngdaa.Lk
open Go.RowKit Dt Go.Proofs.Ytkjjikjilmngdaa.Wn Go.Proofs.Ytkjjikjilmngdaa.Sq Go.Proofs.Ytkjjikjilmngdaa.Mt
set_option linter.unusedVariables false
set_option linter.unusedSimpArgs false

/-- a packet with a kind alone -/
def pk0 (k : Int) : Pk := ⟨k, 0, 0, 0, false, 0, 0, 0, none, 0, 0, 0, none, 0, 0, 0, 0⟩
theorem note_s0 : (noteS s0 0).1 = 1 := by decide
def s1 : WS := ⟨true, 0, fun _ => false⟩
theorem note_s0' : (noteS s0 0).2 = s1 := by rfl
theorem mean6 : nt 0 0 0 6 = (4618441417868443648, 0) := by
  unfold nt
  rw [if_pos rfl]
  have : rg (Go.floatOfInt .f64 ((6 : Nat) : Int)) = 4618441417868443648 := by kernel_rfl
  rw [this]
set_option maxRecDepth 100000 in
set_option maxHeartbeats 3200000 in
theorem known_any (w : World) : Calls Try.prog 15 #[] w fun e w' => e = .returned (.bool true) ∧ Fr [] w w' := by
  go_enter Try.func15, Try.ntmps15
  go_wp2_with fail
  have hA := (HasL.new w).fr ((Fr.refl [] (w.alloc (.cells #[.int .i64 0, .slice none 0 0, .bool false, .int .i64 0, .int .u64 0, .int .i64 0, .float .f64 0, .float .f64 0] 32))).alloc (.cells #[.int .i64 0, .slice none 0 0, .bool false, .int .i64 0, .int .u64 0, .int .i64 0, .float .f64 0, .float .f64 0] 32)) (by simp) (by simp)
  have hB := HasL.new (w.alloc (.cells #[.int .i64 0, .slice none 0 0, .bool false, .int .i64 0, .int .u64 0, .int .i64 0, .float .f64 0, .float .f64 0] 32))
  rw [show (w.alloc (.cells #[.int .i64 0, .slice none 0 0, .bool false, .int .i64 0, .int .u64 0, .int .i64 0, .float .f64 0, .float .f64 0] 32)).heap.size = w.heap.size + 1 by simp] at hB
  have hF := ((Fr.refl [] w).alloc (.cells #[.int .i64 0, .slice none 0 0, .bool false, .int .i64 0, .int .u64 0, .int .i64 0, .float .f64 0, .float .f64 0] 32)).alloc (.cells #[.int .i64 0, .slice none 0 0, .bool false, .int .i64 0, .int .u64 0, .int .i64 0, .float .f64 0, .float .f64 0] 32)
  generalize (w.alloc (.cells #[.int .i64 0, .slice none 0 0, .bool false, .int .i64 0, .int .u64 0, .int .i64 0, .float .f64 0, .float .f64 0] 32)).alloc (.cells #[.int .i64 0, .slice none 0 0, .bool false, .int .i64 0, .int .u64 0, .int .i64 0, .float .f64 0, .float .f64 0] 32) = w1 at *
  obtain ⟨A, hAe⟩ : ∃ A, w.heap.size = A := ⟨_, rfl⟩
  rw [hAe] at hA hB ⊢
  have HAE := Lib.hid hAe
  have HB1 := Lib.hid hB; have HF1 := Lib.hid hF; have HB1lt := Lib.hid hB.lt
  clear hAe hB hF
  refine (send_L hA (pk0 1) 0).mono ?_
  rintro e w2 ⟨la, ac, fa, rfl, e1, -, hA2, hfa, hF2⟩
  obtain ⟨rfl, rfl⟩ := e1 rfl
  have HA2 := Lib.hid hA2; have HFA := Lib.hid hfa
  have HB2 := Lib.hid (HB1.out.fr hF2 (by simp) (by simp)); have HF2 := Lib.hid (HF1.out.trans hF2 (fun x hx => .inr (by rw [HAE.out]; simp at hx; omega)))
  clear e1 hA2 hfa hF2 hA HB1 HF1
  dsimp only [Pk.v, pk0, s0]
  go_wp2_with fail
  have hF3 := (Fr.refl [] w2).alloc (.cells #[.int .i64 1, .int .i64 0, .int .i64 0, .int .i64 0, .bool false, .int .u64 0, .int .i64 0, .int .i64 0, .slice none 0 0, .int .i64 0, .slice none 0 0, .int .i64 0, .int .i64 0] 38)
  have hA3 := HA2.out.fr hF3 (by simp) (by simp)
  have hB3 := HB2.out.fr hF3 (by simp) (by simp)
  have hx3 := Blk.new w2 #[.int .i64 1, .int .i64 0, .int .i64 0, .int .i64 0, .bool false, .int .u64 0, .int .i64 0, .int .i64 0, .slice none 0 0, .int .i64 0, .slice none 0 0, .int .i64 0, .int .i64 0] 38
  have hfa3 : ∀ g, fa = some g → A + 1 < g := fun g hg => by have h1 := HFA.out g hg; have h2 := HB1lt.out; omega
  have HA3 := Lib.hid hA3; have HA3lt := Lib.hid hA3.fplt; have HF3sz := Lib.hid ((HF2.out.trans hF3 (by simp)).size); have HF3 := Lib.hid (HF2.out.trans hF3 (by simp)); have HFA3 := Lib.hid hfa3
  clear hA3 hF3 HA2 HB2 HF2 HFA hfa3
  generalize w2.alloc (.cells #[.int .i64 1, .int .i64 0, .int .i64 0, .int .i64 0, .bool false, .int .u64 0, .int .i64 0, .int .i64 0, .slice none 0 0, .int .i64 0, .slice none 0 0, .int .i64 0, .int .i64 0] 38) = w3 at *
  refine (take_L hB3 (by simp) (pk0 1) bt_zero 3).mono ?_
  rintro e w4 ⟨fb, qb, tb, rfl, hif, hB4, ht4, hfb, hF4⟩
  rw [if_neg (by simp [pk0])] at hif
  obtain ⟨rfl, rfl⟩ := hif
  have hA4 := HA3.out.fr hF4 (by simp) (fun g hg => by have := HFA3.out g hg; simp; omega)
  have HA4 := Lib.hid hA4; have HF4 := Lib.hid (HF3.out.trans hF4 (fun x hx => .inr (by rw [HAE.out]; simp at hx; omega)))
  clear hB3 hx3 hA4 hF4 ht4 HA3 HF3
  have hB4' : HasL w4 (A + 1) fb 0 s1 [] (0, 0, 0) := hB4
  rw [show (decide ((noteS s0 (pk0 1).seq).1 = 1)) = true by rfl]
  clear hB4
  have HB4 := Lib.hid hB4'
  have HFB := Lib.hid hfb
  clear hB4' hfb
  go_wp2_with fail
  have hafp := HA4.out.fplt
  have hdis : ∀ g, fa = some g → fb ≠ some g := fun g hg hb => by
    rcases HFB.out with h | h
    · rw [h] at hb; cases hb
    · have h1 := h g hb; have h2 := HA3lt.out g hg; omega
  have HBG := Lib.hid (fun g (hg : fb = some g) => show w.heap.size ≤ g from by
    rcases HFB.out with h | h
    · rw [h] at hg; cases hg
    · have h1 := h g hg; have h2 := HF3sz.out; omega)
  refine (send_L HB4.out (pk0 6) 3).mono ?_
  rintro e w5 ⟨la, ac6, fc, rfl, -, e2, hB5, hfc, hF5⟩
  obtain ⟨e3, hbt⟩ := e2 rfl
  have hla : la = 0 := e3
  subst hla
  have hA5 := HA4.out.fr hF5 (by simp only [List.mem_cons, Option.mem_toList, not_or]; exact ⟨by omega, fun h => by
      have := HBG.out _ h; have h3 := HB4.out.apartL HA4.out; exact h3 h⟩) (fun g hg => by
      simp only [List.mem_cons, Option.mem_toList, not_or]
      exact ⟨by have := HFA3.out g hg; omega, fun h => hdis g hg h⟩)
  have hF5' := HF4.out.trans hF5 (fun x hx => .inr (by
    simp only [List.mem_cons, Option.mem_toList] at hx
    rcases hx with rfl | hx
    · rw [HAE.out]; omega
    · exact HBG.out _ hx))
  have HA5 := Lib.hid hA5; have HB5 := Lib.hid hB5; have HF5 := Lib.hid hF5'; have HBT := Lib.hid hbt
  clear hA5 hB5 hF5 hF5' hafp hdis e2 e3 hbt hfc
  dsimp only [Pk.v, pk0, s1]
  go_upto_region 6 with (fail)
  have hF6 := (Fr.refl [] w5).alloc (.cells #[.int .i64 6, .int .i64 0, .int .i64 0, .int .i64 0, .bool true, .int .u64 ac6, .int .i64 0, .int .i64 0, .slice none 0 0, .int .i64 0, .slice none 0 0, .int .i64 0, .int .i64 0] 38)
  have hA6 := HA5.out.fr hF6 (by simp) (by simp)
  have hB6 := HB5.out.fr hF6 (by simp) (by simp)
  have hx6 := Blk.new w5 #[.int .i64 6, .int .i64 0, .int .i64 0, .int .i64 0, .bool true, .int .u64 ac6, .int .i64 0, .int .i64 0, .slice none 0 0, .int .i64 0, .slice none 0 0, .int .i64 0, .int .i64 0] 38
  have HF6 := Lib.hid (HF5.out.trans hF6 (by simp))
  have HA6 := Lib.hid hA6; have HB6 := Lib.hid hB6
  clear hA6 hB6 hF6 HF5 HA5 HB5
  obtain ⟨X, hX⟩ : ∃ X, w5.heap.size = X := ⟨_, rfl⟩
  rw [hX] at hx6 ⊢
  clear hX
  generalize w5.alloc (.cells #[.int .i64 6, .int .i64 0, .int .i64 0, .int .i64 0, .bool true, .int .u64 ac6, .int .i64 0, .int .i64 0, .slice none 0 0, .int .i64 0, .slice none 0 0, .int .i64 0, .int .i64 0] 38) = w6 at *
  have l0 := Blk.cell (i := 0) hx6 rfl
  have l1 := Blk.cell (i := 1) hx6 rfl
  have l2 := Blk.cell (i := 2) hx6 rfl
  have l3 := Blk.cell (i := 3) hx6 rfl
  have l4 := Blk.cell (i := 4) hx6 rfl
  have l5 := Blk.cell (i := 5) hx6 rfl
  have l6 := Blk.cell (i := 6) hx6 rfl
  have l7 := Blk.cell (i := 7) hx6 rfl
  have l8 := Blk.cell (i := 8) hx6 rfl
  have l9 := Blk.cell (i := 9) hx6 rfl
  have l10 := Blk.cell (i := 10) hx6 rfl
  have l11 := Blk.cell (i := 11) hx6 rfl
  have l12 := Blk.cell (i := 12) hx6 rfl
  simp only [List.getElem_toArray, List.getElem_cons_zero, List.getElem_cons_succ] at l0 l1 l2 l3 l4 l5 l6 l7 l8 l9 l10 l11 l12
  go_wp2_with fail
  refine (take_L HA6.out (by simp) { pk0 6 with any := true, acks := ac6 } HBT.out 6).mono ?_
  rintro e w7 ⟨fd, qd, td, rfl, hif, hA7, ht7, hfd, hF7⟩
  rw [if_pos ⟨by rfl, rfl⟩] at hif
  obtain ⟨rfl, rfl⟩ := hif
  have hl0 : leftL (Pk.last { pk0 6 with any := true, acks := ac6 }) s1.f (keep32 ([] ++ [(0, clp 0)])) = [] := by rfl
  have hm0 : meterL (Pk.last { pk0 6 with any := true, acks := ac6 }) s1.f 6 (keep32 ([] ++ [(0, clp 0)])) (0, 0, 0) = (1, 4618441417868443648, 0) := by
    show (0 + 1, nt 0 0 0 6) = _
    rw [mean6]
  rw [hl0, hm0] at hA7
  rw [show decide ((noteS s0 (Pk.seq { pk0 6 with any := true, acks := ac6 })).1 = 1) = true by rfl]
  have hfd2 : ∀ g, fd = some g → A < g := fun g hg => by
    rcases hfd with h | h
    · rw [h] at hg; have := HFA3.out g hg; omega
    · have h1 := h g hg; have h2 := HA6.out.lt; omega
  have hB7 := HB6.out.fr hF7 (by simp) (fun g hg => by
    have h3 := HB6.out.apartL HA6.out
    intro h; simp at h; subst h; exact h3 hg)
  have HF7 := Lib.hid (HF6.out.trans hF7 (fun x hx => .inr (by rw [HAE.out]; simp at hx; omega)))
  have HA7 := Lib.hid hA7; have HB7 := Lib.hid hB7
  clear hA7 hB7 hF7 ht7 hfd hfd2 hl0 hm0 HA6 HB6 HF6
  have ho : (FloatKind.f64.format.order 4618441417868443648 4618441417868443648 == some .eq) = true := by decide
  go_wp2_with fail
  refine (mean_L HA7.out).mono ?_; rintro e w' ⟨rfl, rfl⟩
  go_wp2_with fail
  refine (waiting_L HA7.out).mono ?_; rintro e w8 ⟨va, rfl, hva, hF8⟩
  obtain ⟨a8, c8, rfl, -, -⟩ := own_val hva
  have HB8 := Lib.hid (HB7.out.fr hF8 (by simp) (by simp))
  have HF8 := Lib.hid (HF7.out.trans hF8 (by simp))
  clear hva hF8
  go_wp2_with fail
  refine (waiting_L HB8.out).mono ?_; rintro e w9 ⟨vb, rfl, hvb, hF9⟩
  obtain ⟨a9, c9, rfl, -, -⟩ := own_val hvb
  rw [show (keep32 ([] ++ [(0, clp 3)])).length = 1 by rfl]
  have HF9 := Lib.hid (HF8.out.trans hF9 (by simp))
  clear hvb hF9
  go_wp2_with fail
  go_ret
  exact ⟨rfl, HF9.out⟩
end Go.Proofs.Ytkjjikjilmngdaa.Lk
