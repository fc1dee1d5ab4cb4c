/- chapter 22: Next, Put. -/
import Derived.Test.YtckodnogjedmnaaJt
import Derived.StillTailTactics
namespace Go.Proofs.Ytckodnogjedmnaa.Jt
open Go.RowKit Dt Go.Proofs.Ytckodnogjedmnaa.Hd
set_option linter.unusedVariables false
set_option linter.unusedSimpArgs false

theorem intTy : Try.prog.underlying 3 = some (.int .i64) := Try.underlying3
set_option maxRecDepth 100000 in
theorem next_no {w : World} {lo B M p a c : Nat} {g : Int → Option (Nat → C4)} (h : HasJ w lo B M p a c g) (ha : a ≤ 1000000) (hg : g a = none) :
    Calls Try.prog 16 #[.pointer (some ⟨B, 0, none⟩)] w fun e w' => e = .returned (.tuple #[.slice none 0 0, .bool false]) ∧ ∃ k, w' = w.drewN k := by
  have l1 := Blk.cell (i := 1) h.blk rfl
  have l2 := Blk.cell (i := 2) h.blk rfl
  obtain ⟨f, hm, hr⟩ := h.map
  have hK : inK a := inK_of (by omega) (by omega)
  have hfa := hr a hK
  rw [hg] at hfa
  have hlk : ∀ k, (Instr.lookup 33 (.map (some M)) (.int .i64 a) true).run Try.prog (w.drewN k) = .ok (.tuple #[.slice none 0 0, .bool false]) (w.drewN k) := fun k => by
    have h1 := (hm.drewN k).look intTy mapTy (zeroRow _) hK
    rw [show f a = none from hfa] at h1
    exact h1
  clear h hm hr hfa hg
  go_enter Try.func16, Try.ntmps16
  go_wp2_with fail
  go_quiet (fail)
  go_wp2_with fail
  go_ret2
  exact ⟨rfl, nq, rfl⟩
set_option maxRecDepth 100000 in
theorem next_yes {w : World} {lo B M p a c : Nat} {g : Int → Option (Nat → C4)} {R : Nat → C4} (h : HasJ w lo B M p a c g) (ha : a ≤ 1000000) (hg : g a = some R) :
    Calls Try.prog 16 #[.pointer (some ⟨B, 0, none⟩)] w fun e w' => ∃ v, e = .returned (.tuple #[v, .bool true]) ∧ RS w' lo v p R ∧ HasJ w' lo B M p (a + 1) (c - 1) (fun x => if x = a then none else g x) ∧ Fr [M, B] w w' := by
  have l1 := Blk.cell (i := 1) h.blk rfl
  have l2 := Blk.cell (i := 2) h.blk rfl
  obtain ⟨f, hm, hr⟩ := h.map
  have hK : inK a := inK_of (by omega) (by omega)
  have hfa := hr a hK
  rw [hg] at hfa
  obtain ⟨v, hfv, hv⟩ := hfa
  have hlk : ∀ k, (Instr.lookup 33 (.map (some M)) (.int .i64 a) true).run Try.prog (w.drewN k) = .ok (.tuple #[v, .bool true]) (w.drewN k) := fun k => by
    have h1 := (hm.drewN k).look intTy mapTy (zeroRow _) hK
    rw [hfv] at h1
    exact h1
  have HM := Lib.hid hm; have HR := Lib.hid hr; have HV := Lib.hid hv; have HFV := Lib.hid hfv; have HH := Lib.hid h; have HK := Lib.hid hK
  clear h hm hr hg hv hfv hK
  go_enter Try.func16, Try.ntmps16
  go_wp2_with fail
  go_quiet (fail)
  go_wp2_with fail
  have hF0 := (Fr.refl [M, B] w).drewN nq
  have hb1 := Blk.drewN HH.out.blk nq
  have hm1 := HM.out.drewN nq
  have hr1 := HV.out.fr ((Fr.refl [] w).drewN nq) (by simp)
  clear hlk
  change (w.drewN nq).cell? _ = _ at l1 l2
  generalize w.drewN nq = w1 at *
  obtain ⟨w2, hdr, hm2, hF2⟩ := hm1.drew.drop intTy mapTy HK.out 0
  have hF3 := hF0.drew.trans hF2 (fun x hx => .inl (by simp at hx; simp [hx]))
  have hb2 := hF2.blk hb1.drew (by simpa using HH.out.ne)
  have l3 := Blk.cell (i := 1) hb2 rfl
  have f3 := Blk.free hb2 1
  have hb3 := hb2.set 1 (.int .i64 ((a : Int) + 1))
  have hF4 := hF3.setCell (p := ⟨B, 1, none⟩) (.inl (by simp)) (.int .i64 ((a : Int) + 1))
  have hm3 := hm2.fr (S := [B]) ((Fr.refl [B] w2).setCell (p := ⟨B, 1, none⟩) (.inl (by simp)) (.int .i64 ((a : Int) + 1))) (by simpa using Ne.symm HH.out.ne)
  have HF4 := Lib.hid hF4; have HB3 := Lib.hid hb3; have HM3 := Lib.hid hm3
  clear hF0 hb1 hm1 hr1 hm2 hF2 hF3 hb2 hb3 hF4 hm3
  have q1 : ((a + 1 : Nat) : Int) = (a : Int) + 1 := by omega
  go_still_tail 8, (by kernel_rfl)
  change wpList _ _ _ _ _ w1.drew
  go_wp2_with fail
  go_ret2
  refine ⟨v, rfl, HV.out.fr HF4.out (fun x hx => ?_), ⟨by simpa [q1] using HB3.out, ⟨_, by have h9 := HM3.out; rw [HFV.out] at h9; exact h9, fun x hx => ?_⟩, HH.out.hB, HH.out.hM, HH.out.ne, Nat.le_trans HH.out.lo_le HF4.out.size⟩, HF4.out⟩
  · have hb := HH.out.hB; have hm := HH.out.hM
    simp at hx; omega
  · by_cases e : x = a
    · rw [if_pos e, if_pos e]; rfl
    · rw [if_neg e, if_neg e]
      refine (HR.out x hx).fr HF4.out (fun x hx => ?_)
      have hb := HH.out.hB; have hm := HH.out.hM
      simp at hx; omega
set_option maxRecDepth 100000 in
/-- no row is taken in: its frame is gone, or too far, or has one; or it is of another width -/
theorem put_no {w : World} {lo B M p a c n : Nat} {g : Int → Option (Nat → C4)} (h : HasJ w lo B M p a c g) {x : Int} {v : Value} {b' : Nat} {R : Nat → C4} (hv : RS w b' v n R) (ha : a ≤ 1000000) (hx : inK x) (hno : x < a ∨ a ≤ x ∧ 64 ≤ x - a ∨ a ≤ x ∧ x - a < 64 ∧ (g x).isSome = true ∨ a ≤ x ∧ x - a < 64 ∧ g x = none ∧ n ≠ p) :
    Calls Try.prog 13 #[.pointer (some ⟨B, 0, none⟩), .int .i64 x, v] w fun e w' => e = .returned (.bool false) ∧ w = w' := by
  have l0 := Blk.cell (i := 0) h.blk rfl
  have l1 := Blk.cell (i := 1) h.blk rfl
  have l2 := Blk.cell (i := 2) h.blk rfl
  obtain ⟨va, vc, rfl, hvr⟩ := hv
  clear hvr
  obtain ⟨f, hm, hr⟩ := h.map
  have hx1 := i64_lo hx
  have hx2 := i64_hi hx
  have hfx : (f x).isSome = (g x).isSome := by
    have h1 := hr x hx
    cases hg : g x with
    | none => rw [hg] at h1; rw [show f x = none from h1]; rfl
    | some R => rw [hg] at h1; obtain ⟨u, hu, -⟩ := h1; rw [hu]; rfl
  obtain ⟨u, hu⟩ : ∃ u, (f x).getD (.slice none 0 0) = u := ⟨_, rfl⟩
  have hlk := hm.look intTy mapTy (zeroRow w) hx
  rw [hfx, hu] at hlk
  clear h hm hr hfx hu
  rcases hno with h1 | ⟨h1, h2⟩ | ⟨h1, h2, h3⟩ | ⟨h1, h2, h3, h4⟩
  · go_enter Try.func13, Try.ntmps13
    go_wp2_with fail
    go_ret
    exact ⟨rfl, rfl⟩
  · have q1 : ¬ x < (a : Int) := by omega
    go_enter Try.func13, Try.ntmps13
    go_wp2_with fail
    go_ret
    exact ⟨rfl, rfl⟩
  · have q1 : ¬ x < (a : Int) := by omega
    have q2 : ¬ 64 ≤ x - (a : Int) := by omega
    rw [h3] at hlk
    go_enter Try.func13, Try.ntmps13
    go_wp2_with fail
    go_ret
    exact ⟨rfl, rfl⟩
  · have q1 : ¬ x < (a : Int) := by omega
    have q2 : ¬ 64 ≤ x - (a : Int) := by omega
    rw [h3] at hlk
    change _ = Result.ok (Value.tuple #[u, Value.bool false]) w at hlk
    have q3 : ((n : Int) != (p : Int)) = true := by simp; omega
    go_enter Try.func13, Try.ntmps13
    go_wp2_with fail
    go_ret
    exact ⟨rfl, rfl⟩
theorem put_end {w w2 w3 : World} {lo B M p a c : Nat} {g : Int → Option (Nat → C4)} {f : Int → Option Value} {x : Int} {v2 : Value} {R : Nat → C4} (h : HasJ w lo B M p a c g) (hr : ∀ x, inK x → RowAt w lo p (g x) (f x)) (hfx : f x = none) (hF2 : Fr [] w w2) {b2 : Nat} (hv2 : RS w2 b2 v2 p R) (hb2 : w.heap.size ≤ b2)
    (hm3 : MapW Try.prog 3 w3 M (if (f x).isSome then c else c + 1) (fun y => if y = x then some v2 else f y)) (hF3 : Fr [M] w2 w3) : HasJ w3 lo B M p a (c + 1) (fun y => if y = x then some R else g y) ∧ Fr [M] w w3 := by
  have hF : Fr [M] w w3 := (hF2.mono (S' := [M]) (by simp)).trans hF3 (fun y hy => .inl hy)
  have hM : ∀ y ∈ [M], y < lo := fun y hy => by simp at hy; subst hy; exact h.hM
  rw [hfx] at hm3
  refine ⟨⟨hF.blk h.blk (by simpa using h.ne), ⟨_, hm3, fun y hy => ?_⟩, h.hB, h.hM, h.ne, Nat.le_trans h.lo_le hF.size⟩, hF⟩
  by_cases e : y = x
  · rw [if_pos e, if_pos e]
    exact ⟨v2, rfl, (hv2.weaken (Nat.le_trans h.lo_le hb2)).fr hF3 hM⟩
  · rw [if_neg e, if_neg e]
    exact (hr y hy).fr hF hM
set_option maxRecDepth 100000 in
set_option maxHeartbeats 1600000 in
theorem put_yes {w : World} {lo B M p a c : Nat} {g : Int → Option (Nat → C4)} (h : HasJ w lo B M p a c g) {x : Int} {v : Value} {b' : Nat} {R : Nat → C4} (hv : RS w b' v p R) (ha : a ≤ 1000000) (hc : c ≤ 1000000) (hx : inK x) (h1 : a ≤ x) (h2 : x - a < 64) (h3 : g x = none) (hp : p ≤ 1000) :
    Calls Try.prog 13 #[.pointer (some ⟨B, 0, none⟩), .int .i64 x, v] w fun e w' => e = .returned (.bool true) ∧ HasJ w' lo B M p a (c + 1) (fun y => if y = x then some R else g y) ∧ Fr [M] w w' := by
  have l0 := Blk.cell (i := 0) h.blk rfl
  have l1 := Blk.cell (i := 1) h.blk rfl
  have l2 := Blk.cell (i := 2) h.blk rfl
  have hclone := fun (w1 : World) (hF : Fr [] w w1) => clone_cells (hv.fr hF (by simp)) (by omega)
  obtain ⟨va, vc, rfl, hvr⟩ := hv
  clear hvr
  obtain ⟨f, hm, hr⟩ := h.map
  have hx1 := i64_lo hx
  have hx2 := i64_hi hx
  have hfx := hr x hx
  rw [h3] at hfx
  have hlk := hm.look intTy mapTy (zeroRow w) hx
  rw [show f x = none from hfx] at hlk
  change _ = Result.ok (Value.tuple #[.slice none 0 0, Value.bool false]) w at hlk
  have q1 : ¬ x < (a : Int) := by omega
  have q2 : ¬ 64 ≤ x - (a : Int) := by omega
  have q3 : ((p : Int) != (p : Int)) = false := by simp
  have HM := Lib.hid hm; have HR := Lib.hid hr; have HH := Lib.hid h; have HX := Lib.hid hx; have HFX := Lib.hid (show f x = none from hfx); have HCL := Lib.hid hclone
  clear h hm hr hx hfx h3 hclone
  go_enter Try.func13, Try.ntmps13
  go_upto_region 4 with (fail)
  refine wp_region_any (by kernel_rfl) ?_
  try (change wpAny _ _ _ _ _ _ _ (World.drew _))
  refine wpAny_take (i := 0) (v := ?_) rfl (by kernel_rfl) (by kernel_rfl) (by kernel_rfl) (fun _ _ _ h => h) (Or.inl ⟨by kernel_rfl, ?_⟩) ?_; rotate_left; (intro w; go_simp; try with_reducible rfl)
  refine wpAny_take (i := 1) (v := ?_) rfl (by kernel_rfl) (by kernel_rfl) (by kernel_rfl) (fun _ _ _ h => h) (Or.inl ⟨by kernel_rfl, ?_⟩) ?_; rotate_left; (intro w; go_simp; try with_reducible rfl)
  refine wpAny_take (i := 2) (v := ?_) rfl (by kernel_rfl) (by kernel_rfl) (by kernel_rfl) (fun _ _ _ h => h) (Or.inl ⟨by kernel_rfl, ?_⟩) ?_; rotate_left; (intro w; go_simp; try with_reducible rfl)
  refine wpAny_take (i := 4) (v := ?_) rfl (by kernel_rfl) (by kernel_rfl) (by kernel_rfl) (fun _ _ _ h => h) (Or.inl ⟨by kernel_rfl, ?_⟩) ?_; rotate_left; (intro w; go_simp; try with_reducible rfl)
  refine wpAny_take (i := 5) (v := ?_) rfl (by kernel_rfl) (by kernel_rfl) (by kernel_rfl) (fun _ _ _ h => h) (Or.inl ⟨by kernel_rfl, ?_⟩) ?_; rotate_left; (intro w; go_simp; try with_reducible rfl)
  refine wpAny_ready (rs := [3, 6]) (by kernel_rfl) (by simp) ?_
  refine AllReady.cons rfl (fun K hK => ?_) (AllReady.cons rfl (fun K hK => ?_) (AllReady.nil))
  · go_simp; refine hK _ _ ?_; clear hK K
    refine wpAny_ready (rs := [6]) (by kernel_rfl) (by simp) ?_
    refine AllReady.cons rfl (fun K hK => ?_) (AllReady.nil)
    go_simp
    refine (HCL.out _ (Fr.refl [] w).drew).mono ?_; rintro e w2 ⟨v2, rfl, hv2, hF2⟩
    have hF2' := ((Fr.refl [] w).drew).trans hF2 (by simp)
    obtain ⟨w3, hst, hm3, hF3⟩ := (HM.out.fr hF2' (by simp)).store intTy mapTy (by unfold maxLen; omega) HX.out v2
    have hend := put_end HH.out HR.out HFX.out hF2' hv2 (Nat.le_refl _) hm3 hF3
    have l2' := (hF2'.cell (p := ⟨B, 2, none⟩) (Nat.lt_of_lt_of_le HH.out.hB HH.out.lo_le) (by simp)).trans l2
    have HEND := Lib.hid hend
    clear hend hv2 hm3 hF3 hF2 hF2'
    dsimp only; refine hK _ _ ?_; clear hK K
    refine wpAny_ready (rs := [7]) (by kernel_rfl) (by simp) ?_
    refine AllReady.cons rfl (fun K hK => ?_) (AllReady.nil)
    go_simp; refine hK _ _ ?_; clear hK K
    refine wpAny_done (by kernel_rfl) ?_ _
    go_wp2_with fail
    go_ret
    exact ⟨rfl, HEND.out⟩
  · go_simp
    refine (HCL.out _ (Fr.refl [] w).drew).mono ?_; rintro e w2 ⟨v2, rfl, hv2, hF2⟩
    have hF2' := ((Fr.refl [] w).drew).trans hF2 (by simp)
    obtain ⟨w3, hst, hm3, hF3⟩ := (HM.out.fr hF2' (by simp)).store intTy mapTy (by unfold maxLen; omega) HX.out v2
    have hend := put_end HH.out HR.out HFX.out hF2' hv2 (Nat.le_refl _) hm3 hF3
    have l2' := (hF2'.cell (p := ⟨B, 2, none⟩) (Nat.lt_of_lt_of_le HH.out.hB HH.out.lo_le) (by simp)).trans l2
    have HEND := Lib.hid hend
    clear hend hv2 hm3 hF3 hF2 hF2'
    dsimp only; refine hK _ _ ?_; clear hK K
    refine wpAny_ready (rs := [3]) (by kernel_rfl) (by simp) ?_
    refine AllReady.cons rfl (fun K hK => ?_) (AllReady.nil)
    go_simp; refine hK _ _ ?_; clear hK K
    refine wpAny_ready (rs := [7]) (by kernel_rfl) (by simp) ?_
    refine AllReady.cons rfl (fun K hK => ?_) (AllReady.nil)
    go_simp; refine hK _ _ ?_; clear hK K
    refine wpAny_done (by kernel_rfl) ?_ _
    go_wp2_with fail
    go_ret
    exact ⟨rfl, HEND.out⟩
end Go.Proofs.Ytckodnogjedmnaa.Jt
