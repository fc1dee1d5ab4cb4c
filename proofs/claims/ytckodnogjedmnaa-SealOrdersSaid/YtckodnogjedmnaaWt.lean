/- chapter 18: Waiting. -/
import Derived.Test.YtckodnogjedmnaaLu
import Derived.Test.YtckodnogjedmnaaWtP
import Derived.Maps.RangeWalk
namespace Go.Proofs.Ytckodnogjedmnaa.Lo
open Go.RowKit Dt Go.Proofs.Ytckodnogjedmnaa.Hd Go.Proofs.Ytckodnogjedmnaa.Cfg Go.Proofs.Ytckodnogjedmnaa.Jt
set_option linter.unusedVariables false
set_option linter.unusedSimpArgs false
theorem lawInt : Maps.Keyed Try.prog 3 := Maps.int_keyed Try.underlying3
set_option maxRecDepth 100000 in
set_option maxHeartbeats 1600000 in
theorem waiting_any {w : World} {P : Nat → Prop} {B M cnt : Nat} {c : CfV} {rows : List (Nat × Row)} {tk : Int → Option (Nat × Row)} (h : HasLog w P B M c rows tk cnt) :
    Calls Try.prog 30 #[.pointer (some ⟨B, 0, none⟩)] w fun e w' => e = .returned (.int .i64 (waitN tk rows.length c.pl)) ∧ Fr [] w w' := by
  obtain ⟨rv, b1, b2, b3⟩ := h.blk
  have c11 := Blk.cell (i := 11) b1 rfl
  simp only [logCells, List.getElem_toArray, List.getElem_cons_zero, List.getElem_cons_succ] at c11
  have hpl8 := h.n.pl8
  obtain ⟨L, hL⟩ : ∃ L, rows.length = L := ⟨_, rfl⟩
  obtain ⟨D, hD, hDn, hDk⟩ := h.map.ex
  obtain ⟨cntM, hcM⟩ : ∃ n, cnt = n := ⟨_, rfl⟩
  rw [hcM] at hD
  have hkey : ∀ x : Int, inK x → Maps.has D (.int .i64 x) = true → ∃ r, tk x = some r ∧ ((L : Int) ≤ x ∧ x < L + 64) ∧ RB w 66 r.1 r.2 c.pl ∧ D.atKey (.int .i64 x) (.held (.bool true)) = .held (rowV c.pl r.1) := fun x hx hh => by
    obtain ⟨h1, h2⟩ := hDk x hx
    rw [hh] at h1
    cases e : tk x with
    | none => rw [e] at h1; simp at h1
    | some r =>
      have h3 := h.rng x r e
      have h4 := h2 (.held (.bool true))
      rw [e] at h4
      exact ⟨r, rfl, by omega, (h.trb x r e).1, h4⟩
  have hno : ∀ x : Int, Maps.has D (.int .i64 x) = false → tk x = none := fun x hh => by
    cases e : tk x with
    | none => rfl
    | some r =>
      have h3 := h.rng x r e
      have h5 := h.n.fr6
      obtain ⟨h1, h2⟩ := hDk x (inK_of (by omega) (by omega))
      rw [e, hh] at h1
      simp at h1
  have hMlt := h.map.lt
  have HH := Lib.hid h; have HD := Lib.hid hD; have HK := Lib.hid hkey; have HN := Lib.hid hno
  rw [hL]
  have hwle := waitL_le tk L c.pl (fun _ => true) (List.range 64)
  rw [List.length_range] at hwle
  change waitN tk L c.pl ≤ _ at hwle
  obtain ⟨W, hW⟩ : ∃ W, waitN tk L c.pl = W := ⟨_, rfl⟩
  rw [hW] at hwle ⊢
  have HW := Lib.hid hW
  clear hW
  clear h b1 b2 b3 hDn hDk hkey hno hL hD hcM
  go_enter Try.func30, Try.ntmps30
  go_wp2_with (first
    | (at_range; refine wpList_range_own _ rfl _ _ rfl 3 26 lawInt Try.underlying33 RV M _ D rfl HD.out ?_; intro w0 hrg0 hg0 hs0)
    | fail)
  go_frame
  go_loopw [3] (fun nv wr => ∃ (left : Lit → Bool) (cnt m : Nat), nv = .int .i64 m ∧ wr.ranges Try.prog 3 RV M w.heap.size cntM D left cnt ∧ m + waitL tk L c.pl (List.range 64) (fun x => left (.int .i64 x)) = W ∧ (∀ kl, left kl = true → Maps.has D kl = true) ∧ Fr [] w wr)
    (fun _ wr => wr.rangeLeft M w.heap.size)
  case atStart =>
    refine ⟨_, _, 0, rfl, hrg0, ?_, fun _ h => h, fr_grown hg0⟩
    rw [Nat.zero_add, ← HW.out]
    exact waitL_all (fun x hx => HN.out x hx)
  case round =>
    obtain ⟨left, cnt1, m, rfl, hrg, hm, hsub, hF⟩ := hrel
    have HM := Lib.hid hm; have HS := Lib.hid hsub; have HF := Lib.hid hF
    have hm5 : m ≤ 512 := by omega
    clear hm hsub hF
    go_wp2_with (first
      | (at_next; refine wpList_next_ranges _ rfl _ rfl 3 lawInt RV (Value.int .i64) id (fun key kl hk => by obtain ⟨x, rfl, -⟩ := Maps.keyOf_int_inv Try.underlying3 hk; exact ⟨x, rfl⟩) (fun v _ _ => ⟨v, rfl⟩) M w.heap.size _ D left _ rfl hrg ?_ ?_)
      | fail)
    · intro hc0 hl0
      have hm := HM.out
      rw [waitL_none (fun x => hl0 _), Nat.add_zero] at hm
      subst hm
      go_wp2_with fail
      go_ret
      exact ⟨rfl, HF.out⟩
    · intro x v kl y ps w1 cnt2 hkx hlx hvy hat hrg1 hlt hg1 hs1 hen
      obtain ⟨x', e1, rfl, hwx⟩ := Maps.keyOf_int_inv Try.underlying3 hkx
      cases e1
      obtain ⟨r, hr, hrange, hrb, hat2⟩ := HK.out x hwx (HS.out _ hlx)
      have hv : v = rowV c.pl r.1 := by
        have h1 := hat (.held (.bool true))
        rw [hat2] at h1
        unfold RV at hvy
        simp only [id, Option.some.injEq, Prod.mk.injEq] at hvy
        have h2 := hvy.1.trans h1.symm
        injection h2
      subst hv
      have hF1 : Fr [] w w1 := HF.out.trans (fr_grown hg1) (fun z hz => .inr (by simp at hz; omega))
      have hrb1 := hrb.fr hF1 (by simp)
      have hstr := waitL_strike (tk := tk) (L := L) (p := c.pl) (l := List.range 64) (left := fun z => left (.int .i64 z)) List.nodup_range (i := (x - L).toNat) (List.mem_range.2 (by omega)) (by rw [show (L : Int) + ((x - L).toNat : Nat) = x by omega]; exact hlx)
      rw [show (L : Int) + ((x - L).toNat : Nat) = x by omega] at hstr
      have hrw : rowN tk c.pl x = realsN r.2 c.pl := by unfold rowN; rw [hr]
      rw [hrw] at hstr
      have HSTR := Lib.hid hstr; have HF1 := Lib.hid hF1; have HRB := Lib.hid hrb1; have HRG := Lib.hid hrg1; have HLT := Lib.hid hlt; have HRG0 := Lib.hid hrg; have HWX := Lib.hid hwx
      have hreal : m + realsN r.2 c.pl ≤ W := by have := HM.out; omega
      have hsz1 := hrb1.lt
      dsimp only [rowV, id] at hen ⊢
      clear hkx hlx hvy hat hg1 hs1 hr hrange hrb hat2 hrb1 hstr hrw hF1 hrg1 hlt hrg hwx
      go_wp2_with fail
      go_loopw [3, 19] (fun nv iv wr => ∃ i : Nat, iv = .int .i64 i ∧ i ≤ c.pl ∧ nv = .int .i64 ((m + realsN r.2 i : Nat) : Int) ∧ Fr [] w1 wr) (fun _ iv _ => c.pl - (intOf iv).toNat)
      case atStart => exact ⟨0, rfl, Nat.zero_le _, by simp [realsN], Fr.refl _ _⟩
      case round =>
        obtain ⟨i, rfl, hi, rfl, hF2⟩ := hrel
        by_cases hlt : i < c.pl
        · have hb := HRB.out.fr hF2 (by simp)
          have hs := realsN_succ r.2 i
          obtain ⟨⟨re, bu, xx, yy⟩, hC⟩ : ∃ C, r.2 i = C := ⟨_, rfl⟩
          have d0 : wr.cell? ⟨r.1, i * 4, none⟩ = _ := hb.cell hlt (j := 0) (by omega) rfl
          have d1 := hb.cell hlt (j := 1) (by omega) rfl
          have d2 := hb.cell hlt (j := 2) (by omega) rfl
          have d3 := hb.cell hlt (j := 3) (by omega) rfl
          rw [hC] at d0 d1 d2 d3 hs
          dsimp only at d0 d1 d2 d3 hs
          obtain ⟨q, hq⟩ : ∃ q, m + realsN r.2 i = q := ⟨_, rfl⟩
          have hq5 : q ≤ 1000 := by have := (countP_le' (fun t => (r.2 t).1) i); unfold realsN at hq; omega
          have HF2 := Lib.hid hF2; have HSX := Lib.hid hs; have HQ := Lib.hid hq; have HHB := Lib.hid hb
          rw [hq]
          clear hF2 hs hq hb hC
          cases re with
          | false =>
            go_wp2_with fail
            go_roundw
            case rel => exact ⟨i + 1, by simp, by omega, by have := HSX.out; have := HQ.out; simp at *; omega, HF2.out.alloc _⟩
            case measure => simp [intOf]; omega
          | true =>
            go_wp2_with fail
            go_roundw
            case rel => exact ⟨i + 1, by simp, by omega, by have := HSX.out; have := HQ.out; simp at *; omega, HF2.out.alloc _⟩
            case measure => simp [intOf]; omega
        · have e : i = c.pl := by omega
          subst e
          have HF2 := Lib.hid hF2
          clear hF2
          go_wp2_with fail
          go_roundw
          case rel =>
            have hg2 : w1.grownBy wr none := ⟨HF2.out.os, HF2.out.tape, HF2.out.output, HF2.out.size, fun i hi _ => HF2.out.block i hi (by simp)⟩
            refine ⟨_, _, m + realsN r.2 c.pl, rfl, HRG.out.kept hg2 (by simp) (by simp), ?_, fun kl hk => HS.out kl (by simp at hk; exact hk.1), HF1.out.trans HF2.out (by simp)⟩
            have h1 := HM.out
            have h2 := HSTR.out
            have e : (fun z : Int => left (.int .i64 z) && !(Lit.int .i64 z).sameKey (.int .i64 x)) = fun z => left (.int .i64 z) && !decide (z = x) := by
              funext z; simp [Lit.sameKey]
            rw [e]
            omega
          case measure =>
            have hg2 : w1.grownBy wr none := ⟨HF2.out.os, HF2.out.tape, HF2.out.output, HF2.out.size, fun i hi _ => HF2.out.block i hi (by simp)⟩
            have h1 := HRG.out.kept hg2 (by simp) (by simp)
            rw [h1.left_eq, HRG0.out.left_eq]
            have := HLT.out
            omega
end Go.Proofs.Ytckodnogjedmnaa.Lo
