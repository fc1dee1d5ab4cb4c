/- chapter 18: the reference's Tick. -/
import Derived.Test.YtckodnogjedmnaaRl4
import Derived.StillTailTactics
namespace Go.Proofs.Ytckodnogjedmnaa.Lo
open Go.RowKit Dt Go.Proofs.Ytckodnogjedmnaa.Hd Go.Proofs.Ytckodnogjedmnaa.Cfg Go.Proofs.Ytckodnogjedmnaa.Jt
set_option linter.unusedVariables false
set_option linter.unusedSimpArgs false
section
variable {w w' : World} {P Q : Nat → Prop} {B M cnt : Nat} {c : CfV} {rows : List (Nat × Row)} {tk : Int → Option (Nat × Row)}
theorem HasRL.seal {w4 : World} {r : Nat × Row} {v rv : Value} (h : HasRL w P B M c rows tk cnt) (hlt : rows.length < c.fr) (hb : Blk w B (logCells c rv M) 72) (ho : w.ownsRow 0 26 1 rv rows.length (rows.map fun r => rowV c.pl r.1))
    (hF : Fr rv.ownBlock.toList w w4) (hown : w4.ownsRow 0 26 1 v (rows.length + 1) ((rows.map fun r => rowV c.pl r.1) ++ [rowV c.pl r.1])) (hQ : ∀ g, v.ownBlock = some g → P g)
    (hr : RB w 66 r.1 r.2 c.pl) (hP : P r.1) : HasRL (w4.setCell ⟨B, 10, none⟩ v) P B M c (rows ++ [r]) tk cnt ∧ Fr (B :: rv.ownBlock.toList) w (w4.setCell ⟨B, 10, none⟩ v) := by
  have hBM : M ≠ B := h.hM hb
  have hMo : M ∉ rv.ownBlock.toList := fun hx => by
    obtain ⟨D, ⟨es, clock, h1, -⟩, -⟩ := h.map.ex
    rcases ho.2 with ⟨h9, -⟩ | ⟨g', cap', cur, h9, -, h8, -⟩
    · rw [h9] at hx; simp [Value.ownBlock] at hx
    · rw [h9] at hx; simp [Value.ownBlock] at hx
      subst hx
      rw [h8] at h1; simp at h1
  have hrT : ∀ g R, RB w 66 g R c.pl → g ∉ rv.ownBlock.toList := fun g R hg hx => own_blk (g := 0) ho hg (by decide) g (by simpa using hx) rfl
  have hBT := own_notin ho hb (by decide)
  have hF5 : Fr [B] w4 (w4.setCell ⟨B, 10, none⟩ v) := (Fr.refl _ _).setCell (.inl (by simp)) _
  have hb4 := hF.blk hb hBT
  have hrB : ∀ g R, RB w 66 g R c.pl → RB (w4.setCell ⟨B, 10, none⟩ v) 66 g R c.pl := fun g R hg => (hg.fr hF (hrT _ _ hg)).fr hF5 (by simpa using rb_ne hg hb (by decide))
  have hvB : ∀ g, v.ownBlock = some g → g ∉ [B] := fun g hg hx => by
    have e : g = B := by simpa using hx
    exact own_blk (g := 0) hown hb4 (by decide) g hg e
  refine ⟨?_, (hF.mono (S' := B :: rv.ownBlock.toList) (fun x hx => .inl (List.mem_cons_of_mem _ hx))).trans hF5 (fun x hx => .inl (by simp at hx; simp [hx]))⟩
  exact {
    n := h.n
    blk := ⟨v, by have := hb4.set 10 v; exact this, by
      have h9 := own_keep hown hF5 hvB
      simpa using h9, hQ⟩
    map := (h.map.fr hF hMo).fr hF5 (by simpa using hBM)
    rrb := fun r' hr' => by
      rcases List.mem_append.1 hr' with h1 | h1
      · exact ⟨hrB _ _ (h.rrb r' h1).1, (h.rrb r' h1).2⟩
      · have e : r' = r := by simpa using h1
        subst e
        exact ⟨hrB _ _ hr, hP⟩
    trb := fun x r' hx => ⟨hrB _ _ (h.trb x r' hx).1, (h.trb x r' hx).2⟩
    len := by rw [List.length_append, List.length_singleton]; omega
    pB := h.pB
    pM := h.pM }
set_option maxRecDepth 100000 in
set_option maxHeartbeats 3200000 in
theorem rtick_any (h : HasRL w P B M c rows tk cnt) (hNew : ∀ x, w.heap.size ≤ x → P x) (t : Int) :
    Calls Try.prog 33 #[.pointer (some ⟨B, 0, none⟩), .int .i64 t] w fun e w' => ∃ rows', e = .returned (.int .i64 rows'.length) ∧ HasRL w' P B M c (rows ++ rows') tk cnt ∧ Wr P w w' ∧ (∀ i r, rows'[i]? = some r → r.2 = rowOf tk (rows.length + i : Nat)) ∧ (∀ i : Nat, i < rows'.length → dl c (rows.length + i : Nat) ≤ t) ∧ (rows.length + rows'.length = c.fr ∨ t < dl c (rows.length + rows'.length : Nat)) := by
  have hN := h.n
  obtain ⟨i0, hi0, hz0, hz1, hz2⟩ := info_parts infC
  obtain ⟨j0, hj0, hy0, hy1, hy2⟩ := info_parts infRow
  have hpl := hN.pl8
  have hpl1 := hN.pl1
  have hfr6 := hN.fr6
  have hmk : ∀ w : World, (Instr.makeSlice 26 (.int .i64 (c.pl : Int)) (.int .i64 (c.pl : Int))).run Try.prog w = .ok (.slice (some ⟨w.heap.size, 0, none⟩) c.pl c.pl) (w.alloc (.cells (madeCells #[.bool false, .int .i64 0, .int .i64 0, .int .i64 0] (c.pl * 4)) 66)) := fun w => by
    have h2 := run_makeSlice (P := Try.prog) w 26 66 i0 _ Try.underlying26 hi0 hz0 .i64 .i64 (c.pl : Int) (c.pl : Int) (by omega) (Int.le_refl _) (by rw [hz1]; omega) (by rw [hz2]; omega) (by omega)
    rw [hz1] at h2
    simpa [Value.cells] using h2
  have hsz : (Try.prog.info? 66).map (·.size) = some 4 := by rw [hi0]; simp [hz1]
  have HMK := Lib.hid hmk; have HSZ := Lib.hid hsz
  have HH := Lib.hid h
  clear h hmk hi0 hz0 hz1 hz2 hsz
  go_enter Try.func33, Try.ntmps33
  go_wp2_with fail
  go_loopw [5] (fun iv wr => ∃ m rows', m = rows'.length ∧ iv = .int .i64 (m : Nat) ∧ HasRL wr P B M c (rows ++ rows') tk cnt ∧ Wr P w wr ∧ (∀ i r, rows'[i]? = some r → r.2 = rowOf tk (rows.length + i : Nat)) ∧ (∀ i : Nat, i < rows'.length → dl c (rows.length + i : Nat) ≤ t)) (fun iv _ => 1000 - (intOf iv).toNat)
  case atStart => exact ⟨0, [], rfl, rfl, by rw [List.append_nil]; exact HH.out, Wr.refl _ _, fun i r hr => by simp at hr, fun i hi => by simp at hi⟩
  case round =>
    obtain ⟨m, rows', hm, rfl, hI, hW, hgot, hdue⟩ := hrel
    obtain ⟨L, hL⟩ : ∃ L, (rows ++ rows').length = L := ⟨_, rfl⟩
    have hLm : rows.length + m = L := by rw [← hL, List.length_append, hm]
    have hLf : L ≤ c.fr := by have := hI.len; omega
    have hm6 : m ≤ 600 := by omega
    have hNw : ∀ x, wr.heap.size ≤ x → P x := fun x hx => hNew x (Nat.le_trans hW.size hx)
    obtain ⟨rv, b1, b2, b3⟩ := hI.blk
    obtain ⟨a, cap, rfl, -, -⟩ := own_val b2
    rw [hL] at b1 b2 b3
    have c10 := Blk.cell (i := 10) b1 rfl
    have c4' := Blk.cell (i := 4) b1 rfl
    simp only [logCells, List.getElem_toArray, List.getElem_cons_zero, List.getElem_cons_succ] at c10 c4'
    have hlm : L ≤ maxLen := by unfold maxLen; omega
    have hdl : ∀ j, Calls Try.prog 36 #[.pointer (some ⟨B, 0, none⟩), .int .i64 (L : Int)] (wr.drewN j) fun e w' => e = .returned (.int .i64 (if 0 ≤ (L : Int) ∧ (L : Int) < c.fr then dl c (L : Int) else 0)) ∧ ∃ m, w' = (wr.drewN j).drewN m := fun j => rdeadline_any (hI.fr ((Fr.refl [] wr).drewN j) (by simp)) (L : Int)
    have HI := Lib.hid hI; have HL := Lib.hid hL; have HLM := Lib.hid hLm; have HM := Lib.hid hm; have HW := Lib.hid hW; have HGOT := Lib.hid hgot; have HDUE := Lib.hid hdue; have HB1 := Lib.hid b1; have HB2 := Lib.hid b2; have HB3 := Lib.hid b3
    clear hI hL hm hW hgot hdue hLm b1 b2 b3
    by_cases q : L < c.fr
    case neg =>
      have q' : ¬ (L : Int) < c.fr := by omega
      clear hdl
      go_wp2_with fail
      go_quiet (fail)
      go_wp2_with fail
      go_ret
      have hD : Fr [] wr (wr.drewN nq) := (Fr.refl _ _).drewN nq
      have hm9 := HM.out
      subst hm9
      exact ⟨rows', rfl, HI.out.fr hD (by simp), HW.out.step hD (by simp), HGOT.out, HDUE.out, .inl (by have := HLM.out; omega)⟩
    case pos =>
      have q' : (L : Int) < c.fr := by omega
      obtain ⟨dd, hdd⟩ : ∃ dd, dl c (L : Int) = dd := ⟨_, rfl⟩
      rw [hdd] at hdl
      have hdl2 := hdl
      simp only [if_pos (show 0 ≤ (L : Int) ∧ (L : Int) < c.fr by omega)] at hdl2
      have HDL := Lib.hid hdl2; have HDD := Lib.hid hdd
      clear hdl hdl2 hdd
      by_cases q2 : dd ≤ t
      case neg =>
        go_wp2_with fail
        go_quiet (first | (go_at_call 36; exact Calls.quiet_of (HDL.out _)))
        go_wp2_with fail
        go_ret
        have hD : Fr [] wr (wr.drewN nq) := (Fr.refl _ _).drewN nq
        have hm9 := HM.out
        subst hm9
        exact ⟨rows', rfl, HI.out.fr hD (by simp), HW.out.step hD (by simp), HGOT.out, HDUE.out, .inr (by rw [HLM.out, HDD.out]; omega)⟩
      case pos =>
        go_wp2_with fail
        go_quiet (first | (go_at_call 36; exact Calls.quiet_of (HDL.out _)))
        have hD : Fr [] wr (wr.drewN nq) := (Fr.refl _ _).drewN nq
        have HI1 := Lib.hid (HI.out.fr hD (by simp)); have HW1 := Lib.hid (HW.out.step hD (by simp)); have HB1' := Lib.hid (HB1.out.drewN nq); have HB2' := Lib.hid (own_keep HB2.out hD (by simp))
        have hNw1 : ∀ x, (wr.drewN nq).heap.size ≤ x → P x := hNw
        have c0' := Blk.cell (i := 0) HB1'.out rfl
        simp only [logCells, List.getElem_toArray, List.getElem_cons_zero, List.getElem_cons_succ] at c0'
        change (wr.drewN nq).cell? _ = _ at c10 c4'
        clear hD HDL HI HB1 HB2 c10 c4' hNw
        generalize wr.drewN nq = w1 at *
        have hmk1 := HMK.out w1
        have hrb := RB.new w1 66 c.pl
        have hF2 := (Fr.refl [] w1).alloc (.cells (madeCells #[.bool false, .int .i64 0, .int .i64 0, .int .i64 0] (c.pl * 4)) 66)
        have HRB2 := Lib.hid hrb; have HF2 := Lib.hid hF2
        clear hrb hF2
        go_upto_region 4 with (fail)
        obtain ⟨g, hge⟩ : ∃ g, w1.heap.size = g := ⟨_, rfl⟩
        rw [hge]
        have hrb := HRB2.out; have hF2 := HF2.out
        rw [hge] at hrb
        have HGE := Lib.hid hge
        clear hge HRB2 HF2 hmk1 c0'
        generalize w1.alloc (.cells (madeCells #[.bool false, .int .i64 0, .int .i64 0, .int .i64 0] (c.pl * 4)) 66) = w2 at *
        have hB2' := hF2.blk HB1'.out (by simp)
        have c10 := Blk.cell (i := 10) hB2' rfl
        have c11 := Blk.cell (i := 11) hB2' rfl
        simp only [logCells, List.getElem_toArray, List.getElem_cons_zero, List.getElem_cons_succ] at c10 c11
        have hK : inK (L : Int) := inK_of (by omega) (by omega)
        obtain ⟨sv, w4, nn, hlk, hcp, hr4, hF4⟩ : ∃ (sv : Value) (w4 : World) (nn : Int), (∀ k, (Instr.lookup 33 (.map (some M)) (.int .i64 (L : Int)) false).run Try.prog (w2.drewN k) = .ok sv (w2.drewN k)) ∧ (∀ ty, (Builtin.copy_ #[26, 26] ty #[.slice (some ⟨g, 0, none⟩) c.pl c.pl, sv]).run Try.prog w2.drew = .ok (goInt nn) w4) ∧ RB w4 66 g (rowOf tk (L : Int)) c.pl ∧ Fr [g] w2 w4 := by
          have hl2 := HI1.out.fr hF2 (by simp)
          have h1 := fun k => (hl2.map.drewN k).look1 intTy mapTy (zeroRow _) hK
          cases hg : tk (L : Int) with
          | none =>
            refine ⟨.slice none 0 0, w2.drew, 0, fun k => by have := h1 k; rw [hg] at this; exact this, fun ty => run_copy_nil _ w2.drew _ _ ty 66 _ _ _ Try.underlying26 (by rw [HSZ.out]; rfl), ?_, (Fr.refl _ _).drew⟩
            unfold rowOf; rw [hg]; exact hrb
          | some r =>
            have hrr := (hl2.trb _ r hg).1
            have hne : r.1 ≠ g := by
              have := (HI1.out.trb _ r hg).1.lt
              rw [HGE.out] at this; omega
            refine ⟨.slice (some ⟨r.1, 0, none⟩) c.pl c.pl, w2.drew.setRow g (rc r.2 c.pl).toArray, c.pl, fun k => by have := h1 k; rw [hg] at this; exact this, fun ty => run_copy_rows w2.drew _ _ ty 66 g c.pl c.pl 4 ⟨r.1, 0, none⟩ c.pl _ 66 (rc r.2 c.pl) Try.underlying26 HSZ.out hrb (rc_len _ _) (by simp [rc_len]) (fun j v hv => ?_) (rc_one _ _), ?_, ((Fr.refl [g] w2).drew).trans fr_setRow (by simp)⟩
            · have e : (⟨r.1, 0, none⟩ : Addr).add j = ⟨r.1, j, none⟩ := by unfold Addr.add; split <;> simp_all
              rw [e]
              exact Blk.cell hrr (by simpa using hv)
            · unfold rowOf; rw [hg]
              exact setRow_heap w2.drew g _ _ _ (0, 0) hrb
        have hBg : B ≠ g := (rb_ne hrb hB2' (by decide)).symm
        have hB4 := hF4.blk hB2' (by simpa using hBg)
        have hF14 : Fr [] w1 w4 := hF2.trans hF4 (fun z hz => .inr (by
          have : z = g := by simpa using hz
          rw [this, ← HGE.out]; exact Nat.le_refl _))
        have ho4 := own_keep HB2'.out hF14 (by simp)
        have hl4 := HI1.out.fr hF14 (by simp)
        have HF14 := Lib.hid hF14; have HO4 := Lib.hid ho4; have HL4 := Lib.hid hl4; have HB4 := Lib.hid hB4; have HR4 := Lib.hid hr4
        clear hBg hF14 ho4 hl4 hr4 hF4 hrb hF2 hK
        have hlk9 : ∀ w', w' = w2.drew → (Instr.lookup 33 (.map (some M)) (.int .i64 (L : Int)) false).run Try.prog w' = .ok sv w' := fun w' e => by subst e; exact hlk 1
        go_still_tail 11, (by kernel_rfl)
        change wpList _ _ _ _ _ w2.drew
        go_upto_region 5 with (fail)
        clear c10 c11
        have c10 := Blk.cell (i := 10) HB4.out rfl
        simp only [logCells, List.getElem_toArray, List.getElem_cons_zero, List.getElem_cons_succ] at c10
        clear hlk hlk9 hcp hB2' hB4
        apply wp_region_lit
        iterate 7 (refine wpList_plain rfl (fun K hK => ?_); go_simp; refine hK _ _ ?_; clear hK K)
        have hnb := Blk.new w4 #[rowV c.pl g] 26
        have hF5 := (Fr.refl [] w4).alloc (.cells #[rowV c.pl g] 26)
        have ho5 := own_keep HO4.out hF5 (by simp)
        refine wpList_append_src _ rfl (Operand.tmp 51) (Operand.tmp 53) 56 rfl 0 26 j0 _ 1 24 Try.underlying56 hj0 hy0 hy1 hy2 rfl (by decide) (.slice a L cap) (.slice (some ⟨w4.heap.size, 0, none⟩) 1 1) L 1 ((rows ++ rows').map fun (q : Nat × Row) => rowV c.pl q.1) [rowV c.pl g] rfl (by kernel_rfl) ho5 (src_blk hnb (by simp) (by simp [rowV, Value.oneCell']) 1) (by unfold maxLen; omega) (by omega) (Nat.zero_le _) ?_
        intro v6 w6 ho6 hg6 hat6
        obtain ⟨a6, cap6, rfl, -, -⟩ := own_val ho6
        have hF6 : Fr (Value.slice a L cap).ownBlock.toList w4 w6 := hF5.mono (S' := (Value.slice a L cap).ownBlock.toList) (by simp) |>.trans (fr_grown hg6) (fun x hx => .inl hx)
        have hlm6 := HL.out
        have hl := HasRL.seal (v := .slice a6 (L + 1) cap6) (r := (g, rowOf tk (L : Int))) HL4.out (by rw [hlm6]; omega) HB4.out (by rw [hlm6]; exact HO4.out) hF6 (by rw [hlm6]; exact ho6) (fun x hx => by
            rcases hat6 with e | e
            · rw [e] at hx; exact HB3.out x hx
            · rw [e] at hx
              have : (w4.alloc (.cells #[rowV c.pl g] 26)).heap.size = x := by simpa using hx
              refine hNw1 x ?_
              have h1 := HF14.out.size
              have h3 := hF5.size
              omega) HR4.out (hNw1 g (by rw [HGE.out]; exact Nat.le_refl _))
        have hw9 := (HW1.out.step HF14.out (by simp)).step hl.2 (fun x hx => by
          rcases List.mem_cons.1 hx with e | e
          · subst e; exact .inl HL4.out.pB
          · exact .inl (HB3.out x (by simpa using e)))
        have HL9 := Lib.hid hl.1; have HW9 := Lib.hid hw9
        have k10' : w6.cell? ⟨B, 10, none⟩ = some (.slice a L cap) := (hF6.cell (p := ⟨B, 10, none⟩) (Blk.lt HB4.out) (own_notin HO4.out HB4.out (by decide))).trans c10
        have f10' : w6.frozen? ⟨B, 10, none⟩ = false := Blk.free (hF6.blk HB4.out (own_notin HO4.out HB4.out (by decide))) 10
        clear hl hw9 hlm6 hF6 hat6 hg6 ho6 ho5 hF5 hnb c10
        go_wp2_with fail
        go_roundw
        case rel =>
          refine ⟨m + 1, rows' ++ [(g, rowOf tk (L : Int))], by rw [List.length_append, ← HM.out]; rfl, by go_num, by rw [← List.append_assoc]; exact HL9.out, HW9.out, fun i r' hi => ?_, fun i hi => ?_⟩
          · have hm9 := HM.out; have hLm := HLM.out
            by_cases e : i < rows'.length
            · rw [List.getElem?_append_left e] at hi; exact HGOT.out i r' hi
            · have e2 : i = rows'.length := by
                have := (List.getElem?_eq_some_iff.1 hi).1
                rw [List.length_append, List.length_singleton] at this
                omega
              subst e2
              have e3 : (g, rowOf tk (L : Int)) = r' := by simpa using hi
              subst e3
              rw [← hm9, hLm]
          · have hm9 := HM.out; have hLm := HLM.out
            rw [List.length_append, List.length_singleton] at hi
            by_cases e : i < rows'.length
            · exact HDUE.out i e
            · rw [show rows.length + i = L by omega, HDD.out]; exact q2
        case measure => have := HLM.out; simp [intOf]; omega
end
end Go.Proofs.Ytckodnogjedmnaa.Lo
