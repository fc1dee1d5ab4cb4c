/- chapter 18: the reference's Offer. -/
import Derived.Test.YtckodnogjedmnaaRl3
namespace Go.Proofs.Ytckodnogjedmnaa.Lo
open Go.RowKit Dt Go.Proofs.Ytckodnogjedmnaa.Hd Go.Proofs.Ytckodnogjedmnaa.Cfg Go.Proofs.Ytckodnogjedmnaa.Jt
set_option linter.unusedVariables false
set_option linter.unusedSimpArgs false
section
variable {w w' : World} {P Q : Nat → Prop} {B M cnt : Nat} {c : CfV} {rows : List (Nat × Row)} {tk : Int → Option (Nat × Row)}
/-- a new row for frame f, in the reference's log -/
theorem HasRL.put {f : Int} {r : Nat × Row} {w0 w2 : World} (h : HasRL w0 P B M c rows tk cnt) (hF : Fr [] w0 w) (hr : RB w 66 r.1 r.2 c.pl) (hP : P r.1) {cnt' : Nat}
    (hm : MapW Try.prog 3 w2 M cnt' (fun y => if y = f then some (rowV c.pl r.1) else (tk y).map fun r => rowV c.pl r.1)) (hF2 : Fr [M] w w2) :
    HasRL w2 P B M c rows (fun x => if x = f then some r else tk x) cnt' := by
  have h' := h.fr hF (by simp)
  have hMr := h'.hM hr
  obtain ⟨rv, k1, k2, k3⟩ := h'.blk
  have hMB := h'.hM k1
  have hown : ∀ g, rv.ownBlock = some g → g ∉ [M] := fun g hg hx => by
    have e : g = M := by simpa using hx
    subst e
    obtain ⟨D, ⟨es, clock, h1, -⟩, -⟩ := h'.map.ex
    rcases k2.2 with ⟨h9, -⟩ | ⟨g', cap', cur, h9, -, h8, -⟩
    · rw [h9] at hg; simp [Value.ownBlock] at hg
    · rw [h9] at hg; simp [Value.ownBlock] at hg
      subst hg
      rw [h8] at h1; simp at h1
  exact { h' with
    blk := ⟨rv, hF2.blk k1 (by simpa using hMB.symm), own_keep k2 hF2 hown, k3⟩
    map := hm.congr (fun x hx => by
      by_cases e : x = f
      · simp [e]
      · simp [e])
    rrb := fun r' hr' => ⟨(h'.rrb r' hr').1.fr hF2 (by simpa using (h'.hM (h'.rrb r' hr').1).symm), (h'.rrb r' hr').2⟩
    trb := fun x r' hx => by
      by_cases e : x = f
      · subst e
        rw [if_pos rfl, Option.some.injEq] at hx
        subst hx
        exact ⟨hr.fr hF2 (by simpa using hMr.symm), hP⟩
      · rw [if_neg e] at hx
        exact ⟨(h'.trb x r' hx).1.fr hF2 (by simpa using (h'.hM (h'.trb x r' hx).1).symm), (h'.trb x r' hx).2⟩ }
set_option maxRecDepth 100000 in
set_option maxHeartbeats 3200000 in
theorem roffer_any (h : HasRL w P B M c rows tk cnt) (hcn : cnt ≤ 1000000) (hNew : ∀ x, w.heap.size ≤ x → P x) (s f b x y : Int) : Calls Try.prog 34 #[.pointer (some ⟨B, 0, none⟩), .int .i64 s, .int .i64 f, .agg #[.int .i64 b, .int .i64 x, .int .i64 y]] w fun e w' => ∃ tk' cnt', e = .returned (.int .i64 (offerK c.pl c.fr rows.length (rowOf tk) s f b x y)) ∧ HasRL w' P B M c rows tk' cnt' ∧ Wr P w w' ∧ cnt' ≤ cnt + 1 ∧ rowOf tk' = offerR c.pl c.fr rows.length (rowOf tk) s f b x y := by
  have hN := h.n
  obtain ⟨i0, hi0, hz0, hz1, hz2⟩ := info_parts infC
  have hpl1 := hN.pl1
  have hpl8 := hN.pl8
  have hfr1 := hN.fr1
  have hmk : ∀ w : World, (Instr.makeSlice 26 (.int .i64 (c.pl : Int)) (.int .i64 (c.pl : Int))).run Try.prog w = .ok (.slice (some ⟨w.heap.size, 0, none⟩) c.pl c.pl) (w.alloc (.cells (madeCells #[.bool false, .int .i64 0, .int .i64 0, .int .i64 0] (c.pl * 4)) 66)) := fun w => by
    have h2 := run_makeSlice (P := Try.prog) w 26 66 i0 _ Try.underlying26 hi0 hz0 .i64 .i64 (c.pl : Int) (c.pl : Int) (by omega) (Int.le_refl _) (by rw [hz1]; omega) (by rw [hz2]; omega) (by omega)
    rw [hz1] at h2
    simpa [Value.cells] using h2
  have hsz : (Try.prog.info? 66).map (·.size) = some 4 := by rw [hi0]; simp [hz1]
  have HMK := Lib.hid hmk; have HSZ := Lib.hid hsz
  clear hmk hi0 hz0 hz1 hz2 hsz
  have hfr6 := hN.fr6
  have hlen := h.len
  have hF1 := (Fr.refl [] w).alloc (.cells #[.int .i64 b, .int .i64 x, .int .i64 y] 58)
  have hX := Blk.new w #[.int .i64 b, .int .i64 x, .int .i64 y] 58
  have hl1 := h.fr hF1 (by simp)
  have hcn' := hcn
  have hi1 := is_any s 0 ((c.pl : Int) - 1)
  have hi2 := is_any f 0 ((c.fr : Int) - 1)
  have hri := rin_any b x y
  have same : ∀ {k : Int} {w' : World} {e : Ending}, offerK c.pl c.fr rows.length (rowOf tk) s f b x y = k → k ≠ 1 → e = .returned (.int .i64 k) ∧ Fr [] w w' → ∃ tk' cnt', e = .returned (.int .i64 (offerK c.pl c.fr rows.length (rowOf tk) s f b x y)) ∧ HasRL w' P B M c rows tk' cnt' ∧ Wr P w w' ∧ cnt' ≤ cnt + 1 ∧ rowOf tk' = offerR c.pl c.fr rows.length (rowOf tk) s f b x y := by
    intro k w' e h1 h2 ⟨h3, h4⟩
    refine ⟨tk, cnt, by rw [h1]; exact h3, h.fr h4 (by simp), ⟨[], by simp, h4⟩, by omega, ?_⟩
    unfold offerR
    rw [h1, if_neg h2]
  have HSM := Lib.hid (fun k w' e => @same k w' e)
  have HW := Lib.hid h
  clear h same hcn
  go_enter Try.func34, Try.ntmps34
  go_upto_region 1 with (fail)
  obtain ⟨X, hXe⟩ : ∃ X, w.heap.size = X := ⟨_, rfl⟩
  rw [hXe] at hX ⊢
  have HXE := Lib.hid hXe
  clear hXe
  generalize w.alloc (.cells #[.int .i64 b, .int .i64 x, .int .i64 y] 58) = w1 at *
  have x0 := Blk.cell (i := 0) hX rfl
  have x1 := Blk.cell (i := 1) hX rfl
  have x2 := Blk.cell (i := 2) hX rfl
  simp only [List.getElem_toArray, List.getElem_cons_zero, List.getElem_cons_succ] at x0 x1 x2
  obtain ⟨rv, b1, b2, b3⟩ := hl1.blk
  obtain ⟨a, cap, rfl, -, -⟩ := own_val b2
  have c10 := Blk.cell (i := 10) b1 rfl
  have c0' := Blk.cell (i := 0) b1 rfl
  have c4' := Blk.cell (i := 4) b1 rfl
  simp only [logCells, List.getElem_toArray, List.getElem_cons_zero, List.getElem_cons_succ] at c10 c0' c4'
  obtain ⟨L, hL⟩ : ∃ L, rows.length = L := ⟨_, rfl⟩
  rw [hL] at c10 hlen
  have hlm : L ≤ maxLen := by unfold maxLen; omega
  have HF1 := Lib.hid hF1; have HL1 := Lib.hid hl1; have HL := Lib.hid hL; have HX := Lib.hid hX; have HB1 := Lib.hid b1; have HRI := Lib.hid hri
  clear hF1 hl1 hL hX b1 b2 b3 hri
  by_cases q1 : 0 ≤ s ∧ s < c.pl
  case neg =>
    have hk : offerK c.pl c.fr L (rowOf tk) s f b x y = 5 := by unfold offerK; rw [if_pos (by intro h; exact q1 ⟨h.1, h.2.1⟩)]
    rw [decide_eq_false (show ¬ (0 ≤ s ∧ s ≤ (c.pl : Int) - 1) by omega)] at hi1
    have HI1 := Lib.hid hi1; have HK := Lib.hid hk
    clear hi1 hi2 hk q1
    go_wp2_with fail
    refine (HI1.out _).mono ?_; rintro e w' ⟨rfl, rfl⟩
    go_wp2_with fail
    go_ret
    exact HSM.out 5 _ _ (by rw [HL.out]; exact HK.out) (by decide) ⟨rfl, HF1.out⟩
  case pos =>
    rw [decide_eq_true (show 0 ≤ s ∧ s ≤ (c.pl : Int) - 1 by omega)] at hi1
    have HI1 := Lib.hid hi1
    clear hi1
    by_cases q2 : 0 ≤ f ∧ f < c.fr
    case neg =>
      have hk : offerK c.pl c.fr L (rowOf tk) s f b x y = 5 := by unfold offerK; rw [if_pos (by intro h; exact q2 ⟨h.2.2.1, h.2.2.2.1⟩)]
      rw [decide_eq_false (show ¬ (0 ≤ f ∧ f ≤ (c.fr : Int) - 1) by omega)] at hi2
      have HI2 := Lib.hid hi2; have HK := Lib.hid hk
      clear hi2 hk q2
      go_wp2_with fail
      refine (HI1.out _).mono ?_; rintro e w' ⟨rfl, rfl⟩
      go_wp2_with fail
      refine (HI2.out _).mono ?_; rintro e w' ⟨rfl, rfl⟩
      go_wp2_with fail
      go_ret
      exact HSM.out 5 _ _ (by rw [HL.out]; exact HK.out) (by decide) ⟨rfl, HF1.out⟩
    case pos =>
      rw [decide_eq_true (show 0 ≤ f ∧ f ≤ (c.fr : Int) - 1 by omega)] at hi2
      have HI2 := Lib.hid hi2
      clear hi2
      cases q3 : inB b x y with
      | false =>
        have hk : offerK c.pl c.fr L (rowOf tk) s f b x y = 5 := by unfold offerK; rw [if_pos (by intro h; rw [q3] at h; exact absurd h.2.2.2.2 (by decide))]
        have hri := HRI.out
        rw [q3] at hri
        have HK := Lib.hid hk; have HRI2 := Lib.hid hri
        clear hk hri q3
        go_wp2_with fail
        refine (HI1.out _).mono ?_; rintro e w' ⟨rfl, rfl⟩
        go_wp2_with fail
        refine (HI2.out _).mono ?_; rintro e w' ⟨rfl, rfl⟩
        go_wp2_with fail
        refine (HRI2.out _).mono ?_; rintro e w2 ⟨rfl, hF2⟩
        go_wp2_with fail
        go_ret
        exact HSM.out 5 _ _ (by rw [HL.out]; exact HK.out) (by decide) ⟨rfl, HF1.out.trans hF2 (by simp)⟩
      | true =>
        have hri := HRI.out
        rw [q3] at hri
        have hin : 0 ≤ s ∧ s < c.pl ∧ 0 ≤ f ∧ f < c.fr ∧ inB b x y = true := ⟨q1.1, q1.2, q2.1, q2.2, q3⟩
        have hK : inK f := inK_of (by omega) (by omega)
        have HRI2 := Lib.hid hri; have HIN := Lib.hid hin; have HKF := Lib.hid hK
        clear hri q3 hin hK
        go_wp2_with fail
        refine (HI1.out _).mono ?_; rintro e w' ⟨rfl, rfl⟩
        go_wp2_with fail
        refine (HI2.out _).mono ?_; rintro e w' ⟨rfl, rfl⟩
        go_wp2_with fail
        refine (HRI2.out _).mono ?_; rintro e w2 ⟨rfl, hF2⟩
        clear c10 c0' c4' x0 x1 x2
        have hB2 := hF2.blk HB1.out (by simp)
        have hX2 := hF2.blk HX.out (by simp)
        have c10 := Blk.cell (i := 10) hB2 rfl
        have c11 := Blk.cell (i := 11) hB2 rfl
        have c0' := Blk.cell (i := 0) hB2 rfl
        have x0 := Blk.cell (i := 0) hX2 rfl
        have x1 := Blk.cell (i := 1) hX2 rfl
        have x2 := Blk.cell (i := 2) hX2 rfl
        simp only [logCells, List.getElem_toArray, List.getElem_cons_zero, List.getElem_cons_succ] at c10 c11 c0' x0 x1 x2
        rw [HL.out] at c10
        have HF2 := Lib.hid (HF1.out.trans hF2 (by simp)); have HL2 := Lib.hid (HL1.out.fr hF2 (by simp)); have HX2 := Lib.hid hX2; have HBB2 := Lib.hid hB2
        clear hF2 hB2 hX2
        have hlk := HL2.out.map.look1 intTy mapTy (zeroRow _) HKF.out
        obtain ⟨s', rfl⟩ : ∃ s' : Nat, s = s' := ⟨s.toNat, by omega⟩
        have hsp : s' < c.pl := by omega
        by_cases q4 : f < L
        · have hk : offerK c.pl c.fr L (rowOf tk) s' f b x y = 2 := by unfold offerK; rw [if_neg (by have := HIN.out; simpa using this), if_pos q4]
          have HK := Lib.hid hk
          clear hk
          obtain ⟨rw', hrw⟩ : ∃ v, ((tk f).map fun r => rowV c.pl r.1).getD (.slice none 0 0) = v := ⟨_, rfl⟩
          rw [hrw] at hlk
          clear hrw
          go_wp2_with fail
          go_ret
          exact HSM.out 2 _ _ (by rw [HL.out]; exact HK.out) (by decide) ⟨rfl, HF2.out⟩
        · by_cases q5 : (L : Int) + 64 ≤ f
          · have hk : offerK c.pl c.fr L (rowOf tk) s' f b x y = 3 := by unfold offerK; rw [if_neg (by have := HIN.out; simpa using this), if_neg q4, if_pos q5]
            have HK := Lib.hid hk
            clear hk
            obtain ⟨rw', hrw⟩ : ∃ v, ((tk f).map fun r => rowV c.pl r.1).getD (.slice none 0 0) = v := ⟨_, rfl⟩
            rw [hrw] at hlk
            clear hrw
            go_wp2_with fail
            go_ret
            exact HSM.out 3 _ _ (by rw [HL.out]; exact HK.out) (by decide) ⟨rfl, HF2.out⟩
          · have hke : offerK c.pl c.fr L (rowOf tk) s' f b x y = if (rowOf tk f s').1 = true then 4 else 1 := by unfold offerK; rw [if_neg (by have := HIN.out; simpa using this), if_neg q4, if_neg q5, Int.toNat_natCast]
            have q4' : ¬ f < (L : Int) := q4
            have q5' : ¬ (L : Int) + 64 ≤ f := q5
            have HKE := Lib.hid hke
            have hput : ∀ {w3 w6 w7 : World} {g cnt' : Nat}, offerK c.pl c.fr L (rowOf tk) s' f b x y = 1 → Fr [] w2 w3 → w2.heap.size ≤ g → RB w3 66 g (put1 (rowOf tk f) s' (true, b, x, y)) c.pl → cnt' ≤ cnt + 1 → MapW Try.prog 3 w7 M cnt' (fun z => if z = f then some (rowV c.pl g) else (tk z).map fun r => rowV c.pl r.1) → Fr [M] w3 w7 → ∃ tk' cnt', (Ending.returned (.int .i64 1) : Ending) = .returned (.int .i64 (offerK c.pl c.fr rows.length (rowOf tk) s' f b x y)) ∧ HasRL w7 P B M c rows tk' cnt' ∧ Wr P w w7 ∧ cnt' ≤ cnt + 1 ∧ rowOf tk' = offerR c.pl c.fr rows.length (rowOf tk) s' f b x y := by
              intro w3 w6 w7 g cnt' h1 h2 h3 h4 h5 h6 h7
              have h8 := HL2.out.put (r := (g, put1 (rowOf tk f) s' (true, b, x, y))) h2 h4 (hNew g (Nat.le_trans HF2.out.size h3)) h6 h7
              refine ⟨_, cnt', by rw [HL.out, h1], h8, ((Wr.refl P w).step (HF2.out.trans h2 (by simp)) (by simp)).step h7 (fun z hz => .inl (by
                have : z = M := by simpa using hz
                rw [this]; exact HL2.out.pM)), h5, ?_⟩
              rw [HL.out, offerR_put h1, Int.toNat_natCast]
              exact rowOf_off (fun z hz => by simp [hz]) ⟨g, by simp⟩
            have HPUT := Lib.hid (fun w3 w6 w7 g cnt' => @hput w3 w6 w7 g cnt')
            clear hput hke
            cases hg : tk f with
            | some r =>
              rw [hg] at hlk
              have hlk' : (Instr.lookup 33 (.map (some M)) (.int .i64 f) false).run Try.prog w2 = .ok (.slice (some ⟨r.1, 0, none⟩) c.pl c.pl) w2 := hlk
              have hro : rowOf tk f = r.2 := by unfold rowOf; rw [hg]
              have hrb := (HL2.out.trb f r hg).1
              obtain ⟨⟨re, bu, xx, yy⟩, hC⟩ : ∃ C, r.2 s' = C := ⟨_, rfl⟩
              have d0 : w2.cell? ⟨r.1, s' * 4, none⟩ = _ := hrb.cell hsp (j := 0) (by omega) rfl
              rw [hC] at d0
              dsimp only at d0
              have hpl0 : (0 : Int) < c.pl := by omega
              have hsI : (s' : Int) < c.pl := by omega
              have HRO := Lib.hid hro; have HRB := Lib.hid hrb; have HCC := Lib.hid hC
              clear hg hlk hro hrb hC
              cases re with
              | true =>
                go_wp2_with fail
                go_ret
                exact HSM.out 4 _ _ (by rw [HL.out, HKE.out, HRO.out, HCC.out]; rfl) (by decide) ⟨rfl, HF2.out⟩
              | false =>
                have hk1 : offerK c.pl c.fr L (rowOf tk) s' f b x y = 1 := by rw [HKE.out, HRO.out, HCC.out]; rfl
                have hcp : ∀ (w3 : World) (g : Nat), Fr [] w2 w3 → w2.heap.size ≤ g → RB w3 66 g (fun _ => c0) c.pl → ∃ w4, (∀ ty, (Builtin.copy_ #[26, 26] ty #[.slice (some ⟨g, 0, none⟩) c.pl c.pl, .slice (some ⟨r.1, 0, none⟩) c.pl c.pl]).run Try.prog w3 = .ok (goInt c.pl) w4) ∧ RB w4 66 g (rowOf tk f) c.pl ∧ Fr [g] w3 w4 := fun w3 g h1 h2 h3 => by
                  have h4 := HRB.out.fr h1 (by simp)
                  have hne : r.1 ≠ g := by have := HRB.out.lt; omega
                  refine ⟨w3.setRow g (rc r.2 c.pl).toArray, fun ty => run_copy_rows w3 _ _ ty 66 g c.pl c.pl 4 ⟨r.1, 0, none⟩ c.pl _ 66 (rc r.2 c.pl) Try.underlying26 HSZ.out h3 (rc_len _ _) (by simp [rc_len]) (fun j v hv => ?_) (rc_one _ _), ?_, fr_setRow⟩
                  · have e : (⟨r.1, 0, none⟩ : Addr).add j = ⟨r.1, j, none⟩ := by unfold Addr.add; split <;> simp_all
                    rw [e]
                    exact Blk.cell h4 (by simpa using hv)
                  · rw [HRO.out]
                    exact setRow_heap w3 g _ _ _ (0, 0) h3
                have HCP := Lib.hid hcp; have HK1 := Lib.hid hk1
                clear hcp hk1 HRO HCC HKE
                have hmk9 := HMK.out w2
                have hrb := RB.new w2 66 c.pl
                have hF3 := (Fr.refl [] w2).alloc (.cells (madeCells #[.bool false, .int .i64 0, .int .i64 0, .int .i64 0] (c.pl * 4)) 66)
                have HRB3 := Lib.hid hrb; have HF3 := Lib.hid hF3
                clear hrb hF3
                go_upto_region 12 with (fail)
                obtain ⟨g, hge⟩ : ∃ g, w2.heap.size = g := ⟨_, rfl⟩
                rw [hge]
                have hrb := HRB3.out; have hF3 := HF3.out
                rw [hge] at hrb
                have HGE := Lib.hid hge
                clear hge HRB3 HF3 hmk9 hlk'
                generalize w2.alloc (.cells (madeCells #[.bool false, .int .i64 0, .int .i64 0, .int .i64 0] (c.pl * 4)) 66) = w3 at *
                obtain ⟨w4, hcp, hr4, hF4⟩ := HCP.out w3 g hF3 (by rw [← HGE.out]; exact Nat.le_refl _) hrb
                have hgX : g ≠ X := rb_ne hrb (hF3.blk HX2.out (by simp)) (by decide)
                have hX4 := hF4.blk (hF3.blk HX2.out (by simp)) (by simpa using hgX.symm)
                have x0 := Blk.cell (i := 0) hX4 rfl
                have x1 := Blk.cell (i := 1) hX4 rfl
                have x2 := Blk.cell (i := 2) hX4 rfl
                simp only [List.getElem_toArray, List.getElem_cons_zero, List.getElem_cons_succ] at x0 x1 x2
                have hF24 : Fr [] w2 w4 := hF3.trans hF4 (fun z hz => .inr (by
                  have : z = g := by simpa using hz
                  rw [this, ← HGE.out]; exact Nat.le_refl _))
                have hth := Blk.there hr4 (s' * 4) 4 (by simp [rc_len]; omega)
                have HR4 := Lib.hid hr4; have HF24 := Lib.hid hF24
                clear hr4 hF4 hX4 hF24 hrb hF3 hgX c10 c11 c0'
                go_upto_region 13 with (fail)
                apply wp_region_lit
                iterate 5 (refine wpList_plain rfl (fun K hK => ?_); go_simp; refine hK _ _ ?_; clear hK K)
                refine wpList_store_mid rfl 66 (Operand.tmp 81) (Operand.tmp 80) rfl g (s' * 4) #[.bool true, .int .i64 b, .int .i64 x, .int .i64 y] rfl rfl hth (by kernel_rfl) (by simp [Value.oneCell']) ?_
                change wpList _ _ _ _ _ (w4.setCells g (s' * 4) (c4 (true, b, x, y)))
                have hr5 := HR4.out.set hsp (true, b, x, y)
                have hF5 := Fr.setCells (S := [g]) (a := w4) (b := g) (.inl (by simp)) (c4 (true, b, x, y)) (s' * 4) w4 (Fr.refl _ _)
                have hF25 : Fr [] w2 (w4.setCells g (s' * 4) (c4 (true, b, x, y))) := HF24.out.trans hF5 (fun z hz => .inr (by
                  have : z = g := by simpa using hz
                  rw [this, ← HGE.out]; exact Nat.le_refl _))
                have HR5 := Lib.hid hr5; have HF25 := Lib.hid hF25
                clear hr5 hF5 hF25 hth hcp x0 x1 x2
                generalize w4.setCells g (s' * 4) (c4 (true, b, x, y)) = w5 at *
                have hB5 := HF25.out.blk HBB2.out (by simp)
                have c11 := Blk.cell (i := 11) hB5 rfl
                simp only [logCells, List.getElem_toArray, List.getElem_cons_zero, List.getElem_cons_succ] at c11
                clear hB5
                obtain ⟨w7, hst, hm7, hF7⟩ := (HL2.out.map.fr HF25.out (by simp)).store intTy mapTy (by unfold maxLen; omega) HKF.out (rowV c.pl g)
                have hst' : (Instr.mapUpdate 33 (.map (some M)) (.int .i64 f) (.slice (some ⟨g, 0, none⟩) c.pl c.pl)).run Try.prog w5 = .ok () w7 := hst
                have HM7 := Lib.hid hm7; have HF7 := Lib.hid hF7
                clear hst hm7 hF7
                go_wp2_with fail
                go_ret
                exact HPUT.out w5 w5 w7 g _ HK1.out HF25.out (by rw [← HGE.out]; exact Nat.le_refl _) HR5.out (by split <;> omega) HM7.out HF7.out
            | none =>
              rw [hg] at hlk
              have hlk' : (Instr.lookup 33 (.map (some M)) (.int .i64 f) false).run Try.prog w2 = .ok (.slice none 0 0) w2 := hlk
              have hro : rowOf tk f = fun _ => c0 := by unfold rowOf; rw [hg]
              have hk1 : offerK c.pl c.fr L (rowOf tk) s' f b x y = 1 := by rw [HKE.out, hro]; rfl
              have hcp : ∀ (w3 : World) (g : Nat), Fr [] w2 w3 → w2.heap.size ≤ g → RB w3 66 g (fun _ => c0) c.pl → ∃ w4, (∀ ty, (Builtin.copy_ #[26, 26] ty #[.slice (some ⟨g, 0, none⟩) c.pl c.pl, .slice none 0 0]).run Try.prog w3 = .ok (goInt 0) w4) ∧ RB w4 66 g (rowOf tk f) c.pl ∧ Fr [g] w3 w4 := fun w3 g h1 h2 h3 =>
                ⟨w3, fun ty => run_copy_nil _ w3 _ _ ty 66 _ _ _ Try.underlying26 (by rw [HSZ.out]; rfl), by rw [hro]; exact h3, Fr.refl _ _⟩
              have HCP := Lib.hid hcp; have HK1 := Lib.hid hk1
              clear hcp hk1 hro hg hlk HKE
              have hmk9 := HMK.out w2
              have hrb := RB.new w2 66 c.pl
              have hF3 := (Fr.refl [] w2).alloc (.cells (madeCells #[.bool false, .int .i64 0, .int .i64 0, .int .i64 0] (c.pl * 4)) 66)
              have HRB3 := Lib.hid hrb; have HF3 := Lib.hid hF3
              clear hrb hF3
              go_upto_region 12 with (fail)
              obtain ⟨g, hge⟩ : ∃ g, w2.heap.size = g := ⟨_, rfl⟩
              rw [hge]
              have hrb := HRB3.out; have hF3 := HF3.out
              rw [hge] at hrb
              have HGE := Lib.hid hge
              clear hge HRB3 HF3 hmk9 hlk'
              generalize w2.alloc (.cells (madeCells #[.bool false, .int .i64 0, .int .i64 0, .int .i64 0] (c.pl * 4)) 66) = w3 at *
              obtain ⟨w4, hcp, hr4, hF4⟩ := HCP.out w3 g hF3 (by rw [← HGE.out]; exact Nat.le_refl _) hrb
              have hgX : g ≠ X := rb_ne hrb (hF3.blk HX2.out (by simp)) (by decide)
              have hX4 := hF4.blk (hF3.blk HX2.out (by simp)) (by simpa using hgX.symm)
              have x0 := Blk.cell (i := 0) hX4 rfl
              have x1 := Blk.cell (i := 1) hX4 rfl
              have x2 := Blk.cell (i := 2) hX4 rfl
              simp only [List.getElem_toArray, List.getElem_cons_zero, List.getElem_cons_succ] at x0 x1 x2
              have hF24 : Fr [] w2 w4 := hF3.trans hF4 (fun z hz => .inr (by
                have : z = g := by simpa using hz
                rw [this, ← HGE.out]; exact Nat.le_refl _))
              have hth := Blk.there hr4 (s' * 4) 4 (by simp [rc_len]; omega)
              have HR4 := Lib.hid hr4; have HF24 := Lib.hid hF24
              clear hr4 hF4 hX4 hF24 hrb hF3 hgX c10 c11 c0'
              go_upto_region 13 with (fail)
              apply wp_region_lit
              iterate 5 (refine wpList_plain rfl (fun K hK => ?_); go_simp; refine hK _ _ ?_; clear hK K)
              refine wpList_store_mid rfl 66 (Operand.tmp 81) (Operand.tmp 80) rfl g (s' * 4) #[.bool true, .int .i64 b, .int .i64 x, .int .i64 y] rfl rfl hth (by kernel_rfl) (by simp [Value.oneCell']) ?_
              change wpList _ _ _ _ _ (w4.setCells g (s' * 4) (c4 (true, b, x, y)))
              have hr5 := HR4.out.set hsp (true, b, x, y)
              have hF5 := Fr.setCells (S := [g]) (a := w4) (b := g) (.inl (by simp)) (c4 (true, b, x, y)) (s' * 4) w4 (Fr.refl _ _)
              have hF25 : Fr [] w2 (w4.setCells g (s' * 4) (c4 (true, b, x, y))) := HF24.out.trans hF5 (fun z hz => .inr (by
                have : z = g := by simpa using hz
                rw [this, ← HGE.out]; exact Nat.le_refl _))
              have HR5 := Lib.hid hr5; have HF25 := Lib.hid hF25
              clear hr5 hF5 hF25 hth hcp x0 x1 x2
              generalize w4.setCells g (s' * 4) (c4 (true, b, x, y)) = w5 at *
              have hB5 := HF25.out.blk HBB2.out (by simp)
              have c11 := Blk.cell (i := 11) hB5 rfl
              simp only [logCells, List.getElem_toArray, List.getElem_cons_zero, List.getElem_cons_succ] at c11
              clear hB5
              obtain ⟨w7, hst, hm7, hF7⟩ := (HL2.out.map.fr HF25.out (by simp)).store intTy mapTy (by unfold maxLen; omega) HKF.out (rowV c.pl g)
              have hst' : (Instr.mapUpdate 33 (.map (some M)) (.int .i64 f) (.slice (some ⟨g, 0, none⟩) c.pl c.pl)).run Try.prog w5 = .ok () w7 := hst
              have HM7 := Lib.hid hm7; have HF7 := Lib.hid hF7
              clear hst hm7 hF7
              go_wp2_with fail
              go_ret
              exact HPUT.out w5 w5 w7 g _ HK1.out HF25.out (by rw [← HGE.out]; exact Nat.le_refl _) HR5.out (by split <;> omega) HM7.out HF7.out
end
end Go.Proofs.Ytckodnogjedmnaa.Lo
