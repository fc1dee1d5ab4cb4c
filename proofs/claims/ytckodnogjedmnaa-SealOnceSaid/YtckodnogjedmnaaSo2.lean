/- chapter 18: SealOnce. -/
import Derived.Test.YtckodnogjedmnaaSo
import Derived.Laws.EntriesVeiled
namespace Go.Proofs.Ytckodnogjedmnaa.Lo
open Go.RowKit Dt Go.Proofs.Ytckodnogjedmnaa.Hd Go.Proofs.Ytckodnogjedmnaa.Cfg Go.Proofs.Ytckodnogjedmnaa.Jt Go.Proofs.Ytckodnogjedmnaa.FlW Ieee
set_option linter.unusedVariables false
set_option linter.unusedSimpArgs false
attribute [local go_sem] run_store_float
set_option maxRecDepth 100000 in
set_option maxHeartbeats 51200000 in
theorem walk_once (xp xq xg xs xf xd xr : Int) (ra : Option Addr) (rl rc : Nat) (z0 : Nat → Int × Int × Int) (a1 : Option Addr) (len1 cap1 : Nat) (z1 : Nat → A8) (W : World) (s0 : SlR W ra rl rc z0) (s1 : SlAc W a1 len1 cap1 z1) :
    Calls Try.prog 7 #[.agg #[.int .i64 xp, .int .i64 xq, .int .i64 xg, .int .i64 xs, .int .i64 xf, .int .i64 xd, .int .i64 xr, .slice ra rl rc], .slice a1 len1 cap1] W fun e w' => e = .returned (.bool true) ∧ Below W.heap.size W w' := by
  have HS1 := Lib.hid s1
  have hlm1 : len1 ≤ maxLen := Nat.le_trans s1.le s1.max
  have hmm := @run_makeMap Try.prog
  have hzi : ∀ w, (zeroValue 58).run Try.prog w = .ok (.agg #[.int .i64 0, .int .i64 0, .int .i64 0]) w := fun _ => by kernel_rfl
  have HZI := Lib.hid hzi
  clear hzi
  have hF0 := (Fr.refl [] W).alloc (.cells #[.int .i64 xp, .int .i64 xq, .int .i64 xg, .int .i64 xs, .int .i64 xf, .int .i64 xd, .int .i64 xr, .slice ra rl rc] 42)
  have hs5 : SlR (W.alloc (.cells #[.int .i64 xp, .int .i64 xq, .int .i64 xg, .int .i64 xs, .int .i64 xf, .int .i64 xd, .int .i64 xr, .slice ra rl rc] 42)) ra rl rc z0 := by
    obtain ⟨h1, h2, h3, h4⟩ := s0
    refine ⟨h1, h2, h3, fun hp => ?_⟩
    obtain ⟨b, off, e1, e2, e3⟩ := h4 hp
    refine ⟨b, off, e1, Nat.lt_of_lt_of_le e2 hF0.size, fun i hi => ?_⟩
    obtain ⟨k1, k2, k3⟩ := e3 i hi
    exact ⟨(hF0.cell (p := ⟨b, off + i * 3, none⟩) e2 (by simp)).trans k1, (hF0.cell (p := ⟨b, off + (i * 3 + 1), none⟩) e2 (by simp)).trans k2, (hF0.cell (p := ⟨b, off + (i * 3 + 2), none⟩) e2 (by simp)).trans k3⟩
  clear s0 s1
  have HF0 := Lib.hid hF0; have HS5 := Lib.hid hs5
  clear hF0 hs5
  go_enter Try.func7, Try.ntmps7
  go_wp2_with fail
  refine (config_any HS5.out).mono ?_; rintro e w2 ⟨c, l, tk, rfl, hc, hf5, hf94, hF2⟩
  have HF2 := Lib.hid (HF0.out.trans hF2 (by simp))
  have HC := Lib.hid hc
  dsimp only [CfV.v]
  clear hc hF2 HF0 HS5
  go_upto_region 2 with (fail)
  have hX := Blk.new w2 (cfgC c) 46
  have hF3 := (Fr.refl [] w2).alloc (.cells (cfgC c) 46)
  have hc3 := HC.out.fr hF3 (by simp) (by simp)
  have HF3 := Lib.hid (HF2.out.trans hF3 (by simp))
  obtain ⟨g, hg⟩ : ∃ g, w2.heap.size = g := ⟨_, rfl⟩
  rw [hg] at hX ⊢
  have hgs : W.heap.size ≤ g := by rw [← hg]; exact HF2.out.size
  clear hg hF3 HF2 HC
  dsimp only [cfgC] at hX hc3 HF3
  generalize w2.alloc (.cells #[.int .i64 c.pl, .int .i64 c.per, .int .i64 c.gr, .int .i64 c.st, .int .i64 c.fr, .int .i64 c.seed, .float .f64 c.rate, .float .f64 c.depth, .slice c.ra c.rl c.rc, .slice c.ta c.tl c.tc] 46) = w3 at *
  have x0 := Blk.cell (i := 0) hX rfl
  have x1 := Blk.cell (i := 1) hX rfl
  have x2 := Blk.cell (i := 2) hX rfl
  have x3 := Blk.cell (i := 3) hX rfl
  have x4 := Blk.cell (i := 4) hX rfl
  have x5 := Blk.cell (i := 5) hX rfl
  have x6 := Blk.cell (i := 6) hX rfl
  have x7 := Blk.cell (i := 7) hX rfl
  have x8 := Blk.cell (i := 8) hX rfl
  have x9 := Blk.cell (i := 9) hX rfl
  simp only [List.getElem_toArray, List.getElem_cons_zero, List.getElem_cons_succ] at x0 x1 x2 x3 x4 x5 x6 x7 x8 x9
  have hnew := lnew_s hc3
  dsimp only [CfV.v] at hnew
  have HNEW := Lib.hid hnew; have HX := Lib.hid hX; have HC3 := Lib.hid hc3
  clear hnew hX hc3
  go_wp2_with fail
  refine HNEW.out.mono ?_; rintro e w4 ⟨B, M, rfl, hl4, hF4⟩
  have HL4 := Lib.hid hl4.there
  have HF4 := Lib.hid hF4
  have HX4 := Lib.hid (hF4.blk HX.out (by simp))
  have hg3 := HX.out.lt
  clear x0 x1 x2 x3 x4 x5 x6 x7 x8 x9 hl4 hF4
  go_wp2_with fail
  refine (lknown_any _).mono ?_; rintro e w6 ⟨rfl, hF6⟩
  have hX : Fr [] w6 (w6.alloc (.map #[] 0)) := (Fr.refl [] w6).alloc _
  have hm := MapW.made w6 Try.prog 3
  have hsz7 : (w6.alloc (.map #[] 0)).heap.size = w6.heap.size + 1 := by show (w6.heap.push _).size = _; simp
  have hOn : On W (w6.alloc (.map #[] 0)) g c B M w6.heap.size [] (.slice none 0 0) 0 0 0 0 (fun _ _ => c0) (fun _ => none) := by
    have h3 := HF3.out.size
    have h4 := HF4.out.size
    have h6 := hF6.size
    have h64 := (hF6.trans hX (by simp) : Fr [] w4 _)
    exact {
      fr := (HF3.out.trans HF4.out (by simp)).trans h64 (by simp)
      cfg := h64.blk HX4.out (by simp)
      log := (HL4.out.fr h64 (by simp)).wider (fun x hx => ⟨by omega, by omega, by omega, .inr (Nat.zero_le _)⟩)
      rv := RowsT.nil _ _ _ _ _
      map := ⟨0, hm.congr (fun _ _ => rfl), Nat.le_refl _⟩
      gF := by omega
      gW := hgs
      FW := by omega
      tl := Nat.zero_le _
      gbt := ⟨.inr (Nat.zero_le _), .inr (Nat.zero_le _)⟩
      got := fun k hk => by simp at hk
      wait := fun x hx p hp => rfl
      due := fun k hk => by simp at hk }
  have HON := Lib.hid hOn
  have hN := HL4.out.cf
  have hpl1 := hN.pl1
  have hpl8 := hN.pl8
  have hfr6 := hN.fr6
  clear hOn hm hX hsz7 hN hF6  HL4 HF4 HX4 HX HF3 HC3 HNEW hg3
  go_wp2_with fail
  generalize w6.alloc (.map #[] 0) = w7 at *
  generalize w6.heap.size = F at *
  go_loopw [9, 10, 11] (fun vr tv iv wr => ∃ (i tick : Nat) (rows : List (Nat × Row)) (b t : Nat) (R : Int → Row) (f : Int → Option In3), iv = .int .i64 i ∧ i ≤ len1 ∧ i ≤ 80 ∧ tv = .int .i64 tick ∧ tick ≤ 3 * i ∧ On W wr g c B M F rows vr b t tick i R f) (fun _ _ iv _ => 81 - (intOf iv).toNat)
  case atStart => exact ⟨0, 0, _, _, _, _, _, rfl, Nat.zero_le _, Nat.zero_le _, rfl, Nat.zero_le _, HON.out⟩
  case round =>
    clear HON
    obtain ⟨i, tick, rows, b, t, R, f, rfl, hi1, hi80, rfl, htk, hOn⟩ := hrel
    have HON := Lib.hid hOn
    have hL6 := hOn.log.len
    obtain ⟨L, hL⟩ : ∃ L, rows.length = L := ⟨_, rfl⟩
    have hrv : ∃ va vc, u9 = .slice va L vc := by
      obtain ⟨vs, ⟨h1, -⟩, -⟩ := hOn.rv
      obtain ⟨va, vc, e, -, -⟩ := own_val h1
      exact ⟨va, vc, by rw [← hL]; exact e⟩
    rw [hL] at hL6
    obtain ⟨va, vc, rfl⟩ := hrv
    have hlm : L ≤ maxLen := by unfold maxLen; omega
    have HL := Lib.hid hL
    clear hOn hL
    by_cases q : i < len1 ∧ i < 80
    case neg =>
      by_cases q1 : i < len1
      · have q2 : ¬ (i : Int) < 80 := by omega
        have q1' : (i : Int) < len1 := by omega
        clear q q1
        go_wp2_with fail
        go_ret
        exact ⟨rfl, HON.out.fr.below (Nat.le_refl _) (by simp)⟩
      · have q1' : ¬ (i : Int) < len1 := by omega
        clear q q1
        go_wp2_with fail
        go_ret
        exact ⟨rfl, HON.out.fr.below (Nat.le_refl _) (by simp)⟩
    case pos =>
      obtain ⟨q1, q2⟩ := q
      have q1' : (i : Int) < len1 := by omega
      have q2' : (i : Int) < 80 := by omega
      obtain ⟨ba, off, rfl, hba, k0, k1, k2, k3, k4, k5, k6, k7⟩ := (HS1.out.fr (fun b hb => HON.out.fr.block b hb (by simp)) HON.out.fr.size).get q1
      obtain ⟨⟨zw, zs, zf, zn, zm, zb, zx, zy⟩, hz⟩ : ∃ z, z1 i = z := ⟨_, rfl⟩
      rw [hz] at k0 k1 k2 k3 k4 k5 k6 k7
      dsimp only at k0 k1 k2 k3 k4 k5 k6 k7
      clear hz hba
      go_upto_region 12 with (fail)
      have hOn1 := HON.out.fr0 ((Fr.refl [] wr).alloc (.cells #[.int .i64 zw, .int .i64 zs, .int .i64 zf, .int .i64 zn, .int .i64 zm, .int .i64 zb, .int .i64 zx, .int .i64 zy] 60))
      have hBX := Blk.new wr #[.int .i64 zw, .int .i64 zs, .int .i64 zf, .int .i64 zn, .int .i64 zm, .int .i64 zb, .int .i64 zx, .int .i64 zy] 60
      have hTh := HON.out.log.there.fr ((Fr.refl [] wr).alloc (.cells #[.int .i64 zw, .int .i64 zs, .int .i64 zf, .int .i64 zn, .int .i64 zm, .int .i64 zb, .int .i64 zx, .int .i64 zy] 60)) (by simp)
      clear HON k0 k1 k2 k3 k4 k5 k6 k7
      generalize wr.alloc (.cells #[.int .i64 zw, .int .i64 zs, .int .i64 zf, .int .i64 zn, .int .i64 zm, .int .i64 zb, .int .i64 zx, .int .i64 zy] 60) = w1 at *
      generalize wr.heap.size = bx at *
      have a0 := Blk.cell (i := 0) hBX rfl
      have a1 := Blk.cell (i := 1) hBX rfl
      have a2 := Blk.cell (i := 2) hBX rfl
      have a3 := Blk.cell (i := 3) hBX rfl
      have a4 := Blk.cell (i := 4) hBX rfl
      have g0 := Blk.cell (i := 0) hOn1.cfg rfl
      have g4 := Blk.cell (i := 4) hOn1.cfg rfl
      simp only [cfgC, List.getElem_toArray, List.getElem_cons_zero, List.getElem_cons_succ] at a0 a1 a2 a3 a4 g0 g4
      have HON := Lib.hid hOn1; have HBX := Lib.hid hBX; have HTH := Lib.hid hTh
      clear hOn1 hBX hTh
      by_cases hc : zw.tmod 4 = 3
      case neg =>
        have hc1 : (zw.tmod 4 == 3) = false := by simp [hc]
        clear hc
        go_wp2_with fail
        refine (pick_any _ _ _ (by omega) (by omega)).mono ?_; rintro e w' ⟨rfl, rfl⟩
        obtain ⟨s, hs⟩ : ∃ s : Nat, zs % (c.pl : Int) = s := ⟨(zs % c.pl).toNat, by have := Int.emod_nonneg zs (show (c.pl : Int) ≠ 0 by omega); omega⟩
        have hs8 : s < c.pl := by have := Int.emod_lt_of_pos zs (show (0 : Int) < c.pl by omega); omega
        rw [hs]; clear hs
        go_wp2_with fail
        refine (pick_any _ _ _ (by decide) (by decide)).mono ?_; rintro e w' ⟨rfl, rfl⟩
        obtain ⟨d, hd⟩ : ∃ d : Nat, zf % 70 = d := ⟨(zf % 70).toNat, by omega⟩
        have hd70 : d < 70 := by omega
        rw [hd]; clear hd
        go_upto_region 15 with (fail)
        obtain ⟨fx, hfx⟩ : ∃ fx : Int, (L : Int) + d - 2 = fx := ⟨_, rfl⟩
        have hfx1 : (L : Int) - 2 ≤ fx ∧ fx ≤ L + 67 := by omega
        rw [hfx]
        clear hfx hd70
        go_wp2_with fail
        refine (input_any _ _ _).mono ?_; rintro e w2 ⟨ib, ix, iy, rfl, hin, hF2⟩
        go_upto_region 16 with (fail)
        have hOn2 := (HON.out.fr0 hF2).fr0 ((Fr.refl [] w2).alloc (.cells #[.int .i64 ib, .int .i64 ix, .int .i64 iy] 58))
        have hBY := Blk.new w2 #[.int .i64 ib, .int .i64 ix, .int .i64 iy] 58
        have hHI := Lib.hid hin
        have hbY : bx < w2.heap.size := Nat.lt_of_lt_of_le HBX.out.lt hF2.size
        have HTH3 := Lib.hid ((HTH.out.fr hF2 (by simp)).fr ((Fr.refl [] w2).alloc (.cells #[.int .i64 ib, .int .i64 ix, .int .i64 iy] 58)) (by simp))
        clear HTH hF2 a0 a1 a2 a3 a4 g0 g4 HON HBX hin
        generalize w2.alloc (.cells #[.int .i64 ib, .int .i64 ix, .int .i64 iy] 58) = w3 at *
        generalize w2.heap.size = bY at *
        have hkx : inK (fx * 8 + s) := inK_of (by omega) (by omega)
        obtain ⟨v1, v2, v3, hlk⟩ : ∃ v1 v2 v3 : Int, (Instr.lookup 55 (.map (some F)) (.int .i64 (fx * 8 + s)) true).run Try.prog w3 = .ok (.tuple #[.agg #[.int .i64 v1, .int .i64 v2, .int .i64 v3], .bool (f (fx * 8 + s)).isSome]) w3 := by
          obtain ⟨cnt, hm, -⟩ := hOn2.map
          have h1 := hm.look Try.underlying3 Try.underlying55 (HZI.out _) hkx
          cases hfk : f (fx * 8 + s) with
          | none => rw [hfk] at h1; exact ⟨0, 0, 0, h1⟩
          | some z => rw [hfk] at h1; exact ⟨z.1, z.2.1, z.2.2, h1⟩
        obtain ⟨hd, hdf⟩ : ∃ hd, (f (fx * 8 + s)).isSome = hd := ⟨_, rfl⟩
        rw [hdf] at hlk
        have HDF := Lib.hid hdf; have HKX := Lib.hid hkx; have HBY := Lib.hid hBY; have HON2 := Lib.hid hOn2
        clear hdf hkx hBY hOn2
        go_upto_region 17 with (fail)
        have hOn3 := HON2.out.fr0 ((Fr.refl [] w3).alloc (.cells #[.int .i64 v1, .int .i64 v2, .int .i64 v3] 58))
        have hBY := ((Fr.refl [] w3).alloc (.cells #[.int .i64 v1, .int .i64 v2, .int .i64 v3] 58)).blk HBY.out (by simp)
        have HTH4 := Lib.hid (HTH3.out.fr ((Fr.refl [] w3).alloc (.cells #[.int .i64 v1, .int .i64 v2, .int .i64 v3] 58)) (by simp))
        clear hlk HON2 HBY HTH3
        generalize w3.alloc (.cells #[.int .i64 v1, .int .i64 v2, .int .i64 v3] 58) = w4 at *
        generalize w3.heap.size = bz at *
        have b0 := Blk.cell (i := 0) hBY rfl
        have b1 := Blk.cell (i := 1) hBY rfl
        have b2 := Blk.cell (i := 2) hBY rfl
        simp only [List.getElem_toArray, List.getElem_cons_zero, List.getElem_cons_succ] at b0 b1 b2
        have HON3 := Lib.hid hOn3; have HBY := Lib.hid hBY
        clear hOn3 hBY
        go_wp2_with fail
        as_aux_lemma =>
          refine (off_s (P := fun x => (W.heap.size ≤ x ∧ x ≠ g ∧ x ≠ F ∧ (x < b ∨ t ≤ x)) ∧ (x < bx ∨ w4.heap.size ≤ x)) (HTH4.out.wider (fun x hx => ⟨hx.1, .inl hx.2⟩)) (by omega) (fun x hx => ⟨HON3.out.new x hx, .inr hx⟩) s fx ib ix iy).mono ?_; rintro e w5 ⟨rfl, hl5, hW5⟩
          have hBY := wr_blk hW5 HBY.out (fun hx => by have := HBY.out.lt; have := hx.2; omega)
          have hl5' := hl5.wider (Q := fun x => W.heap.size ≤ x ∧ x ≠ g ∧ x ≠ F ∧ (x < b ∨ t ≤ x)) (fun x hx => hx.1)
          have hW5' : Wr (fun x => W.heap.size ≤ x ∧ x ≠ g ∧ x ≠ F ∧ (x < b ∨ t ≤ x)) w4 w5 := by
            obtain ⟨S, h1, h2⟩ := hW5; exact ⟨S, fun x hx => (h1 x hx).1, h2⟩
          have g4 := Blk.cell (i := 4) (wr_blk hW5' HON3.out.cfg (fun hx => hx.2.1 rfl)) rfl
          have b0 := Blk.cell (i := 0) hBY rfl
          have b1 := Blk.cell (i := 1) hBY rfl
          have b2 := Blk.cell (i := 2) hBY rfl
          simp only [cfgC, List.getElem_toArray, List.getElem_cons_zero, List.getElem_cons_succ] at b0 b1 b2 g4
          have hsI : (0 : Int) ≤ (s : Int) ∧ (s : Int) < c.pl := by omega
          have hcs : (∃ kk, offerK c.pl c.fr L R s fx ib ix iy = kk ∧ kk ≠ 1 ∧ (fx < 0 ∨ (0 ≤ fx ∧ (c.fr : Int) ≤ fx) ∨ (0 ≤ fx ∧ fx < c.fr ∧ fx < L) ∨ (0 ≤ fx ∧ fx < c.fr ∧ (L : Int) ≤ fx ∧ (L : Int) + 64 ≤ fx) ∨ (0 ≤ fx ∧ fx < c.fr ∧ (L : Int) ≤ fx ∧ fx < (L : Int) + 64 ∧ hd = true))) ∨ (offerK c.pl c.fr L R s fx ib ix iy = 1 ∧ 0 ≤ fx ∧ fx < c.fr ∧ (L : Int) ≤ fx ∧ fx < (L : Int) + 64 ∧ hd = false) := by
            by_cases h1 : 0 ≤ fx ∧ fx < c.fr
            · have hin : 0 ≤ (s : Int) ∧ (s : Int) < c.pl ∧ 0 ≤ fx ∧ fx < c.fr ∧ inB ib ix iy = true := ⟨hsI.1, hsI.2, h1.1, h1.2, hHI.out⟩
              by_cases h2 : fx < L
              · exact .inl ⟨2, by unfold offerK; rw [if_neg (by simpa using hin), if_pos h2], by decide, .inr (.inr (.inl ⟨h1.1, h1.2, h2⟩))⟩
              · by_cases h3 : (L : Int) + 64 ≤ fx
                · exact .inl ⟨3, by unfold offerK; rw [if_neg (by simpa using hin), if_neg h2, if_pos h3], by decide, .inr (.inr (.inr (.inl ⟨h1.1, h1.2, by omega, h3⟩)))⟩
                · have hw := HON3.out.wait fx (by rw [HL.out]; omega) s hs8
                  have hre : (R fx s).1 = hd := by
                    rw [hw, ← HDF.out]; unfold cellOf
                    cases f (fx * 8 + s) with
                    | none => rfl
                    | some z => rfl
                  cases hd with
                  | true => exact .inl ⟨4, by unfold offerK; rw [if_neg (by simpa using hin), if_neg h2, if_neg h3, Int.toNat_natCast, hre]; rfl, by decide, .inr (.inr (.inr (.inr ⟨h1.1, h1.2, by omega, by omega, rfl⟩)))⟩
                  | false => exact .inr ⟨by unfold offerK; rw [if_neg (by simpa using hin), if_neg h2, if_neg h3, Int.toNat_natCast, hre]; rfl, h1.1, h1.2, by omega, by omega, rfl⟩
            · exact .inl ⟨5, by unfold offerK; rw [if_pos (by intro h; exact h1 ⟨h.2.2.1, h.2.2.2.1⟩)], by decide, by omega⟩
          rw [HL.out] at hl5'
          rw [HL.out]
          have HL5 := Lib.hid hl5'; have HW5 := Lib.hid hW5'; have HBY5 := Lib.hid hBY
          clear hl5 hW5 hl5' hW5' hBY HBY HTH4
          rcases hcs with ⟨kk, hk, hk1, hcs⟩ | ⟨hk, e1, e2, e3, e4, rfl⟩
          · have hR : offerR c.pl c.fr L R s fx ib ix iy = R := offerR_same (by rw [hk]; exact hk1)
            have hkb : (kk == 1) = false := by simp [hk1]
            rw [hk]
            have hke := HON3.out.keep (by rw [hR] at HL5; exact HL5.out) HW5.out
            have HKE := Lib.hid hke
            clear hk hk1 hR hke HL5 HW5 HON3 hHI HDF HKX HBY5
            rcases hcs with e1 | ⟨e1, e2⟩ | ⟨e1, e2, e3⟩ | ⟨e1, e2, e3, e4⟩ | ⟨e1, e2, e3, e4, rfl⟩
            all_goals
              go_wp2_with fail
              go_roundw
              case rel => exact ⟨i + 1, tick, _, _, _, _, _, by simp, by omega, by omega, rfl, by omega, HKE.out⟩
              case measure => simp [intOf]; omega
          · have hR := offerR_put hk
            rw [Int.toNat_natCast] at hR
            rw [hR] at HL5
            obtain ⟨-, -, -, ⟨cnt, hm, hcn⟩, -⟩ := HON3.out.wrote (rows' := rows) (n' := i) (R' := R) HW5.out
            obtain ⟨w6, hst, hm6, hF6⟩ := hm.store Try.underlying3 Try.underlying55 (by unfold maxLen; omega) HKX.out (inV (ib, ix, iy))
            dsimp only [inV] at hst
            have hc6 : (if ((f (fx * 8 + s)).map inV).isSome then cnt else cnt + 1) ≤ i + 1 := by split <;> omega
            have htk := HON3.out.take (i := (ib, ix, iy)) hs8 (by rw [HL.out]; exact e3) HL5.out HW5.out hm6 hc6 hF6
            rw [hk]
            have HTK := Lib.hid htk
            clear hk hR hm hm6 hF6 hc6 htk hcn HL5 HW5 HON3 hHI HDF HKX HBY5
            go_wp2_with fail
            go_roundw
            case rel => exact ⟨i + 1, tick, _, _, _, _, _, by simp, by omega, by omega, rfl, by omega, HTK.out⟩
            case measure => simp [intOf]; omega
      case pos =>
        have hc1 : (zw.tmod 4 == 3) = true := by simp [hc]
        clear hc
        go_wp2_with fail
        refine (pick_any _ _ _ (by decide) (by decide)).mono ?_; rintro e w' ⟨rfl, rfl⟩
        obtain ⟨d, hd⟩ : ∃ d : Nat, zn % 4 = d := ⟨(zn % 4).toNat, by omega⟩
        have hd4 : d ≤ 3 := by omega
        rw [hd]; clear hd
        go_upto_region 23 with (fail)
        obtain ⟨tk2, htk2⟩ : ∃ q : Nat, tick + d = q := ⟨_, rfl⟩
        rw [show (tick : Int) + (d : Int) = (tk2 : Int) by omega]
        have htk3 : tk2 ≤ 3 * (i + 1) := by omega
        have htle : tick ≤ tk2 := by omega
        clear htk2 hd4 HTH
        go_wp2_with fail
        refine (tick_s HON.out.log HON.out.new tk2).mono ?_; rintro e w2 ⟨rows2, rfl, hl2, hW2, hgot2, hdue2, hend2⟩
        obtain ⟨hF2, hcf2, hrv2, hm2, ht2⟩ := HON.out.wrote (rows' := rows) (n' := i) (R' := R) hW2
        obtain ⟨L2, hL2⟩ : ∃ L2, (rows ++ rows2).length = L2 := ⟨_, rfl⟩
        have hL2' : L + rows2.length = L2 := by rw [← hL2, List.length_append, HL.out]
        have hL26 : L2 ≤ c.fr := by rw [← hL2]; exact hl2.len
        have hgotA : ∀ k : Nat, k < L2 → ∀ p : Nat, p < c.pl → rowAt (rows ++ rows2) k p = cellOf f ((k : Int) * 8 + p) := fun k hk p hp => by
          by_cases e : k < L
          · have h1 := HON.out.got k (by rw [HL.out]; exact e) p hp
            rw [← h1]; unfold rowAt
            rw [List.getD_eq_getElem?_getD, List.getElem?_append_left (by rw [HL.out]; exact e), ← List.getD_eq_getElem?_getD]
          · obtain ⟨r, hr⟩ : ∃ r, rows2[k - L]? = some r := ⟨_, List.getElem?_eq_getElem (by omega)⟩
            have h1 := hgot2 (k - L) r hr
            rw [HL.out, show L + (k - L) = k by omega] at h1
            have h2 := HON.out.wait k (by rw [HL.out]; omega) p hp
            rw [← h2, ← h1]; unfold rowAt
            rw [List.getD_eq_getElem?_getD, List.getElem?_append_right (by rw [HL.out]; omega), HL.out, hr]; rfl
        have hdueA : ∀ k : Nat, k < L2 → dl c k ≤ tk2 := fun k hk => by
          by_cases e : k < L
          · have := HON.out.due k (by rw [HL.out]; exact e); omega
          · have h1 := hdue2 (k - L) (by omega)
            rw [HL.out, show L + (k - L) = k by omega] at h1
            exact h1
        have hendA : L2 = c.fr ∨ (tk2 : Int) < dl c L2 := by
          rw [HL.out, hL2'] at hend2; exact hend2
        rw [HL.out, hL2'] at hl2
        have HL2 := Lib.hid hl2; have HF2 := Lib.hid hF2; have HCF2 := Lib.hid hcf2; have HRV2 := Lib.hid hrv2; have HM2 := Lib.hid hm2; have HT2 := Lib.hid ht2; have HGA := Lib.hid hgotA; have HDA := Lib.hid hdueA; have HEA := Lib.hid hendA; have HLL := Lib.hid hL2; have HLE := Lib.hid hL2'
        have hLL2 : L ≤ L2 := by omega
        clear hl2 hW2 hgot2 hdue2 hend2 hF2 hcf2 hrv2 hm2 ht2 hgotA hdueA hendA hL2 hL2' a0 a1 a2 a3 a4 g0 g4 HBX
        go_wp2_with fail
        refine (rows_s HL2.out 0 600).mono ?_; rintro e w3 ⟨vN, rfl, hV, hF3⟩
        rw [show nRows 0 600 (rows ++ rows2).length = L2 by rw [HLL.out]; unfold nRows; rw [if_pos (by decide)]; omega] at hV
        have hV' : RowsT w3 w2.heap.size w3.heap.size vN L2 c.pl (rowAt (rows ++ rows2)) := by
          have e : (fun i => ((rows ++ rows2).getD ((0 : Int).toNat + i) (0, fun _ => c0)).2) = rowAt (rows ++ rows2) := by
            funext i; unfold rowAt; simp
          rw [e] at hV; exact hV
        obtain ⟨naA, naC, rfl, n1, n2, hN⟩ := hV'.at (by omega)
        obtain ⟨oaA, oaC, hve, -, -, hO⟩ := (HRV2.out.fr hF3 (by simp)).at (by omega)
        injection hve with hv1 hv2 hv3
        subst hv1 hv3
        clear hv2
        rw [HL.out] at hO
        have HV := Lib.hid hV'; have HN := Lib.hid hN; have HO := Lib.hid hO; have HL3 := Lib.hid (HL2.out.fr hF3 (by simp)); have HF3 := Lib.hid hF3
        have g0 := Blk.cell (i := 0) (hF3.blk HCF2.out (by simp)) rfl
        have g4 := Blk.cell (i := 4) (hF3.blk HCF2.out (by simp)) rfl
        simp only [cfgC, List.getElem_toArray, List.getElem_cons_zero, List.getElem_cons_succ] at g0 g4
        have hlenc := len_s HL3.out
        rw [HLL.out] at hlenc
        have HLEN := Lib.hid hlenc
        have q5 : ¬ (L2 : Int) < L := by omega
        have q6 : decide (L2 < L) = false := decide_eq_false (by omega)
        have q7 : (L : Int) ≤ L2 := by omega
        have hlm2 : L2 ≤ maxLen := by unfold maxLen; omega
        clear hV hV' hN hO hF3 hlenc n1 n2
        go_wp2_with fail
        refine HLEN.out.mono ?_; rintro e w' ⟨rfl, rfl⟩
        clear HLEN
        go_wp2_with fail
        go_loopw [151] (fun kv wr => ∃ k : Nat, kv = .int .i64 k ∧ k ≤ L2 ∧ Fr [] w3 wr) (fun kv _ => L2 - (intOf kv).toNat)
        case atStart => exact ⟨0, rfl, Nat.zero_le _, Fr.refl _ _⟩
        case round =>
          obtain ⟨k, rfl, hk, hFk⟩ := hrel
          by_cases hkl : k < L2
          · have hkl' : (k : Int) < L2 := by omega
            obtain ⟨gn, on, rfl, hN2⟩ := HN.out (by omega)
            obtain ⟨u, hcu, hru⟩ := hN2 k hkl
            have dn : wr.cell? ⟨gn, on + k, none⟩ = some u := by rw [hFk.cell (cell_lt hcu) (by simp)]; exact hcu
            have hru' := hru.fr (by omega) hFk (by simp)
            obtain ⟨D, hD⟩ : ∃ D, dl c k = D := ⟨_, rfl⟩
            have hDt : ¬ (tk2 : Int) < D := by have := HDA.out k hkl; omega
            have hdl : ∀ j, Calls Try.prog 25 #[.pointer (some ⟨B, 0, none⟩), .int .i64 k] (wr.drewN j) fun e w' => e = .returned (.int .i64 D) ∧ ∃ m, w' = (wr.drewN j).drewN m := fun j => by
              have h1 := deadline_s ((HL3.out.fr hFk (by simp)).fr ((Fr.refl [] wr).drewN j) (by simp)) k
              rw [if_pos ⟨by omega, by omega⟩, hD] at h1
              exact h1
            have g0' := (hFk.cell (p := ⟨g, 0, none⟩) (cell_lt g0) (by simp)).trans g0
            have HDL := Lib.hid hdl; have HRU := Lib.hid hru'; have HFK := Lib.hid hFk; have HCU := Lib.hid hcu; have HRU3 := Lib.hid hru
            clear hN2 hcu hru hru' hD hdl hFk
            have hslots : ∃ wk, Fr [] w3 wk ∧ wk = wr := ⟨wr, HFK.out, rfl⟩
            by_cases hkL : k < L
            · obtain ⟨go, oo, rfl, hO2⟩ := HO.out (by omega)
              obtain ⟨u', hcu', hrv'⟩ := hO2 k hkL
              have do' : wr.cell? ⟨go, oo + k, none⟩ = some u' := by rw [HFK.out.cell (cell_lt hcu') (by simp)]; exact hcu'
              have hrv2 := hrv'.fr (by omega) HFK.out (by simp)
              have hsr : ∀ j, Calls Try.prog 19 #[u, u'] (wr.drewN j) fun e w' => e = .returned (.bool true) ∧ ∃ m, w' = (wr.drewN j).drewN m := fun j =>
                samerow_yes (w := wr.drewN j) HRU.out hrv2 (fun t ht => by
                  unfold rowAt
                  rw [List.getD_eq_getElem?_getD, List.getElem?_append_left (by rw [HL.out]; exact hkL), ← List.getD_eq_getElem?_getD]) (by omega)
              obtain ⟨gu', cu', rfl, -⟩ := hrv2
              obtain ⟨gu, cu, hue, -⟩ := HRU.out
              subst hue
              have HSR := Lib.hid hsr
              have hkL' : (k : Int) < L := by omega
              have hkL2 : ¬ (L : Int) ≤ k := by omega
              clear hsr hO2 hcu' hrv' HRU hslots
              as_aux_lemma =>
                go_wp2_with fail
                go_quiet (first | (go_at_call 19; exact Calls.quiet_of (HSR.out _)) | (go_at_call 25; exact Calls.quiet_of (HDL.out _)))
                go_wp2_with fail
                go_loopw [21] (fun pv wr2 => pv = .int .i64 0 ∧ Fr [] w3 wr2) (fun _ _ => 0)
                case atStart => exact ⟨rfl, HFK.out.trans ((Fr.refl [] wr).drewN nq) (by simp)⟩
                case round =>
                  obtain ⟨rfl, hFp⟩ := hrel
                  have hp0 : (0 : Int) < c.pl := by omega
                  have g0' := (hFp.cell (p := ⟨g, 0, none⟩) (cell_lt g0) (by simp)).trans g0
                  have HFP := Lib.hid hFp
                  clear hFp
                  go_wp2_with fail
                  go_roundw
                  case rel => exact ⟨k + 1, by simp, by omega, HFP.out⟩
                  case measure => simp [intOf]; omega
            · have hkL' : ¬ (k : Int) < L := by omega
              have hkL2 : (L : Int) ≤ k := by omega
              obtain ⟨gu, cu, rfl, hcell⟩ := HRU.out
              have HCE := Lib.hid hcell
              clear hcell hslots
              as_aux_lemma =>
                go_wp2_with fail
                go_quiet (first | (go_at_call 25; exact Calls.quiet_of (HDL.out _)))
                go_wp2_with fail
                have hwq : Fr [] w3 (wr.drewN nq) := HFK.out.trans ((Fr.refl [] wr).drewN nq) (by simp)
                generalize wr.drewN nq = wq at *
                have HWQ := Lib.hid hwq
                clear hwq
                go_loopw [21] (fun pv wr2 => ∃ p : Nat, pv = .int .i64 p ∧ p ≤ c.pl ∧ Fr [] w3 wr2) (fun pv _ => c.pl - (intOf pv).toNat)
                case atStart => exact ⟨0, rfl, Nat.zero_le _, HWQ.out⟩
                case round =>
                  obtain ⟨p, rfl, hp, hFp⟩ := hrel
                  have g0' := (hFp.cell (p := ⟨g, 0, none⟩) (cell_lt g0) (by simp)).trans g0
                  have HFP := Lib.hid hFp
                  by_cases hpl : p < c.pl
                  · have hpl' : (p : Int) < c.pl := by omega
                    have hg := HGA.out k hkl p hpl
                    have hkx : inK ((k : Int) * 8 + p) := inK_of (by omega) (by omega)
                    obtain ⟨had, v1, v2, v3, hlk, hcl⟩ : ∃ (had : Bool) (v1 v2 v3 : Int), (Instr.lookup 55 (.map (some F)) (.int .i64 ((k : Int) * 8 + p)) true).run Try.prog wr = .ok (.tuple #[.agg #[.int .i64 v1, .int .i64 v2, .int .i64 v3], .bool had]) wr ∧ cellOf f ((k : Int) * 8 + p) = (had, v1, v2, v3) := by
                      obtain ⟨cnt, hm, -⟩ := HM2.out
                      have h1 := ((hm.fr HF3.out (by simp)).fr hFp (by simp)).look Try.underlying3 Try.underlying55 (HZI.out _) hkx
                      cases hfk : f ((k : Int) * 8 + p) with
                      | none => rw [hfk] at h1; exact ⟨false, 0, 0, 0, h1, by unfold cellOf; rw [hfk]; rfl⟩
                      | some z => rw [hfk] at h1; exact ⟨true, z.1, z.2.1, z.2.2, h1, by unfold cellOf; rw [hfk]⟩
                    have dn' : wr.cell? ⟨gn, on + k, none⟩ = some (.slice (some ⟨gu, 0, none⟩) c.pl cu) := (hFp.cell (cell_lt HCU.out) (by simp)).trans HCU.out
                    obtain ⟨gu', cu', hue, hc3⟩ := HRU3.out
                    have hce := hc3 p hpl
                    rw [hg, hcl] at hce
                    have hgu : gu' = gu := by injection hue with e1; injection e1 with e2; injection e2 with e3; exact e3.symm
                    rw [hgu] at hce
                    have d0 : wr.cell? ⟨gu, p * 4, none⟩ = some (.bool had) := (hFp.cell (p := ⟨gu, p * 4, none⟩) (cell_lt (hce 0 _ rfl)) (by simp)).trans (hce 0 _ rfl)
                    have d1 : wr.cell? ⟨gu, p * 4 + 1, none⟩ = some (.int .i64 v1) := (hFp.cell (p := ⟨gu, p * 4 + 1, none⟩) (cell_lt (hce 1 _ rfl)) (by simp)).trans (hce 1 _ rfl)
                    have d2 : wr.cell? ⟨gu, p * 4 + 2, none⟩ = some (.int .i64 v2) := (hFp.cell (p := ⟨gu, p * 4 + 2, none⟩) (cell_lt (hce 2 _ rfl)) (by simp)).trans (hce 2 _ rfl)
                    have d3 : wr.cell? ⟨gu, p * 4 + 3, none⟩ = some (.int .i64 v3) := (hFp.cell (p := ⟨gu, p * 4 + 3, none⟩) (cell_lt (hce 3 _ rfl)) (by simp)).trans (hce 3 _ rfl)
                    clear hg hkx hcl hue hc3 hce hgu hFp
                    go_upto_region 36 with (fail)
                    have hA := (Fr.refl [] wr).alloc (.cells #[.int .i64 v1, .int .i64 v2, .int .i64 v3] 58)
                    have hBZ := Blk.new wr #[.int .i64 v1, .int .i64 v2, .int .i64 v3] 58
                    have dn' := (hA.cell (cell_lt dn') (by simp)).trans dn'
                    have d0 := (hA.cell (cell_lt d0) (by simp)).trans d0
                    have d1 := (hA.cell (cell_lt d1) (by simp)).trans d1
                    have d2 := (hA.cell (cell_lt d2) (by simp)).trans d2
                    have d3 := (hA.cell (cell_lt d3) (by simp)).trans d3
                    have HFP2 := Lib.hid (HFP.out.trans hA (by simp))
                    clear hA hlk HFP g0'
                    generalize wr.alloc (.cells #[.int .i64 v1, .int .i64 v2, .int .i64 v3] 58) = wz at *
                    generalize wr.heap.size = bz at *
                    have b0 := Blk.cell (i := 0) hBZ rfl
                    have b1 := Blk.cell (i := 1) hBZ rfl
                    have b2 := Blk.cell (i := 2) hBZ rfl
                    simp only [List.getElem_toArray, List.getElem_cons_zero, List.getElem_cons_succ] at b0 b1 b2
                    clear hBZ
                    go_quiet (fail)
                    go_wp2_with fail
                    go_roundw
                    case rel => exact ⟨p + 1, by simp, by omega, HFP2.out.trans ((Fr.refl [] wz).drewN nq) (by simp)⟩
                    case measure => simp [intOf]; omega
                  · have e : p = c.pl := by omega
                    subst e
                    clear hFp
                    go_wp2_with fail
                    go_roundw
                    case rel => exact ⟨k + 1, by simp, by omega, HFP.out⟩
                    case measure => simp [intOf]; omega
          · have e : k = L2 := by omega
            subst e
            as_aux_lemma =>
              have HFK := Lib.hid hFk
              clear hFk
              have g4' := (HFK.out.cell (p := ⟨g, 4, none⟩) (cell_lt g4) (by simp)).trans g4
              have hOnE : On W wr g c B M F (rows ++ rows2) (.slice naA k naC) w2.heap.size w3.heap.size tk2 (i + 1) (tickR R k) f := by
                have hFd := HFK.out
                obtain ⟨cnt, hm, hcn⟩ := HM2.out
                have h2W := HF2.out.size
                have hg2 := HCF2.out.lt
                have hF2' := hm.lt
                have hlen : (rows ++ rows2).length = k := HLL.out
                have hth := (HL2.out.there.fr HF3.out (by simp)).fr hFd (by simp)
                obtain ⟨tkx, cntx, hx1, hx2, hx3⟩ := hth.ex
                exact {
                  fr := (HF2.out.trans HF3.out (by simp)).trans hFd (by simp)
                  cfg := hFd.blk (HF3.out.blk HCF2.out (by simp)) (by simp)
                  log := ⟨tkx, cntx, hx1.wider (fun x hx => ⟨hx.1.1, hx.1.2.1, hx.1.2.2.1, .inl hx.2⟩), by omega, hx3⟩
                  rv := by rw [hlen]; exact HV.out.fr hFd (by simp)
                  map := ⟨cnt, (hm.fr HF3.out (by simp)).fr hFd (by simp), by omega⟩
                  gF := HON.out.gF
                  gW := HON.out.gW
                  FW := HON.out.FW
                  tl := hFd.size
                  gbt := ⟨.inl hg2, .inl hF2'⟩
                  got := fun j hj p hp => HGA.out j (by omega) p hp
                  wait := fun x hx p hp => by
                    unfold tickR
                    rw [if_neg (by omega)]
                    exact HON.out.wait x (by rw [HL.out]; have := HLE.out; omega) p hp
                  due := fun j hj => HDA.out j (by omega) }
              have HOE := Lib.hid hOnE
              clear hOnE
              by_cases hke : k < c.fr
              · have hke' : (k : Int) < c.fr := by omega
                obtain ⟨D, hD⟩ : ∃ D, dl c k = D := ⟨_, rfl⟩
                have hDt : ¬ D ≤ (tk2 : Int) := by have := HEA.out; omega
                have hdl := deadline_s (HL3.out.fr HFK.out (by simp)) k
                rw [if_pos ⟨by omega, by omega⟩, hD] at hdl
                have HDL := Lib.hid hdl
                clear hdl hD
                go_wp2_with fail
                refine HDL.out.mono ?_; rintro e wq ⟨rfl, nq, rfl⟩
                have HOQ := Lib.hid (HOE.out.fr0 ((Fr.refl [] wr).drewN nq))
                go_wp2_with fail
                go_roundw
                case rel => exact ⟨i + 1, tk2, _, _, _, _, _, by simp, by omega, by omega, rfl, by omega, HOQ.out⟩
                case measure => simp [intOf]; omega
              · have hke' : ¬ (k : Int) < c.fr := by omega
                go_wp2_with fail
                go_roundw
                case rel => exact ⟨i + 1, tk2, _, _, _, _, _, by simp, by omega, by omega, rfl, by omega, HOE.out⟩
                case measure => simp [intOf]; omega
end Go.Proofs.Ytckodnogjedmnaa.Lo
