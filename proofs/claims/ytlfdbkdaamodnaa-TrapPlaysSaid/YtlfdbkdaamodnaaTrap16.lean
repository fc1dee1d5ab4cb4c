import Derived.Test.YtlfdbkdaamodnaaTrap15
namespace Go.Proofs.Ytlfdbkdaamodnaa.Tr
open Go.RowKit Dt Go.Proofs.Ytlfdbkdaamodnaa.Hd
set_option linter.unusedVariables false
set_option linter.unusedSimpArgs false

theorem cellsF_at {fs : List (Int × Int)} {m : Nat} {p : Int × Int} (h : fs[m]? = some p) : (cellsF fs)[m * 2]? = some (.int .i64 p.1) ∧ (cellsF fs)[m * 2 + 1]? = some (.int .i64 p.2) := by
  induction fs generalizing m with
  | nil => simp at h
  | cons f fs ih =>
    cases m with
    | zero => simp at h; subst h; exact ⟨rfl, rfl⟩
    | succ m =>
      have e : cellsF (f :: fs) = .int .i64 f.1 :: .int .i64 f.2 :: cellsF fs := rfl
      rw [e, show (m + 1) * 2 = m * 2 + 1 + 1 by omega]
      exact ih (by simpa using h)
set_option maxRecDepth 100000 in
set_option maxHeartbeats 3200000 in
theorem walk_plays (a0 : Option Addr) (len0 cap0 : Nat) (z0 : Nat → Act3) (W : World) (s0 : SlAct W a0 len0 cap0 z0) :
    Calls Try.prog 5 #[.slice a0 len0 cap0] W fun e w' => e = .returned (.bool true) ∧ Below W.heap.size W w' := by
  have hr := s0.reach
  have hl := s0.le
  obtain ⟨N, hN⟩ : ∃ N, N = min len0 40 := ⟨_, rfl⟩
  have hN1 : N ≤ len0 := by omega
  have hN2 : N ≤ 40 := by omega
  have HN := Lib.hid hN; clear hN
  have HS := Lib.hid s0; clear s0
  go_enter Try.func5, Try.ntmps5
  go_wp2_with fail
  refine (known_any _).mono ?_
  rintro e w1 ⟨rfl, hF1⟩
  go_upto_region 4 with (fail)
  have P0 : PS (w1.alloc (.cells #[.slice a0 len0 cap0, .int .i64 0, .int .i64 0, .slice none 0 0] 37)) w1.heap.size (w1.heap.size + 1) (.slice a0 len0 cap0) 0 0 [] (.slice none 0 0) :=
    ⟨Blk.new w1 _ _, own_nil _ _ _ _, by omega, by simp⟩
  have hF2 := hF1.alloc (.cells #[.slice a0 len0 cap0, .int .i64 0, .int .i64 0, .slice none 0 0] 37)
  have hKW := hF1.size
  have HS1 : SlAct w1 a0 len0 cap0 z0 := HS.out.fr hF1 (by simp)
  have hlb : 0 < len0 → ∀ b, a0.map (·.block) = some b → b < W.heap.size := fun hp b h => by
    obtain ⟨b', off, e, lt, -⟩ := HS.out.cells hp
    rw [e] at h; simp at h; omega
  clear hF1
  generalize w1.heap.size = K at *
  generalize w1.alloc (.cells #[.slice a0 len0 cap0, .int .i64 0, .int .i64 0, .slice none 0 0] 37) = w2 at *
  have HLB := Lib.hid hlb; have HKW := Lib.hid hKW; clear hlb hKW HS1
  have HP0 := Lib.hid P0; have HF2 := Lib.hid hF2; clear P0 hF2
  go_loopw [16] (fun _ wr => ∃ i c fs fv, PS wr K (K + 1) (.slice a0 len0 cap0) i c fs fv ∧ Fr [] W wr ∧ (i ≤ N ∧ fs.length ≤ i ∧ c ≤ i) ∧ Fin z0 N 0 0 0 [] = Fin z0 N i 0 c fs) (fun _ wr => N - plAt wr K)
  case atStart => exact ⟨0, 0, [], _, HP0.out, HF2.out, ⟨by omega, by simp, by omega⟩, rfl⟩
  case round =>
    obtain ⟨i, c, fs, fv, hP, hF, hb, hFin⟩ := hrel
    have HP := Lib.hid hP; have HF := Lib.hid hF; have HFIN := Lib.hid hFin
    have mp := hP.blk
    clear hP hF hFin
    have c1 := mp.cell (i := 1) rfl
    simp only [List.getElem_toArray, List.getElem_cons_zero, List.getElem_cons_succ] at c1
    by_cases hi : i < N
    · have g1 : decide (i < len0) = true := by simp; omega
      have g2 : (i : Int) < 40 := by omega
      go_wp2_with fail
      have hlen : 0 < len0 := by omega
      refine (run_any (N := N) (A := z0) (base := K + 1) (fun b h => by have := HLB.out hlen b h; have := HKW.out; omega) HN.out 6 0 (by omega) wr i c fs fv (HS.out.fr HF.out (by simp)) HP.out (by omega) (by omega) (by omega)).mono ?_
      rintro e w3 ⟨rfl, i', c', fs', fv', hR, hpr, hfin⟩
      have hpl := HP.out.plAt
      have hF3 := HF.out.trans hR.fr (fun x hx => by
        right
        simp only [List.mem_cons, Option.mem_toList] at hx
        have := HKW.out
        rcases hx with rfl | hx
        · exact this
        · have := own_base HP.out.own hx; omega)
      have hprg := hpr hi
      have HR := Lib.hid hR; have HF3 := Lib.hid hF3; have HPL := Lib.hid hpl; have HFN := Lib.hid hfin
      clear hR hF3 hpl hfin hpr mp c1
      go_wp2_with fail
      go_roundw
      case rel => exact ⟨i', c', fs', fv', HR.out.ps, HF3.out, ⟨HR.out.le.2, HR.out.fs, HR.out.c⟩, by rw [HFIN.out, HFN.out]⟩
      case measure => rw [HPL.out, HR.out.ps.plAt]; omega
    · obtain rfl : N = i := by omega
      have hres : Fin z0 N 0 0 0 [] = (c, fs) := by rw [HFIN.out, Fin_end]
      have HRES := Lib.hid hres; clear hres HFIN
      by_cases hl2 : N < len0
      all_goals
        first
          | (have g1 : decide (N < len0) = true := by simp; omega
             have g2 : ¬ (N : Int) < 40 := by have := HN.out; omega
             go_upto_region 6 with (fail))
          | (have g1 : decide (N < len0) = false := by simp; omega
             go_upto_region 6 with (fail))
        have HL2 := Lib.hid hl2
        clear hi hl2 g1 c1
        try clear g2
        go_upto_region 10 with (fail)
        obtain ⟨wo, rfl⟩ : ∃ wo : World, wo = wr := ⟨_, rfl⟩
        go_loopw [4, 5, 6, 7] (fun dv cv fv2 jv wq => ∃ (j d c2 : Nat) (fs2 : List (Int × Int)), (j ≤ N ∧ d ≤ 6 ∧ fs2.length ≤ j ∧ c2 ≤ j) ∧ dv = .int .i64 d ∧ cv = .int .i64 c2 ∧ jv = .int .i64 j ∧ wq.ownsRow wo.heap.size 26 2 fv2 fs2.length (cellsF fs2) ∧ Fr [] wo wq ∧ Fin z0 N 0 0 0 [] = Fin z0 N j d c2 fs2) (fun _ _ _ jv _ => 40 - (intOf jv).toNat)
        case atStart => exact ⟨0, 0, 0, [], ⟨by omega, by omega, by simp, by omega⟩, rfl, rfl, rfl, own_nil _ _ _ _, Fr.refl _ _, rfl⟩
        case round =>
          obtain ⟨j, d, c2, fs2, hjb, rfl, rfl, rfl, hown, hFq, hFin⟩ := hrel
          have HFQ := Lib.hid hFq; have HFIN := Lib.hid hFin; have HOWN := Lib.hid hown
          clear hFq hFin hown
          by_cases hj : j < N
          · have g1 : decide (j < len0) = true := by simp; omega
            have g2 : (j : Int) < 40 := by omega
            have g0 : 0 ≤ (j : Int) := by omega
            have g3 : (j : Int) < (len0 : Int) := by omega
            obtain ⟨b, off, rfl, hlb, hcs⟩ := HS.out.cells (by omega)
            obtain ⟨s1, s2, s3⟩ := hcs j (by omega)
            rw [← Nat.add_assoc] at s2 s3
            have hFW := HF.out.trans HFQ.out (by simp)
            have r1 := (hFW.cell (p := ⟨b, off + j * 3, none⟩) hlb (by simp)).trans s1
            have r2 := (hFW.cell (p := ⟨b, off + j * 3 + 1, none⟩) hlb (by simp)).trans s2
            have r3 := (hFW.cell (p := ⟨b, off + j * 3 + 2, none⟩) hlb (by simp)).trans s3
            obtain ⟨k, hk⟩ : ∃ k, (z0 j).1 = k := ⟨_, rfl⟩
            obtain ⟨cd, hcd⟩ : ∃ cd, (z0 j).2.1 = cd := ⟨_, rfl⟩
            obtain ⟨at_, hat⟩ : ∃ at_, (z0 j).2.2 = at_ := ⟨_, rfl⟩
            rw [hk] at r1; rw [hcd] at r2; rw [hat] at r3
            have HK := Lib.hid hk; have HCD := Lib.hid hcd; have HAT := Lib.hid hat
            clear s1 s2 s3 hcs hk hcd hat hFW
            go_upto_region 13 with (fail)
            have X1 := Blk.new wr #[.int .i64 k, .int .i64 cd, .int .i64 at_] 39
            have O1 : (wr.alloc (.cells #[.int .i64 k, .int .i64 cd, .int .i64 at_] 39)).ownsRow wo.heap.size 26 2 u6 fs2.length (cellsF fs2) := own_keep HOWN.out ((Fr.refl [] wr).alloc _) (by simp)
            have F1 := HFQ.out.alloc (.cells #[.int .i64 k, .int .i64 cd, .int .i64 at_] 39)
            have hBX := HFQ.out.size
            clear r1 r2 r3
            generalize wr.heap.size = X at *
            generalize wr.alloc (.cells #[.int .i64 k, .int .i64 cd, .int .i64 at_] 39) = w4 at *
            have x0 := X1.cell (i := 0) rfl
            have x1 := X1.cell (i := 1) rfl
            have x2 := X1.cell (i := 2) rfl
            simp only [List.getElem_toArray, List.getElem_cons_zero, List.getElem_cons_succ] at x0 x1 x2
            have HO1 := Lib.hid O1; have HF1 := Lib.hid F1; have HX1 := Lib.hid X1
            clear O1 F1 X1
            go_wp2_with fail
            refine (pick_any _ _ _ (by decide) (by decide)).mono ?_; rintro e w' ⟨rfl, rfl⟩
            have q0 : 0 ≤ k % 8 := by omega
            have q8 : k % 8 < 8 := by omega
            obtain ⟨q, hq⟩ : ∃ q, k % 8 = q := ⟨_, rfl⟩
            rw [hq] at q0 q8 ⊢
            have HQ := Lib.hid hq; clear hq
            have hd6 : (d : Int) ≤ 6 := by omega
            have hc40 : (c2 : Int) ≤ 40 := by omega
            rcases (show q = 0 ∨ q = 1 ∨ q = 2 ∨ (q = 3 ∨ q = 4) ∨ (q = 5 ∨ q = 6 ∨ q = 7) by omega) with rfl | rfl | rfl | hq34 | hq567
            · go_wp2_with fail
              all_goals
                go_roundw
                case rel => exact ⟨j + 1, min 6 (d + 1), c2, fs2, ⟨by omega, by omega, by omega, by omega⟩, congrArg (Value.int .i64) (by split <;> omega), rfl, by go_num, HO1.out, HF1.out, by rw [HFIN.out, Fin_in hj (by rw [HK.out]; exact HQ.out)]⟩
                case measure => simp [intOf]; omega
            · go_wp2_with fail
              all_goals
                go_roundw
                case rel => exact ⟨j + 1, d - 1, c2, fs2, ⟨by omega, by omega, by omega, by omega⟩, congrArg (Value.int .i64) (by split <;> omega), rfl, by go_num, HO1.out, HF1.out, by rw [HFIN.out, Fin_out hj (by rw [HK.out]; exact HQ.out)]⟩
                case measure => simp [intOf]; omega
            · have HTH := Lib.hid (show k % 8 = 2 ∨ (k % 8 = 3 ∨ k % 8 = 4) ∧ cd.tmod 2 ≠ 0 from .inl HQ.out)
              go_upto_region 20 with (fail)
              apply wp_region_lit
              iterate 7 (refine wpList_plain rfl (fun K hK => ?_); go_simp; refine hK _ _ ?_; clear hK K)
              have hown5 := HO1.out.alloc (.cells #[.int .i64 cd, .int .i64 at_] 26)
              have hsrc := src_blk (sz := 2) (m := 1) (Blk.new w4 #[.int .i64 cd, .int .i64 at_] 26) (by simp) (by simp; exact ⟨rfl, rfl⟩) 1
              obtain ⟨i0, hi0, hz0, hz1, hz2⟩ := info_parts info26
              have hBw : wo.heap.size ≤ (w4.alloc (.cells #[.int .i64 cd, .int .i64 at_] 26)).heap.size := by have := HF1.out.size; simp; omega
              refine wpList_append_src _ rfl (Operand.tmp 72) (Operand.tmp 78) 35 rfl wo.heap.size 26 i0 _ 2 16 Try.underlying35 hi0 hz0 hz1 hz2 rfl (by decide) _ _ fs2.length 1 (cellsF fs2) [.int .i64 cd, .int .i64 at_] rfl rfl hown5 hsrc (by simp only [maxLen]; omega) (by omega) hBw ?_
              intro v5 w5 hown6 hg5 hat5
              have hF6 : Fr [] wo w5 := (HF1.out.alloc (.cells #[.int .i64 cd, .int .i64 at_] 26)).trans (fr_grown hg5) (fun x hx => by
                simp only [Option.mem_toList] at hx
                exact .inr (own_base hown5 hx))
              have hl6 : (fs2 ++ [(cd, at_)]).length = fs2.length + 1 := by simp
              rw [← cellsF_snoc, ← hl6] at hown6
              have HOWN6 := Lib.hid hown6; have HF6 := Lib.hid hF6
              clear hown5 hsrc hBw hown6 hg5 hat5 hF6 hi0 hz0 hz1 hz2
              go_wp2_with fail
              go_roundw
              case rel => exact ⟨j + 1, d - 1, c2, fs2 ++ [(cd, at_)], ⟨by omega, by omega, by simp; omega, by omega⟩, congrArg (Value.int .i64) (by split <;> omega), rfl, by go_num, HOWN6.out, HF6.out, by rw [HFIN.out, Fin_throw hj (by rw [HK.out, HCD.out]; exact HTH.out), HCD.out, HAT.out]⟩
              case measure => simp [intOf]; omega
            · have HQ34 := Lib.hid hq34
              by_cases hm : cd.tmod 2 = 0
              · have hm' : (cd.tmod 2 != 0) = false := by simp [hm]
                have hm2 : (cd.tmod 2 == 0) = true := by simp [hm]
                have HM := Lib.hid hm; clear hm
                rcases hq34 with rfl | rfl
                all_goals
                  go_wp2_with fail
                  go_roundw
                  case rel => exact ⟨j + 1, d, c2, fs2, ⟨by omega, by omega, by omega, by omega⟩, rfl, rfl, by go_num, HO1.out, HF1.out, by rw [HFIN.out, Fin_must hj (by rw [HK.out, HQ.out]; decide) (by rw [HCD.out]; exact HM.out)]⟩
                  case measure => simp [intOf]; omega
              · have hm' : (cd.tmod 2 != 0) = true := by simp [hm]
                have hm2 : (cd.tmod 2 == 0) = false := by simp [hm]
                have HTH := Lib.hid (show k % 8 = 2 ∨ (k % 8 = 3 ∨ k % 8 = 4) ∧ cd.tmod 2 ≠ 0 from .inr ⟨by rw [HQ.out]; exact hq34, hm⟩)
                clear hm
                rcases hq34 with rfl | rfl
                all_goals
                  go_upto_region 20 with (fail)
                  apply wp_region_lit
                  iterate 7 (refine wpList_plain rfl (fun K hK => ?_); go_simp; refine hK _ _ ?_; clear hK K)
                  have hown5 := HO1.out.alloc (.cells #[.int .i64 cd, .int .i64 at_] 26)
                  have hsrc := src_blk (sz := 2) (m := 1) (Blk.new w4 #[.int .i64 cd, .int .i64 at_] 26) (by simp) (by simp; exact ⟨rfl, rfl⟩) 1
                  obtain ⟨i0, hi0, hz0, hz1, hz2⟩ := info_parts info26
                  have hBw : wo.heap.size ≤ (w4.alloc (.cells #[.int .i64 cd, .int .i64 at_] 26)).heap.size := by have := HF1.out.size; simp; omega
                  refine wpList_append_src _ rfl (Operand.tmp 72) (Operand.tmp 78) 35 rfl wo.heap.size 26 i0 _ 2 16 Try.underlying35 hi0 hz0 hz1 hz2 rfl (by decide) _ _ fs2.length 1 (cellsF fs2) [.int .i64 cd, .int .i64 at_] rfl rfl hown5 hsrc (by simp only [maxLen]; omega) (by omega) hBw ?_
                  intro v5 w5 hown6 hg5 hat5
                  have hF6 : Fr [] wo w5 := (HF1.out.alloc (.cells #[.int .i64 cd, .int .i64 at_] 26)).trans (fr_grown hg5) (fun x hx => by
                    simp only [Option.mem_toList] at hx
                    exact .inr (own_base hown5 hx))
                  have hl6 : (fs2 ++ [(cd, at_)]).length = fs2.length + 1 := by simp
                  rw [← cellsF_snoc, ← hl6] at hown6
                  have HOWN6 := Lib.hid hown6; have HF6 := Lib.hid hF6
                  clear hown5 hsrc hBw hown6 hg5 hat5 hF6 hi0 hz0 hz1 hz2
                  go_wp2_with fail
                  go_roundw
                  case rel => exact ⟨j + 1, d - 1, c2, fs2 ++ [(cd, at_)], ⟨by omega, by omega, by simp; omega, by omega⟩, congrArg (Value.int .i64) (by split <;> omega), rfl, by go_num, HOWN6.out, HF6.out, by rw [HFIN.out, Fin_throw hj (by rw [HK.out, HCD.out]; exact HTH.out), HCD.out, HAT.out]⟩
                  case measure => simp [intOf]; omega
            · have HQ5 := Lib.hid (show 5 ≤ k % 8 by rw [HQ.out]; omega)
              rcases hq567 with rfl | rfl | rfl
              all_goals
                go_wp2_with fail
                go_roundw
                case rel => exact ⟨j + 1, d, c2 + 1, fs2, ⟨by omega, by omega, by omega, by omega⟩, rfl, by go_num, by go_num, HO1.out, HF1.out, by rw [HFIN.out, Fin_count hj (by rw [HK.out]; exact HQ5.out)]⟩
                case measure => simp [intOf]; omega
          · obtain rfl : N = j := by omega
            have heq : (c2, fs2) = (c, fs) := by rw [← HRES.out, HFIN.out, Fin_end]
            simp only [Prod.mk.injEq] at heq
            obtain ⟨rfl, rfl⟩ := heq
            have P5 := HP.out.fr HFQ.out (by simp) (by simp)
            have m5 := P5.blk
            have d2 := m5.cell (i := 2) rfl
            have d3 := m5.cell (i := 3) rfl
            simp only [List.getElem_toArray, List.getElem_cons_zero, List.getElem_cons_succ] at d2 d3
            have own1 := P5.own
            have own2 := HOWN.out
            have hFW := HF.out.trans HFQ.out (by simp)
            obtain ⟨ad1, cap1, rfl, -, -, -, -⟩ := own_any own1
            obtain ⟨ad2, cap2, rfl, -, -, -, -⟩ := own_any own2
            have h40 : fs2.length ≤ 40 := by omega
            have OW1 := Lib.hid own1; have OW2 := Lib.hid own2; have HFW := Lib.hid hFW
            clear own1 own2 hFW P5 m5 mp hj
            have hdone : ∀ l : Bool, True := fun _ => trivial
            clear hdone
            first
              | (have g1 : decide (N < len0) = true := by simp; exact HL2.out
                 have g2 : ¬ (N : Int) < 40 := by have := HN.out; have := HL2.out; omega
                 go_upto_region 26 with (fail))
              | (have g1 : decide (N < len0) = false := by have := HL2.out; simp; omega
                 go_upto_region 26 with (fail))
            go_wp2_with fail
            go_loopw [106] (fun mv w5 => ∃ m n : Nat, m ≤ fs2.length ∧ mv = .int .i64 m ∧ w5 = wr.drewN n) (fun mv _ => 40 - (intOf mv).toNat)
            case atStart => exact ⟨0, 0, by omega, rfl, rfl⟩
            case round =>
              obtain ⟨m, n, hm, rfl, rfl⟩ := hrel
              by_cases hml : m < fs2.length
              · obtain ⟨gA, cA, eA, -, -, -⟩ := own_form OW1.out (by omega)
                obtain ⟨gB, cB, eB, -, -, -⟩ := own_form OW2.out (by omega)
                simp only [Value.slice.injEq, true_and] at eA eB
                obtain ⟨rfl, rfl⟩ := eA
                obtain ⟨rfl, rfl⟩ := eB
                obtain ⟨p, hp⟩ : ∃ p, fs2[m]? = some p := ⟨_, List.getElem?_eq_getElem hml⟩
                have u1 := OW1.out.cellAt (m * 2) (by omega)
                have u2 := OW1.out.cellAt (m * 2 + 1) (by omega)
                have u3 := OW2.out.cellAt (m * 2) (by omega)
                have u4 := OW2.out.cellAt (m * 2 + 1) (by omega)
                obtain ⟨v1, v2⟩ := cellsF_at hp
                rw [v1] at u1 u3
                rw [v2] at u2 u4
                have hne := neq26 p.1 p.2
                have g0 : 0 ≤ (m : Int) := by omega
                have g3 : (m : Int) < (fs2.length : Int) := by omega
                have g4 : (m : Int) < 40 := by omega
                go_wp2_with fail
                have u1' : (wr.drewN n).cell? ⟨gA, m * 2, none⟩ = some (.int .i64 p.1) := u1
                have u2' : (wr.drewN n).cell? ⟨gA, m * 2 + 1, none⟩ = some (.int .i64 p.2) := u2
                have u3' : (wr.drewN n).cell? ⟨gB, m * 2, none⟩ = some (.int .i64 p.1) := u3
                have u4' : (wr.drewN n).cell? ⟨gB, m * 2 + 1, none⟩ = some (.int .i64 p.2) := u4
                go_quiet (fail)
                go_wp2_with fail
                go_roundw
                case rel => exact ⟨m + 1, _, by omega, by go_num, by first | rfl | (rw [World.drewN_drewN])⟩
                case measure => simp [intOf]; omega
              · obtain rfl : m = fs2.length := by omega
                go_wp2_with fail
                go_ret
                exact ⟨rfl, (HFW.out.drewN n).below (Nat.le_refl _) (by simp)⟩
end Go.Proofs.Ytlfdbkdaamodnaa.Tr
