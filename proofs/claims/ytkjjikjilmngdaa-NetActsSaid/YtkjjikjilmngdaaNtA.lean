/- chapter 24: any sends, fates, deliveries are answered as the reference answers. -/
import Derived.Test.YtkjjikjilmngdaaNtZ
import Derived.Test.YtkjjikjilmngdaaNtL
import Derived.Test.YtkjjikjilmngdaaNtM
import Derived.Test.YtkjjikjilmngdaaSlNa
namespace Go.Proofs.Ytkjjikjilmngdaa.Nt
open Go.RowKit Dt Go.Proofs.Ytkjjikjilmngdaa.Hd
set_option linter.unusedVariables false
set_option linter.unusedSimpArgs false

theorem Two.empty {W w : World} {bn br : Nat} (h1 : Blk w bn #[.slice none 0 0, .slice none 0 0, .int .i64 0] 71) (h2 : Blk w br #[.slice none 0 0, .slice none 0 0, .int .i64 0, .int .i64 0] 93) (b1 : W.heap.size ≤ bn) (b2 : W.heap.size ≤ br) (hf : Fr [] W w) : Two W w bn br ⟨[], [], 0⟩ ⟨[], [], 0⟩ 0 := by
  refine ⟨⟨_, .slice none 0 0, .slice none 0 0, _, .slice none 0 0, .slice none 0 0, h1, ⟨Sub.whole _, own_nil _ _ _ _, ⟨[], own_nil _ _ _ _, FlOk.nil _⟩, by simp, by simp, by simp⟩, h2, ⟨rfl, FaS.nil _ _, ⟨[], own_nil _ _ _ _, FlOk.nil _, ⟨List.Pairwise.nil, fun x hx => by simp at hx⟩⟩, by simp, by simp, by simp⟩, fun x hx hx' => ?_⟩, b1, b2, hf⟩
  unfold NB at hx hx'
  simp [Value.ownBlock] at hx hx'
  exact blk_blk h1 h2 (by decide) (by rw [← hx, hx'])
set_option maxRecDepth 100000 in
set_option maxHeartbeats 12800000 in
theorem walk_acts (a0 : Option Addr) (len0 cap0 : Nat) (z : Nat → NA) (W : World) (w0 : SlNA W a0 len0 cap0 z) :
    Calls Try.prog 11 #[.slice a0 len0 cap0] W fun e w' => e = .returned (.bool true) ∧ Below W.heap.size W w' := by
  have hmax : len0 ≤ cap0 ∧ cap0 ≤ maxLen := ⟨w0.le, w0.max⟩
  have hlm : len0 ≤ 9223372036854775807 := by have := hmax.1; have := hmax.2; unfold maxLen at this; omega
  have HZ := Lib.hid w0
  clear w0 hmax
  go_enter Try.func11, Try.ntmps11
  go_wp2_with fail
  have hb := Blk.new W #[.slice none 0 0, .slice none 0 0, .int .i64 0] 71
  have hF0 := (Fr.refl [] W).alloc (.cells #[.slice none 0 0, .slice none 0 0, .int .i64 0] 71)
  obtain ⟨b, hbe⟩ : ∃ b, W.heap.size = b := ⟨_, rfl⟩
  rw [hbe] at hb ⊢
  have HBE := Lib.hid hbe
  clear hbe
  generalize W.alloc (.cells #[.slice none 0 0, .slice none 0 0, .int .i64 0] 71) = wa at *
  refine (known_any _).mono ?_; rintro e w1 ⟨rfl, hF⟩
  have HN1 := Lib.hid (hF.blk hb (by simp)); have HF1 := Lib.hid (hF0.trans hF (by simp))
  clear hb hF0 hF
  go_upto_region 5 with (fail)
  have hA := Blk.new w1 #[.slice none 0 0, .slice none 0 0, .int .i64 0, .int .i64 0] 93
  have hFA := (Fr.refl [] w1).alloc (.cells #[.slice none 0 0, .slice none 0 0, .int .i64 0, .int .i64 0] 93)
  obtain ⟨R, hRe⟩ : ∃ R, w1.heap.size = R := ⟨_, rfl⟩
  rw [hRe] at hA ⊢
  generalize w1.alloc (.cells #[.slice none 0 0, .slice none 0 0, .int .i64 0, .int .i64 0] 93) = w2 at *
  have HT := Lib.hid (Two.empty (W := W) (hFA.blk HN1.out (by simp)) hA (by have := HBE.out; omega) (by rw [← hRe]; exact HF1.out.size) (HF1.out.trans hFA (by simp)))
  clear hA hFA hRe HN1 HF1
  go_wp2_with fail
  go_loopw [5, 6] (fun tv iv wr => ∃ (i tk no : Nat) (s : NetV), i ≤ len0 ∧ i ≤ 80 ∧ iv = .int .i64 i ∧ tv = .int .i64 tk ∧ tk ≤ 3 * i ∧ Two W wr b R s s no ∧ s.lost ≤ 3 * i ∧ no ≤ 3 * i) (fun _ iv _ => 80 - (intOf iv).toNat)
  case atStart => exact ⟨0, 0, 0, ⟨[], [], 0⟩, by omega, by omega, rfl, rfl, by omega, HT.out, by simp, by omega⟩
  case round =>
    obtain ⟨i, tk, no, s, hi, hi8, rfl, rfl, htk, hT, hlo, hno⟩ := hrel
    clear HT
    have hF := hT.fr
    by_cases h1 : i < len0
    · by_cases h2 : i < 80
      · have q1 : (i : Int) < len0 := by omega
        have q2 : (i : Int) < 80 := by omega
        obtain ⟨b0, off0, rfl, hb0, hcc, hby⟩ := HZ.out.get h1
        obtain ⟨⟨zw, zn, zt, zd, zc, zl, za, zln, zcp, zbs⟩, hzi⟩ : ∃ y, z i = y := ⟨_, rfl⟩
        rw [hzi] at hcc hby
        have c0 := (hF.cell (p := ⟨b0, off0 + i * 7 + 0, none⟩) hb0 (by simp)).trans (hcc 0 _ rfl)
        have c1 := (hF.cell (p := ⟨b0, off0 + i * 7 + 1, none⟩) hb0 (by simp)).trans (hcc 1 _ rfl)
        have c2 := (hF.cell (p := ⟨b0, off0 + i * 7 + 2, none⟩) hb0 (by simp)).trans (hcc 2 _ rfl)
        have c3 := (hF.cell (p := ⟨b0, off0 + i * 7 + 3, none⟩) hb0 (by simp)).trans (hcc 3 _ rfl)
        have c4 := (hF.cell (p := ⟨b0, off0 + i * 7 + 4, none⟩) hb0 (by simp)).trans (hcc 4 _ rfl)
        have c5 := (hF.cell (p := ⟨b0, off0 + i * 7 + 5, none⟩) hb0 (by simp)).trans (hcc 5 _ rfl)
        have c6 := (hF.cell (p := ⟨b0, off0 + i * 7 + 6, none⟩) hb0 (by simp)).trans (hcc 6 _ rfl)
        rw [Nat.add_zero] at c0
        have HT := Lib.hid hT; have HBY := Lib.hid hby
        clear hT hby hcc hzi hF
        go_upto_region 10 with (fail)
        have hG := Blk.new wr #[.int .i64 zw, .int .i64 zn, .int .i64 zt, .bool zd, .int .i64 zc, .int .i64 zl, .slice za zln zcp] 84
        have hFG := (Fr.refl [] wr).alloc (.cells #[.int .i64 zw, .int .i64 zn, .int .i64 zt, .bool zd, .int .i64 zc, .int .i64 zl, .slice za zln zcp] 84)
        obtain ⟨G, hGe⟩ : ∃ G, wr.heap.size = G := ⟨_, rfl⟩
        rw [hGe] at hG ⊢
        generalize wr.alloc (.cells #[.int .i64 zw, .int .i64 zn, .int .i64 zt, .bool zd, .int .i64 zc, .int .i64 zl, .slice za zln zcp] 84) = w3 at *
        have HT3 := Lib.hid (HT.out.fr0 hFG)
        have HG := Lib.hid hG
        have g0 := Blk.cell (i := 0) hG rfl
        simp only [List.getElem_toArray, List.getElem_cons_zero, List.getElem_cons_succ] at g0
        clear c0 c1 c2 c3 c4 c5 c6 hG hFG HT hGe
        have hpick := fun w : World => pick_any zw 8 w (by decide) (by decide)
        obtain ⟨p, hp⟩ : ∃ p, zw % 8 = p := ⟨_, rfl⟩
        rw [hp] at hpick
        have hp0 : 0 ≤ p := by rw [← hp]; exact Int.emod_nonneg _ (by decide)
        have hp8 : p < 8 := by rw [← hp]; exact Int.emod_lt_of_pos _ (by decide)
        have HPK := Lib.hid hpick
        clear hp hpick
        go_wp2_with fail
        refine (HPK.out _).mono ?_; rintro e w4 ⟨rfl, rfl⟩
        clear g0
        go_upto_block 2 with (fail)
        go_cut [5, 8, 9, 10, 11, 12, 13] from 35 to 161 (fun tv _ _ _ _ _ _ wc => ∃ (tk' no' : Nat) (s' : NetV), tv = .int .i64 tk' ∧ tk' ≤ tk + 3 ∧ no' ≤ no + 3 ∧ s'.lost ≤ s.lost + 3 ∧ Two W wc b R s' s' no')
        case first =>
          by_cases e5 : p = 5 ∨ p = 6
          · skip
            as_aux_lemma =>
              have g2 := Blk.cell (i := 2) HG.out rfl
              simp only [List.getElem_toArray, List.getElem_cons_zero, List.getElem_cons_succ] at g2
              have hpt := fun w : World => pick_any zt 4 w (by decide) (by decide)
              obtain ⟨pt, hpte⟩ : ∃ pt : Nat, zt % 4 = pt := ⟨(zt % 4).toNat, (Int.toNat_of_nonneg (Int.emod_nonneg _ (by decide))).symm⟩
              have b1 : pt < 4 := by have := Int.emod_lt_of_pos zt (show (0 : Int) < 4 by decide); omega
              rw [hpte] at hpt
              have HPT := Lib.hid hpt
              clear hpt hpte
              go_upto_if 60 with (fail)
              go_cut [60] from 62 to 62 (fun v wc => v = .bool true ∧ w3 = wc)
              case first =>
                rcases e5 with h | h
                · subst h
                  go_wp2_with fail
                  go_meet
                  case rel => exact ⟨rfl, rfl⟩
                · subst h
                  go_wp2_with fail
                  go_meet
                  case rel => exact ⟨rfl, rfl⟩
              case rest =>
                obtain ⟨rfl, hw⟩ := hcut
                subst hw
                clear e5
                go_wp2_with fail
                refine (HPT.out _).mono ?_; rintro e w4 ⟨rfl, rfl⟩
                go_upto_if 72 with (fail)
                go_cut [8] from 73 to 74 (fun v wc => ∃ wh : Int, v = .int .i64 wh ∧ w3 = wc)
                case first =>
                  by_cases hq : zt.tmod 29 = 28
                  · go_wp2_with fail
                    go_meet
                    case rel => exact ⟨_, rfl, rfl⟩
                  · go_wp2_with fail
                    go_meet
                    case rel => exact ⟨_, rfl, rfl⟩
                case rest =>
                  obtain ⟨wh, rfl, hw⟩ := hcut
                  subst hw
                  obtain ⟨K1, -, hN, hm⟩ := HT3.out.n (Fr.refl [] w3) [] (by simp)
                  have HN := Lib.hid hN; have HM := Lib.hid hm
                  clear g2 hN hm
                  go_wp2_with fail
                  refine (hdeliver HN.out wh).mono ?_
                  rintro e w5 ⟨ov, rfl, hN5, hD5, hk5⟩
                  obtain ⟨l, hl⟩ : ∃ l, (deliverS s wh).1 = l := ⟨_, rfl⟩
                  obtain ⟨s', hs'⟩ : ∃ s', (deliverS s wh).2 = s' := ⟨_, rfl⟩
                  have hls : s'.lost = s.lost := by rw [← hs']; rfl
                  have hT5 := HM.out _ _ hN5 hk5
                  rw [hs'] at hT5
                  rw [hl] at hD5
                  have hE : ∀ g ∈ ov.ownBlock.toList, g < w5.heap.size ∧ (w5.heap.size ≤ g ∨ ∃ cur T, Blk w5 g cur T ∧ T ≠ 93 ∧ T ≠ 98 ∧ T ≠ 96) := fun g hg => by
                    obtain ⟨V5, ho5, -⟩ := hD5
                    simp only [Option.mem_toList] at hg
                    obtain ⟨cur, hB⟩ := own_isblk ho5 hg
                    exact ⟨hB.lt, .inr ⟨cur, _, hB, by decide, by decide, by decide⟩⟩
                  obtain ⟨K2, hE2, hR, hm2⟩ := hT5.r (Fr.refl [] w5) _ hE
                  have HR := Lib.hid hR; have HM2 := Lib.hid hm2; have HD5 := Lib.hid hD5; have HE2 := Lib.hid hE2; have HL := Lib.hid hl; have HS' := Lib.hid hs'
                  clear hN5 hk5 hT5 hE hR hm2 hD5 hE2 hl hs' HN HM
                  go_wp2_with fail
                  refine (rdeliver HR.out (tick := wh)).mono ?_
                  rintro e w6 ⟨ov2, rfl, hR6, hQ6, hk6⟩
                  rw [HS'.out] at hR6
                  rw [HL.out] at hQ6
                  have hD6 := hk6.dg HD5.out (fun g hg => HE2.out g (by simp only [Option.mem_toList]; exact hg))
                  have HT6 := Lib.hid (HM2.out _ _ _ hR6 hk6)
                  obtain ⟨ln, hln⟩ : ∃ ln, l.length = ln := ⟨_, rfl⟩
                  obtain ⟨oa, oc, hov, ho1, ho2⟩ : ∃ a c, ov = .slice a ln c ∧ ln ≤ c ∧ c ≤ maxLen := by obtain ⟨V5, ho5, -⟩ := hD6; rw [hln] at ho5; exact own_val ho5
                  obtain ⟨oa2, oc2, hov2, ho3, ho4⟩ : ∃ a c, ov2 = .slice a ln c ∧ ln ≤ c ∧ c ≤ maxLen := by obtain ⟨V5, ho5, -⟩ := hQ6; rw [hln] at ho5; exact own_val ho5
                  subst hov hov2
                  have hlm2 : ln ≤ 9223372036854775807 := by unfold maxLen at ho2; omega
                  have HD6 := Lib.hid hD6; have HQ6 := Lib.hid hQ6; have HLN := Lib.hid hln; have HLS := Lib.hid hls
                  clear hR6 hk6 hD6 hQ6 hln hls HR HM2 HD5 HE2
                  go_wp2_with fail
                  go_loopw [11, 87] (fun _ kv wr => ∃ k, k ≤ ln ∧ kv = .int .i64 (k : Nat) ∧ Fr [] w6 wr) (fun _ kv _ => ln - (intOf kv).toNat)
                  case atStart => exact ⟨0, by omega, rfl, Fr.refl _ _⟩
                  case round =>
                    obtain ⟨k, hk, rfl, hFk⟩ := hrel
                    by_cases hkl : k < ln
                    · have q3 : (k : Int) < ln := by omega
                      obtain ⟨x, hx⟩ : ∃ x, l[k]? = some x := ⟨_, List.getElem?_eq_getElem (by rw [HLN.out]; exact hkl)⟩
                      obtain ⟨g, cap, a1, c1, e1, -, -, d0, d1, d2, bv1⟩ := (HD6.out.fr hFk (by simp) (NoU8.nil _)).at hx
                      obtain ⟨g', cap', a2, c2, e2, -, -, r0, r1, r2, bv2⟩ := (HQ6.out.fr hFk).at hx
                      obtain ⟨rfl, -, rfl⟩ := slice_inj e1
                      obtain ⟨rfl, -, rfl⟩ := slice_inj e2
                      obtain ⟨ss, hss⟩ : ∃ ss, strOf x.bs = ss := ⟨_, rfl⟩
                      obtain ⟨xl, hxl⟩ : ∃ xl, x.bs.length = xl := ⟨_, rfl⟩
                      rw [hxl] at d2 r2 bv1 bv2
                      have D0 := Lib.hid (fun (w' : World) (h : Fr [] wr w') => (h.cell (World.block_lt_of_cell? _ _ d0) (by simp)).trans d0)
                      have D1 := Lib.hid (fun (w' : World) (h : Fr [] wr w') => (h.cell (World.block_lt_of_cell? _ _ d1) (by simp)).trans d1)
                      have D2 := Lib.hid (fun (w' : World) (h : Fr [] wr w') => (h.cell (World.block_lt_of_cell? _ _ d2) (by simp)).trans d2)
                      have R0 := Lib.hid (fun (w' : World) (h : Fr [] wr w') => (h.cell (World.block_lt_of_cell? _ _ r0) (by simp)).trans r0)
                      have R1 := Lib.hid (fun (w' : World) (h : Fr [] wr w') => (h.cell (World.block_lt_of_cell? _ _ r1) (by simp)).trans r1)
                      have R2 := Lib.hid (fun (w' : World) (h : Fr [] wr w') => (h.cell (World.block_lt_of_cell? _ _ r2) (by simp)).trans r2)
                      have X1 := Lib.hid (fun (w' : World) (h : Fr [] wr w') => run_str (P := Try.prog) (src := 73) (dst := 9) (bv1.ls.fr0 h) Try.underlying73 Try.underlying5 Try.underlying9)
                      have X2 := Lib.hid (fun (w' : World) (h : Fr [] wr w') => run_str (P := Try.prog) (src := 73) (dst := 9) (bv2.ls.fr0 h) Try.underlying73 Try.underlying5 Try.underlying9)
                      rw [hss] at X1 X2
                      obtain ⟨xs, hxs⟩ : ∃ xs, x.src = xs := ⟨_, rfl⟩
                      obtain ⟨xd, hxd⟩ : ∃ xd, x.dst = xd := ⟨_, rfl⟩
                      rw [hxs] at D0 R0
                      rw [hxd] at D1 R1
                      have HFK := Lib.hid hFk
                      clear hx e1 e2 d0 d1 d2 r0 r1 r2 bv1 bv2 hss hxl hxs hxd hFk
                      go_upto_region 29 with (fail)
                      refine wp_region_M 39 (fun w' => Fr [] wr w') (by kernel_rfl) ((Fr.refl [] wr).drew) (fun hS => ?_)
                      try simp only [List.getElem_toArray, List.getElem_cons_succ, List.getElem_cons_zero, Act.put, List.setIfInBounds_toArray, List.set_cons_zero, List.set_cons_succ]
                      generalize wr.drew = wz0 at *
                      refine wpAnyM_take (i := 0) (v := ?_) rfl (by kernel_rfl) (by kernel_rfl) (by kernel_rfl) (by kernel_rfl) (fun _ _ _ h => h) (Or.inl ⟨by kernel_rfl, ?_⟩) hS ?_; rotate_left; (intro w hSw; have s0 := D0.out _ hSw; have s1 := D1.out _ hSw; have s2 := D2.out _ hSw; have s3 := R0.out _ hSw; have s4 := R1.out _ hSw; have s5 := R2.out _ hSw; have s6 := X1.out _ hSw; have s7 := X2.out _ hSw; go_simp; try with_reducible rfl)
                      try simp only [List.getElem_toArray, List.getElem_cons_succ, List.getElem_cons_zero, Act.put, List.setIfInBounds_toArray, List.set_cons_zero, List.set_cons_succ]
                      refine wpAnyM_take (i := 1) (v := ?_) rfl (by kernel_rfl) (by kernel_rfl) (by kernel_rfl) (by kernel_rfl) (fun _ _ _ h => h) (Or.inl ⟨by kernel_rfl, ?_⟩) hS ?_; rotate_left; (intro w hSw; have s0 := D0.out _ hSw; have s1 := D1.out _ hSw; have s2 := D2.out _ hSw; have s3 := R0.out _ hSw; have s4 := R1.out _ hSw; have s5 := R2.out _ hSw; have s6 := X1.out _ hSw; have s7 := X2.out _ hSw; go_simp; try with_reducible rfl)
                      try simp only [List.getElem_toArray, List.getElem_cons_succ, List.getElem_cons_zero, Act.put, List.setIfInBounds_toArray, List.set_cons_zero, List.set_cons_succ]
                      refine wpAnyM_take (i := 2) (v := ?_) rfl (by kernel_rfl) (by kernel_rfl) (by kernel_rfl) (by kernel_rfl) (fun _ _ _ h => h) (Or.inl ⟨by kernel_rfl, ?_⟩) hS ?_; rotate_left; (intro w hSw; have s0 := D0.out _ hSw; have s1 := D1.out _ hSw; have s2 := D2.out _ hSw; have s3 := R0.out _ hSw; have s4 := R1.out _ hSw; have s5 := R2.out _ hSw; have s6 := X1.out _ hSw; have s7 := X2.out _ hSw; go_simp; try with_reducible rfl)
                      try simp only [List.getElem_toArray, List.getElem_cons_succ, List.getElem_cons_zero, Act.put, List.setIfInBounds_toArray, List.set_cons_zero, List.set_cons_succ]
                      refine wpAnyM_take (i := 3) (v := ?_) rfl (by kernel_rfl) (by kernel_rfl) (by kernel_rfl) (by kernel_rfl) (fun _ _ _ h => h) (Or.inl ⟨by kernel_rfl, ?_⟩) hS ?_; rotate_left; (intro w hSw; have s0 := D0.out _ hSw; have s1 := D1.out _ hSw; have s2 := D2.out _ hSw; have s3 := R0.out _ hSw; have s4 := R1.out _ hSw; have s5 := R2.out _ hSw; have s6 := X1.out _ hSw; have s7 := X2.out _ hSw; go_simp; try with_reducible rfl)
                      try simp only [List.getElem_toArray, List.getElem_cons_succ, List.getElem_cons_zero, Act.put, List.setIfInBounds_toArray, List.set_cons_zero, List.set_cons_succ]
                      refine wpAnyM_take (i := 4) (v := ?_) rfl (by kernel_rfl) (by kernel_rfl) (by kernel_rfl) (by kernel_rfl) (fun _ _ _ h => h) (Or.inl ⟨by kernel_rfl, ?_⟩) hS ?_; rotate_left; (intro w hSw; have s0 := D0.out _ hSw; have s1 := D1.out _ hSw; have s2 := D2.out _ hSw; have s3 := R0.out _ hSw; have s4 := R1.out _ hSw; have s5 := R2.out _ hSw; have s6 := X1.out _ hSw; have s7 := X2.out _ hSw; go_simp; try with_reducible rfl)
                      try simp only [List.getElem_toArray, List.getElem_cons_succ, List.getElem_cons_zero, Act.put, List.setIfInBounds_toArray, List.set_cons_zero, List.set_cons_succ]
                      refine wpAnyM_take (i := 5) (v := ?_) rfl (by kernel_rfl) (by kernel_rfl) (by kernel_rfl) (by kernel_rfl) (fun _ _ _ h => h) (Or.inl ⟨by kernel_rfl, ?_⟩) hS ?_; rotate_left; (intro w hSw; have s0 := D0.out _ hSw; have s1 := D1.out _ hSw; have s2 := D2.out _ hSw; have s3 := R0.out _ hSw; have s4 := R1.out _ hSw; have s5 := R2.out _ hSw; have s6 := X1.out _ hSw; have s7 := X2.out _ hSw; go_simp; try with_reducible rfl)
                      try simp only [List.getElem_toArray, List.getElem_cons_succ, List.getElem_cons_zero, Act.put, List.setIfInBounds_toArray, List.set_cons_zero, List.set_cons_succ]
                      refine wpAnyM_take (i := 6) (v := ?_) rfl (by kernel_rfl) (by kernel_rfl) (by kernel_rfl) (by kernel_rfl) (fun _ _ _ h => h) (Or.inl ⟨by kernel_rfl, ?_⟩) hS ?_; rotate_left; (intro w hSw; have s0 := D0.out _ hSw; have s1 := D1.out _ hSw; have s2 := D2.out _ hSw; have s3 := R0.out _ hSw; have s4 := R1.out _ hSw; have s5 := R2.out _ hSw; have s6 := X1.out _ hSw; have s7 := X2.out _ hSw; go_simp; try with_reducible rfl)
                      try simp only [List.getElem_toArray, List.getElem_cons_succ, List.getElem_cons_zero, Act.put, List.setIfInBounds_toArray, List.set_cons_zero, List.set_cons_succ]
                      refine wpAnyM_take (i := 7) (v := ?_) rfl (by kernel_rfl) (by kernel_rfl) (by kernel_rfl) (by kernel_rfl) (fun _ _ _ h => h) (Or.inl ⟨by kernel_rfl, ?_⟩) hS ?_; rotate_left; (intro w hSw; have s0 := D0.out _ hSw; have s1 := D1.out _ hSw; have s2 := D2.out _ hSw; have s3 := R0.out _ hSw; have s4 := R1.out _ hSw; have s5 := R2.out _ hSw; have s6 := X1.out _ hSw; have s7 := X2.out _ hSw; go_simp; try with_reducible rfl)
                      try simp only [List.getElem_toArray, List.getElem_cons_succ, List.getElem_cons_zero, Act.put, List.setIfInBounds_toArray, List.set_cons_zero, List.set_cons_succ]
                      refine wpAnyM_take (i := 8) (v := ?_) rfl (by kernel_rfl) (by kernel_rfl) (by kernel_rfl) (by kernel_rfl) (fun _ _ _ h => h) (Or.inl ⟨by kernel_rfl, ?_⟩) hS ?_; rotate_left; (intro w hSw; have s0 := D0.out _ hSw; have s1 := D1.out _ hSw; have s2 := D2.out _ hSw; have s3 := R0.out _ hSw; have s4 := R1.out _ hSw; have s5 := R2.out _ hSw; have s6 := X1.out _ hSw; have s7 := X2.out _ hSw; go_simp; try with_reducible rfl)
                      try simp only [List.getElem_toArray, List.getElem_cons_succ, List.getElem_cons_zero, Act.put, List.setIfInBounds_toArray, List.set_cons_zero, List.set_cons_succ]
                      refine wpAnyM_take (i := 9) (v := ?_) rfl (by kernel_rfl) (by kernel_rfl) (by kernel_rfl) (by kernel_rfl) (fun _ _ _ h => h) (Or.inl ⟨by kernel_rfl, ?_⟩) hS ?_; rotate_left; (intro w hSw; have s0 := D0.out _ hSw; have s1 := D1.out _ hSw; have s2 := D2.out _ hSw; have s3 := R0.out _ hSw; have s4 := R1.out _ hSw; have s5 := R2.out _ hSw; have s6 := X1.out _ hSw; have s7 := X2.out _ hSw; go_simp; try with_reducible rfl)
                      try simp only [List.getElem_toArray, List.getElem_cons_succ, List.getElem_cons_zero, Act.put, List.setIfInBounds_toArray, List.set_cons_zero, List.set_cons_succ]
                      refine wpAnyM_take (i := 10) (v := ?_) rfl (by kernel_rfl) (by kernel_rfl) (by kernel_rfl) (by kernel_rfl) (fun _ _ _ h => h) (Or.inl ⟨by kernel_rfl, ?_⟩) hS ?_; rotate_left; (intro w hSw; have s0 := D0.out _ hSw; have s1 := D1.out _ hSw; have s2 := D2.out _ hSw; have s3 := R0.out _ hSw; have s4 := R1.out _ hSw; have s5 := R2.out _ hSw; have s6 := X1.out _ hSw; have s7 := X2.out _ hSw; go_simp; try with_reducible rfl)
                      try simp only [List.getElem_toArray, List.getElem_cons_succ, List.getElem_cons_zero, Act.put, List.setIfInBounds_toArray, List.set_cons_zero, List.set_cons_succ]
                      refine wpAnyM_take (i := 11) (v := ?_) rfl (by kernel_rfl) (by kernel_rfl) (by kernel_rfl) (by kernel_rfl) (fun _ _ _ h => h) (Or.inl ⟨by kernel_rfl, ?_⟩) hS ?_; rotate_left; (intro w hSw; have s0 := D0.out _ hSw; have s1 := D1.out _ hSw; have s2 := D2.out _ hSw; have s3 := R0.out _ hSw; have s4 := R1.out _ hSw; have s5 := R2.out _ hSw; have s6 := X1.out _ hSw; have s7 := X2.out _ hSw; go_simp; try with_reducible rfl)
                      try simp only [List.getElem_toArray, List.getElem_cons_succ, List.getElem_cons_zero, Act.put, List.setIfInBounds_toArray, List.set_cons_zero, List.set_cons_succ]
                      refine wpAnyM_take (i := 12) (v := ?_) rfl (by kernel_rfl) (by kernel_rfl) (by kernel_rfl) (by kernel_rfl) (fun _ _ _ h => h) (Or.inl ⟨by kernel_rfl, ?_⟩) hS ?_; rotate_left; (intro w hSw; have s0 := D0.out _ hSw; have s1 := D1.out _ hSw; have s2 := D2.out _ hSw; have s3 := R0.out _ hSw; have s4 := R1.out _ hSw; have s5 := R2.out _ hSw; have s6 := X1.out _ hSw; have s7 := X2.out _ hSw; go_simp; try with_reducible rfl)
                      try simp only [List.getElem_toArray, List.getElem_cons_succ, List.getElem_cons_zero, Act.put, List.setIfInBounds_toArray, List.set_cons_zero, List.set_cons_succ]
                      refine wpAnyM_take (i := 13) (v := ?_) rfl (by kernel_rfl) (by kernel_rfl) (by kernel_rfl) (by kernel_rfl) (fun _ _ _ h => h) (Or.inl ⟨by kernel_rfl, ?_⟩) hS ?_; rotate_left; (intro w hSw; have s0 := D0.out _ hSw; have s1 := D1.out _ hSw; have s2 := D2.out _ hSw; have s3 := R0.out _ hSw; have s4 := R1.out _ hSw; have s5 := R2.out _ hSw; have s6 := X1.out _ hSw; have s7 := X2.out _ hSw; go_simp; try with_reducible rfl)
                      try simp only [List.getElem_toArray, List.getElem_cons_succ, List.getElem_cons_zero, Act.put, List.setIfInBounds_toArray, List.set_cons_zero, List.set_cons_succ]
                      refine wpAnyM_take (i := 14) (v := ?_) rfl (by kernel_rfl) (by kernel_rfl) (by kernel_rfl) (by kernel_rfl) (fun _ _ _ h => h) (Or.inl ⟨by kernel_rfl, ?_⟩) hS ?_; rotate_left; (intro w hSw; have s0 := D0.out _ hSw; have s1 := D1.out _ hSw; have s2 := D2.out _ hSw; have s3 := R0.out _ hSw; have s4 := R1.out _ hSw; have s5 := R2.out _ hSw; have s6 := X1.out _ hSw; have s7 := X2.out _ hSw; go_simp; try with_reducible rfl)
                      try simp only [List.getElem_toArray, List.getElem_cons_succ, List.getElem_cons_zero, Act.put, List.setIfInBounds_toArray, List.set_cons_zero, List.set_cons_succ]
                      refine wpAnyM_take (i := 15) (v := ?_) rfl (by kernel_rfl) (by kernel_rfl) (by kernel_rfl) (by kernel_rfl) (fun _ _ _ h => h) (Or.inl ⟨by kernel_rfl, ?_⟩) hS ?_; rotate_left; (intro w hSw; have s0 := D0.out _ hSw; have s1 := D1.out _ hSw; have s2 := D2.out _ hSw; have s3 := R0.out _ hSw; have s4 := R1.out _ hSw; have s5 := R2.out _ hSw; have s6 := X1.out _ hSw; have s7 := X2.out _ hSw; go_simp; try with_reducible rfl)
                      try simp only [List.getElem_toArray, List.getElem_cons_succ, List.getElem_cons_zero, Act.put, List.setIfInBounds_toArray, List.set_cons_zero, List.set_cons_succ]
                      refine wpAnyM_take (i := 16) (v := ?_) rfl (by kernel_rfl) (by kernel_rfl) (by kernel_rfl) (by kernel_rfl) (fun _ _ _ h => h) (Or.inl ⟨by kernel_rfl, ?_⟩) hS ?_; rotate_left; (intro w hSw; have s0 := D0.out _ hSw; have s1 := D1.out _ hSw; have s2 := D2.out _ hSw; have s3 := R0.out _ hSw; have s4 := R1.out _ hSw; have s5 := R2.out _ hSw; have s6 := X1.out _ hSw; have s7 := X2.out _ hSw; go_simp; try with_reducible rfl)
                      try simp only [List.getElem_toArray, List.getElem_cons_succ, List.getElem_cons_zero, Act.put, List.setIfInBounds_toArray, List.set_cons_zero, List.set_cons_succ]
                      refine wpAnyM_take (i := 17) (v := ?_) rfl (by kernel_rfl) (by kernel_rfl) (by kernel_rfl) (by kernel_rfl) (fun _ _ _ h => h) (Or.inl ⟨by kernel_rfl, ?_⟩) hS ?_; rotate_left; (intro w hSw; have s0 := D0.out _ hSw; have s1 := D1.out _ hSw; have s2 := D2.out _ hSw; have s3 := R0.out _ hSw; have s4 := R1.out _ hSw; have s5 := R2.out _ hSw; have s6 := X1.out _ hSw; have s7 := X2.out _ hSw; go_simp; try with_reducible rfl)
                      try simp only [List.getElem_toArray, List.getElem_cons_succ, List.getElem_cons_zero, Act.put, List.setIfInBounds_toArray, List.set_cons_zero, List.set_cons_succ]
                      refine wpAnyM_take (i := 18) (v := ?_) rfl (by kernel_rfl) (by kernel_rfl) (by kernel_rfl) (by kernel_rfl) (fun _ _ _ h => h) (Or.inl ⟨by kernel_rfl, ?_⟩) hS ?_; rotate_left; (intro w hSw; have s0 := D0.out _ hSw; have s1 := D1.out _ hSw; have s2 := D2.out _ hSw; have s3 := R0.out _ hSw; have s4 := R1.out _ hSw; have s5 := R2.out _ hSw; have s6 := X1.out _ hSw; have s7 := X2.out _ hSw; go_simp; try with_reducible rfl)
                      try simp only [List.getElem_toArray, List.getElem_cons_succ, List.getElem_cons_zero, Act.put, List.setIfInBounds_toArray, List.set_cons_zero, List.set_cons_succ]
                      refine wpAnyM_take (i := 19) (v := ?_) rfl (by kernel_rfl) (by kernel_rfl) (by kernel_rfl) (by kernel_rfl) (fun _ _ _ h => h) (Or.inl ⟨by kernel_rfl, ?_⟩) hS ?_; rotate_left; (intro w hSw; have s0 := D0.out _ hSw; have s1 := D1.out _ hSw; have s2 := D2.out _ hSw; have s3 := R0.out _ hSw; have s4 := R1.out _ hSw; have s5 := R2.out _ hSw; have s6 := X1.out _ hSw; have s7 := X2.out _ hSw; go_simp; try with_reducible rfl)
                      try simp only [List.getElem_toArray, List.getElem_cons_succ, List.getElem_cons_zero, Act.put, List.setIfInBounds_toArray, List.set_cons_zero, List.set_cons_succ]
                      refine wpAnyM_take (i := 20) (v := ?_) rfl (by kernel_rfl) (by kernel_rfl) (by kernel_rfl) (by kernel_rfl) (fun _ _ _ h => h) (Or.inl ⟨by kernel_rfl, ?_⟩) hS ?_; rotate_left; (intro w hSw; have s0 := D0.out _ hSw; have s1 := D1.out _ hSw; have s2 := D2.out _ hSw; have s3 := R0.out _ hSw; have s4 := R1.out _ hSw; have s5 := R2.out _ hSw; have s6 := X1.out _ hSw; have s7 := X2.out _ hSw; go_simp; try with_reducible rfl)
                      try simp only [List.getElem_toArray, List.getElem_cons_succ, List.getElem_cons_zero, Act.put, List.setIfInBounds_toArray, List.set_cons_zero, List.set_cons_succ]
                      refine wpAnyM_take (i := 21) (v := ?_) rfl (by kernel_rfl) (by kernel_rfl) (by kernel_rfl) (by kernel_rfl) (fun _ _ _ h => h) (Or.inl ⟨by kernel_rfl, ?_⟩) hS ?_; rotate_left; (intro w hSw; have s0 := D0.out _ hSw; have s1 := D1.out _ hSw; have s2 := D2.out _ hSw; have s3 := R0.out _ hSw; have s4 := R1.out _ hSw; have s5 := R2.out _ hSw; have s6 := X1.out _ hSw; have s7 := X2.out _ hSw; go_simp; try with_reducible rfl)
                      try simp only [List.getElem_toArray, List.getElem_cons_succ, List.getElem_cons_zero, Act.put, List.setIfInBounds_toArray, List.set_cons_zero, List.set_cons_succ]
                      refine wpAnyM_take (i := 22) (v := ?_) rfl (by kernel_rfl) (by kernel_rfl) (by kernel_rfl) (by kernel_rfl) (fun _ _ _ h => h) (Or.inl ⟨by kernel_rfl, ?_⟩) hS ?_; rotate_left; (intro w hSw; have s0 := D0.out _ hSw; have s1 := D1.out _ hSw; have s2 := D2.out _ hSw; have s3 := R0.out _ hSw; have s4 := R1.out _ hSw; have s5 := R2.out _ hSw; have s6 := X1.out _ hSw; have s7 := X2.out _ hSw; go_simp; try with_reducible rfl)
                      try simp only [List.getElem_toArray, List.getElem_cons_succ, List.getElem_cons_zero, Act.put, List.setIfInBounds_toArray, List.set_cons_zero, List.set_cons_succ]
                      refine wpAnyM_one (i := 23) (by kernel_rfl) rfl (fun KK hK => ?_)
                      go_simp
                      refine hK.out _ _ (fun _ => hS) (fun _ => ?_); clear hK KK
                      try simp only [List.getElem_toArray, List.getElem_cons_succ, List.getElem_cons_zero, Act.put, List.setIfInBounds_toArray, List.set_cons_zero, List.set_cons_succ]
                      refine wpAnyM_take (i := 24) (v := ?_) rfl (by kernel_rfl) (by kernel_rfl) (by kernel_rfl) (by kernel_rfl) (fun _ _ _ h => h) (Or.inl ⟨by kernel_rfl, ?_⟩) hS ?_; rotate_left; (intro w hSw; have s0 := D0.out _ hSw; have s1 := D1.out _ hSw; have s2 := D2.out _ hSw; have s3 := R0.out _ hSw; have s4 := R1.out _ hSw; have s5 := R2.out _ hSw; have s6 := X1.out _ hSw; have s7 := X2.out _ hSw; go_simp; try with_reducible rfl)
                      try simp only [List.getElem_toArray, List.getElem_cons_succ, List.getElem_cons_zero, Act.put, List.setIfInBounds_toArray, List.set_cons_zero, List.set_cons_succ]
                      refine wpAnyM_take (i := 25) (v := ?_) rfl (by kernel_rfl) (by kernel_rfl) (by kernel_rfl) (by kernel_rfl) (fun _ _ _ h => h) (Or.inl ⟨by kernel_rfl, ?_⟩) hS ?_; rotate_left; (intro w hSw; have s0 := D0.out _ hSw; have s1 := D1.out _ hSw; have s2 := D2.out _ hSw; have s3 := R0.out _ hSw; have s4 := R1.out _ hSw; have s5 := R2.out _ hSw; have s6 := X1.out _ hSw; have s7 := X2.out _ hSw; go_simp; try with_reducible rfl)
                      try simp only [List.getElem_toArray, List.getElem_cons_succ, List.getElem_cons_zero, Act.put, List.setIfInBounds_toArray, List.set_cons_zero, List.set_cons_succ]
                      refine wpAnyM_take (i := 26) (v := ?_) rfl (by kernel_rfl) (by kernel_rfl) (by kernel_rfl) (by kernel_rfl) (fun _ _ _ h => h) (Or.inl ⟨by kernel_rfl, ?_⟩) hS ?_; rotate_left; (intro w hSw; have s0 := D0.out _ hSw; have s1 := D1.out _ hSw; have s2 := D2.out _ hSw; have s3 := R0.out _ hSw; have s4 := R1.out _ hSw; have s5 := R2.out _ hSw; have s6 := X1.out _ hSw; have s7 := X2.out _ hSw; go_simp; try with_reducible rfl)
                      try simp only [List.getElem_toArray, List.getElem_cons_succ, List.getElem_cons_zero, Act.put, List.setIfInBounds_toArray, List.set_cons_zero, List.set_cons_succ]
                      refine wpAnyM_take (i := 27) (v := ?_) rfl (by kernel_rfl) (by kernel_rfl) (by kernel_rfl) (by kernel_rfl) (fun _ _ _ h => h) (Or.inl ⟨by kernel_rfl, ?_⟩) hS ?_; rotate_left; (intro w hSw; have s0 := D0.out _ hSw; have s1 := D1.out _ hSw; have s2 := D2.out _ hSw; have s3 := R0.out _ hSw; have s4 := R1.out _ hSw; have s5 := R2.out _ hSw; have s6 := X1.out _ hSw; have s7 := X2.out _ hSw; go_simp; try with_reducible rfl)
                      try simp only [List.getElem_toArray, List.getElem_cons_succ, List.getElem_cons_zero, Act.put, List.setIfInBounds_toArray, List.set_cons_zero, List.set_cons_succ]
                      refine wpAnyM_take (i := 28) (v := ?_) rfl (by kernel_rfl) (by kernel_rfl) (by kernel_rfl) (by kernel_rfl) (fun _ _ _ h => h) (Or.inl ⟨by kernel_rfl, ?_⟩) hS ?_; rotate_left; (intro w hSw; have s0 := D0.out _ hSw; have s1 := D1.out _ hSw; have s2 := D2.out _ hSw; have s3 := R0.out _ hSw; have s4 := R1.out _ hSw; have s5 := R2.out _ hSw; have s6 := X1.out _ hSw; have s7 := X2.out _ hSw; go_simp; try with_reducible rfl)
                      try simp only [List.getElem_toArray, List.getElem_cons_succ, List.getElem_cons_zero, Act.put, List.setIfInBounds_toArray, List.set_cons_zero, List.set_cons_succ]
                      refine wpAnyM_take (i := 29) (v := ?_) rfl (by kernel_rfl) (by kernel_rfl) (by kernel_rfl) (by kernel_rfl) (fun _ _ _ h => h) (Or.inl ⟨by kernel_rfl, ?_⟩) hS ?_; rotate_left; (intro w hSw; have s0 := D0.out _ hSw; have s1 := D1.out _ hSw; have s2 := D2.out _ hSw; have s3 := R0.out _ hSw; have s4 := R1.out _ hSw; have s5 := R2.out _ hSw; have s6 := X1.out _ hSw; have s7 := X2.out _ hSw; go_simp; try with_reducible rfl)
                      try simp only [List.getElem_toArray, List.getElem_cons_succ, List.getElem_cons_zero, Act.put, List.setIfInBounds_toArray, List.set_cons_zero, List.set_cons_succ]
                      refine wpAnyM_take (i := 30) (v := ?_) rfl (by kernel_rfl) (by kernel_rfl) (by kernel_rfl) (by kernel_rfl) (fun _ _ _ h => h) (Or.inl ⟨by kernel_rfl, ?_⟩) hS ?_; rotate_left; (intro w hSw; have s0 := D0.out _ hSw; have s1 := D1.out _ hSw; have s2 := D2.out _ hSw; have s3 := R0.out _ hSw; have s4 := R1.out _ hSw; have s5 := R2.out _ hSw; have s6 := X1.out _ hSw; have s7 := X2.out _ hSw; go_simp; try with_reducible rfl)
                      try simp only [List.getElem_toArray, List.getElem_cons_succ, List.getElem_cons_zero, Act.put, List.setIfInBounds_toArray, List.set_cons_zero, List.set_cons_succ]
                      refine wpAnyM_take (i := 31) (v := ?_) rfl (by kernel_rfl) (by kernel_rfl) (by kernel_rfl) (by kernel_rfl) (fun _ _ _ h => h) (Or.inl ⟨by kernel_rfl, ?_⟩) hS ?_; rotate_left; (intro w hSw; have s0 := D0.out _ hSw; have s1 := D1.out _ hSw; have s2 := D2.out _ hSw; have s3 := R0.out _ hSw; have s4 := R1.out _ hSw; have s5 := R2.out _ hSw; have s6 := X1.out _ hSw; have s7 := X2.out _ hSw; go_simp; try with_reducible rfl)
                      try simp only [List.getElem_toArray, List.getElem_cons_succ, List.getElem_cons_zero, Act.put, List.setIfInBounds_toArray, List.set_cons_zero, List.set_cons_succ]
                      refine wpAnyM_take (i := 32) (v := ?_) rfl (by kernel_rfl) (by kernel_rfl) (by kernel_rfl) (by kernel_rfl) (fun _ _ _ h => h) (Or.inl ⟨by kernel_rfl, ?_⟩) hS ?_; rotate_left; (intro w hSw; have s0 := D0.out _ hSw; have s1 := D1.out _ hSw; have s2 := D2.out _ hSw; have s3 := R0.out _ hSw; have s4 := R1.out _ hSw; have s5 := R2.out _ hSw; have s6 := X1.out _ hSw; have s7 := X2.out _ hSw; go_simp; try with_reducible rfl)
                      try simp only [List.getElem_toArray, List.getElem_cons_succ, List.getElem_cons_zero, Act.put, List.setIfInBounds_toArray, List.set_cons_zero, List.set_cons_succ]
                      refine wpAnyM_take (i := 33) (v := ?_) rfl (by kernel_rfl) (by kernel_rfl) (by kernel_rfl) (by kernel_rfl) (fun _ _ _ h => h) (Or.inl ⟨by kernel_rfl, ?_⟩) hS ?_; rotate_left; (intro w hSw; have s0 := D0.out _ hSw; have s1 := D1.out _ hSw; have s2 := D2.out _ hSw; have s3 := R0.out _ hSw; have s4 := R1.out _ hSw; have s5 := R2.out _ hSw; have s6 := X1.out _ hSw; have s7 := X2.out _ hSw; go_simp; try with_reducible rfl)
                      try simp only [List.getElem_toArray, List.getElem_cons_succ, List.getElem_cons_zero, Act.put, List.setIfInBounds_toArray, List.set_cons_zero, List.set_cons_succ]
                      refine wpAnyM_take (i := 34) (v := ?_) rfl (by kernel_rfl) (by kernel_rfl) (by kernel_rfl) (by kernel_rfl) (fun _ _ _ h => h) (Or.inl ⟨by kernel_rfl, ?_⟩) hS ?_; rotate_left; (intro w hSw; have s0 := D0.out _ hSw; have s1 := D1.out _ hSw; have s2 := D2.out _ hSw; have s3 := R0.out _ hSw; have s4 := R1.out _ hSw; have s5 := R2.out _ hSw; have s6 := X1.out _ hSw; have s7 := X2.out _ hSw; go_simp; try with_reducible rfl)
                      try simp only [List.getElem_toArray, List.getElem_cons_succ, List.getElem_cons_zero, Act.put, List.setIfInBounds_toArray, List.set_cons_zero, List.set_cons_succ]
                      refine wpAnyM_take (i := 35) (v := ?_) rfl (by kernel_rfl) (by kernel_rfl) (by kernel_rfl) (by kernel_rfl) (fun _ _ _ h => h) (Or.inl ⟨by kernel_rfl, ?_⟩) hS ?_; rotate_left; (intro w hSw; have s0 := D0.out _ hSw; have s1 := D1.out _ hSw; have s2 := D2.out _ hSw; have s3 := R0.out _ hSw; have s4 := R1.out _ hSw; have s5 := R2.out _ hSw; have s6 := X1.out _ hSw; have s7 := X2.out _ hSw; go_simp; try with_reducible rfl)
                      try simp only [List.getElem_toArray, List.getElem_cons_succ, List.getElem_cons_zero, Act.put, List.setIfInBounds_toArray, List.set_cons_zero, List.set_cons_succ]
                      refine wpAnyM_take (i := 36) (v := ?_) rfl (by kernel_rfl) (by kernel_rfl) (by kernel_rfl) (by kernel_rfl) (fun _ _ _ h => h) (Or.inl ⟨by kernel_rfl, ?_⟩) hS ?_; rotate_left; (intro w hSw; have s0 := D0.out _ hSw; have s1 := D1.out _ hSw; have s2 := D2.out _ hSw; have s3 := R0.out _ hSw; have s4 := R1.out _ hSw; have s5 := R2.out _ hSw; have s6 := X1.out _ hSw; have s7 := X2.out _ hSw; go_simp; try with_reducible rfl)
                      try simp only [List.getElem_toArray, List.getElem_cons_succ, List.getElem_cons_zero, Act.put, List.setIfInBounds_toArray, List.set_cons_zero, List.set_cons_succ]
                      refine wpAnyM_take (i := 37) (v := ?_) rfl (by kernel_rfl) (by kernel_rfl) (by kernel_rfl) (by kernel_rfl) (fun _ _ _ h => h) (Or.inl ⟨by kernel_rfl, ?_⟩) hS ?_; rotate_left; (intro w hSw; have s0 := D0.out _ hSw; have s1 := D1.out _ hSw; have s2 := D2.out _ hSw; have s3 := R0.out _ hSw; have s4 := R1.out _ hSw; have s5 := R2.out _ hSw; have s6 := X1.out _ hSw; have s7 := X2.out _ hSw; go_simp; try with_reducible rfl)
                      try simp only [List.getElem_toArray, List.getElem_cons_succ, List.getElem_cons_zero, Act.put, List.setIfInBounds_toArray, List.set_cons_zero, List.set_cons_succ]
                      refine wpAnyM_one (i := 38) (by kernel_rfl) rfl (fun KK hK => ?_)
                      go_simp
                      refine hK.out _ _ (fun _ => hS) (fun _ => ?_); clear hK KK
                      try simp only [List.getElem_toArray, List.getElem_cons_succ, List.getElem_cons_zero, Act.put, List.setIfInBounds_toArray, List.set_cons_zero, List.set_cons_succ]
                      refine wpAnyM_done (by kernel_rfl) ?_ _
                      try simp only [List.getElem_toArray, List.getElem_cons_succ, List.getElem_cons_zero, Act.put, List.setIfInBounds_toArray, List.set_cons_zero, List.set_cons_succ]
                      have HFZ := Lib.hid (HFK.out.trans hS (by simp))
                      clear hS
                      go_wp2_with fail
                      go_roundw
                      case rel => exact ⟨k + 1, by omega, by go_num, HFZ.out⟩
                      case measure => simp [intOf]; omega
                      
                    · obtain rfl : k = ln := by omega
                      have HFK := Lib.hid hFk
                      clear hFk
                      go_wp2_with fail
                      go_meet
                      case rel => exact ⟨tk + pt, no, s', by go_num, by omega, by omega, by rw [HLS.out]; omega, HT6.out.fr0 HFK.out⟩
          · by_cases e7 : p = 7
            · skip
              as_aux_lemma =>
                have e1 : ¬ p = 5 := fun h => e5 (.inl h)
                have e2 : ¬ p = 6 := fun h => e5 (.inr h)
                clear e5
                subst e7
                have hpc := fun w : World => pick_any zc 5 w (by decide) (by decide)
                have hpd := fun w : World => pick_any zl 30 w (by decide) (by decide)
                obtain ⟨pc, hpce⟩ : ∃ pc, zc % 5 = pc := ⟨_, rfl⟩
                obtain ⟨pd, hpde⟩ : ∃ pd, zl % 30 = pd := ⟨_, rfl⟩
                have b1 : 0 ≤ pc := by rw [← hpce]; exact Int.emod_nonneg _ (by decide)
                have b2 : pc < 5 := by rw [← hpce]; exact Int.emod_lt_of_pos _ (by decide)
                have b3 : 0 ≤ pd := by rw [← hpde]; exact Int.emod_nonneg _ (by decide)
                have b4 : pd < 30 := by rw [← hpde]; exact Int.emod_lt_of_pos _ (by decide)
                rw [hpce] at hpc
                rw [hpde] at hpd
                have HPC := Lib.hid hpc; have HPD := Lib.hid hpd
                obtain ⟨pc1, hpc1⟩ : ∃ pc1, pc1 = pc - 1 := ⟨_, rfl⟩
                obtain ⟨pd4, hpd4⟩ : ∃ pd4, pd4 = pd - 4 := ⟨_, rfl⟩
                have HPC1 := Lib.hid hpc1; have HPD4 := Lib.hid hpd4
                have hw1 : IntKind.i64.wrap (pc - 1) = pc - 1 := IntWalk.i64_in _ (by omega)
                have hw2 : IntKind.i64.wrap (pd - 4) = pd - 4 := IntWalk.i64_in _ (by omega)
                clear hpc hpd hpce hpde hpc1 hpd4
                go_upto_region 33 with (fail)
                refine wp_region_M 12 (fun w' => Fr [] w3 w') (by kernel_rfl) ((Fr.refl [] w3).drew) (fun hS => ?_)
                try simp only [List.getElem_toArray, List.getElem_cons_succ, List.getElem_cons_zero, Act.put, List.setIfInBounds_toArray, List.set_cons_zero, List.set_cons_succ]
                generalize w3.drew = wz0 at *
                refine wpAnyM_take (i := 0) (v := ?_) rfl (by kernel_rfl) (by kernel_rfl) (by kernel_rfl) (by kernel_rfl) (fun _ _ _ h => h) (Or.inl ⟨by kernel_rfl, ?_⟩) hS ?_; rotate_left; (intro w hSw; have s3 := Blk.cell (i := 3) (hSw.blk HG.out (by simp)) rfl; have s4 := Blk.cell (i := 4) (hSw.blk HG.out (by simp)) rfl; have s5 := Blk.cell (i := 5) (hSw.blk HG.out (by simp)) rfl; simp only [List.getElem_toArray, List.getElem_cons_zero, List.getElem_cons_succ] at s3 s4 s5; go_simp; try with_reducible rfl)
                try simp only [List.getElem_toArray, List.getElem_cons_succ, List.getElem_cons_zero, Act.put, List.setIfInBounds_toArray, List.set_cons_zero, List.set_cons_succ]
                refine wpAnyM_take (i := 1) (v := ?_) rfl (by kernel_rfl) (by kernel_rfl) (by kernel_rfl) (by kernel_rfl) (fun _ _ _ h => h) (Or.inl ⟨by kernel_rfl, ?_⟩) hS ?_; rotate_left; (intro w hSw; have s3 := Blk.cell (i := 3) (hSw.blk HG.out (by simp)) rfl; have s4 := Blk.cell (i := 4) (hSw.blk HG.out (by simp)) rfl; have s5 := Blk.cell (i := 5) (hSw.blk HG.out (by simp)) rfl; simp only [List.getElem_toArray, List.getElem_cons_zero, List.getElem_cons_succ] at s3 s4 s5; go_simp; try with_reducible rfl)
                try simp only [List.getElem_toArray, List.getElem_cons_succ, List.getElem_cons_zero, Act.put, List.setIfInBounds_toArray, List.set_cons_zero, List.set_cons_succ]
                refine wpAnyM_take (i := 2) (v := ?_) rfl (by kernel_rfl) (by kernel_rfl) (by kernel_rfl) (by kernel_rfl) (fun _ _ _ h => h) (Or.inl ⟨by kernel_rfl, ?_⟩) hS ?_; rotate_left; (intro w hSw; have s3 := Blk.cell (i := 3) (hSw.blk HG.out (by simp)) rfl; have s4 := Blk.cell (i := 4) (hSw.blk HG.out (by simp)) rfl; have s5 := Blk.cell (i := 5) (hSw.blk HG.out (by simp)) rfl; simp only [List.getElem_toArray, List.getElem_cons_zero, List.getElem_cons_succ] at s3 s4 s5; go_simp; try with_reducible rfl)
                try simp only [List.getElem_toArray, List.getElem_cons_succ, List.getElem_cons_zero, Act.put, List.setIfInBounds_toArray, List.set_cons_zero, List.set_cons_succ]
                refine wpAnyM_take (i := 3) (v := ?_) rfl (by kernel_rfl) (by kernel_rfl) (by kernel_rfl) (by kernel_rfl) (fun _ _ _ h => h) (Or.inl ⟨by kernel_rfl, ?_⟩) hS ?_; rotate_left; (intro w hSw; have s3 := Blk.cell (i := 3) (hSw.blk HG.out (by simp)) rfl; have s4 := Blk.cell (i := 4) (hSw.blk HG.out (by simp)) rfl; have s5 := Blk.cell (i := 5) (hSw.blk HG.out (by simp)) rfl; simp only [List.getElem_toArray, List.getElem_cons_zero, List.getElem_cons_succ] at s3 s4 s5; go_simp; try with_reducible rfl)
                try simp only [List.getElem_toArray, List.getElem_cons_succ, List.getElem_cons_zero, Act.put, List.setIfInBounds_toArray, List.set_cons_zero, List.set_cons_succ]
                refine wpAnyM_call (i := 4) (v := (.int .i64 pc)) rfl rfl Try.func12 (by kernel_rfl) (by kernel_rfl) (by kernel_rfl) (by kernel_rfl) (by kernel_rfl) (by kernel_rfl) (fun _ _ _ h => h) (by kernel_rfl) (by kernel_rfl) (fun w hSw => (HPC.out _).mono (fun e w' h => ⟨h.1, h.2.symm⟩)) hS ?_
                try simp only [List.getElem_toArray, List.getElem_cons_succ, List.getElem_cons_zero, Act.put, List.setIfInBounds_toArray, List.set_cons_zero, List.set_cons_succ]
                refine wpAnyM_take (i := 5) (v := (.int .i64 pc1)) rfl (by kernel_rfl) (by kernel_rfl) (by kernel_rfl) (by kernel_rfl) (fun _ _ _ h => h) (Or.inl ⟨by kernel_rfl, ?_⟩) hS ?_; (intro w hSw; (rw [HPC1.out]; go_simp; try with_reducible rfl))
                try simp only [List.getElem_toArray, List.getElem_cons_succ, List.getElem_cons_zero, Act.put, List.setIfInBounds_toArray, List.set_cons_zero, List.set_cons_succ]
                refine wpAnyM_take (i := 6) (v := ?_) rfl (by kernel_rfl) (by kernel_rfl) (by kernel_rfl) (by kernel_rfl) (fun _ _ _ h => h) (Or.inl ⟨by kernel_rfl, ?_⟩) hS ?_; rotate_left; (intro w hSw; have s3 := Blk.cell (i := 3) (hSw.blk HG.out (by simp)) rfl; have s4 := Blk.cell (i := 4) (hSw.blk HG.out (by simp)) rfl; have s5 := Blk.cell (i := 5) (hSw.blk HG.out (by simp)) rfl; simp only [List.getElem_toArray, List.getElem_cons_zero, List.getElem_cons_succ] at s3 s4 s5; go_simp; try with_reducible rfl)
                try simp only [List.getElem_toArray, List.getElem_cons_succ, List.getElem_cons_zero, Act.put, List.setIfInBounds_toArray, List.set_cons_zero, List.set_cons_succ]
                refine wpAnyM_take (i := 7) (v := ?_) rfl (by kernel_rfl) (by kernel_rfl) (by kernel_rfl) (by kernel_rfl) (fun _ _ _ h => h) (Or.inl ⟨by kernel_rfl, ?_⟩) hS ?_; rotate_left; (intro w hSw; have s3 := Blk.cell (i := 3) (hSw.blk HG.out (by simp)) rfl; have s4 := Blk.cell (i := 4) (hSw.blk HG.out (by simp)) rfl; have s5 := Blk.cell (i := 5) (hSw.blk HG.out (by simp)) rfl; simp only [List.getElem_toArray, List.getElem_cons_zero, List.getElem_cons_succ] at s3 s4 s5; go_simp; try with_reducible rfl)
                try simp only [List.getElem_toArray, List.getElem_cons_succ, List.getElem_cons_zero, Act.put, List.setIfInBounds_toArray, List.set_cons_zero, List.set_cons_succ]
                refine wpAnyM_call (i := 8) (v := (.int .i64 pd)) rfl rfl Try.func12 (by kernel_rfl) (by kernel_rfl) (by kernel_rfl) (by kernel_rfl) (by kernel_rfl) (by kernel_rfl) (fun _ _ _ h => h) (by kernel_rfl) (by kernel_rfl) (fun w hSw => (HPD.out _).mono (fun e w' h => ⟨h.1, h.2.symm⟩)) hS ?_
                try simp only [List.getElem_toArray, List.getElem_cons_succ, List.getElem_cons_zero, Act.put, List.setIfInBounds_toArray, List.set_cons_zero, List.set_cons_succ]
                refine wpAnyM_take (i := 9) (v := (.int .i64 pd4)) rfl (by kernel_rfl) (by kernel_rfl) (by kernel_rfl) (by kernel_rfl) (fun _ _ _ h => h) (Or.inl ⟨by kernel_rfl, ?_⟩) hS ?_; (intro w hSw; (rw [HPD4.out]; go_simp; try with_reducible rfl))
                try simp only [List.getElem_toArray, List.getElem_cons_succ, List.getElem_cons_zero, Act.put, List.setIfInBounds_toArray, List.set_cons_zero, List.set_cons_succ]
                refine wpAnyM_take (i := 10) (v := ?_) rfl (by kernel_rfl) (by kernel_rfl) (by kernel_rfl) (by kernel_rfl) (fun _ _ _ h => h) (Or.inl ⟨by kernel_rfl, ?_⟩) hS ?_; rotate_left; (intro w hSw; have s3 := Blk.cell (i := 3) (hSw.blk HG.out (by simp)) rfl; have s4 := Blk.cell (i := 4) (hSw.blk HG.out (by simp)) rfl; have s5 := Blk.cell (i := 5) (hSw.blk HG.out (by simp)) rfl; simp only [List.getElem_toArray, List.getElem_cons_zero, List.getElem_cons_succ] at s3 s4 s5; go_simp; try with_reducible rfl)
                try simp only [List.getElem_toArray, List.getElem_cons_succ, List.getElem_cons_zero, Act.put, List.setIfInBounds_toArray, List.set_cons_zero, List.set_cons_succ]
                refine wpAnyM_one (i := 11) (by kernel_rfl) rfl (fun KK hK => ?_)
                go_simp
                have hbf := Blk.new wz0 #[.bool false, .int .i64 0, .int .i64 0] 86
                have hS2 := hS.alloc (.cells #[.bool false, .int .i64 0, .int .i64 0] 86)
                have hfle : w3.heap.size ≤ wz0.heap.size := hS.size
                obtain ⟨fB, hfB⟩ : ∃ fB, wz0.heap.size = fB := ⟨_, rfl⟩
                rw [hfB] at hbf hfle ⊢
                generalize wz0.alloc (.cells #[.bool false, .int .i64 0, .int .i64 0] 86) = wz1 at *
                have HBF := Lib.hid hbf
                refine hK.out _ _ (fun _ => hS2) (fun _ => ?_); clear hK KK hS hfB hbf
                have hS := hS2
                clear hS2
                have t0 := Blk.free HBF.out 0
                have t1 := Blk.free HBF.out 1
                have t2 := Blk.free HBF.out 2
                have u0 := Blk.cell (i := 0) HBF.out rfl
                have u1 := Blk.cell (i := 1) HBF.out rfl
                have u2 := Blk.cell (i := 2) HBF.out rfl
                simp only [List.getElem_toArray, List.getElem_cons_zero, List.getElem_cons_succ] at u0 u1 u2
                try simp only [List.getElem_toArray, List.getElem_cons_succ, List.getElem_cons_zero, Act.put, List.setIfInBounds_toArray, List.set_cons_zero, List.set_cons_succ]
                refine wpAnyM_one (i := 12) (by kernel_rfl) rfl (fun KK hK => ?_)
                go_simp
                refine hK.out _ _ (fun h => absurd h (by decide)) (fun _ => ?_); clear hK KK
                try simp only [List.getElem_toArray, List.getElem_cons_succ, List.getElem_cons_zero, Act.put, List.setIfInBounds_toArray, List.set_cons_zero, List.set_cons_succ]
                refine wpAnyM_done (by kernel_rfl) ?_ _
                try simp only [List.getElem_toArray, List.getElem_cons_succ, List.getElem_cons_zero, Act.put, List.setIfInBounds_toArray, List.set_cons_zero, List.set_cons_succ]
                clear t0 t1 t2 u0 u1 u2 hw1 hw2 e1 e2 hp0 hp8 b1 b2 b3 b4
                have hb5 := ((HBF.out.set 0 (.bool zd)).set 1 (.int .i64 pc1)).set 2 (.int .i64 pd4)
                have hF5 := ((hS.setCell (p := ⟨fB, 0, none⟩) (.inr hfle) (.bool zd)).setCell (p := ⟨fB, 1, none⟩) (.inr hfle) (.int .i64 pc1)).setCell (p := ⟨fB, 2, none⟩) (.inr hfle) (.int .i64 pd4)
                clear hS
                generalize ((wz1.setCell ⟨fB, 0, none⟩ (.bool zd)).setCell ⟨fB, 1, none⟩ (.int .i64 pc1)).setCell ⟨fB, 2, none⟩ (.int .i64 pd4) = w5 at *
                have k0 : w5.cell? ⟨fB, 0, none⟩ = some (.bool zd) := Blk.cell (i := 0) hb5 rfl
                have k1 : w5.cell? ⟨fB, 1, none⟩ = some (.int .i64 pc1) := Blk.cell (i := 1) hb5 rfl
                have k2 : w5.cell? ⟨fB, 2, none⟩ = some (.int .i64 pd4) := Blk.cell (i := 2) hb5 rfl
                have hb5' : Blk w5 fB #[.bool zd, .int .i64 pc1, .int .i64 pd4] 86 := hb5
                have k5 : w5.cell? ⟨G, 5, none⟩ = some (.int .i64 zl) := Blk.cell (i := 5) (hF5.blk HG.out (by simp)) rfl
                have HB5 := Lib.hid hb5'; have HF5 := Lib.hid hF5
                clear hb5 hb5' hF5 HBF
                go_upto_region 34 with (fail)
                apply wp_region_lit
                iterate 4 (refine wpList_plain rfl (fun K hK => ?_); go_simp; refine hK _ _ ?_; clear hK K)
                have hbs := bs_fate zd pc1 pd4 zl w5
                refine wpList_plain rfl (fun K hK => ?_)
                unfold Oper.wp execOp
                simp only [Region.wanted, if_true, List.map_cons, List.map_nil, Sem.run_bind, Sem.run_pure, Result.andThen_ok, List.map_toArray]
                change Oper.upon _ _ _ _ _ ((Sem.run Try.prog (Instr.buildSlice 68 2 #[(0, .agg #[.bool zd, .int .i64 pc1, .int .i64 pd4]), (1, .agg #[.bool false, .int .i64 0, .int .i64 zl])]) w5).andThen (fun a w' => Result.ok (Next.value a) w'))
                rw [hbs]
                simp only [Result.andThen_ok, Oper.upon]
                refine hK _ _ ?_; clear hK K hbs
                clear k0 k1 k2 k5
                have hb6 := Blk.new w5 #[.bool zd, .int .i64 pc1, .int .i64 pd4, .bool false, .int .i64 0, .int .i64 zl] 86
                have hF6 := (Fr.refl [] w5).alloc (.cells #[.bool zd, .int .i64 pc1, .int .i64 pd4, .bool false, .int .i64 0, .int .i64 zl] 86)
                obtain ⟨L, hLe⟩ : ∃ L, w5.heap.size = L := ⟨_, rfl⟩
                rw [hLe] at hb6 ⊢
                generalize w5.alloc (.cells #[.bool zd, .int .i64 pc1, .int .i64 pd4, .bool false, .int .i64 0, .int .i64 zl] 86) = w6 at *
                have hGw3 := HG.out.lt
                have hF36 := HF5.out.trans hF6 (by simp)
                have hfB6 := hF6.blk HB5.out (by simp)
                obtain ⟨K1, hE1, hN, hm⟩ := HT3.out.n hF36 [G, fB] (by
                  intro g hg
                  rcases List.mem_cons.1 hg with rfl | hg
                  · exact ⟨Nat.lt_of_lt_of_le hGw3 hF36.size, .inr ⟨_, _, HG.out, by decide, by decide, by decide⟩⟩
                  · simp at hg; subst hg; exact ⟨hfB6.lt, .inl hfle⟩)
                have HN := Lib.hid hN; have HM := Lib.hid hm; have HE1 := Lib.hid hE1; have HB6 := Lib.hid hb6; have HFB6 := Lib.hid hfB6; have HG6 := Lib.hid (hF36.blk HG.out (by simp))
                clear hN hm hE1 hb6 hfB6 hF36 hF6 hGw3 hLe
                go_wp2_with fail
                refine (hfates (l := [⟨zd, pc1, pd4⟩, ⟨false, 0, zl⟩]) HN.out (src_blk HB6.out (by simp) (by simp [Value.oneCell']) 2) rfl (Nat.le_refl _) (by decide) (by simp [Value.ownBlock]; exact HB6.out.lt)).mono ?_
                rintro e w7 ⟨rfl, hN7, hk7⟩
                have HT7 := Lib.hid (HM.out _ _ hN7 hk7)
                have hf7 := hk7.blk (HE1.out fB (by simp)) HFB6.out
                have hg7 := hk7.blk (HE1.out G (by simp)) HG6.out
                have k0 := Blk.cell (i := 0) hf7 rfl
                have k1 := Blk.cell (i := 1) hf7 rfl
                have k2 := Blk.cell (i := 2) hf7 rfl
                have k5 := Blk.cell (i := 5) hg7 rfl
                simp only [List.getElem_toArray, List.getElem_cons_zero, List.getElem_cons_succ] at k0 k1 k2 k5
                clear hN7 hk7 hf7 hg7 HN HM HE1 HB6 HFB6 HG6
                go_upto_region 35 with (fail)
                apply wp_region_lit
                iterate 11 (refine wpList_plain rfl (fun K hK => ?_); go_simp; refine hK _ _ ?_; clear hK K)
                have hbs := bs_fateR zd pc1 pd4 zl w7
                refine wpList_plain rfl (fun K hK => ?_)
                unfold Oper.wp execOp
                simp only [Region.wanted, if_true, List.map_cons, List.map_nil, Sem.run_bind, Sem.run_pure, Result.andThen_ok, List.map_toArray]
                change Oper.upon _ _ _ _ _ ((Sem.run Try.prog (Instr.buildSlice 90 2 #[(0, .agg #[.bool zd, .int .i64 pc1, .int .i64 pd4]), (1, .agg #[.bool false, .int .i64 0, .int .i64 zl])]) w7).andThen (fun a w' => Result.ok (Next.value a) w'))
                rw [hbs]
                simp only [Result.andThen_ok, Oper.upon]
                refine hK _ _ ?_; clear hK K hbs
                clear k0 k1 k2 k5
                have hb8 := Blk.new w7 #[.bool zd, .int .i64 pc1, .int .i64 pd4, .bool false, .int .i64 0, .int .i64 zl] 98
                have hF8 := (Fr.refl [] w7).alloc (.cells #[.bool zd, .int .i64 pc1, .int .i64 pd4, .bool false, .int .i64 0, .int .i64 zl] 98)
                obtain ⟨L2, hLe⟩ : ∃ L, w7.heap.size = L := ⟨_, rfl⟩
                rw [hLe] at hb8 ⊢
                generalize w7.alloc (.cells #[.bool zd, .int .i64 pc1, .int .i64 pd4, .bool false, .int .i64 0, .int .i64 zl] 98) = w8 at *
                obtain ⟨K2, -, hR, hm2⟩ := HT7.out.r hF8 [] (by simp)
                have HR := Lib.hid hR; have HM2 := Lib.hid hm2; have HB8 := Lib.hid hb8
                clear hR hm2 hb8 hF8 hLe
                go_wp2_with fail
                refine (rfates (l := [⟨zd, pc1, pd4⟩, ⟨false, 0, zl⟩]) HR.out (src_blk HB8.out (by simp) (by simp [Value.oneCell']) 2) rfl (by simp) (by decide)).mono ?_
                rintro e w9 ⟨rfl, hR9, hk9⟩
                have HT9 := Lib.hid (HM2.out _ _ _ hR9 hk9)
                clear hR9 hk9 HR HM2 HB8
                go_wp2_with fail
                go_meet
                case rel => exact ⟨tk, no, fatesS s [⟨zd, pc1, pd4⟩, ⟨false, 0, zl⟩], rfl, by omega, by omega, (by show s.lost ≤ s.lost + 3; omega), HT9.out⟩
                
            · skip
              as_aux_lemma =>
                have e1 : ¬ p = 5 := fun h => e5 (.inl h)
                have e2 : ¬ p = 6 := fun h => e5 (.inr h)
                clear e5
                have g1 := Blk.cell (i := 1) HG.out rfl
                have g2 := Blk.cell (i := 2) HG.out rfl
                have g4 := Blk.cell (i := 4) HG.out rfl
                have g6 := Blk.cell (i := 6) HG.out rfl
                simp only [List.getElem_toArray, List.getElem_cons_zero, List.getElem_cons_succ] at g1 g2 g4 g6
                go_upto_if 39 with (fail)
                go_cut [13] from 40 to 41 (fun v wc => ∃ wh : Int, v = .int .i64 wh ∧ w3 = wc)
                case first =>
                  by_cases hq : zt.tmod 31 = 30
                  · go_wp2_with fail
                    go_meet
                    case rel => exact ⟨_, rfl, rfl⟩
                  · go_wp2_with fail
                    go_meet
                    case rel => exact ⟨_, rfl, rfl⟩
                case rest =>
                  obtain ⟨wh, rfl, hw⟩ := hcut
                  subst hw
                  obtain ⟨K1, hE1, hN, hm⟩ := HT3.out.n (Fr.refl [] w3) [G] (by intro g hg; simp at hg; subst hg; exact ⟨HG.out.lt, .inr ⟨_, _, HG.out, by decide, by decide, by decide⟩⟩)
                  have HE1 := Lib.hid hE1; have HN := Lib.hid hN; have HM := Lib.hid hm
                  clear hE1 hN hm g2
                  go_wp2_with fail
                  refine (hsendA HN.out (HBY.out.ls.fr0 HT3.out.fr) HBY.out.lt HBY.out.ap HBY.out.len (by omega)).mono ?_
                  rintro e w5 ⟨rfl, hN5, hk5⟩
                  have hT5 := HM.out _ _ hN5 hk5
                  have hG5 := hk5.blk (HE1.out G (by simp)) HG.out
                  have k1 := Blk.cell (i := 1) hG5 rfl
                  have k4 := Blk.cell (i := 4) hG5 rfl
                  have k6 := Blk.cell (i := 6) hG5 rfl
                  simp only [List.getElem_toArray, List.getElem_cons_zero, List.getElem_cons_succ] at k1 k4 k6
                  have HT5 := Lib.hid hT5
                  clear hT5 hN5 hk5 hG5 HM HN HE1 g1 g4 g6
                  go_wp2_with fail
                  obtain ⟨K2, -, hR, hm2⟩ := HT5.out.r (Fr.refl [] w5) [] (by simp)
                  refine (rsend hR HBY.out.ls HBY.out.lt (by have := HBY.out.len; omega) (by omega) (by omega)).mono ?_
                  rintro e w6 ⟨rfl, no', hno', hR6, hk6⟩
                  have HT6 := Lib.hid (hm2 _ _ _ hR6 hk6)
                  have HLS := Lib.hid (sendS_lost s zn zc zbs wh)
                  clear hR hm2 hR6 hk6 k1 k4 k6
                  go_wp2_with fail
                  go_meet
                  case rel => exact ⟨tk, no', _, rfl, by omega, by omega, HLS.out, HT6.out⟩
        case rest =>
          as_aux_lemma =>
            obtain ⟨tk', no', s', rfl, htk', hno', hlo', hT'⟩ := hcut
            obtain ⟨K2, -, hR, -⟩ := hT'.r (Fr.refl [] wc) [] (by simp)
            obtain ⟨fa, fc, da, dc, r0, r1, r2⟩ := hR.lenF
            obtain ⟨K1, -, hN, -⟩ := hT'.n (Fr.refl [] wc) [] (by simp)
            have HFL := Lib.hid (fun n => hflight (hN.fr0 ((Fr.refl [] wc).drewN n)).1)
            have HLO := Lib.hid (fun n => hlost (hN.fr0 ((Fr.refl [] wc).drewN n)).1)
            have HLE := Lib.hid (fun n => hleft (hN.fr0 ((Fr.refl [] wc).drewN n)).1)
            obtain ⟨nf, hnf⟩ : ∃ nf, s'.fl.length = nf := ⟨_, rfl⟩
            obtain ⟨nl, hnl⟩ : ∃ nl, s'.fa.length = nl := ⟨_, rfl⟩
            obtain ⟨no2, hno2⟩ : ∃ no2, s'.lost = no2 := ⟨_, rfl⟩
            rw [hnf] at HFL r1
            rw [hnl] at HLE r0
            rw [hno2] at HLO r2 hlo'
            have HT' := Lib.hid hT'; have HNO2 := Lib.hid hno2
            clear hR hN hT' hnf hnl hno2 HT3 HG HPK
            go_upto_region 36 with (fail)
            go_quiet (first | (go_at_call 31; exact Calls.quiet_of_same ((HFL.out _).mono fun e w' h => ⟨h.1, h.2.symm⟩)) | (go_at_call 32; exact Calls.quiet_of_same ((HLO.out _).mono fun e w' h => ⟨h.1, h.2.symm⟩)) | (go_at_call 34; exact Calls.quiet_of_same ((HLE.out _).mono fun e w' h => ⟨h.1, h.2.symm⟩)))
            have HT2 := Lib.hid (HT'.out.fr0 ((Fr.refl [] wc).drewN nq))
            clear HFL HLO HLE r0 r1 r2
            go_wp2_with fail
            go_roundw
            case rel => exact ⟨i + 1, tk', no', s', by omega, by omega, by go_num, rfl, by omega, HT2.out, by rw [HNO2.out]; omega, by omega⟩
            case measure => simp [intOf]; omega
      · have q1 : (i : Int) < len0 := by omega
        have q2 : (80 : Int) ≤ i := by omega
        have HT := Lib.hid hT
        clear hT hF
        go_wp2_with fail
        go_ret
        exact ⟨rfl, HT.out.fr.below (Nat.le_refl _) (by simp)⟩
    · have q1 : (len0 : Int) ≤ i := by omega
      have HT := Lib.hid hT
      clear hT hF
      go_wp2_with fail
      go_ret
      exact ⟨rfl, HT.out.fr.below (Nat.le_refl _) (by simp)⟩
end Go.Proofs.Ytkjjikjilmngdaa.Nt
