/- chapter 24: each fate, order, the bound. -/
import Derived.Test.YtkjjikjilmngdaaNtL
namespace Go.Proofs.Ytkjjikjilmngdaa.Nt
open Go.RowKit Dt Go.Proofs.Ytkjjikjilmngdaa.Hd
set_option linter.unusedVariables false
set_option linter.unusedSimpArgs false

theorem sendS_lost (s : NetV) (src dst : Int) (bs : List Nat) (t : Int) : (sendS s src dst bs t).lost ≤ s.lost + 3 := by
  unfold sendS
  dsimp only
  split
  · show s.lost + 1 ≤ _; omega
  · have h1 := pushS_lost (copiesN (s.fa.headD fa0).copies) ⟨clpI t + 1 + delayN (s.fa.headD fa0).delay, src, dst, bs⟩ { s with fa := s.fa.tail }
    have h2 := (copiesN_le (s.fa.headD fa0).copies).2
    have h3 : ({ s with fa := s.fa.tail } : NetV).lost = s.lost := rfl
    omega
def knF : List Fa := [⟨false, 0, 3⟩, ⟨true, 2, 0⟩, ⟨false, 9, -4⟩, ⟨false, 0, 99⟩]
def knS : Nat → NetV
  | 0 => fatesS ⟨[], [], 0⟩ knF
  | i + 1 => sendS (knS i) (i : Nat) ((i : Nat) + 1) [byt (i : Nat)] 0
theorem knS_lost : ∀ i, (knS i).lost ≤ 3 * i
  | 0 => Nat.le_refl _
  | i + 1 => by
    have h1 := knS_lost i
    have h2 := sendS_lost (knS i) (i : Nat) ((i : Nat) + 1) [byt (i : Nat)] 0
    show (sendS _ _ _ _ _).lost ≤ _
    omega
def kx (d i : Nat) : Fg := ⟨d, (i : Nat), (i : Nat) + 1, [i]⟩
theorem kn5 : knS 5 = ⟨[], [kx 4 0, kx 1 2, kx 1 2, kx 1 2, kx 21 3, kx 1 4], 1⟩ := rfl
theorem kd1 : deliverS ⟨[], [kx 4 0, kx 1 2, kx 1 2, kx 1 2, kx 21 3, kx 1 4], 1⟩ 1 = ([kx 1 2, kx 1 2, kx 1 2, kx 1 4], ⟨[], [kx 4 0, kx 21 3], 1⟩) := rfl
theorem kd2 : deliverS ⟨[], [kx 4 0, kx 21 3], 1⟩ 20 = ([kx 4 0], ⟨[], [kx 21 3], 1⟩) := rfl
theorem kd3 : deliverS ⟨[], [kx 21 3], 1⟩ 21 = ([kx 21 3], ⟨[], [], 1⟩) := rfl
/-- behind j sends at the last tick -/
structure MS (s : NetV) (j : Nat) : Prop where
  fa : s.fa = []
  len : s.fl.length = min j 256
  lost : s.lost = j - 256
  due : ∀ x ∈ s.fl, x.due = 1000001
theorem ms_e1 : clpI 1000000 + 1 + delayN fa0.delay = 1000001 := rfl
theorem ms_e2 : copiesN fa0.copies = 1 := rfl
set_option maxRecDepth 100000 in
theorem MS.step {s : NetV} {j : Nat} (h : MS s j) : MS (sendS s 1 2 [1] 1000000) (j + 1) := by
  obtain ⟨fa, fl, lost⟩ := s
  obtain ⟨h1, h2, h3, h4⟩ := h
  simp only at h1 h2 h3 h4
  subst h1
  have e : sendS ⟨[], fl, lost⟩ 1 2 [1] 1000000 = if 256 ≤ fl.length then ⟨[], fl, lost + 1⟩ else ⟨[], fl ++ [⟨1000001, 1, 2, [1]⟩], lost⟩ := by
    unfold sendS
    show (if fa0.drop = true then _ else pushS (copiesN fa0.copies) ⟨clpI 1000000 + 1 + delayN fa0.delay, _, _, _⟩ _) = _
    rw [if_neg (by unfold fa0; decide), ms_e1, ms_e2]
    show (if 256 ≤ fl.length then _ else _) = _
    rfl
  rw [e]
  by_cases c : 256 ≤ fl.length
  · rw [if_pos c]
    have k1 : fl.length = min (j + 1) 256 := by omega
    have k2 : lost + 1 = j + 1 - 256 := by omega
    exact ⟨rfl, k1, k2, h4⟩
  · rw [if_neg c]
    have k1 : (fl ++ [(⟨1000001, 1, 2, [1]⟩ : Fg)]).length = min (j + 1) 256 := by rw [List.length_append, List.length_singleton]; omega
    have k2 : lost = j + 1 - 256 := by omega
    refine ⟨rfl, k1, k2, fun x hx => ?_⟩
    rcases List.mem_append.1 hx with hx | hx
    · exact h4 x hx
    · simp at hx; subst hx; rfl
theorem faC_rep : ∀ n, faC (List.replicate (n + 1) fa0) = faC (List.replicate n fa0) ++ [.bool false, .int .i64 0, .int .i64 0] := fun n => by
  rw [List.replicate_succ', faC_app]; rfl
theorem MS.none {s : NetV} {j : Nat} (h : MS s j) (l : List Fa) : (deliverS (fatesS s l) 1099511627776).1 = [] := by
  have e : clpI 1099511627776 = 1000000 := rfl
  unfold deliverS dueNow
  dsimp only
  have e2 : (fatesS s l).fl.filter (fun x => decide (x.due ≤ clpI 1099511627776)) = [] := by
    rw [e, List.filter_eq_nil_iff]
    intro x hx
    have := h.due x hx
    simp; omega
  rw [e2]; rfl
set_option maxRecDepth 100000 in
set_option maxHeartbeats 12800000 in
theorem walk_known (W : World) : Calls Try.prog 10 #[] W fun e w' => e = .returned (.bool true) ∧ Below W.heap.size W w' := by
  go_enter Try.func10, Try.ntmps10
  go_wp2_with fail
  have hb1 := (Blk.new W #[.slice none 0 0, .slice none 0 0, .int .i64 0] 71).alloc (.cells #[.slice none 0 0, .slice none 0 0, .int .i64 0] 71)
  have hb2 := Blk.new (W.alloc (.cells #[.slice none 0 0, .slice none 0 0, .int .i64 0] 71)) #[.slice none 0 0, .slice none 0 0, .int .i64 0] 71
  rw [show (W.alloc (.cells #[.slice none 0 0, .slice none 0 0, .int .i64 0] 71)).heap.size = W.heap.size + 1 by simp] at hb2
  have hF0 := ((Fr.refl [] W).alloc (.cells #[.slice none 0 0, .slice none 0 0, .int .i64 0] 71)).alloc (.cells #[.slice none 0 0, .slice none 0 0, .int .i64 0] 71)
  generalize (W.alloc (.cells #[.slice none 0 0, .slice none 0 0, .int .i64 0] 71)).alloc (.cells #[.slice none 0 0, .slice none 0 0, .int .i64 0] 71) = wa at *
  have hN := HasN.empty W (K := [W.heap.size + 1]) hb1 (by simp) (Nat.le_refl _) (by simpa using hb2.lt) hF0
  obtain ⟨b, hb⟩ : ∃ b, W.heap.size = b := ⟨_, rfl⟩
  rw [hb] at hN hb2 ⊢
  have HB := Lib.hid hb
  clear hb1 hF0 hb
  refine (known_any _).mono ?_; rintro e w1 ⟨rfl, hF⟩
  have HN1 := Lib.hid (hN.fr0 hF).1; have HM1 := Lib.hid ((hN.fr0 hF).2.blk (by simp) hb2)
  clear hN hF hb2
  go_wp2_with fail
  have hD := Blk.new w1 #[.bool false, .int .i64 0, .int .i64 3, .bool true, .int .i64 2, .int .i64 0, .bool false, .int .i64 9, .int .i64 (-4), .bool false, .int .i64 0, .int .i64 99] 86
  have hF := (Fr.refl [] w1).alloc (.cells #[.bool false, .int .i64 0, .int .i64 3, .bool true, .int .i64 2, .int .i64 0, .bool false, .int .i64 9, .int .i64 (-4), .bool false, .int .i64 0, .int .i64 99] 86)
  generalize w1.alloc (.cells #[.bool false, .int .i64 0, .int .i64 3, .bool true, .int .i64 2, .int .i64 0, .bool false, .int .i64 9, .int .i64 (-4), .bool false, .int .i64 0, .int .i64 99] 86) = w2 at *
  have hdl := hD.lt
  have hN2 := HN1.out.fr0 hF
  refine (hfates (l := knF) hN2.1 (src_blk hD rfl (by simp [Value.oneCell']) 4) rfl (Nat.le_refl _) (by decide) (by simp [Value.ownBlock]; exact hdl)).mono ?_; rintro e w3 ⟨rfl, hN3, hk3⟩
  have HN3 := Lib.hid (show HasN W [b + 1] w3 b (knS 0) from hN3); have HM3 := Lib.hid ((hN2.2.trans hk3).blk (by simp) HM1.out)
  clear hD hF hdl hN2 hN3 hk3 HN1 HM1
  go_wp2_with fail
  go_loopw [3] (fun iv wr => ∃ i : Nat, i ≤ 5 ∧ iv = .int .i64 i ∧ HasN W [b + 1] wr b (knS i) ∧ Blk wr (b + 1) #[.slice none 0 0, .slice none 0 0, .int .i64 0] 71) (fun iv _ => 5 - (intOf iv).toNat)
  case atStart => exact ⟨0, by omega, rfl, HN3.out, HM3.out⟩
  case round =>
    obtain ⟨i, hi, rfl, hN, hM⟩ := hrel
    have HN := Lib.hid hN; have HM := Lib.hid hM
    clear hN hM HN3 HM3
    by_cases hi5 : i < 5
    · have q1 : (i : Int) < 5 := by omega
      go_wp2_with fail
      refine (one_any (i : Int) _).mono ?_; rintro e w4 ⟨a, rfl, hbv, hF⟩
      have hN4 := HN.out.fr0 hF
      rw [IntWalk.wrap64_in ((i : Int) + 1) (by omega)]
      have HN4 := Lib.hid hN4; have HBV := Lib.hid hbv
      clear hF hbv hN4
      go_wp2_with fail
      refine (hsend (src := (i : Int)) (dst := (i : Int) + 1) (tick := 0) HN4.out.1 HBV.out (by simp) (by have := knS_lost i; omega)).mono ?_; rintro e w5 ⟨rfl, hN5, hk5⟩
      have HN5 := Lib.hid (show HasN W [b + 1] w5 b (knS (i + 1)) from hN5); have HM5 := Lib.hid ((HN4.out.2.trans hk5).blk (by simp) HM.out)
      clear hN5 hk5 HN4 HBV HN HM
      go_wp2_with fail
      go_roundw
      case rel => exact ⟨i + 1, by omega, by go_num, HN5.out, HM5.out⟩
      case measure => simp [intOf]; omega
    · have hi2 : i = 5 := by omega
      subst hi2
      have q1 : decide (((5 : Nat) : Int) < 5) = false := rfl
      rw [kn5] at HN
      go_wp2_with fail
      refine (hleft HN.out).mono ?_; rintro e w' ⟨rfl, rfl⟩
      go_wp2_with fail
      refine (hlost HN.out).mono ?_; rintro e w' ⟨rfl, rfl⟩
      go_wp2_with fail
      refine (hflight HN.out).mono ?_; rintro e w' ⟨rfl, rfl⟩
      go_wp2_with fail
      have hm0 := HM.out
      refine (hdeliver HN.out 1).mono ?_; rintro e w4 ⟨ov1, rfl, hN4, hD1, hk4⟩
      rw [kd1] at hN4 hD1
      have HM4 := Lib.hid (hk4.blk (by simp) HM.out)
      obtain ⟨a1, c1, rfl⟩ := hD1.val
      have hN4' := hN4.addDg hD1
      have HD1 := Lib.hid hD1; have HN4 := Lib.hid hN4'
      clear hN4 hN4' hD1 hk4 hm0 HN HM
      go_wp2_with fail
      refine (hdeliver HN4.out 20).mono ?_; rintro e w5 ⟨ov2, rfl, hN5, hD2, hk5⟩
      rw [kd2] at hN5 hD2
      have HM5 := Lib.hid (hk5.blk (by simp) HM4.out)
      have HD1b := Lib.hid (hk5.dg HD1.out (fun g hg => List.mem_append_left _ (by simp only [Option.mem_toList]; exact hg)))
      obtain ⟨a2, c2, rfl⟩ := hD2.val
      have hN5' := hN5.addDg hD2
      have HD2 := Lib.hid hD2; have HN5 := Lib.hid hN5'
      clear hN5 hN5' hD2 hk5 HN4 HM4 HD1
      go_wp2_with fail
      refine (hdeliver HN5.out 21).mono ?_; rintro e w6 ⟨ov3, rfl, hN6, hD3, hk6⟩
      rw [kd3] at hN6 hD3
      have HM6 := Lib.hid (hk6.blk (by simp) HM5.out)
      have HD1 := Lib.hid (hk6.dg HD1b.out (fun g hg => List.mem_append_right _ (List.mem_append_left _ (by simp only [Option.mem_toList]; exact hg))))
      have HD2b := Lib.hid (hk6.dg HD2.out (fun g hg => List.mem_append_left _ (by simp only [Option.mem_toList]; exact hg)))
      obtain ⟨a3, c3, rfl⟩ := hD3.val
      have HFR := Lib.hid hN6.fr
      have HD3 := Lib.hid hD3
      have hbk := hN6.hb2
      clear hN6 hD3 hk6 HN5 HM5 HD1b HD2
      have hM := HasN.empty W (K := (Value.slice a1 4 c1).ownBlock.toList ++ ((Value.slice a2 1 c2).ownBlock.toList ++ (Value.slice a3 1 c3).ownBlock.toList)) HM6.out (fun hx => by
        obtain ⟨V1, ho1, -⟩ := HD1.out
        obtain ⟨V2, ho2, -⟩ := HD2b.out
        obtain ⟨V3, ho3, -⟩ := HD3.out
        rcases List.mem_append.1 hx with hx | hx
        · simp only [Option.mem_toList] at hx; exact own_blk (g := 0) ho1 HM6.out (by decide) _ hx rfl
        · rcases List.mem_append.1 hx with hx | hx
          · simp only [Option.mem_toList] at hx; exact own_blk (g := 0) ho2 HM6.out (by decide) _ hx rfl
          · simp only [Option.mem_toList] at hx; exact own_blk (g := 0) ho3 HM6.out (by decide) _ hx rfl) (by omega) (fun g hx => by
        obtain ⟨V1, ho1, -⟩ := HD1.out
        obtain ⟨V2, ho2, -⟩ := HD2b.out
        obtain ⟨V3, ho3, -⟩ := HD3.out
        rcases List.mem_append.1 hx with hx | hx
        · simp only [Option.mem_toList] at hx; exact own_lt ho1 hx
        · rcases List.mem_append.1 hx with hx | hx
          · simp only [Option.mem_toList] at hx; exact own_lt ho2 hx
          · simp only [Option.mem_toList] at hx; exact own_lt ho3 hx) HFR.out
      have HMN := Lib.hid hM
      obtain ⟨K3, hK3⟩ : ∃ K3, (Value.slice a1 4 c1).ownBlock.toList ++ ((Value.slice a2 1 c2).ownBlock.toList ++ (Value.slice a3 1 c3).ownBlock.toList) = K3 := ⟨_, rfl⟩
      rw [hK3] at HMN
      have HIN := Lib.hid (show (∀ g, (Value.slice a1 4 c1).ownBlock = some g → g ∈ K3) ∧ (∀ g, (Value.slice a2 1 c2).ownBlock = some g → g ∈ K3) ∧ (∀ g, (Value.slice a3 1 c3).ownBlock = some g → g ∈ K3) from by
        rw [← hK3]
        exact ⟨fun g hg => by simp [hg], fun g hg => by simp [hg], fun g hg => by simp [hg]⟩)
      clear hM hK3 HM6 HFR hbk
      simp only at HD1 HD2b HD3
      go_wp2_with fail
      go_loopw [10] (fun iv wr => ∃ (j : Nat) (s : NetV), j ≤ 261 ∧ iv = .int .i64 j ∧ HasN W K3 wr (b + 1) s ∧ MS s j ∧ Kp K3 w6 wr) (fun iv _ => 261 - (intOf iv).toNat)
      case atStart => exact ⟨0, _, by omega, rfl, HMN.out, ⟨rfl, rfl, rfl, fun x hx => by simp at hx⟩, Kp.refl _ _⟩
      case round =>
        obtain ⟨j, s, hj, rfl, hN, hms, hkp⟩ := hrel
        have HN := Lib.hid hN; have HMS := Lib.hid hms; have HK := Lib.hid hkp
        clear hN hms hkp HMN
        by_cases hj2 : j < 261
        · have q2 : (j : Int) < 261 := by omega
          go_wp2_with fail
          refine (one_any 1 _).mono ?_; rintro e w7 ⟨a, rfl, hbv, hF⟩
          have hN7 := HN.out.fr0 hF
          rw [show wrap64 (1 + 1) = 2 from IntWalk.wrap64_in 2 (by decide)]
          rw [show byt 1 = 1 by unfold byt; decide] at hbv
          have HN7 := Lib.hid hN7; have HBV := Lib.hid hbv
          clear hF hbv hN7
          go_wp2_with fail
          refine (hsend (src := 1) (dst := 2) (tick := 1000000) HN7.out.1 HBV.out (by simp) (by have := HMS.out.lost; omega)).mono ?_; rintro e w8 ⟨rfl, hN8, hk8⟩
          have HN8 := Lib.hid hN8; have HK8 := Lib.hid ((HK.out.trans HN7.out.2).trans hk8); have HMS8 := Lib.hid HMS.out.step
          clear hN8 hk8 HN7 HBV HN HMS HK
          go_wp2_with fail
          go_roundw
          case rel => exact ⟨j + 1, _, by omega, by go_num, HN8.out, HMS8.out, HK8.out⟩
          case measure => simp [intOf]; omega
        · have hj3 : j = 261 := by omega
          have q2 : decide ((j : Int) < 261) = false := decide_eq_false (by omega)
          have HJ := Lib.hid hj3
          clear hj3
          obtain ⟨i0, hi0, hz0, hz1, hz2⟩ := info_parts infFa
          have HI := Lib.hid (And.intro hi0 (And.intro hz0 (And.intro hz1 hz2)))
          clear hi0 hz0 hz1 hz2
          go_wp2_with fail
          obtain ⟨lo, hlo⟩ : ∃ lo, wr.heap.size = lo := ⟨_, rfl⟩
          have HLO := Lib.hid hlo
          go_loopw [11, 12] (fun mv iv wq => ∃ k : Nat, k ≤ 1005 ∧ iv = .int .i64 k ∧ wq.ownsRow lo 86 3 mv k (faC (List.replicate k fa0)) ∧ Fr [] wr wq) (fun _ iv _ => 1005 - (intOf iv).toNat)
          case atStart => exact ⟨0, by omega, rfl, own_nil _ _ _ _, Fr.refl _ _⟩
          case round =>
            obtain ⟨k, hk, rfl, ho, hF⟩ := hrel
            have HO := Lib.hid ho; have HF := Lib.hid hF
            have hwsz := hF.size
            clear ho hF
            by_cases hk2 : k < 1005
            · have q3 : (k : Int) < 1005 := by omega
              go_upto_region 23 with (fail)
              apply wp_region_lit
              iterate 3 (refine wpList_plain rfl (fun K hK => ?_); go_simp; refine hK _ _ ?_; clear hK K)
              have hnb := Blk.new wr #[.bool false, .int .i64 0, .int .i64 0] 86
              have hF4 := HF.out.alloc (.cells #[.bool false, .int .i64 0, .int .i64 0] 86)
              have hF4' := (Fr.refl [] wr).alloc (.cells #[.bool false, .int .i64 0, .int .i64 0] 86)
              obtain ⟨gn, hgn⟩ : ∃ gn, wr.heap.size = gn := ⟨_, rfl⟩
              rw [hgn] at hnb ⊢
              generalize wr.alloc (.cells #[.bool false, .int .i64 0, .int .i64 0] 86) = w4 at *
              obtain ⟨hi0, hz0, hz1, hz2⟩ := HI.out
              have ho4 := own_fr (S := []) HO.out hF4' (by simp)
              have hsz4 := hF4.size
              obtain ⟨oa, oc, rfl, -⟩ := own_val ho4
              refine wpList_append_src _ rfl (Operand.tmp 44) (Operand.tmp 46) 68 rfl lo 86 i0 _ 3 24 Try.underlying68 hi0 hz0 hz1 hz2 rfl (by decide) (.slice oa k oc) (.slice (some ⟨gn, 0, none⟩) 1 1) k 1 (faC (List.replicate k fa0)) [.bool false, .int .i64 0, .int .i64 0] rfl (by kernel_rfl) ho4 (src_blk hnb (by simp) (by simp [Value.oneCell']) 1) (by unfold maxLen; omega) (by omega) (by have := HLO.out; omega) ?_
              intro v9 w9 ho9 hg9 hat9
              have HF9 := Lib.hid (fr_own hF4 ho4 hg9 (by rw [HLO.out]; exact Nat.le_refl _))
              rw [← faC_rep] at ho9
              have HO9 := Lib.hid ho9
              clear hnb hF4 hF4' ho4 ho9 hg9 hat9 hi0 hz0 hz1 hz2
              go_wp2_with fail
              go_roundw
              case rel => exact ⟨k + 1, by omega, by go_num, HO9.out, HF9.out⟩
              case measure => simp [intOf]; omega
            · have hk3 : k = 1005 := by omega
              subst hk3
              have q3 : decide (((1005 : Nat) : Int) < 1005) = false := rfl
              have hj3 := HJ.out
              obtain ⟨ma, mc, rfl, hmc1, hmc2⟩ := own_val HO.out
              have hN9 := HN.out.fr0 HF.out
              have hK9 := HK.out.trans hN9.2
              have hsrc := own_src HO.out (faC_one _)
              have HN9 := Lib.hid hN9.1; have HK9 := Lib.hid hK9; have HSRC := Lib.hid hsrc; have HLT := Lib.hid (fun g hg => own_lt HO.out (g := g) hg)
              clear hN9 hK9 hsrc HN HK HO HF
              go_wp2_with fail
              refine (hfates (l := List.replicate 1005 fa0) HN9.out HSRC.out (by simp) hmc1 hmc2 HLT.out).mono ?_; rintro e w10 ⟨rfl, hN10, hk10⟩
              have hms := HMS.out
              have hK10 := HK9.out.trans hk10
              have HD1f := Lib.hid (hK10.dg HD1.out HIN.out.1); have HD2f := Lib.hid (hK10.dg HD2b.out HIN.out.2.1); have HD3f := Lib.hid (hK10.dg HD3.out HIN.out.2.2)
              have e1 : (fatesS s (List.replicate 1005 fa0)).fa.length = 1000 := by
                show (s.fa ++ List.take (1000 - s.fa.length) (List.replicate 1005 fa0)).length = 1000
                rw [hms.fa]; simp
              have e2 : (fatesS s (List.replicate 1005 fa0)).fl.length = 256 := by have := hms.len; show s.fl.length = 256; omega
              have e3 : (fatesS s (List.replicate 1005 fa0)).lost = 5 := by have := hms.lost; show s.lost = 5; omega
              have e4 := hms.none (List.replicate 1005 fa0)
              obtain ⟨sf, hsf⟩ : ∃ sf, fatesS s (List.replicate 1005 fa0) = sf := ⟨_, rfl⟩
              rw [hsf] at hN10 e1 e2 e3 e4
              have HN10 := Lib.hid hN10; have E1 := Lib.hid e1; have E2 := Lib.hid e2; have E3 := Lib.hid e3; have E4 := Lib.hid e4
              clear hN10 hk10 hK10 hms hsf e1 e2 e3 e4 hj3 HN9 HK9 HSRC HLT HMS HD1 HD2b HD3
              obtain ⟨g1, k1, x0, y0, hv1, hc1, hc1', d0, d1, d2, hb1⟩ := HD1f.out.at (t := 0) rfl
              cases hv1
              simp only [kx, List.length_cons, List.length_nil] at hc1 d0 d1 d2 hb1
              have HBX := Lib.hid hb1
              clear hb1
              go_wp2_with fail
              refine (is_yes (n := ((2 : Nat) : Int)) (m := ((2 : Nat) : Int) + 1) rfl (by rw [show byt ((2 : Nat) : Int) = 2 by unfold byt; decide]; exact HBX.out) (by decide) (by decide)).mono ?_; rintro e w11 ⟨rfl, hF⟩
              have HD1f := Lib.hid (HD1f.out.fr hF (by simp) (NoU8.nil _)); have HD2f := Lib.hid (HD2f.out.fr hF (by simp) (NoU8.nil _)); have HD3f := Lib.hid (HD3f.out.fr hF (by simp) (NoU8.nil _)); have HN10 := Lib.hid (HN10.out.fr0 hF).1
              clear d0 d1 d2 hF HBX hc1 hc1'
              obtain ⟨g1, k1, x0, y0, hv1, hc1, hc1', d0, d1, d2, hb1⟩ := HD1f.out.at (t := 2) rfl
              cases hv1
              simp only [kx, List.length_cons, List.length_nil] at hc1 d0 d1 d2 hb1
              have HBX := Lib.hid hb1
              clear hb1
              go_wp2_with fail
              refine (is_yes (n := ((2 : Nat) : Int)) (m := ((2 : Nat) : Int) + 1) rfl (by rw [show byt ((2 : Nat) : Int) = 2 by unfold byt; decide]; exact HBX.out) (by decide) (by decide)).mono ?_; rintro e w12 ⟨rfl, hF⟩
              have HD1f := Lib.hid (HD1f.out.fr hF (by simp) (NoU8.nil _)); have HD2f := Lib.hid (HD2f.out.fr hF (by simp) (NoU8.nil _)); have HD3f := Lib.hid (HD3f.out.fr hF (by simp) (NoU8.nil _)); have HN10 := Lib.hid (HN10.out.fr0 hF).1
              clear d0 d1 d2 hF HBX hc1 hc1'
              obtain ⟨g1, k1, x0, y0, hv1, hc1, hc1', d0, d1, d2, hb1⟩ := HD1f.out.at (t := 3) rfl
              cases hv1
              simp only [kx, List.length_cons, List.length_nil] at hc1 d0 d1 d2 hb1
              have HBX := Lib.hid hb1
              clear hb1
              go_wp2_with fail
              refine (is_yes (n := ((4 : Nat) : Int)) (m := ((4 : Nat) : Int) + 1) rfl (by rw [show byt ((4 : Nat) : Int) = 4 by unfold byt; decide]; exact HBX.out) (by decide) (by decide)).mono ?_; rintro e w13 ⟨rfl, hF⟩
              have HD1f := Lib.hid (HD1f.out.fr hF (by simp) (NoU8.nil _)); have HD2f := Lib.hid (HD2f.out.fr hF (by simp) (NoU8.nil _)); have HD3f := Lib.hid (HD3f.out.fr hF (by simp) (NoU8.nil _)); have HN10 := Lib.hid (HN10.out.fr0 hF).1
              clear d0 d1 d2 hF HBX hc1 hc1'
              obtain ⟨g1, k1, x0, y0, hv1, hc1, hc1', d0, d1, d2, hb1⟩ := HD2f.out.at (t := 0) rfl
              cases hv1
              simp only [kx, List.length_cons, List.length_nil] at hc1 d0 d1 d2 hb1
              have HBX := Lib.hid hb1
              clear hb1
              go_wp2_with fail
              refine (is_yes (n := ((0 : Nat) : Int)) (m := ((0 : Nat) : Int) + 1) rfl (by rw [show byt ((0 : Nat) : Int) = 0 by unfold byt; decide]; exact HBX.out) (by decide) (by decide)).mono ?_; rintro e w14 ⟨rfl, hF⟩
              have HD1f := Lib.hid (HD1f.out.fr hF (by simp) (NoU8.nil _)); have HD2f := Lib.hid (HD2f.out.fr hF (by simp) (NoU8.nil _)); have HD3f := Lib.hid (HD3f.out.fr hF (by simp) (NoU8.nil _)); have HN10 := Lib.hid (HN10.out.fr0 hF).1
              clear d0 d1 d2 hF HBX hc1 hc1'
              obtain ⟨g1, k1, x0, y0, hv1, hc1, hc1', d0, d1, d2, hb1⟩ := HD3f.out.at (t := 0) rfl
              cases hv1
              simp only [kx, List.length_cons, List.length_nil] at hc1 d0 d1 d2 hb1
              have HBX := Lib.hid hb1
              clear hb1
              go_wp2_with fail
              refine (is_yes (n := ((3 : Nat) : Int)) (m := ((3 : Nat) : Int) + 1) rfl (by rw [show byt ((3 : Nat) : Int) = 3 by unfold byt; decide]; exact HBX.out) (by decide) (by decide)).mono ?_; rintro e w15 ⟨rfl, hF⟩
              have HD1f := Lib.hid (HD1f.out.fr hF (by simp) (NoU8.nil _)); have HD2f := Lib.hid (HD2f.out.fr hF (by simp) (NoU8.nil _)); have HD3f := Lib.hid (HD3f.out.fr hF (by simp) (NoU8.nil _)); have HN10 := Lib.hid (HN10.out.fr0 hF).1
              clear d0 d1 d2 hF HBX hc1 hc1'
              have hfl := hflight HN10.out
              rw [E2.out] at hfl
              have hlo' := hlost HN10.out
              rw [E3.out] at hlo'
              have hle := hleft HN10.out
              rw [E1.out] at hle
              have HFL := Lib.hid hfl; have HLO' := Lib.hid hlo'; have HLE := Lib.hid hle
              clear hfl hlo' hle
              go_wp2_with fail
              refine HFL.out.mono ?_; rintro e w' ⟨rfl, rfl⟩
              go_wp2_with fail
              refine HLO'.out.mono ?_; rintro e w' ⟨rfl, rfl⟩
              go_wp2_with fail
              refine HLE.out.mono ?_; rintro e w' ⟨rfl, rfl⟩
              go_wp2_with fail
              refine (hdeliver HN10.out 1099511627776).mono ?_; rintro e w16 ⟨ov, rfl, hN16, hD16, -⟩
              rw [E4.out] at hD16
              obtain ⟨a16, c16, rfl⟩ := hD16.val
              have hfr := hN16.fr
              clear hN16 hD16
              go_wp2_with fail
              go_ret
              exact ⟨rfl, hfr.below (by have := HB.out; omega) (by simp)⟩
end Go.Proofs.Ytkjjikjilmngdaa.Nt
