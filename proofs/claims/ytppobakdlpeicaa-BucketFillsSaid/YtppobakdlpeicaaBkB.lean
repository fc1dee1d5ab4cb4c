import Derived.Test.YtppobakdlpeicaaBk3
namespace Dt
open Ieee
set_option linter.unusedVariables false
set_option linter.unusedSimpArgs false

theorem b_lvl {R D L : Int} {G n : Nat} (hS : S = G * 1099511627776) (hg : ∀ E : Int, 0 ≤ E → E ≤ 4096 * S → E - G ≤ rnd E 1 ∧ rnd E 1 ≤ E + G) (r0 : 0 ≤ R) (r1 : R ≤ 5 * S) (d1 : D ≤ 100 * S) (l0 : 0 ≤ L) (l1 : L ≤ D) (hn : n < 4) : lvl R D L n ≤ L + R * n + 2 * G := by
  have hS' : (S : Int) = G * 1099511627776 := by rw [hS, Int.natCast_mul]; rfl
  have a0 : 0 ≤ R * n := Int.mul_nonneg r0 (by omega)
  have a1 : R * n ≤ R * 4 := Int.mul_le_mul_of_nonneg_left (by omega) r0
  unfold lvl
  split
  · have h1 := hg (R * n) a0 (by omega)
    have h2 := rnd_nonneg (D := 1) (by decide) a0
    have h3 := hg (L + rnd (R * n) 1) (by omega) (by omega)
    omega
  · omega
theorem b_step {R D L : Int} {G g T k n : Nat} (hS : S = G * 1099511627776) (hg : ∀ E : Int, 0 ≤ E → E ≤ 4096 * S → E - G ≤ rnd E 1 ∧ rnd E 1 ≤ E + G) (r0 : 0 ≤ R) (r1 : R ≤ 5 * S) (d1 : D ≤ 100 * S) (l0 : 0 ≤ L) (l1 : L ≤ D) (hn : n < 4)
    (hl0 : lvl R D L n ≤ D) (inv : (g : Int) * S + L ≤ D + R * T + k * (3 * G)) :
    (((if (S : Int) ≤ lvl R D L n then g + 1 else g : Nat)) : Int) * S + lvl' R D L n ≤ D + R * ((T : Int) + n) + ((k : Int) + 1) * (3 * G) := by
  have hl := b_lvl hS hg r0 r1 d1 l0 l1 hn
  rw [Int.mul_add, Int.add_mul]
  unfold lvl'
  by_cases hc : (S : Int) ≤ lvl R D L n
  · rw [if_pos hc, if_pos hc]
    have h1 := hg (lvl R D L n - S) (by omega) (by omega)
    rw [Int.natCast_add, Int.add_mul]
    omega
  · rw [if_neg hc, if_neg hc]
    omega
theorem b_end {R D L V : Int} {G g T k : Nat} (hS : S = G * 1099511627776) (hg : ∀ E : Int, 0 ≤ E → E ≤ 4096 * S → E - G ≤ rnd E 1 ∧ rnd E 1 ≤ E + G) (r0 : 0 ≤ R) (r1 : R ≤ 5 * S) (d0 : 0 ≤ D) (d1 : D ≤ 100 * S) (l0 : 0 ≤ L) (hT : T ≤ 240) (hk : k ≤ 80)
    (hv0 : (S : Int) ≤ V * 1024) (hv1 : V ≤ S) (inv : (g : Int) * S + L ≤ D + R * T + k * (3 * G)) :
    (0 ≤ rnd (R * T) 1 ∧ rnd (R * T) 1 ≤ 1300 * S) ∧ (0 ≤ rnd (D + rnd (R * T) 1) 1 ∧ rnd (D + rnd (R * T) 1) 1 ≤ 1500 * S) ∧ rnd (rnd (D + rnd (R * T) 1) 1 + V) 1 ≤ 1600 * S ∧ (g : Int) * S ≤ rnd (rnd (D + rnd (R * T) 1) 1 + V) 1 := by
  have hS' : (S : Int) = G * 1099511627776 := by rw [hS, Int.natCast_mul]; rfl
  have a0 : 0 ≤ R * T := Int.mul_nonneg r0 (by omega)
  have a1 : R * T ≤ R * 240 := Int.mul_le_mul_of_nonneg_left (by omega) r0
  have hk3 : (k : Int) * (3 * G) ≤ 80 * (3 * G) := Int.mul_le_mul_of_nonneg_right (by omega) (by omega)
  have h1 := hg (R * T) a0 (by omega)
  have h2 := rnd_nonneg (D := 1) (by decide) a0
  have h3 := hg (D + rnd (R * T) 1) (by omega) (by omega)
  have h4 : 0 ≤ rnd (D + rnd (R * T) 1) 1 := rnd_nonneg (D := 1) (by decide) (by omega)
  have h5 := hg (rnd (D + rnd (R * T) 1) 1 + V) (by omega) (by omega)
  omega
theorem fl_eps2 : ∃ V : Int, Fl 4562254508917369340 V ∧ (S : Int) ≤ V * 1024 ∧ 0 ≤ V ∧ V ≤ S := by
  obtain ⟨V, hf, h0, h1⟩ := Go.Proofs.Ytppobakdlpeicaa.Mt.fl_eps
  refine ⟨V, hf, ?_, h0, h1⟩
  have e := hf.mg
  have er : rg 4562254508917369340 = 4562254508917369340 := by decide
  rw [er] at e
  obtain ⟨k, hk⟩ : ∃ k, k = 1012 := ⟨_, rfl⟩
  have hm : mg ((k + 1) * B + 0) ≤ mg 4562254508917369340 := mg_mono (by rw [hk]; decide)
  rw [mg_big B_pos, Nat.add_zero, eq_B, ← Nat.pow_add] at hm
  obtain ⟨c, hc, hS⟩ := S_eq
  have : S = 2 ^ (52 + k) * 1024 := by
    have h10 : (1024 : Nat) = 2 ^ 10 := rfl
    rw [hS, h10, ← Nat.pow_add]; exact congrArg _ (by omega)
  clear hk hc hS
  generalize 2 ^ (52 + k) = Z at *
  omega
theorem lvl_zero {D L k : Int} (hL : Rep L) (l0 : 0 ≤ L) : lvl 0 D L k ≤ L := by
  unfold lvl
  split
  · rw [Int.zero_mul, rnd_zero (by decide), Int.add_zero, rnd1_exact hL]; omega
  · omega
end Dt
namespace Go.Proofs.Ytppobakdlpeicaa.Bk
open Go.RowKit Dt Go.Proofs.Ytppobakdlpeicaa.Hd Go.Proofs.Ytppobakdlpeicaa.Mt Ieee
set_option linter.unusedVariables false
set_option linter.unusedSimpArgs false

theorem fl_700 : Fl 4649368480934526976 ((700 : Nat) * S) := by
  have h := fint_exact (n := 700) (by decide) (by decide)
  have e : Go.floatOfInt .f64 700 = 4649368480934526976 := by kernel_rfl
  rwa [e] at h
theorem fl_16' : Fl 4625196817309499392 ((16 : Nat) * S) := fl_sixteen
set_option maxRecDepth 100000 in
set_option maxHeartbeats 3200000 in
theorem walk_bounds (b0 b1 : Int) (a0 : Option Addr) (len0 cap0 : Nat) (z0 : Nat → Int) (W : World) (x0 : (Lit.int .i64 b0).wf = true) (x1 : (Lit.int .i64 b1).wf = true) (s0 : SlI .i64 W a0 len0 cap0 z0) :
    Calls Try.prog 3 #[.int .i64 b0, .int .i64 b1, .slice a0 len0 cap0] W fun e w' => e = .returned (.bool true) ∧ Below W.heap.size W w' := by
  have HC0 := Lib.hid s0.1.cells
  have hr0 := s0.1.reach
  have hl0 := s0.1.le
  clear s0 x0 x1
  have hSp : (0 : Int) < S := by have := S_pos; omega
  obtain ⟨q, hq⟩ : ∃ q : Nat, b0 % 3000 = q := ⟨(b0 % 3000).toNat, by omega⟩
  obtain ⟨p, hp⟩ : ∃ p : Nat, b1 % 400 = p := ⟨(b1 % 400).toNat, by omega⟩
  have hq2 : q < 3000 := by omega
  have hp2 : p < 400 := by omega
  have r5 := rep_S (m := 5) (by omega)
  have r25 := rep_S (m := 25) (by omega)
  have r26 := rep_S (m := 26) (by omega)
  have r1 := rep_S (m := 1) (by omega)
  have hqS : (q : Int) * S ≤ 3000 * S := Int.mul_le_mul_of_nonneg_right (by omega) (by omega)
  have hqS0 : 0 ≤ (q : Int) * S := Int.mul_nonneg (by omega) (by omega)
  have hpS : (p : Int) * S ≤ 400 * S := Int.mul_le_mul_of_nonneg_right (by omega) (by omega)
  have hpS0 : 0 ≤ (p : Int) * S := Int.mul_nonneg (by omega) (by omega)
  obtain ⟨r, e1, fr⟩ := fdiv_nat (n := 700) (by decide) (fint_exact (n := (q : Int)) (by omega) (by omega)) fl_700 (rnd_rep_le (v := ((5 : Nat) : Int) * S) (by decide) r5 (by omega) (by omega))
  obtain ⟨y, e2, fy⟩ := fdiv_nat (n := 16) (by decide) (fint_exact (n := (p : Int)) (by omega) (by omega)) fl_16' (rnd_rep_le (v := ((25 : Nat) : Int) * S) (by decide) r25 (by omega) (by omega))
  have R0 : 0 ≤ rnd ((q : Int) * S) 700 := rnd_nonneg (by decide) hqS0
  have R1 : rnd ((q : Int) * S) 700 ≤ ((5 : Nat) : Int) * S := rnd_le (by decide) r5 (by omega)
  have Y0 : 0 ≤ rnd ((p : Int) * S) 16 := rnd_nonneg (by decide) hpS0
  have Y1 : rnd ((p : Int) * S) 16 ≤ ((25 : Nat) : Int) * S := rnd_le (by decide) r25 (by omega)
  have f1 := fl_one
  obtain ⟨d, e3, fd⟩ := fadd f1 fy (rnd_is _ (by decide)) (rnd_rep_le (v := ((26 : Nat) : Int) * S) (by decide) r26 (by omega) (by omega)).lt
  have D0 : ((1 : Nat) : Int) * S ≤ rnd (1 * S + rnd ((p : Int) * S) 16) 1 := rnd_ge (by decide) r1 (by omega)
  have D1 : rnd (1 * S + rnd ((p : Int) * S) 16) 1 ≤ ((26 : Nat) : Int) * S := rnd_le (by decide) r26 (by omega)
  generalize rnd ((q : Int) * S) 700 = R at *
  generalize rnd ((p : Int) * S) 16 = Y at *
  generalize rnd (1 * S + Y) 1 = D at *
  have n1 : ∀ w : World, (binOp .quo 23 (.float .f64 (Go.floatOfInt .f64 (q : Int))) (.float .f64 4649368480934526976)).run Try.prog w = .ok (.float .f64 r) w := run_fl .quo _ e1
  have n2 : ∀ w : World, (binOp .quo 23 (.float .f64 (Go.floatOfInt .f64 (p : Int))) (.float .f64 4625196817309499392)).run Try.prog w = .ok (.float .f64 y) w := run_fl .quo _ e2
  have n3 : ∀ w : World, (binOp .add 23 (.float .f64 4607182418800017408) (.float .f64 y)).run Try.prog w = .ok (.float .f64 d) w := run_fl .add _ e3
  have HQ := Lib.hid hq; have HP := Lib.hid hp
  have hnew := new_any fr fd R0 (by omega) (by omega)
  have HN := Lib.hid hnew; have HFR := Lib.hid fr; have HFD := Lib.hid fd
  have hb1 : (0 ≤ R ∧ R ≤ 5 * S) ∧ (0 ≤ D ∧ D ≤ 100 * S) := by omega
  have HBD := Lib.hid hb1
  have o0 := order_same fd fd
  clear hnew e1 e2 e3 hq hp R0 R1 Y0 Y1 D0 D1 r5 r25 r26 r1 hqS hqS0 hpS hpS0 fr fy fd f1 hb1 hSp
  go_enter Try.func3, Try.ntmps3
  go_wp2_with fail
  refine (pick_any _ _ _ (by decide) (by decide)).mono ?_; rintro e w' ⟨rfl, rfl⟩
  rw [HQ.out]
  go_wp2_with fail
  refine (pick_any _ _ _ (by decide) (by decide)).mono ?_; rintro e w' ⟨rfl, rfl⟩
  rw [HP.out]
  go_wp2_with fail
  refine (HN.out _).mono ?_; rintro e w1 ⟨rfl, hB, hF⟩
  clear HN
  obtain ⟨K, hK⟩ : ∃ K, W.heap.size = K := ⟨_, rfl⟩
  rw [hK] at hB ⊢
  have HK := Lib.hid hK; clear hK
  have HB1 := Lib.hid hB; have HF1 := Lib.hid hF
  clear hB hF
  go_wp2_with fail
  refine (known8_any _).mono ?_; rintro e w2 ⟨rfl, hF2⟩
  have HB2 := Lib.hid (HB1.out.fr hF2 (by simp))
  have HF2 := Lib.hid (HF1.out.trans hF2 (by simp))
  clear HB1 HF1 hF2
  go_wp2_with fail
  refine (level_any HB2.out).mono ?_; rintro e w' ⟨rfl, rfl⟩
  go_wp2_with fail
  obtain ⟨G, hG0, hSG, hg⟩ := grid
  have HSG := Lib.hid hSG; have HG := Lib.hid hg
  clear hSG hg
  go_loopw [11, 12, 13] (fun gv tv iv wr => ∃ (k g T l : Nat) (L : Int), k ≤ len0 ∧ k ≤ 80 ∧ T ≤ 3 * k ∧ g ≤ k ∧ gv = .int .i64 g ∧ tv = .int .i64 T ∧ iv = .int .i64 k ∧ HasB wr K r d l T ∧ Fl l L ∧ 0 ≤ L ∧ L ≤ D ∧ (g : Int) * S + L ≤ D + R * T + k * (3 * G) ∧ Fr [] W wr) (fun _ _ iv _ => 80 - (intOf iv).toNat)
  case atStart => exact ⟨0, 0, 0, d, D, by omega, by omega, by omega, by omega, rfl, rfl, rfl, HB2.out, HFD.out, HBD.out.2.1, Int.le_refl _, by simp, HF2.out⟩
  case round =>
    obtain ⟨k, g, T, l, L, hk, hk80, hT, hgk, rfl, rfl, rfl, hB, fl, l0, l1, inv, hFW⟩ := hrel
    clear HB2 HF2
    by_cases hlt : k < len0 ∧ k < 80
    · obtain ⟨hlt, hlt2⟩ := hlt
      obtain ⟨bb, off, rfl, hlb, hc⟩ := HC0.out (by omega)
      have hcj := (hFW.cell (p := ⟨bb, off + k, none⟩) hlb (by simp)).trans (hc k hlt)
      clear hc
      have q0 : 0 ≤ (k : Int) := by omega
      have q1 : (k : Int) < (len0 : Int) := by omega
      have q2 : (k : Int) < 80 := by omega
      obtain ⟨n, hn⟩ : ∃ n : Nat, z0 k % 4 = n := ⟨(z0 k % 4).toNat, by omega⟩
      have hn4 : n < 4 := by omega
      have hbd := lvl_bd (k := (n : Int)) HBD.out.1.1 HBD.out.2.1 l0 l1 HFD.out.rep fl_one.rep (by omega)
      have hst := b_step (n := n) HSG.out HG.out HBD.out.1.1 HBD.out.1.2 HBD.out.2.2 l0 l1 hn4 hbd.1.2 inv
      have htk := take_any (tick := (T : Int) + n) (tt := (T : Int) + n) hB (by rw [if_neg (by omega)]) HFR.out HFD.out fl HBD.out.1.1 HBD.out.1.2 l0 l1 (by have := HBD.out.2.2; omega) (by omega) (by omega)
      have et : (T : Int) + n - T = n := by omega
      have et2 : (if (T : Int) < (T : Int) + n then (T : Int) + n else (T : Int)) = ((T + n : Nat) : Int) := by split <;> omega
      rw [et, et2] at htk
      have et3 : (T : Int) + n = ((T + n : Nat) : Int) := by omega
      have hz : R = 0 → lvl R D L n ≤ L := fun h => by rw [h]; exact lvl_zero fl.rep l0
      have HHN := Lib.hid hn; have HBB := Lib.hid hB; have HST := Lib.hid hst; have HTK := Lib.hid htk; have HLB := Lib.hid hbd; have HZ := Lib.hid hz; have HFL := Lib.hid fl; have HFW := Lib.hid hFW; have HT3 := Lib.hid et3
      clear hn hB hst htk hbd hz fl hFW inv l0 l1 et et2 et3
      go_wp2_with fail
      refine (pick_any _ _ _ (by decide) (by decide)).mono ?_; rintro e w' ⟨rfl, rfl⟩
      rw [HHN.out]
      go_wp2_with fail
      refine (level_any HBB.out).mono ?_; rintro e w' ⟨rfl, rfl⟩
      go_wp2_with fail
      refine HTK.out.mono ?_
      rintro e w3 ⟨rfl, ⟨l', hB', fl'⟩, hFa⟩
      have HB3 := Lib.hid hB'; have HF3 := Lib.hid (HFW.out.trans hFa (by simp; rw [← HK.out]; omega))
      have o1 := not_lt fl' fl_zero HLB.out.2.1
      have o2 := not_gt fl' HFD.out HLB.out.2.2
      have HFL' := Lib.hid fl'
      clear hB' hFa HBB HTK HFW fl'
      have f1 := fl_one
      rw [Int.one_mul] at f1
      by_cases hgot : (S : Int) ≤ lvl R D L n
      · rw [decide_eq_true hgot]
        have hst := HST.out
        rw [if_pos hgot] at hst
        have hst2 : ((g + 1 : Nat) : Int) * S + lvl' R D L n ≤ D + R * ((T + n : Nat) : Int) + ((k + 1 : Nat) : Int) * (3 * G) := by rw [← HT3.out]; simpa using hst
        have HS2 := Lib.hid hst2
        clear hst hst2 HST
        by_cases hw : L < S
        · have o3 := is_lt HFL.out f1 hw
          have o4 : (FloatKind.f64.format.order r 0 == some .eq) = false := by
            have : FloatKind.f64.format.order r 0 = some (compare R 0) := forder HFR.out fl_zero
            rw [this]
            have hR : R ≠ 0 := fun h => by have := HZ.out h; omega
            rcases Int.lt_trichotomy R 0 with h | h | h
            · rw [Int.compare_eq_lt.2 h]; rfl
            · exact absurd h hR
            · rw [Int.compare_eq_gt.2 h]; rfl
          clear f1 hgot hw
          go_wp2_with fail
          refine (level_any HB3.out).mono ?_; rintro e w' ⟨rfl, rfl⟩
          go_wp2_with fail
          refine (level_any HB3.out).mono ?_; rintro e w' ⟨rfl, rfl⟩
          go_wp2_with fail
          go_roundw
          case rel => exact ⟨k + 1, g + 1, T + n, l', _, by omega, by omega, by omega, by omega, by go_num, by go_num, by go_num, HB3.out, HFL'.out, HLB.out.2.1, HLB.out.2.2, HS2.out, HF3.out⟩
          case measure => simp [intOf]; omega
        · have o3 := not_lt HFL.out f1 (by omega)
          clear f1 hgot hw
          go_wp2_with fail
          refine (level_any HB3.out).mono ?_; rintro e w' ⟨rfl, rfl⟩
          go_wp2_with fail
          refine (level_any HB3.out).mono ?_; rintro e w' ⟨rfl, rfl⟩
          go_wp2_with fail
          go_roundw
          case rel => exact ⟨k + 1, g + 1, T + n, l', _, by omega, by omega, by omega, by omega, by go_num, by go_num, by go_num, HB3.out, HFL'.out, HLB.out.2.1, HLB.out.2.2, HS2.out, HF3.out⟩
          case measure => simp [intOf]; omega
      · rw [decide_eq_false hgot]
        have hst := HST.out
        rw [if_neg hgot] at hst
        have hst2 : ((g : Nat) : Int) * S + lvl' R D L n ≤ D + R * ((T + n : Nat) : Int) + ((k + 1 : Nat) : Int) * (3 * G) := by rw [← HT3.out]; simpa using hst
        have HS2 := Lib.hid hst2
        have hl : lvl' R D L n < S := by unfold lvl'; rw [if_neg hgot]; omega
        have o3 := not_gt HFL'.out f1 (by omega)
        have o4 : (FloatKind.f64.format.order l' 4607182418800017408 == some .eq) = false := by
          have : FloatKind.f64.format.order l' 4607182418800017408 = some (compare (lvl' R D L n) S) := forder HFL'.out f1
          rw [this, Int.compare_eq_lt.2 hl]; rfl
        clear hst hst2 HST f1 hgot hl
        go_wp2_with fail
        refine (level_any HB3.out).mono ?_; rintro e w' ⟨rfl, rfl⟩
        go_wp2_with fail
        refine (level_any HB3.out).mono ?_; rintro e w' ⟨rfl, rfl⟩
        go_wp2_with fail
        refine (level_any HB3.out).mono ?_; rintro e w' ⟨rfl, rfl⟩
        go_wp2_with fail
        go_roundw
        case rel => exact ⟨k + 1, g, T + n, l', _, by omega, by omega, by omega, by omega, rfl, by go_num, by go_num, HB3.out, HFL'.out, HLB.out.2.1, HLB.out.2.2, HS2.out, HF3.out⟩
        case measure => simp [intOf]; omega
    · obtain ⟨V, fV, v0, v1, v2⟩ := fl_eps2
      have he := b_end HSG.out HG.out HBD.out.1.1 HBD.out.1.2 HBD.out.2.1 HBD.out.2.2 l0 (show T ≤ 240 by omega) hk80 v0 v2 inv
      obtain ⟨⟨a1, a2⟩, ⟨a3, a4⟩, a5, a6⟩ := he
      obtain ⟨m1, e1, fm1, -, -⟩ := mul_tick (k := (T : Int)) HFR.out HBD.out.1.1 HBD.out.1.2 (by omega) (by omega)
      have r15 := rep_S (m := 1500) (by omega)
      have r16 := rep_S (m := 1600) (by omega)
      obtain ⟨s1, e2, fs1⟩ := fadd HFD.out fm1 (rnd_is _ (by decide)) (rnd_rep (by decide) r15 (by omega)).lt
      have h0 : 0 ≤ (g : Int) * S := Int.mul_nonneg (by omega) (by omega)
      obtain ⟨s2, e3, fs2⟩ := fadd fs1 fV (rnd_is _ (by decide)) (rnd_rep (by decide) r16 (by omega)).lt
      have fg := fint_exact (n := (g : Int)) (by omega) (by omega)
      have hor : (FloatKind.f64.format.order (Go.floatOfInt .f64 (g : Int)) s2 == some .lt || FloatKind.f64.format.order (Go.floatOfInt .f64 (g : Int)) s2 == some .eq) = true := by
        have : FloatKind.f64.format.order (Go.floatOfInt .f64 (g : Int)) s2 = some (compare ((g : Int) * S) _) := forder fg fs2
        rw [this]
        rcases Int.lt_or_eq_of_le a6 with h | h
        · rw [Int.compare_eq_lt.2 h]; rfl
        · rw [Int.compare_eq_eq.2 h]; rfl
      obtain ⟨fT, hfT⟩ : ∃ x, Go.floatOfInt .f64 (T : Int) = x := ⟨_, rfl⟩
      obtain ⟨fG, hfG⟩ : ∃ x, Go.floatOfInt .f64 (g : Int) = x := ⟨_, rfl⟩
      rw [hfT] at e1
      rw [hfG] at hor
      have c1 : ∀ w, (convert 3 23 (.int .i64 (T : Int))).run Try.prog w = .ok (.float .f64 fT) w := fun w => by rw [← hfT]; exact run_convert_int_float w 3 23 .i64 .f64 T (by rw [Try.underlying3]; rfl) Try.underlying23
      have c2 : ∀ w, (convert 3 23 (.int .i64 (g : Int))).run Try.prog w = .ok (.float .f64 fG) w := fun w => by rw [← hfG]; exact run_convert_int_float w 3 23 .i64 .f64 g (by rw [Try.underlying3]; rfl) Try.underlying23
      have n4 : ∀ w : World, (binOp .mul 23 (.float .f64 r) (.float .f64 fT)).run Try.prog w = .ok (.float .f64 m1) w := run_fl .mul _ e1
      have n5 : ∀ w : World, (binOp .add 23 (.float .f64 d) (.float .f64 m1)).run Try.prog w = .ok (.float .f64 s1) w := run_fl .add _ e2
      have n6 : ∀ w : World, (binOp .add 23 (.float .f64 s1) (.float .f64 4562254508917369340)).run Try.prog w = .ok (.float .f64 s2) w := run_fl .add _ e3
      have HFW := Lib.hid hFW
      clear hfT hfG e1 e2 e3 fg fs1 fs2 fm1 fV v0 v1 v2 a1 a2 a3 a4 a5 a6 inv l0 l1 r15 r16 h0 hFW hB fl
      by_cases hlt1 : k < len0
      · have q0 : 0 ≤ (k : Int) := by omega
        have q1 : (k : Int) < (len0 : Int) := by omega
        have q2 : ¬ (k : Int) < 80 := by omega
        go_wp2_with fail
        go_ret
        refine ⟨?_, HFW.out.below (Nat.le_refl _) (by simp)⟩
        rfl
      · have q2 : ¬ (k : Int) < len0 := by omega
        go_wp2_with fail
        go_ret
        refine ⟨?_, HFW.out.below (Nat.le_refl _) (by simp)⟩
        rfl
end Go.Proofs.Ytppobakdlpeicaa.Bk
