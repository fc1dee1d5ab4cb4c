import Derived.Test.YtppobakdlpeicaaBkB
namespace Go.Proofs.Ytppobakdlpeicaa.Bk
open Go.RowKit Dt Go.Proofs.Ytppobakdlpeicaa.Hd Go.Proofs.Ytppobakdlpeicaa.Mt Ieee
set_option linter.unusedVariables false
set_option linter.unusedSimpArgs false

theorem order_same' {x y : Nat} {X : Int} (hx : Fl x X) (hy : Fl y X) : (FloatKind.f64.format.order x y == some .eq) = true := by
  have o1 : FloatKind.f64.format.order x y = some (compare X X) := forder hx hy
  rw [o1, Int.compare_eq_eq.2 rfl]; rfl
theorem sixteenth : ∃ V : Nat, S = 16 * V ∧ Rep (V : Int) := by
  obtain ⟨c, hc, hS⟩ := S_eq
  refine ⟨2 ^ (c - 4), ?_, ?_⟩
  · have : (16 : Nat) = 2 ^ 4 := rfl
    rw [hS, this, ← Nat.pow_add]; exact congrArg _ (by omega)
  · have := rep_pow (m := 1) (k := c - 4) (by decide) (by omega)
    rwa [Nat.one_mul] at this
/-- full again -/
theorem fill {R D k : Int} {V n : Nat} (hS : S = 16 * V) (hD : D = n * S) (hr : Rep D) (r0 : (V : Int) ≤ R) (hk : 16 * (n : Int) ≤ k) (hn : 1 ≤ n) : lvl R D 0 k = D := by
  have hSp := S_pos
  have h1 : D ≤ R * k := by
    have a : (V : Int) * (16 * (n : Int)) ≤ R * k := Int.mul_le_mul r0 hk (by omega) (by omega)
    have e : (V : Int) * (16 * (n : Int)) = D := by
      rw [hD, hS, Int.natCast_mul]; ac_rfl
    omega
  have h2 := rnd_ge (D := 1) (E := R * k) (by decide) hr (by omega)
  have h3 := rnd_ge (D := 1) (E := 0 + rnd (R * k) 1) (by decide) hr (by omega)
  unfold lvl
  rw [if_pos (by omega)]
  omega
theorem take_down {R D L k : Int} {m : Nat} (h : lvl R D L k = ((m + 1 : Nat) : Int) * S) (hm : m ≤ 1000) : (S : Int) ≤ lvl R D L k ∧ lvl' R D L k = (m : Int) * S := by
  have hSp := S_pos
  have e : ((m + 1 : Nat) : Int) * S = m * S + S := by rw [Int.natCast_add, Int.add_mul]; omega
  have h0 : 0 ≤ (m : Int) * S := Int.mul_nonneg (by omega) (by omega)
  have h1 : (S : Int) ≤ lvl R D L k := by omega
  refine ⟨h1, ?_⟩
  unfold lvl'
  rw [if_pos h1, h, e, show (m : Int) * S + S - S = m * S by omega]
  exact rnd1_exact (rep_S (by omega))
theorem lvl_still (R D L : Int) {k : Int} (h : k ≤ 0) : lvl R D L k = L := by unfold lvl; rw [if_neg (by omega)]
set_option maxRecDepth 100000 in
set_option maxHeartbeats 3200000 in
theorem walk_fills (b0 b1 b2 : Int) (W : World) (x0 : (Lit.int .i64 b0).wf = true) (x1 : (Lit.int .i64 b1).wf = true) (x2 : (Lit.int .i64 b2).wf = true) :
    Calls Try.prog 4 #[.int .i64 b0, .int .i64 b1, .int .i64 b2] W fun e w' => e = .returned (.bool true) ∧ Below W.heap.size W w' := by
  clear x0 x1 x2
  have hSp : (0 : Int) < S := by have := S_pos; omega
  obtain ⟨V, hV, hVr⟩ := sixteenth
  obtain ⟨q, hq⟩ : ∃ q : Nat, b0 % 64 = q := ⟨(b0 % 64).toNat, by omega⟩
  obtain ⟨p, hp⟩ : ∃ p : Nat, b1 % 60 = p := ⟨(b1 % 60).toNat, by omega⟩
  obtain ⟨u, hu⟩ : ∃ u : Nat, b2 % 50 = u := ⟨(b2 % 50).toNat, by omega⟩
  have hq2 : q < 64 := by omega
  have hp2 : p < 60 := by omega
  have hu2 : u < 50 := by omega
  have r5 := rep_S (m := 5) (by omega)
  have hqS : (1 + (q : Int)) * S ≤ 64 * S := Int.mul_le_mul_of_nonneg_right (by omega) (by omega)
  have hqS0 : 1 * (S : Int) ≤ (1 + (q : Int)) * S := Int.mul_le_mul_of_nonneg_right (by omega) (by omega)
  obtain ⟨r, e1, fr⟩ := fdiv_nat (n := 16) (by decide) (fint_exact (n := 1 + (q : Int)) (by omega) (by omega)) fl_16' (rnd_rep_le (v := ((5 : Nat) : Int) * S) (by decide) r5 (by omega) (by omega))
  have R0 : (V : Int) ≤ rnd ((1 + (q : Int)) * S) 16 := rnd_ge (by decide) hVr (by rw [hV] at hqS0; push_cast at hqS0 ⊢; rw [hV]; push_cast; omega)
  have R1 : rnd ((1 + (q : Int)) * S) 16 ≤ ((5 : Nat) : Int) * S := rnd_le (by decide) r5 (by omega)
  generalize rnd ((1 + (q : Int)) * S) 16 = R at *
  have fd := fint_exact (n := 1 + (p : Int)) (by omega) (by omega)
  obtain ⟨d, hd⟩ : ∃ d, Go.floatOfInt .f64 (1 + (p : Int)) = d := ⟨_, rfl⟩
  rw [hd] at fd
  obtain ⟨D, hD⟩ : ∃ D : Int, D = ((p + 1 : Nat) : Int) * S := ⟨_, rfl⟩
  have eD : (1 + (p : Int)) * S = D := by rw [hD]; congr 1; omega
  rw [eD] at fd
  have D0 : (S : Int) ≤ D := by rw [hD, Int.natCast_add, Int.add_mul]; have := Int.mul_nonneg (show (0 : Int) ≤ p by omega) (show (0 : Int) ≤ S by omega); omega
  have D1 : D ≤ 60 * S := by rw [hD]; exact Int.mul_le_mul_of_nonneg_right (by omega) (by omega)
  have n1 : ∀ w : World, (binOp .quo 23 (.float .f64 (Go.floatOfInt .f64 (1 + (q : Int)))) (.float .f64 4625196817309499392)).run Try.prog w = .ok (.float .f64 r) w := run_fl .quo _ e1
  have c1 : ∀ w, (convert 3 23 (.int .i64 (1 + (p : Int)))).run Try.prog w = .ok (.float .f64 d) w := fun w => by rw [← hd]; exact run_convert_int_float w 3 23 .i64 .f64 _ (by rw [Try.underlying3]; rfl) Try.underlying23
  have HQ := Lib.hid hq; have HP := Lib.hid hp; have HU := Lib.hid hu; have HVV := Lib.hid hV; have HR0 := Lib.hid R0
  have hnew := new_any fr fd (by omega) D0 (by omega)
  have HN := Lib.hid hnew; have HFR := Lib.hid fr; have HFD := Lib.hid fd
  have hb1 : (0 ≤ R ∧ R ≤ 5 * S) ∧ ((S : Int) ≤ D ∧ D ≤ 60 * S) := by omega
  have HBD := Lib.hid hb1; have HD := Lib.hid hD
  clear hnew e1 hq hp hu R0 R1 D0 D1 r5 hqS hqS0 fr fd hb1 hSp eD hD hV hVr hd
  go_enter Try.func4, Try.ntmps4
  go_wp2_with fail
  refine (pick_any _ _ _ (by decide) (by decide)).mono ?_; rintro e w' ⟨rfl, rfl⟩
  rw [HQ.out]
  go_wp2_with fail
  refine (pick_any _ _ _ (by decide) (by decide)).mono ?_; rintro e w' ⟨rfl, rfl⟩
  rw [HP.out]
  go_wp2_with fail
  refine (HN.out _).mono ?_; rintro e w1 ⟨rfl, hB, hF⟩
  clear HN
  obtain ⟨K, hK⟩ : ∃ K, W.heap.size = K := ⟨_, rfl⟩
  rw [hK] at hB ⊢
  have HK := Lib.hid hK; clear hK
  have HB1 := Lib.hid hB; have HF1 := Lib.hid hF
  clear hB hF
  go_wp2_with fail
  refine (known8_any _).mono ?_; rintro e w2 ⟨rfl, hF2⟩
  have HB2 := Lib.hid (HB1.out.fr hF2 (by simp))
  have HF2 := Lib.hid (HF1.out.trans hF2 (by simp))
  clear HB1 HF1 hF2
  go_wp2_with fail
  go_loopw [11, 12] (fun tv iv wr => ∃ (i T t l : Nat) (L : Int), i ≤ 3 ∧ T ≤ 1100 * i ∧ t ≤ T ∧ tv = .int .i64 T ∧ iv = .int .i64 i ∧ HasB wr K r d l t ∧ Fl l L ∧ 0 ≤ L ∧ L ≤ D ∧ lvl R D L ((T : Int) - t) = D ∧ Fr [] W wr) (fun _ iv _ => 3 - (intOf iv).toNat)
  case atStart => exact ⟨0, 0, 0, d, D, by omega, by omega, by omega, rfl, rfl, HB2.out, HFD.out, by have := HBD.out.2.1; omega, Int.le_refl _, lvl_still R D D (by omega), HF2.out⟩
  case round =>
    obtain ⟨i, T, t, l, L, hi, hT, htT, rfl, rfl, hB, fl, l0, l1, hlv, hFW⟩ := hrel
    clear HB2 HF2
    have HB3 := Lib.hid hB; have HFL := Lib.hid fl; have HL := Lib.hid (And.intro l0 l1); have HLV := Lib.hid hlv; have HFW := Lib.hid hFW
    clear hB fl l0 l1 hlv hFW
    by_cases hlt : i < 3
    · have q1 : (i : Int) < 3 := by omega
      go_wp2_with fail
      go_loopw [13] (fun kv wr => ∃ (k t l : Nat) (L : Int), k ≤ p + 1 ∧ t ≤ T ∧ kv = .int .i64 k ∧ HasB wr K r d l t ∧ Fl l L ∧ 0 ≤ L ∧ L ≤ D ∧ lvl R D L ((T : Int) - t) = ((p + 1 - k : Nat) : Int) * S ∧ Fr [] W wr) (fun kv _ => p + 1 - (intOf kv).toNat)
      case atStart => exact ⟨0, t, l, L, by omega, htT, rfl, HB3.out, HFL.out, HL.out.1, HL.out.2, by rw [HLV.out, HD.out]; rfl, HFW.out⟩
      case round =>
        clear HB3 HFL HL HLV HFW htT
        obtain ⟨k, t, l, L, hk, htT, rfl, hB, fl, l0, l1, hlv, hFW⟩ := hrel
        have HB3 := Lib.hid hB; have HFL := Lib.hid fl; have HL := Lib.hid (And.intro l0 l1); have HLV := Lib.hid hlv; have HFW := Lib.hid hFW
        clear hB fl l0 l1 hlv hFW
        have htk := take_any (tick := (T : Int)) (tt := (T : Int)) HB3.out (by rw [if_neg (by omega)]) HFR.out HFD.out HFL.out HBD.out.1.1 HBD.out.1.2 HL.out.1 HL.out.2 (by have := HBD.out.2.2; omega) (by omega) (by omega)
        have et : (if (t : Int) < (T : Int) then (T : Int) else (t : Int)) = T := by split <;> omega
        rw [et] at htk
        have hbd := lvl_bd (k := (T : Int) - t) HBD.out.1.1 (by have := HBD.out.2.1; omega) HL.out.1 HL.out.2 HFD.out.rep fl_one.rep (by omega)
        by_cases hkp : k < p + 1
        · obtain ⟨m, hm⟩ : ∃ m, p + 1 - k = m + 1 := ⟨p - k, by omega⟩
          have hlv := HLV.out
          rw [hm] at hlv
          obtain ⟨d1, d2⟩ := take_down hlv (by omega)
          rw [decide_eq_true d1, d2] at htk
          rw [d2] at hbd
          have HTK := Lib.hid htk; have HBB := Lib.hid hbd.2
          have q3 : (k : Int) < 1 + (p : Int) := by omega
          clear htk hbd hlv d1 d2 HLV HB3 HFL HL
          go_wp2_with fail
          refine HTK.out.mono ?_
          rintro e w3 ⟨rfl, ⟨l', hB', fl'⟩, hFa⟩
          have HB3 := Lib.hid hB'; have HF3 := Lib.hid (HFW.out.trans hFa (by simp; rw [← HK.out]; omega)); have HFL := Lib.hid fl'
          clear hB' hFa fl' HTK HFW
          go_wp2_with fail
          go_roundw
          case rel => exact ⟨k + 1, T, l', _, by omega, by omega, by go_num, HB3.out, HFL.out, HBB.out.1, HBB.out.2, by rw [lvl_still _ _ _ (by omega)]; congr 1; omega, HF3.out⟩
          case measure => simp [intOf]; omega
        · have hkp2 : k = p + 1 := by omega
          subst hkp2
          have hlv := HLV.out
          rw [Nat.sub_self, Int.natCast_zero, Int.zero_mul] at hlv
          have hSp : ¬ (S : Int) ≤ 0 := by have := S_pos; omega
          have hl' : lvl' R D L ((T : Int) - t) = 0 := by unfold lvl'; rw [hlv, if_neg hSp]
          rw [hlv, decide_eq_false hSp, hl'] at htk
          have HTK := Lib.hid htk
          have q3 : ¬ ((p + 1 : Nat) : Int) < 1 + (p : Int) := by omega
          clear htk hbd hlv HLV HB3 HFL HL hl' hSp
          go_wp2_with fail
          refine HTK.out.mono ?_
          rintro e w3 ⟨rfl, ⟨l', hB', fl'⟩, hFa⟩
          have HF3 := Lib.hid (HFW.out.trans hFa (by simp; rw [← HK.out]; omega))
          have htk := take_any (tick := (T : Int) - 1) (tt := (T : Int) - 1) hB' (by rw [if_neg (by omega)]) HFR.out HFD.out fl' HBD.out.1.1 HBD.out.1.2 (Int.le_refl 0) (by have := HBD.out.2.1; omega) (by have := HBD.out.2.2; omega) (by omega) (by omega)
          have et : (if (T : Int) < (T : Int) - 1 then (T : Int) - 1 else (T : Int)) = T := by rw [if_neg (by omega)]
          have el := lvl_still R D 0 (k := (T : Int) - 1 - T) (by omega)
          have el' : lvl' R D 0 ((T : Int) - 1 - T) = 0 := by unfold lvl'; rw [el, if_neg (by have := S_pos; omega)]
          rw [et, el', el, decide_eq_false (show ¬ (S : Int) ≤ 0 by have := S_pos; omega)] at htk
          have HTK := Lib.hid htk
          clear htk hB' fl' hFa HFW et el el'
          go_wp2_with fail
          refine HTK.out.mono ?_
          rintro e w4 ⟨rfl, ⟨l'', hB', fl'⟩, hFa⟩
          have HF4 := Lib.hid (HF3.out.trans hFa (by simp; rw [← HK.out]; omega))
          have HB4 := Lib.hid hB'; have HFL := Lib.hid fl'
          clear hB' fl' hFa HF3 HTK
          go_wp2_with fail
          refine (pick_any _ _ _ (by decide) (by decide)).mono ?_; rintro e w' ⟨rfl, rfl⟩
          rw [HU.out]
          go_wp2_with fail
          go_roundw
          case rel => exact ⟨i + 1, T + 16 * (p + 1) + u, T, l'', 0, by omega, by omega, by omega, by go_num, by go_num, HB4.out, HFL.out, by omega, by have := HBD.out.2.1; omega, fill (n := p + 1) HVV.out HD.out HFD.out.rep HR0.out (by push_cast; omega) (by omega), HF4.out⟩
          case measure => simp [intOf]; omega
    · have q1 : ¬ (i : Int) < 3 := by omega
      have htk := take_any (tick := (T : Int)) (tt := (T : Int)) HB3.out (by rw [if_neg (by omega)]) HFR.out HFD.out HFL.out HBD.out.1.1 HBD.out.1.2 HL.out.1 HL.out.2 (by have := HBD.out.2.2; omega) (by omega) (by omega)
      have hlv : lvl R D L ((T : Int) - t) = ((p + 1 : Nat) : Int) * S := HLV.out.trans HD.out
      obtain ⟨d1, d2⟩ := take_down (m := p) hlv (by omega)
      rw [decide_eq_true d1, d2] at htk
      have HTK := Lib.hid htk
      have fp := fint_exact (n := (p : Int)) (by omega) (by omega)
      have HFP := Lib.hid fp
      clear htk hlv d1 d2 HLV HB3 HFL HL fp
      go_wp2_with fail
      refine HTK.out.mono ?_
      rintro e w3 ⟨rfl, ⟨l', hB', fl'⟩, hFa⟩
      have HF3 := Lib.hid (HFW.out.trans hFa (by simp; rw [← HK.out]; omega))
      have o1 := order_same' fl' HFP.out
      rw [show (p : Int) = 1 + (p : Int) - 1 by omega] at o1
      have HB3 := Lib.hid hB'
      clear hB' fl' hFa HTK HFW
      go_wp2_with fail
      refine (level_any HB3.out).mono ?_; rintro e w' ⟨rfl, rfl⟩
      go_wp2_with fail
      go_ret
      exact ⟨rfl, HF3.out.below (Nat.le_refl _) (by simp)⟩
end Go.Proofs.Ytppobakdlpeicaa.Bk
