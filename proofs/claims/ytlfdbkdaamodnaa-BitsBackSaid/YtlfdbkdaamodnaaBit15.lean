import Derived.Test.YtlfdbkdaamodnaaBit14
import Derived.Deep.Cut
import Derived.Deep.CutBlock
import Derived.Deep.RegionHeld3
namespace Go.Proofs.Ytlfdbkdaamodnaa.Bt
open Go.RowKit Dt Go.Proofs.Ytlfdbkdaamodnaa.Hd
set_option linter.unusedVariables false
set_option linter.unusedSimpArgs false

theorem shr_form (v k : Nat) (hk : k + 1 ≤ 64) : IntKind.i64.wrap (v : Int) / 2 ^ min (IntKind.u64.wrap (IntKind.i64.wrap (64 - (1 + (k : Int))))).toNat 64 = wrap64 (v : Int) / 2 ^ (64 - (1 + k)) := by
  have e1 : IntKind.i64.wrap (64 - (1 + (k : Int))) = 64 - (1 + (k : Int)) := IntWalk.i64_in _ (by omega)
  have e2 : IntKind.u64.wrap (64 - (1 + (k : Int))) = 64 - (1 + (k : Int)) := IntWalk.u64_in _ (by omega)
  rw [e1, e2, IntWalk.i64_left]
  have e3 : min (64 - (1 + (k : Int))).toNat 64 = 64 - (1 + k) := by omega
  rw [e3]
theorem wrap_toNat (x : Int) : IntKind.u64.wrap x = ((x % 18446744073709551616).toNat : Int) := by
  rw [IntKind.wrap_u64, Int.toNat_of_nonneg (Int.emod_nonneg _ (by decide))]

set_option maxRecDepth 100000 in
set_option maxHeartbeats 3200000 in
theorem walk_back (a0 : Option Addr) (len0 cap0 : Nat) (z0 : Nat → Int × Int × Bool) (W : World) (s0 : SlField W a0 len0 cap0 z0) :
    Calls Try.prog 10 #[.slice a0 len0 cap0] W fun e w' => e = .returned (.bool true) ∧ Below W.heap.size W w' := by
  have hr := s0.1.reach
  have hl := s0.1.le
  have HS := Lib.hid s0; clear s0
  go_enter Try.func10, Try.ntmps10
  go_wp2_with fail
  refine (ws_new W W (Fr.refl _ _)).mono ?_; rintro e w1 ⟨A, rfl, hA, -, -⟩
  go_wp2_with fail
  refine (known_any _).mono ?_; rintro e w2 ⟨rfl, hF⟩
  have HA0 := Lib.hid (hA.fr0 hF); clear hF hA
  go_upto_block 0 with (fail)
  go_cut [4] from 18 (fun nv w1 => ∃ m : Nat, (m = len0 ∨ m = 30 ∧ 30 < len0) ∧ m ≤ 30 ∧ nv = .int .i64 ((laid z0 m).length : Nat) ∧ WS W w1 A (laid z0 m))
  case first =>
    go_wp2_with fail
    go_loopw [4, 5] (fun nv iv wr => ∃ j : Nat, (j ≤ len0 ∧ j ≤ 30) ∧ nv = .int .i64 ((laid z0 j).length : Nat) ∧ iv = .int .i64 j ∧ WS W wr A (laid z0 j)) (fun _ iv _ => 30 - (intOf iv).toNat)
    case atStart => exact ⟨0, by simp, rfl, rfl, HA0.out⟩
    case round =>
      obtain ⟨j, hjb, rfl, rfl, hA⟩ := hrel
      by_cases hlt : j < len0
      · by_cases hlt2 : j < 30
        · have q2 : (j : Int) < 30 := by omega
          obtain ⟨b, off, rfl, hlb, hcs⟩ := HS.out.1.cells (by omega)
          obtain ⟨s1, s2, s3⟩ := hcs j hlt
          rw [← Nat.add_assoc] at s2 s3
          have hv := (HS.out.2 j hlt).1
          have v0 := u64_lo hv
          have v1 := u64_hi hv
          have hbd := kOf_bd (z0 j)
          have hlen := laid_len z0 j
          have hlb64 := laid_bd z0 j
          obtain ⟨k, hkk⟩ : ∃ k, kOf (z0 j) = k + 1 := ⟨kOf (z0 j) - 1, by omega⟩
          have hk : (z0 j).2.1 % 64 = (k : Int) := by unfold kOf at hkk; omega
          obtain ⟨v, hvv⟩ : ∃ v : Nat, (z0 j).1 = v := ⟨(z0 j).1.toNat, by omega⟩
          obtain ⟨nn, hnn⟩ : ∃ nn, (z0 j).2.1 = nn := ⟨_, rfl⟩
          obtain ⟨sg, hsg⟩ : ∃ sg, (z0 j).2.2 = sg := ⟨_, rfl⟩
          have r1 := (hA.F.cell (p := ⟨b, off + j * 3, none⟩) hlb (by simp)).trans s1
          have r2 := (hA.F.cell (p := ⟨b, off + j * 3 + 1, none⟩) hlb (by simp)).trans s2
          have r3 := (hA.F.cell (p := ⟨b, off + j * 3 + 2, none⟩) hlb (by simp)).trans s3
          rw [hnn] at hk
          rw [hkk] at hlen hbd
          rw [hvv] at r1 v1; rw [hnn] at r2; rw [hsg] at r3
          obtain ⟨D, hD⟩ : ∃ D, laid z0 j = D := ⟨_, rfl⟩
          have hD1 : laid z0 (j + 1) = D ++ bitsOf (uOf (z0 j)) (k + 1) := by rw [← hD, ← hkk]; rfl
          rw [hD] at hA hlb64 hlen ⊢
          have hu : uOf (z0 j) = if sg = true then (sOf (z0 j) % 18446744073709551616).toNat else v := by unfold uOf; rw [hsg, hvv]; rfl
          have hs : sOf (z0 j) = wrap64 (v : Int) / 2 ^ (64 - (1 + k)) := by unfold sOf; rw [hkk, hvv, Nat.add_comm]
          have hd1 : (((D.length : Nat) : Int) + (1 + (k : Int))) = ((laid z0 (j + 1)).length : Int) := by rw [hlen]; omega
          have HK := Lib.hid hk; have HD1 := Lib.hid hD1; have HU := Lib.hid hu; have HSS := Lib.hid hs; have HLE := Lib.hid hd1; have HA := Lib.hid hA; have HB := Lib.hid hlb64
          have q0 : 0 ≤ (j : Int) := by omega
          have q1 : (j : Int) < (len0 : Int) := by omega
          have hl2 : D.length ≤ 64 * 30 := by omega
          clear hk hD1 hu hs hd1 hA HA0 s1 s2 s3 hcs hvv hnn hsg hv v0 hkk hD hlb64 hlen
          cases sg with
          | true =>
            have hu : IntKind.u64.wrap (wrap64 (v : Int) / 2 ^ (64 - (1 + k))) = ((uOf (z0 j) : Nat) : Int) := by
              have h1 := HU.out
              rw [if_pos rfl, HSS.out] at h1
              rw [h1]; exact wrap_toNat _
            have HU2 := Lib.hid hu; clear hu HU
            go_wp2_with fail
            refine (pick_any _ _ _ (by decide) (by decide)).mono ?_; rintro e w' ⟨rfl, rfl⟩
            rw [HK.out]
            go_wp2_with fail
            refine (ws_signed (k := k + 1) HA.out HU2.out (by omega) (by omega)).mono ?_; rintro e w5 ⟨rfl, hA5⟩
            rw [← HD1.out] at hA5
            rw [HLE.out]
            go_wp2_with fail
            go_roundw
            case rel => exact ⟨j + 1, by omega, rfl, by go_num, hA5⟩
            case measure => simp [intOf]; omega
          | false =>
            have hu : uOf (z0 j) = v := by
              have h1 := HU.out
              rw [if_neg (by decide)] at h1; exact h1
            have HU2 := Lib.hid hu; clear hu HU
            go_wp2_with fail
            refine (pick_any _ _ _ (by decide) (by decide)).mono ?_; rintro e w' ⟨rfl, rfl⟩
            rw [HK.out]
            go_wp2_with fail
            refine (ws_put (k := k + 1) HA.out (by omega) (by omega) (by omega)).mono ?_; rintro e w5 ⟨rfl, hA5⟩
            have hD := HD1.out
            rw [HU2.out] at hD
            rw [← hD] at hA5
            clear hD
            rw [HLE.out]
            go_wp2_with fail
            go_roundw
            case rel => exact ⟨j + 1, by omega, rfl, by go_num, hA5⟩
            case measure => simp [intOf]; omega
        · have hj30 : j = 30 := by omega
          subst hj30
          go_wp2_with fail
          go_meet
          case rel => exact ⟨30, .inr ⟨rfl, hlt⟩, by omega, rfl, hA⟩
      · have hjl : j = len0 := by omega
        subst hjl
        go_wp2_with fail
        go_meet
        case rel => exact ⟨j, .inl rfl, by omega, rfl, hA⟩
  case rest =>
    obtain ⟨m, hm, hm30, rfl, hA⟩ := hcut
    have hpl := pk_len (laid z0 m)
    have hb64 := laid_bd z0 m
    have hbt := pk_lt _ (laid_lt z0 m)
    have hbk : ∀ j, j < m → getN (pk (laid z0 m)) (laid z0 j).length (kOf (z0 j)) = uOf (z0 j) % 2 ^ kOf (z0 j) ∧ (laid z0 j).length + kOf (z0 j) ≤ (laid z0 m).length := fun j hj => back z0 hj
    have hrs := getN_rest (laid_lt z0 m)
    obtain ⟨N, hN⟩ : ∃ N, (laid z0 m).length = N := ⟨_, rfl⟩
    have HA := Lib.hid hA; have HBK := Lib.hid hbk; have HRS := Lib.hid hrs; have HBT := Lib.hid hbt; have HNN := Lib.hid hN
    clear hA hbk hrs hbt HA0
    rw [hN] at hpl hb64 ⊢
    clear hN
    go_wp2_with fail
    refine (ws_bytes HA.out).mono ?_; rintro e w8 ⟨sv, rfl, hown, hF8⟩
    have hA8 := HA.out.fr0 hF8
    go_wp2_with fail
    refine (rs_new W w8 hA8.F sv _ (LS.of_own' hown) (by omega) HBT.out).mono ?_; rintro e w9 ⟨R, rfl, hR9, -, hF9⟩
    have hA9 := hA8.fr0 hF9
    clear hown hF8 hA8 hF9 HA
    go_wp2_with fail
    refine (ws_len hA9).mono ?_; rintro e w' ⟨rfl, rfl⟩
    rw [HNN.out]
    go_wp2_with fail
    refine (ws_bytes hA9).mono ?_; rintro e w10 ⟨sv2, rfl, hown, hF⟩
    have HR := Lib.hid (hR9.fr0 hF)
    obtain ⟨ad, cap, rfl, hcap1, hcap2, -, hadd⟩ := own_any hown
    clear hown hR9 hF hA9
    obtain ⟨M, hM⟩ : ∃ M, (pk (laid z0 m)).length = M := ⟨_, rfl⟩
    have HM := Lib.hid hM
    rw [hM] at hcap1 hpl ⊢
    have hquo : (((N : Int) + 7) / 8) = (M : Int) := by omega
    have HPL := Lib.hid hpl
    clear hadd hpl hM
    go_upto_block 2 with (fail)
    have HQ := Lib.hid hquo; clear hquo
    go_cut [8] from 84 (fun iv w1 => RS W w1 R (pk (laid z0 m)) N)
    case first =>
      go_wp2_with fail
      go_loopw [8] (fun iv wr => ∃ j : Nat, (j ≤ len0 ∧ j ≤ 30) ∧ iv = .int .i64 j ∧ RS W wr R (pk (laid z0 m)) (laid z0 j).length) (fun iv _ => 30 - (intOf iv).toNat)
      case atStart => exact ⟨0, by simp, rfl, HR.out⟩
      case round =>
        obtain ⟨j, hjb, rfl, hR⟩ := hrel
        by_cases hlt : j < len0
        · by_cases hlt2 : j < 30
          · have q2 : (j : Int) < 30 := by omega
            obtain ⟨b, off, rfl, hlb, hcs⟩ := HS.out.1.cells (by omega)
            obtain ⟨s1, s2, s3⟩ := hcs j hlt
            rw [← Nat.add_assoc] at s2 s3
            have hv := (HS.out.2 j hlt).1
            have v0 := u64_lo hv
            have v1 := u64_hi hv
            have hbd := kOf_bd (z0 j)
            have hlen := laid_len z0 j
            obtain ⟨hg1, hg2⟩ := HBK.out j (by omega)
            rw [HNN.out] at hg2
            have hg3 : (laid z0 j).length + kOf (z0 j) ≤ 8 * (pk (laid z0 m)).length := by have := HM.out; have := HPL.out; omega
            have hsg2 := sgn_back (z := z0 j)
            obtain ⟨k, hkk⟩ : ∃ k, kOf (z0 j) = k + 1 := ⟨kOf (z0 j) - 1, by omega⟩
            have hk : (z0 j).2.1 % 64 = (k : Int) := by unfold kOf at hkk; omega
            obtain ⟨v, hvv⟩ : ∃ v : Nat, (z0 j).1 = v := ⟨(z0 j).1.toNat, by omega⟩
            obtain ⟨nn, hnn⟩ : ∃ nn, (z0 j).2.1 = nn := ⟨_, rfl⟩
            obtain ⟨sg, hsg⟩ : ∃ sg, (z0 j).2.2 = sg := ⟨_, rfl⟩
            have r1 := (hR.F.cell (p := ⟨b, off + j * 3, none⟩) hlb (by simp)).trans s1
            have r2 := (hR.F.cell (p := ⟨b, off + j * 3 + 1, none⟩) hlb (by simp)).trans s2
            have r3 := (hR.F.cell (p := ⟨b, off + j * 3 + 2, none⟩) hlb (by simp)).trans s3
            rw [hnn] at hk
            rw [hkk] at hlen hbd hg1 hg3 hsg2
            rw [hvv] at r1 v1; rw [hnn] at r2; rw [hsg] at r3 hsg2
            have hs : sOf (z0 j) = wrap64 (v : Int) / 2 ^ (64 - (1 + k)) := by unfold sOf; rw [hkk, hvv, Nat.add_comm]
            have hu : sg = false → uOf (z0 j) = v := by intro h; unfold uOf; rw [hsg, hvv, if_neg (by simp [h])]; rfl
            rw [← hg1, hs] at hsg2
            have HK := Lib.hid hk; have HU := Lib.hid hu; have HSS := Lib.hid hsg2; have HLE := Lib.hid hlen; have HR := Lib.hid hR; have HG3 := Lib.hid hg3; have HG1 := Lib.hid hg1
            have q0 : 0 ≤ (j : Int) := by omega
            have q1 : (j : Int) < (len0 : Int) := by omega
            clear hk hu hs hsg2 hlen hR hg1 hg2 hg3 s1 s2 s3 hcs hvv hnn hsg hv v0 hkk
            generalize hD : (laid z0 j).length = D at *
            cases sg with
            | true =>
              go_wp2_with fail
              refine (pick_any _ _ _ (by decide) (by decide)).mono ?_; rintro e w' ⟨rfl, rfl⟩
              rw [HK.out]
              go_wp2_with fail
              have hRd := HR.out.fr0 (Fr.refl [] wr).drew
              have hbl : b < wr.drew.heap.size := Nat.lt_of_lt_of_le hlb hRd.F.size
              have hnR : b ∉ [R] := by have := hRd.ge; simp; omega
              have r1' : wr.drew.cell? ⟨b, off + j * 3, none⟩ = some (.int .u64 v) := r1
              have hss := HSS.out trivial
              have HKN := Lib.hid (show ((k + 1 : Nat) : Int) = max 0 (min (1 + (k : Int)) 64) by omega)
              have HRD := Lib.hid hRd; have HSS2 := Lib.hid hss
              clear HR HSS hRd hss r1 r2 r3
              go_region_held3 (fun w' => w'.cell? ⟨b, off + j * 3, none⟩ = some (.int .u64 v))
                (first | exact r1' | exact (hF.cell (p := ⟨b, off + j * 3, none⟩) hbl hnR).trans r1')
                (first | (go_at_call 48; refine (rs_signed (n := 1 + (k : Int)) (k := k + 1) HRD.out HKN.out HG3.out).mono ?_; rintro e w' ⟨rfl, hR', hF⟩; rw [HSS2.out]))
              clear r1' hbl hnR HSS2 HRD HG1 HG3
              rw [shr_form v k (by omega)]
              simp only [bne_self_eq_false]
              go_wp2_with fail
              go_roundw
              case rel => exact ⟨j + 1, by omega, by go_num, by rw [HLE.out]; exact hR'⟩
              case measure => simp [intOf]; omega
            | false =>
              have hg := HG1.out
              rw [HU.out rfl] at hg
              have hkn : ((k + 1 : Nat) : Int) = max 0 (min (1 + (k : Int)) 64) := by omega
              have HKN := Lib.hid hkn; have HG := Lib.hid hg
              clear hkn hg HG1 HSS
              by_cases h64 : (1 : Int) + (k : Int) < 64
              · obtain ⟨P, hP⟩ : ∃ P : Nat, 2 ^ (k + 1) = P := ⟨_, rfl⟩
                have hP0 : (0 : Int) < (P : Int) := by have := Nat.two_pow_pos (k + 1); omega
                have hP1 : (P : Int) < 18446744073709551616 := by
                  have : 2 ^ (k + 1) ≤ 2 ^ 63 := Nat.pow_le_pow_right (by decide) (by omega)
                  omega
                have hw1 : IntKind.u64.wrap (2 ^ min (IntKind.u64.wrap (1 + (k : Int))).toNat 64) = (P : Int) := by
                  rw [IntWalk.u64_in (1 + (k : Int)) (by omega)]
                  have e1 : min (1 + (k : Int)).toNat 64 = k + 1 := by omega
                  rw [e1, show ((2 : Int) ^ (k + 1)) = ((2 ^ (k + 1) : Nat) : Int) by push_cast; rfl, hP, IntWalk.u64_in _ (by omega)]
                have htm : (v : Int).tmod (P : Int) = ((v % P : Nat) : Int) := by
                  rw [Int.tmod_eq_emod_of_nonneg (by omega)]; push_cast; rfl
                have hPne : ¬ (P = 0) := by omega
                have HW1 := Lib.hid hw1; have HTM := Lib.hid htm; clear hw1 htm
                have HP := Lib.hid hP
                clear hP
                go_wp2_with fail
                refine (pick_any _ _ _ (by decide) (by decide)).mono ?_; rintro e w' ⟨rfl, rfl⟩
                rw [HK.out]
                go_upto_region 23 with (fail)
                go_upto_region 25 with (fail)
                apply wp_region_lit
                iterate 3 (refine wpList_plain rfl (fun K hK => ?_); go_simp; refine hK _ _ ?_; clear hK K)
                refine wpList_plain rfl (fun K hK => ?_); go_simp; rw [HW1.out]; refine hK _ _ ?_; clear hK K
                refine wpList_plain rfl (fun K hK => ?_); go_simp; (try rw [HTM.out]); refine hK _ _ ?_; clear hK K
                have HGP := Lib.hid (show getN (pk (laid z0 m)) D (k + 1) = v % P by rw [← HP.out]; exact HG.out)
                go_wp2_with fail
                refine (rs_get HR.out HKN.out HG3.out).mono ?_; rintro e w' ⟨rfl, hR', hF⟩
                rw [HGP.out]
                clear r1 r2 r3 hF
                go_wp2_with fail
                go_roundw
                case rel => exact ⟨j + 1, by omega, by go_num, by rw [HLE.out]; exact hR'⟩
                case measure => simp [intOf]; omega
              · have hk63 : k = 63 := by omega
                have hg : getN (pk (laid z0 m)) D (k + 1) = v := by
                  rw [HG.out, hk63]; exact Nat.mod_eq_of_lt (by omega)
                have HGP := Lib.hid hg
                have hd64 : decide ((1 : Int) + (k : Int) < 64) = false := by simp only [decide_eq_false_iff_not]; exact h64
                clear hg hk63 HG h64
                go_wp2_with fail
                refine (pick_any _ _ _ (by decide) (by decide)).mono ?_; rintro e w' ⟨rfl, rfl⟩
                rw [HK.out]
                go_wp2_with fail
                refine (rs_get HR.out HKN.out HG3.out).mono ?_; rintro e w' ⟨rfl, hR', hF⟩
                rw [HGP.out]
                clear r1 r2 r3 hF
                go_wp2_with fail
                go_roundw
                case rel => exact ⟨j + 1, by omega, by go_num, by rw [HLE.out]; exact hR'⟩
                case measure => simp [intOf]; omega
          · have hj30 : j = 30 := by omega
            have hmj : m = j := by omega
            subst hmj
            rw [HNN.out] at hR
            go_wp2_with fail
            go_meet
            case rel => exact hR
        · have hjl : j = len0 := by omega
          have hmj : m = j := by omega
          subst hmj
          rw [HNN.out] at hR
          go_wp2_with fail
          go_meet
          case rel => exact hR
    case rest =>
      obtain ⟨q, hq⟩ : ∃ q : Nat, 8 * (M : Int) - (N : Int) = q := ⟨8 * M - N, by have := HPL.out; omega⟩
      have hq8 : q < 8 := by have := HPL.out; omega
      have hq8i : (q : Int) < 8 := by omega
      have h0 : getN (pk (laid z0 m)) N q = 0 := by have := HRS.out q; rw [HNN.out] at this; exact this
      have hle : N + q ≤ 8 * (pk (laid z0 m)).length := by rw [HM.out]; omega
      have HQQ := Lib.hid hq; have H0 := Lib.hid h0; have HCUT := Lib.hid hcut; have HLEQ := Lib.hid hle
      clear hq h0 hcut hle HRS HBK HBT
      go_wp2_with fail
      refine (rs_left HCUT.out).mono ?_; rintro e wa ⟨rfl, hRa, -⟩
      rw [HM.out, HQQ.out]
      have HRA := Lib.hid hRa; clear hRa HCUT
      go_wp2_with fail
      refine (rs_left HRA.out).mono ?_; rintro e wb ⟨rfl, hRb, -⟩
      rw [HM.out, HQQ.out]
      have HRB := Lib.hid hRb; clear hRb HRA
      have HKQ := Lib.hid (show ((q : Nat) : Int) = max 0 (min (q : Int) 64) by omega)
      go_wp2_with fail
      refine (rs_get HRB.out HKQ.out HLEQ.out).mono ?_; rintro e wd ⟨rfl, hRd, -⟩
      rw [H0.out]
      have hFW := hRd.F
      clear hRd HRB
      go_wp2_with fail
      go_ret
      exact ⟨rfl, hFW.below (Nat.le_refl _) (by simp)⟩
end Go.Proofs.Ytlfdbkdaamodnaa.Bt
