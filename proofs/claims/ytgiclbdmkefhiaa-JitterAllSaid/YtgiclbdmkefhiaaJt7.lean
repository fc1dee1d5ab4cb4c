/- JitterAll. -/
import Derived.Test.YtgiclbdmkefhiaaJt6
import Derived.Deep.RegionHeld3
import Derived.Deep.CutBlock
import Derived.Deep.DeepCutAuto
namespace Go.Proofs.Ytgiclbdmkefhiaa.Jt
open Go.RowKit Dt Go.Proofs.Ytgiclbdmkefhiaa.Hd
set_option linter.unusedVariables false
set_option linter.unusedSimpArgs false

set_option maxRecDepth 100000 in
set_option maxHeartbeats 12800000 in
theorem walk_jall (b0 : Int) (a1 : Option Addr) (len1 cap1 : Nat) (z1 : Nat → Int) (b2 : Int) (W : World) (w0 : (Lit.int .i64 b0).wf = true) (s1 : SlI .i64 W a1 len1 cap1 z1) (w2 : (Lit.int .i64 b2).wf = true) :
    Calls Try.prog 10 #[.int .i64 b0, .slice a1 len1 cap1, .int .i64 b2] W fun e w' => e = .returned (.bool true) ∧ Below W.heap.size W w' := by
  obtain ⟨i0, hi0, hz0, hz1, hz2⟩ := info_parts info3
  have HC2 := Lib.hid s1.1.cells
  have hr0 := s1.1.reach
  have hl0 := s1.1.le
  clear s1 w0 w2
  go_enter Try.func10, Try.ntmps10
  go_wp2_with fail
  refine (pick_any _ _ _ (by decide) (by decide)).mono ?_; rintro e w' ⟨rfl, rfl⟩
  obtain ⟨q, hq⟩ : ∃ q : Nat, b2 % 8 = q := ⟨(b2 % 8).toNat, by omega⟩
  have hq8 : q < 8 := by omega
  rw [hq]; clear hq
  go_wp2_with fail
  refine (pick_any _ _ _ (by decide) (by decide)).mono ?_; rintro e w' ⟨rfl, rfl⟩
  obtain ⟨n, hn⟩ : ∃ n : Nat, b0 % 60 = n := ⟨(b0 % 60).toNat, by omega⟩
  have hn60 : n < 60 := by omega
  rw [hn]; clear hn
  go_wp2_with fail
  refine (jnew_any (q := q + 1) (by omega) (by omega) (by omega)).mono ?_; rintro e w1 ⟨rfl, hJ1, hF1⟩
  obtain ⟨B, hB⟩ : ∃ B, W.heap.size + 1 = B := ⟨_, rfl⟩
  obtain ⟨M, hM⟩ : ∃ M, W.heap.size = M := ⟨_, rfl⟩
  obtain ⟨lo, hlo⟩ : ∃ lo, W.heap.size + 2 = lo := ⟨_, rfl⟩
  have hBM : M < lo ∧ B < lo ∧ M < B := by omega
  rw [hlo] at hJ1
  rw [hB] at hJ1 ⊢
  rw [hM] at hJ1
  have HMS := Lib.hid (show W.heap.size ≤ M by omega)
  clear hB hM hlo
  obtain ⟨hb1, hb2, hb3⟩ := hBM
  go_wp2_with fail
  refine (known_j _).mono ?_; rintro e w3 ⟨rfl, hF3⟩
  have hJ3 := hJ1.fr hF3 (by simp) (by simp) (by simp)
  have HF3 := Lib.hid (hF1.trans hF3 (by simp))
  obtain ⟨H, hH⟩ : ∃ H, w3.heap.size = H := ⟨_, rfl⟩
  have hloH : lo ≤ H := by rw [← hH]; exact hJ3.lo_le
  have HJ3 := Lib.hid hJ3; have HH := Lib.hid hH
  clear hJ1 hF1 hF3 hJ3 hH
  go_wp2_with fail
  go_loopw [8, 9] (fun v iv wr => ∃ k : Nat, k ≤ n ∧ iv = .int .i64 k ∧ wr.ownsRow H 3 1 v k (numsN (List.range k)) ∧ Fr [] w3 wr) (fun _ iv _ => n - (intOf iv).toNat)
  case atStart => exact ⟨0, by omega, rfl, own_nil _ _ _ _, Fr.refl _ _⟩
  case round =>
    obtain ⟨k, hk, rfl, hown, hF⟩ := hrel
    by_cases hlt : k < n
    · have q1 : (k : Int) < n := by omega
      have q0 : (0 : Int) ≤ k := by omega
      go_upto_region 10 with (fail)
      apply wp_region_lit
      iterate 3 (refine wpList_plain rfl (fun K hK => ?_); go_simp; refine hK _ _ ?_; clear hK K)
      refine wpList_append_src _ rfl (Operand.tmp 33) (Operand.tmp 35) 25 rfl H 3 i0 (.int .i64 0) 1 8 Try.underlying25 hi0 hz0 hz1 hz2 rfl (by decide) _ _ k 1 (numsN (List.range k)) [.int .i64 (k : Int)] rfl rfl ?c1 ?c2 ?c3 ?c4 ?c5 ?_
      case c1 => exact (own_fr hown (Fr.refl [] wr) (by simp)).alloc _
      case c2 => exact src_blk (sz := 1) (m := 1) (by simpa using Blk.new wr #[.int .i64 (k : Int)] 3) (by simp) (by simp; rfl) 1
      case c3 => unfold maxLen; omega
      case c4 => omega
      case c5 => have := hF.size; have := HH.out; simp; omega
      intro v8 w8 hown8 hg8 hat8
      have hX : Fr [] wr (wr.alloc (.cells #[.int .i64 (k : Int)] 3)) := (Fr.refl [] wr).alloc _
      have hF8 := fr_own (S := []) (hF.trans hX (by simp)) (own_fr hown hX (by simp)) hg8 (by rw [HH.out]; exact Nat.le_refl _)
      rw [← numsN_range] at hown8
      clear hX hg8 hat8 hown hF
      go_wp2_with fail
      go_roundw
      case rel => exact ⟨k + 1, by omega, by go_num, hown8, hF8⟩
      case measure => simp [intOf]; omega
    · have hkn : k = n := by omega
      have q1 : ¬ (k : Int) < n := by omega
      rw [hkn] at hown
      have HOWN := Lib.hid hown
      have HFK := Lib.hid (HF3.out.trans hF (by simp))
      have HJK := Lib.hid (HJ3.out.fr hF (by simp) (by simp) (by simp))
      have HHK := Lib.hid (show H ≤ wr.heap.size by rw [← HH.out]; exact hF.size)
      clear hown hF HJ3 HF3 HH
      go_wp2_with fail
      clear hlt hk hkn q1
      go_loopw [8, 10, 11] (fun v ov iv wq => ∃ (i out : Nat) (R : List Nat), iv = .int .i64 i ∧ ov = .int .i64 out ∧ i + R.length = n ∧ out ≤ i ∧ R.Nodup ∧ (∀ x ∈ R, out ≤ x ∧ x < n) ∧ gOf n out R out = none ∧ HasJ wq lo B M (q + 1) out (i - out) (gOf n out R) ∧ wq.ownsRow H 3 1 v R.length (numsN R) ∧ Fr [] W wq ∧ H ≤ wq.heap.size) (fun v _ _ _ => lenOf v)
      case atStart =>
        refine ⟨0, 0, List.range n, rfl, rfl, by simp, by omega, List.nodup_range, fun x hx => ⟨by omega, List.mem_range.1 hx⟩, (gOf_start _).symm, HJK.out.congr (fun x _ => (gOf_start x).symm), by simpa using HOWN.out, HFK.out, HHK.out⟩
      case round =>
        obtain ⟨i, out, R, rfl, rfl, hiR, hoi, hnd, hmem, hgn, hJ, hown, hF, hHs⟩ := hrel
        clear HJK HOWN HFK HHK
        obtain ⟨ra, rcap, rfl, hrc, hrm, -, hrg⟩ := own_any hown
        have HGR := Lib.hid hrg; have HND := Lib.hid hnd; have HMEM := Lib.hid hmem; have HGN := Lib.hid hgn
        clear hrg hnd hmem hgn
        by_cases hR0 : 0 < R.length
        · obtain ⟨g, rfl, hgb⟩ := HGR.out hR0
          clear HGR HGN
          have HJ := Lib.hid hJ; have HOWN := Lib.hid hown; have HF := Lib.hid hF
          clear hJ hown hF
          have q3 : (0 : Int) < (R.length : Int) := by omega
          go_upto_if 45 with (fail)
          go_cut [12] (fun sk w1 => ∃ kk : Nat, kk < R.length ∧ sk = .int .i64 kk ∧ wr = w1)
          case first =>
            by_cases ho : i < len1
            · obtain ⟨b, off, rfl, hlb, hc⟩ := HC2.out (by omega)
              have hcj := (HF.out.cell (p := ⟨b, off + i, none⟩) hlb (by simp)).trans (hc i ho)
              clear hc
              go_wp2_with fail
              refine (pick_any _ _ _ (by omega) (by omega)).mono ?_; rintro e w' ⟨rfl, rfl⟩
              obtain ⟨kk, hkk⟩ : ∃ kk : Nat, z1 i % (R.length : Int) = kk := ⟨(z1 i % (R.length : Int)).toNat, by have := Int.emod_nonneg (z1 i) (show (R.length : Int) ≠ 0 by omega); omega⟩
              have hkk2 : kk < R.length := by have := Int.emod_lt_of_pos (z1 i) (show 0 < (R.length : Int) by omega); omega
              rw [hkk]
              clear hkk
              go_wp2_with fail
              go_meet
              case rel => exact ⟨kk, hkk2, rfl, rfl⟩
            · go_wp2_with fail
              go_meet
              case rel => exact ⟨0, hR0, rfl, rfl⟩
          case rest =>
            obtain ⟨kk, hkk, rfl, rfl⟩ := hcut
            obtain ⟨f, hf⟩ : ∃ f, R[kk] = f := ⟨_, rfl⟩
            have hfR : f ∈ R := hf ▸ List.getElem_mem _
            obtain ⟨hfo, hfn⟩ := HMEM.out f hfR
            obtain ⟨e1, e2, e3, e4⟩ := erase_facts hkk HND.out
            rw [hf] at e1 e2
            have HE1 := Lib.hid e1; have HE2 := Lib.hid e2; have HE3 := Lib.hid e3; have HE4 := Lib.hid e4
            have HFF := Lib.hid hf; have HFR := Lib.hid hfR
            have hS : wr.drew.cell? ⟨g, kk, none⟩ = some (.int .i64 (f : Int)) := by
              have h := HOWN.out.cellAt kk (by omega)
              rw [numsN_get hkk, hf] at h
              exact h
            have q5 : (kk : Int) < (R.length : Int) := by omega
            have q6 : (0 : Int) ≤ (kk : Int) := by omega
            clear e1 e2 e3 e4 hf hfR
            go_upto_region 18 with (fail)
            refine wp_region_any (by kernel_rfl) ?_
            try (change wpAny _ _ _ _ _ _ _ (World.drew _))
            have HJa := Lib.hid (HJ.out.fr ((Fr.refl [] wr).drew) (by simp) (by simp) (by simp)); have HFa := Lib.hid HF.out.drew
            have hOa : wr.drew.ownsRow H 3 1 (.slice (some ⟨g, 0, none⟩) R.length rcap) R.length (numsN R) := HOWN.out
            have HOa := Lib.hid hOa
            have HHa := Lib.hid (show H ≤ wr.drew.heap.size from hHs)
            clear HJ HF HOWN hOa hHs
            generalize wr.drew = w9 at *
            refine wpAny_of_held (S := fun w' => w'.cell? ⟨g, kk, none⟩ = some (.int .i64 (f : Int))) _ _ _ _ ?_
            try simp only [List.getElem_toArray, List.getElem_cons_succ, List.getElem_cons_zero, Act.put, List.setIfInBounds_toArray, List.set_cons_zero, List.set_cons_succ]
            refine wpAnyH_take (i := 0) (v := ?_) rfl (by kernel_rfl) (by kernel_rfl) (by kernel_rfl) (fun _ _ _ h => h) (Or.inl ⟨by kernel_rfl, ?_⟩) hS ?_; rotate_left; (intro w hSw; go_simp; try with_reducible rfl)
            try simp only [List.getElem_toArray, List.getElem_cons_succ, List.getElem_cons_zero, Act.put, List.setIfInBounds_toArray, List.set_cons_zero, List.set_cons_succ]
            refine wpAnyH_take (i := 1) (v := ?_) rfl (by kernel_rfl) (by kernel_rfl) (by kernel_rfl) (fun _ _ _ h => h) (Or.inl ⟨by kernel_rfl, ?_⟩) hS ?_; rotate_left; (intro w hSw; go_simp; try with_reducible rfl)
            try simp only [List.getElem_toArray, List.getElem_cons_succ, List.getElem_cons_zero, Act.put, List.setIfInBounds_toArray, List.set_cons_zero, List.set_cons_succ]
            refine wpAnyH_take (i := 2) (v := ?_) rfl (by kernel_rfl) (by kernel_rfl) (by kernel_rfl) (fun _ _ _ h => h) (Or.inl ⟨by kernel_rfl, ?_⟩) hS ?_; rotate_left; (intro w hSw; go_simp; try with_reducible rfl)
            try simp only [List.getElem_toArray, List.getElem_cons_succ, List.getElem_cons_zero, Act.put, List.setIfInBounds_toArray, List.set_cons_zero, List.set_cons_succ]
            refine wpAnyH_take (i := 3) (v := ?_) rfl (by kernel_rfl) (by kernel_rfl) (by kernel_rfl) (fun _ _ _ h => h) (Or.inl ⟨by kernel_rfl, ?_⟩) hS ?_; rotate_left; (intro w hSw; go_simp; try with_reducible rfl)
            try simp only [List.getElem_toArray, List.getElem_cons_succ, List.getElem_cons_zero, Act.put, List.setIfInBounds_toArray, List.set_cons_zero, List.set_cons_succ]
            refine wpAnyH_take (i := 4) (v := ?_) rfl (by kernel_rfl) (by kernel_rfl) (by kernel_rfl) (fun _ _ _ h => h) (Or.inl ⟨by kernel_rfl, ?_⟩) hS ?_; rotate_left; (intro w hSw; go_simp; try with_reducible rfl)
            try simp only [List.getElem_toArray, List.getElem_cons_succ, List.getElem_cons_zero, Act.put, List.setIfInBounds_toArray, List.set_cons_zero, List.set_cons_succ]
            refine wpAnyH_take (i := 5) (v := ?_) rfl (by kernel_rfl) (by kernel_rfl) (by kernel_rfl) (fun _ _ _ h => h) (Or.inl ⟨by kernel_rfl, ?_⟩) hS ?_; rotate_left; (intro w hSw; go_simp; try with_reducible rfl)
            try simp only [List.getElem_toArray, List.getElem_cons_succ, List.getElem_cons_zero, Act.put, List.setIfInBounds_toArray, List.set_cons_zero, List.set_cons_succ]
            refine wpAnyH_take (i := 6) (v := ?_) rfl (by kernel_rfl) (by kernel_rfl) (by kernel_rfl) (fun _ _ _ h => h) (Or.inl ⟨by kernel_rfl, ?_⟩) hS ?_; rotate_left; (intro w hSw; go_simp; try with_reducible rfl)
            try simp only [List.getElem_toArray, List.getElem_cons_succ, List.getElem_cons_zero, Act.put, List.setIfInBounds_toArray, List.set_cons_zero, List.set_cons_succ]
            refine wpAnyH_take (i := 7) (v := ?_) rfl (by kernel_rfl) (by kernel_rfl) (by kernel_rfl) (fun _ _ _ h => h) (Or.inl ⟨by kernel_rfl, ?_⟩) hS ?_; rotate_left; (intro w hSw; go_simp; try with_reducible rfl)
            try simp only [List.getElem_toArray, List.getElem_cons_succ, List.getElem_cons_zero, Act.put, List.setIfInBounds_toArray, List.set_cons_zero, List.set_cons_succ]
            refine wpAnyH_take (i := 8) (v := ?_) rfl (by kernel_rfl) (by kernel_rfl) (by kernel_rfl) (fun _ _ _ h => h) (Or.inl ⟨by kernel_rfl, ?_⟩) hS ?_; rotate_left; (intro w hSw; go_simp; try with_reducible rfl)
            try simp only [List.getElem_toArray, List.getElem_cons_succ, List.getElem_cons_zero, Act.put, List.setIfInBounds_toArray, List.set_cons_zero, List.set_cons_succ]
            refine wpAnyH_take (i := 9) (v := ?_) rfl (by kernel_rfl) (by kernel_rfl) (by kernel_rfl) (fun _ _ _ h => h) (Or.inl ⟨by kernel_rfl, ?_⟩) hS ?_; rotate_left; (intro w hSw; go_simp; try with_reducible rfl)
            try simp only [List.getElem_toArray, List.getElem_cons_succ, List.getElem_cons_zero, Act.put, List.setIfInBounds_toArray, List.set_cons_zero, List.set_cons_succ]
            refine wpAnyH_ready (rs := [10]) (by kernel_rfl) (by simp) ?_
            refine AllReadyH.cons rfl (fun K hK => ?_) AllReadyH.nil
            go_simp
            refine (one_lit (1 + (q : Int)) (q + 1) (by omega) (by omega)).mono ?_; rintro e w10 ⟨v10, rfl, hv10, hF10⟩
            have hS10 := (hF10.cell (p := ⟨g, kk, none⟩) (own_lt HOa.out rfl) (by simp)).trans hS
            have HJb := Lib.hid (HJa.out.fr hF10 (by simp) (by simp) (by simp)); have HFb := Lib.hid (HFa.out.trans hF10 (by simp)); have HOb := Lib.hid (own_fr HOa.out hF10 (by simp)); have HHb := Lib.hid (Nat.le_trans HHa.out hF10.size); have HV10 := Lib.hid hv10
            clear HJa HFa HOa HHa hF10 hv10
            (try dsimp only); refine hK.out _ _ hS10 (fun _ => ?_); clear hK K
            try simp only [List.getElem_toArray, List.getElem_cons_succ, List.getElem_cons_zero, Act.put, List.setIfInBounds_toArray, List.set_cons_zero, List.set_cons_succ]
            clear hS
            refine wpAnyH_ready (rs := [11]) (by kernel_rfl) (by simp) ?_
            refine AllReadyH.cons rfl (fun K hK => ?_) AllReadyH.nil
            go_simp
            refine (put_yes HJb.out HV10.out (by omega) (by omega) (inK_of (by omega) (by omega)) (by omega) (by omega) (gOf_wait HFR.out) (by omega)).mono ?_; rintro e w11 ⟨rfl, hJ11, hF11⟩
            have hS11 := (hF11.cell (p := ⟨g, kk, none⟩) (own_lt HOb.out rfl) (by simp; omega)).trans hS10
            have HJc := Lib.hid (hJ11.congr (fun y _ => (gOf_put HE1.out HE2.out hfo hfn y).symm)); have HFc := Lib.hid (HFb.out.trans hF11 (fun x hx => .inr (by have := HMS.out; simp at hx; omega))); have HOc := Lib.hid (own_fr HOb.out hF11 (fun x hx => by simp at hx; omega)); have HHc := Lib.hid (Nat.le_trans HHb.out hF11.size)
            clear HJb HFb HOb HHb HV10 hJ11 hF11
            (try dsimp only); refine hK.out _ _ hS11 (fun _ => ?_); clear hK K
            try simp only [List.getElem_toArray, List.getElem_cons_succ, List.getElem_cons_zero, Act.put, List.setIfInBounds_toArray, List.set_cons_zero, List.set_cons_succ]
            clear hS10
            have hS := hS11
            clear hS11
            refine wpAnyH_take (i := 12) (v := ?_) rfl (by kernel_rfl) (by kernel_rfl) (by kernel_rfl) (fun _ _ _ h => h) (Or.inl ⟨by kernel_rfl, ?_⟩) hS ?_; rotate_left; (intro w hSw; go_simp; try with_reducible rfl)
            try simp only [List.getElem_toArray, List.getElem_cons_succ, List.getElem_cons_zero, Act.put, List.setIfInBounds_toArray, List.set_cons_zero, List.set_cons_succ]
            refine wpAnyH_take (i := 13) (v := ?_) rfl (by kernel_rfl) (by kernel_rfl) (by kernel_rfl) (fun _ _ _ h => h) (Or.inl ⟨by kernel_rfl, ?_⟩) hS ?_; rotate_left; (intro w hSw; go_simp; try with_reducible rfl)
            try simp only [List.getElem_toArray, List.getElem_cons_succ, List.getElem_cons_zero, Act.put, List.setIfInBounds_toArray, List.set_cons_zero, List.set_cons_succ]
            refine wpAnyH_take (i := 14) (v := ?_) rfl (by kernel_rfl) (by kernel_rfl) (by kernel_rfl) (fun _ _ _ h => h) (Or.inl ⟨by kernel_rfl, ?_⟩) hS ?_; rotate_left; (intro w hSw; go_simp; try with_reducible rfl)
            try simp only [List.getElem_toArray, List.getElem_cons_succ, List.getElem_cons_zero, Act.put, List.setIfInBounds_toArray, List.set_cons_zero, List.set_cons_succ]
            refine wpAnyH_take (i := 15) (v := ?_) rfl (by kernel_rfl) (by kernel_rfl) (by kernel_rfl) (fun _ _ _ h => h) (Or.inl ⟨by kernel_rfl, ?_⟩) hS ?_; rotate_left; (intro w hSw; go_simp; try with_reducible rfl)
            try simp only [List.getElem_toArray, List.getElem_cons_succ, List.getElem_cons_zero, Act.put, List.setIfInBounds_toArray, List.set_cons_zero, List.set_cons_succ]
            refine wpAnyH_take (i := 16) (v := ?_) rfl (by kernel_rfl) (by kernel_rfl) (by kernel_rfl) (fun _ _ _ h => h) (Or.inl ⟨by kernel_rfl, ?_⟩) hS ?_; rotate_left; (intro w hSw; go_simp; try with_reducible rfl)
            try simp only [List.getElem_toArray, List.getElem_cons_succ, List.getElem_cons_zero, Act.put, List.setIfInBounds_toArray, List.set_cons_zero, List.set_cons_succ]
            refine wpAnyH_take (i := 17) (v := ?_) rfl (by kernel_rfl) (by kernel_rfl) (by kernel_rfl) (fun _ _ _ h => h) (Or.inl ⟨by kernel_rfl, ?_⟩) hS ?_; rotate_left; (intro w hSw; go_simp; try with_reducible rfl)
            try simp only [List.getElem_toArray, List.getElem_cons_succ, List.getElem_cons_zero, Act.put, List.setIfInBounds_toArray, List.set_cons_zero, List.set_cons_succ]
            refine wpAnyH_take (i := 18) (v := ?_) rfl (by kernel_rfl) (by kernel_rfl) (by kernel_rfl) (fun _ _ _ h => h) (Or.inl ⟨by kernel_rfl, ?_⟩) hS ?_; rotate_left; (intro w hSw; go_simp; try with_reducible rfl)
            try simp only [List.getElem_toArray, List.getElem_cons_succ, List.getElem_cons_zero, Act.put, List.setIfInBounds_toArray, List.set_cons_zero, List.set_cons_succ]
            refine wpAnyH_take (i := 19) (v := ?_) rfl (by kernel_rfl) (by kernel_rfl) (by kernel_rfl) (fun _ _ _ h => h) (Or.inl ⟨by kernel_rfl, ?_⟩) hS ?_; rotate_left; (intro w hSw; go_simp; try with_reducible rfl)
            try simp only [List.getElem_toArray, List.getElem_cons_succ, List.getElem_cons_zero, Act.put, List.setIfInBounds_toArray, List.set_cons_zero, List.set_cons_succ]
            refine wpAnyH_ready (rs := [20]) (by kernel_rfl) (by simp) ?_
            refine AllReadyH.cons rfl (fun K hK => ?_) AllReadyH.nil
            go_simp
            refine (one_lit (1 + (q : Int)) (q + 1) (by omega) (by omega)).mono ?_; rintro e w12 ⟨v12, rfl, hv12, hF12⟩
            have hS12 := (hF12.cell (p := ⟨g, kk, none⟩) (own_lt HOc.out rfl) (by simp)).trans hS
            have HJd := Lib.hid (HJc.out.fr hF12 (by simp) (by simp) (by simp)); have HFd := Lib.hid (HFc.out.trans hF12 (by simp)); have HOd := Lib.hid (own_fr HOc.out hF12 (by simp)); have HHd := Lib.hid (Nat.le_trans HHc.out hF12.size); have HV12 := Lib.hid hv12
            clear HJc HFc HOc HHc hF12 hv12
            (try dsimp only); refine hK.out _ _ hS12 (fun _ => ?_); clear hK K
            try simp only [List.getElem_toArray, List.getElem_cons_succ, List.getElem_cons_zero, Act.put, List.setIfInBounds_toArray, List.set_cons_zero, List.set_cons_succ]
            clear hS
            refine wpAnyH_ready (rs := [21]) (by kernel_rfl) (by simp) ?_
            refine AllReadyH.cons rfl (fun K hK => ?_) AllReadyH.nil
            go_simp
            refine (put_no HJd.out HV12.out (by omega) (inK_of (by omega) (by omega)) (.inr (.inr (.inl ⟨by omega, by omega, by rw [← gOf_put HE1.out HE2.out hfo hfn, if_pos rfl]; rfl⟩)))).mono ?_; rintro e w' ⟨rfl, rfl⟩
            (try dsimp only); refine hK.out _ _ hS12 (fun _ => ?_); clear hK K
            try simp only [List.getElem_toArray, List.getElem_cons_succ, List.getElem_cons_zero, Act.put, List.setIfInBounds_toArray, List.set_cons_zero, List.set_cons_succ]
            have hS := hS12
            refine wpAnyH_take (i := 22) (v := ?_) rfl (by kernel_rfl) (by kernel_rfl) (by kernel_rfl) (fun _ _ _ h => h) (Or.inl ⟨by kernel_rfl, ?_⟩) hS ?_; rotate_left; (intro w hSw; go_simp; try with_reducible rfl)
            try simp only [List.getElem_toArray, List.getElem_cons_succ, List.getElem_cons_zero, Act.put, List.setIfInBounds_toArray, List.set_cons_zero, List.set_cons_succ]
            refine wpAnyH_done (by kernel_rfl) ?_ _
            clear hS hS12 HV12
            go_upto_region 20 with (fail)
            have hkr : (kk : Int) ≤ (rcap : Int) := by omega
            have hkr2 : (kk : Int) + 1 ≤ (R.length : Int) := by omega
            have hkr3 : ¬ (kk : Int) + 1 < 0 := by omega
            have hkr4 : (0 : Int) ≤ (kk : Int) + 1 := by omega
            have hs1 : ∀ w, (Instr.sliceAt 25 (.slice (some ⟨g, 0, none⟩) R.length rcap) none (some (.int .i64 (kk : Int))) none).run Try.prog w = .ok (sliced (some ⟨g, 0, none⟩) 0 kk rcap 1) w := fun w => by go_simp
            have hs2 : ∀ w, (Instr.sliceAt 25 (.slice (some ⟨g, 0, none⟩) R.length rcap) (some (.int .i64 ((kk : Int) + 1))) none none).run Try.prog w = .ok (sliced (some ⟨g, 0, none⟩) (kk + 1) R.length rcap 1) w := fun w => by
              have e : ((kk : Int) + 1).toNat = kk + 1 := by omega
              go_simp; try rw [e]
            have HS1 := Lib.hid (fun (w1 : World) (h : Fr [] w12 w1) => own_lo (j := kk) (own_fr HOd.out h (by simp)) (numsN_one R) (by omega))
            have HS2 := Lib.hid (fun (w1 : World) (h : Fr [] w12 w1) => own_hi (j := kk + 1) (own_fr HOd.out h (by simp)) (numsN_one R) (by omega))
            have HQ1 := Lib.hid hs1; have HQ2 := Lib.hid hs2
            clear hs1 hs2
            generalize hx1 : sliced (some ⟨g, 0, none⟩) 0 kk rcap 1 = s1 at *
            generalize hx2 : sliced (some ⟨g, 0, none⟩) (kk + 1) R.length rcap 1 = s2 at *
            clear hx1 hx2
            refine wp_region_any (by kernel_rfl) ?_
            try (change wpAny _ _ _ _ _ _ _ (World.drew _))
            have hx0 : Fr [] w12 w12.drew := (Fr.refl [] w12).drew
            have hwk : IntKind.i64.wrap ((kk : Int) + 1) = (kk : Int) + 1 := IntWalk.i64_in _ (by omega)
            refine wpAny_take (i := 1) (v := ?_) rfl (by kernel_rfl) (by kernel_rfl) (by kernel_rfl) (fun _ _ _ h => h) (Or.inl ⟨by kernel_rfl, ?_⟩) ?_; rotate_left; (intro w; go_simp; try with_reducible rfl)
            refine wpAny_take (i := 2) (v := ?_) rfl (by kernel_rfl) (by kernel_rfl) (by kernel_rfl) (fun _ _ _ h => h) (Or.inl ⟨by kernel_rfl, ?_⟩) ?_; rotate_left; (intro w; go_simp; try with_reducible rfl)
            refine wpAny_take (i := 3) (v := s1) rfl (by kernel_rfl) (by kernel_rfl) (by kernel_rfl) (fun _ _ _ h => h) (Or.inl ⟨by kernel_rfl, ?_⟩) ?_; exact exec_slice (x' := (.slice (some ⟨g, 0, none⟩) R.length rcap)) (lo' := none) (hi' := (some (.int .i64 (kk : Int)))) rfl (by kernel_rfl) (by kernel_rfl) (by kernel_rfl) HQ1.out
            refine wpAny_take (i := 5) (v := ?_) rfl (by kernel_rfl) (by kernel_rfl) (by kernel_rfl) (fun _ _ _ h => h) (Or.inl ⟨by kernel_rfl, ?_⟩) ?_; rotate_left; (intro w; go_simp; try with_reducible rfl)
            refine wpAny_take (i := 6) (v := ?_) rfl (by kernel_rfl) (by kernel_rfl) (by kernel_rfl) (fun _ _ _ h => h) (Or.inl ⟨by kernel_rfl, ?_⟩) ?_; rotate_left; (intro w; go_simp; try with_reducible rfl)
            refine wpAny_take (i := 7) (v := ?_) rfl (by kernel_rfl) (by kernel_rfl) (by kernel_rfl) (fun _ _ _ h => h) (Or.inl ⟨by kernel_rfl, ?_⟩) ?_; rotate_left; (intro w; go_simp; try with_reducible rfl)
            refine wpAny_take (i := 8) (v := s2) rfl (by kernel_rfl) (by kernel_rfl) (by kernel_rfl) (fun _ _ _ h => h) (Or.inl ⟨by kernel_rfl, ?_⟩) ?_; exact exec_slice (x' := (.slice (some ⟨g, 0, none⟩) R.length rcap)) (lo' := (some (.int .i64 ((kk : Int) + 1)))) (hi' := none) rfl (by kernel_rfl) (by kernel_rfl) (by kernel_rfl) HQ2.out
            refine wpAny_ready (rs := [0]) (by kernel_rfl) (by simp) ?_
            refine AllReady.cons rfl (fun K hK => ?_) AllReady.nil
            go_simp; refine hK _ _ ?_; clear hK K
            have hx1 : Fr [] w12 (w12.drew.alloc (.cells #[] 3)) := hx0.alloc _
            have hoE := own_empty (sz := 1) (base := w12.heap.size) (Blk.new w12.drew #[] 3) (Nat.le_refl _)
            refine wpAny_ready (rs := [4]) (by kernel_rfl) (by simp) ?_
            refine AllReady.cons rfl (fun K hK => ?_) AllReady.nil
            refine step_append_src _ rfl (Operand.tmp 76) (Operand.tmp 79) 25 rfl w12.heap.size 3 i0 (.int .i64 0) 1 8 Try.underlying25 hi0 hz0 hz1 hz2 rfl (by decide) (.slice (some ⟨w12.heap.size, 0, none⟩) 0 0) s1 0 kk [] ((numsN R).take kk) rfl rfl hoE (HS1.out _ hx1) (by unfold maxLen; omega) (by omega) (by simp) ?_
            intro v13 w13 ho13 hg13 hat13
            refine hK _ _ ?_; clear hK K
            have hx2 : Fr [] w12 w13 := fr_own hx1 hoE hg13 (Nat.le_refl _)
            refine wpAny_ready (rs := [9]) (by kernel_rfl) (by simp) ?_
            refine AllReady.cons rfl (fun K hK => ?_) AllReady.nil
            refine step_append_src _ rfl (Operand.tmp 80) (Operand.tmp 84) 25 rfl w12.heap.size 3 i0 (.int .i64 0) 1 8 Try.underlying25 hi0 hz0 hz1 hz2 rfl (by decide) v13 s2 (0 + kk) (R.length - (kk + 1)) ([] ++ (numsN R).take kk) ((numsN R).drop (kk + 1)) rfl rfl ho13 (HS2.out _ hx2) (by unfold maxLen; omega) (by omega) hx2.size ?_
            intro v14 w14 ho14 hg14 hat14
            refine hK _ _ ?_; clear hK K
            have hx3 : Fr [] w12 w14 := fr_own hx2 ho13 hg14 (Nat.le_refl _)
            rw [List.nil_append, numsN_erase, show 0 + kk + (R.length - (kk + 1)) = (R.eraseIdx kk).length by have := HE4.out; omega] at ho14
            have HJe := Lib.hid (HJd.out.fr hx3 (by simp) (by simp) (by simp)); have HFe := Lib.hid (HFd.out.trans hx3 (by simp)); have HOe := Lib.hid (own_weaken (base' := H) ho14 HHd.out); have HHe := Lib.hid (Nat.le_trans HHd.out hx3.size)
            clear hx0 hx1 hoE ho13 hg13 hat13 hx2 ho14 hg14 hat14 hx3 HJd HFd HOd HHd HS1 HS2 HQ1 HQ2
            refine wpAny_take (i := 10) (v := ?_) rfl (by kernel_rfl) (by kernel_rfl) (by kernel_rfl) (fun _ _ _ h => h) (Or.inl ⟨by kernel_rfl, ?_⟩) ?_; rotate_left; (intro w; go_simp; try with_reducible rfl)
            refine wpAny_done (by kernel_rfl) ?_ _
            obtain ⟨Q, hQ⟩ : ∃ Q, R.eraseIdx kk = Q := ⟨_, rfl⟩
            rw [hQ] at HE1 HE2 HE3 HE4 HJe HOe
            have hiQ : i + 1 + Q.length = n := by have := HE4.out; omega
            have HQM := Lib.hid (show ∀ x ∈ Q, out ≤ x ∧ x < n from fun x hx => HMEM.out x ((HE1.out x).2 (.inr hx)))
            have HQN := Lib.hid HE3.out
            have hlQ : Q.length + 1 = R.length := HE4.out
            clear hQ HE1 HE2 HE3 HE4 HMEM HND HFF HFR hfo hfn hkk q5 q6 hkr hkr2 hkr3 hkr4 hwk
            go_wp2_with fail
            try simp only [List.getElem_toArray, List.getElem_cons_succ, List.getElem_cons_zero, Act.put, List.setIfInBounds_toArray, List.set_cons_zero, List.set_cons_succ]
            go_loopw [10] (fun ov wz => ∃ o : Nat, ov = .int .i64 o ∧ o ≤ i + 1 ∧ (∀ x ∈ Q, o ≤ x) ∧ HasJ wz lo B M (q + 1) o (i + 1 - o) (gOf n o Q) ∧ wz.ownsRow H 3 1 v14 Q.length (numsN Q) ∧ Fr [] W wz ∧ H ≤ wz.heap.size) (fun ov _ => n - (intOf ov).toNat)
            case atStart => exact ⟨out, rfl, by omega, fun x hx => (HQM.out x hx).1, by have h := HJe.out; rw [show i - out + 1 = i + 1 - out by omega] at h; exact h, HOe.out, HFe.out, HHe.out⟩
            case round =>
              obtain ⟨o, rfl, hoi2, hmq, hJ, hown, hF, hHs⟩ := hrel
              clear HJe HOe HFe HHe
              have HMQ := Lib.hid hmq; have HOWN := Lib.hid hown; have HF := Lib.hid hF
              clear hmq hown hF
              cases hg : gOf n o Q o with
              | none =>
                have HGN := Lib.hid hg
                go_wp2_with fail
                refine (next_no hJ (by omega) hg).mono ?_; rintro e w15 ⟨rfl, k15, rfl⟩
                have hJ2 := hJ.fr ((Fr.refl [] wr).drewN k15) (by simp) (by simp) (by simp)
                have hO2 : (wr.drewN k15).ownsRow H 3 1 v14 Q.length (numsN Q) := HOWN.out
                have HO2 := Lib.hid hO2; have HF2 := Lib.hid (HF.out.drewN k15); have HH2 := Lib.hid (show H ≤ (wr.drewN k15).heap.size from hHs)
                clear hJ hg HOWN HF hHs hO2
                generalize wr.drewN k15 = w16 at *
                have hcn := count_any hJ2; have hat := at_any hJ2
                have hc2 : (((i + 1 - o : Nat)) : Int) = (i : Int) + 1 - o := by omega
                rw [hc2] at hcn
                have HJ2 := Lib.hid hJ2
                clear hJ2 hc2
                go_wp2_with fail
                refine hcn.mono ?_; rintro e w' ⟨rfl, rfl⟩
                go_wp2_with fail
                refine hat.mono ?_; rintro e w' ⟨rfl, rfl⟩
                go_wp2_with fail
                go_roundw
                case rel => exact ⟨i + 1, o, Q, by go_num, rfl, hiQ, hoi2, HQN.out, fun x hx => ⟨HMQ.out x hx, (HQM.out x hx).2⟩, HGN.out, HJ2.out, HO2.out, HF2.out, HH2.out⟩
                case measure =>
                  obtain ⟨va9, vc9, rfl, -⟩ := own_any HO2.out
                  simp [lenOf]; omega
              | some R9 =>
                obtain ⟨g1, g2, rfl⟩ := gOf_some hg
                have hpos := hJ.pos (inK_of (by omega) (by omega)) hg
                go_wp2_with fail
                refine (next_yes hJ (by omega) hg).mono ?_; rintro e w15 ⟨r15, rfl, hr15, hJ15, hF15⟩
                have hJ16 := hJ15.congr (g' := gOf n (o + 1) Q) (fun y _ => (gOf_next y).symm)
                have HF16 := Lib.hid (HF.out.trans hF15 (fun x hx => .inr (by have := HMS.out; simp at hx; omega)))
                have HO16 := Lib.hid (own_fr HOWN.out hF15 (fun x hx => by simp at hx; omega))
                have HH16 := Lib.hid (Nat.le_trans hHs hF15.size)
                have HR16 := Lib.hid hr15; have HJ16 := Lib.hid hJ16
                clear hJ hg HOWN HF hHs hr15 hJ15 hF15 hJ16
                go_wp2_with fail
                refine (one_lit (1 + (q : Int)) (q + 1) (by omega) (by omega)).mono ?_; rintro e w17 ⟨v17, rfl, hv17, hF17⟩
                have HF17 := Lib.hid (HF16.out.trans hF17 (by simp)); have HO17 := Lib.hid (own_fr HO16.out hF17 (by simp)); have HH17 := Lib.hid (Nat.le_trans HH16.out hF17.size); have HJ17 := Lib.hid (HJ16.out.fr hF17 (by simp) (by simp) (by simp))
                have hsame := same_row (HR16.out.fr hF17 (by simp)) hv17 (by omega)
                clear HF16 HO16 HH16 HR16 HJ16 hv17 hF17
                go_wp2_with fail
                refine hsame.mono ?_; rintro e w18 ⟨rfl, k18, rfl⟩
                have hO18 : (w17.drewN k18).ownsRow H 3 1 v14 Q.length (numsN Q) := HO17.out
                have HO18 := Lib.hid hO18; have HF18 := Lib.hid (HF17.out.drewN k18); have HH18 := Lib.hid (show H ≤ (w17.drewN k18).heap.size from HH17.out); have HJ18 := Lib.hid (HJ17.out.fr ((Fr.refl [] w17).drewN k18) (by simp) (by simp) (by simp))
                clear hsame hO18 HO17 HF17 HH17 HJ17
                go_wp2_with fail
                go_roundw
                case rel => exact ⟨o + 1, by go_num, by omega, fun x hx => by have h1 := HMQ.out x hx; have h2 : x ≠ o := fun e => g2 (e ▸ hx); omega, by have h := HJ18.out; rw [show i + 1 - o - 1 = i + 1 - (o + 1) by omega] at h; exact h, HO18.out, HF18.out, HH18.out⟩
                case measure => simp [intOf]; omega
        · have h0 : R.length = 0 := by omega
          have hRn : R = [] := List.eq_nil_of_length_eq_zero h0
          subst hRn
          have hin : i = n := by simpa using hiR
          have hon : out = n := by
            have h1 := HGN.out
            rcases Nat.lt_or_ge out n with h | h
            · have := gOf_none h1 h; simp at this
            · omega
          subst hon
          subst hin
          have q4 : ¬ (0 : Int) < ((([] : List Nat).length : Nat) : Int) := by simp
          have hcn := count_any hJ
          rw [Nat.sub_self] at hcn
          go_wp2_with fail
          refine hcn.mono ?_; rintro e w' ⟨rfl, rfl⟩
          go_wp2_with fail
          go_ret
          exact ⟨rfl, hF.below (Nat.le_refl _) (by simp)⟩
end Go.Proofs.Ytgiclbdmkefhiaa.Jt
