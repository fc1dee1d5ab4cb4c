import Derived.Test.YtidlpihffolelaaTag11
import Derived.Deep.DeepCutAuto
import Derived.Deep.CutBlock
import Derived.Deep.RegionWith
namespace Go.Proofs.Ytidlpihffolelaa.Tg
open Go.RowKit Dt Go.Proofs.Ytidlpihffolelaa.Hd
set_option linter.unusedVariables false

set_option maxRecDepth 100000 in
set_option maxHeartbeats 1600000 in
theorem walk_tells (a0 : Int) (a1 : Option Addr) (len1 cap1 : Nat) (z1 : Nat → Int) (a2 : Option Addr) (len2 cap2 : Nat) (z2 : Nat → Int) (a3 : Bool) (a4 : Option Addr) (len4 cap4 : Nat) (z4 : Nat → Int) (a5 : Int) (W : World) (w0 : (Lit.int .i64 a0).wf = true) (w1 : SlI .u8 W a1 len1 cap1 z1) (w2 : SlI .u8 W a2 len2 cap2 z2) (w4 : SlI .i64 W a4 len4 cap4 z4) (w5 : (Lit.int .u8 a5).wf = true) :
    Calls Try.prog 13 #[.int .i64 a0, .slice a1 len1 cap1, .slice a2 len2 cap2, .bool a3, .slice a4 len4 cap4, .int .u8 a5] W fun e w' => e = .returned (.bool true) ∧ Below W.heap.size W w' := by
  obtain ⟨bs, hlb, hB, hlenb⟩ := bytes_of w1
  obtain ⟨rs, hlr, hR, hlenr⟩ := bytes_of w2
  obtain ⟨⟨hle, -, hre, hcells⟩, hwf⟩ := w4
  have y1 := u8_lo w5
  have y2 := u8_hi w5
  obtain ⟨by_, rfl⟩ := Int.eq_ofNat_of_zero_le y1
  have hb4 : bs.length + 4 ≤ 140737488355300 := by have := w1.1.le; have := w1.1.reach; omega
  have HB := Lib.hid hB; have LB := Lib.hid hlb; have HR := Lib.hid hR; have LR := Lib.hid hlr; have HC := Lib.hid hcells; have HW := Lib.hid hwf
  have hrl := hR.len
  have hbl := hB.len
  subst hlenb; subst hlenr
  clear w1 w2 w5 hB hlb hR hlr y1 hcells hwf
  go_enter Try.func13, Try.ntmps13
  go_wp2_with fail
  refine (few_any _ _ rs rs.length LR.out HR.out (by omega)).mono ?_; rintro e wa ⟨va, rfl, howna, hFa⟩
  have hls := LS.of_own' howna
  rw [List.take_length] at hls
  clear howna
  have hsz := hFa.size
  go_upto_if 23 with (fail)
  go_cut [13] (fun zv w1 => ∃ zs : List Nat, LS w1 zv (u8s zs) ∧ Bs zs ∧ Fr [] W w1)
  case first =>
    cases a3
    · go_wp2_with fail
      go_meet
      case rel => exact ⟨rs, hls, HR.out, hFa⟩
    · go_wp2_with fail
      refine (rclose_any _ _ _ _ (LB.out.fr0 hFa) HB.out).mono ?_; rintro e wz ⟨vz, rfl, hownz, hFz⟩
      rw [closeS_len] at hownz
      obtain ⟨gz, capz, rfl, hgz, hcz, hcm⟩ := own_form hownz (by omega)
      have hFz' := hFa.trans hFz (by simp)
      clear hFz hls hFa
      have hcl := closeS_len a0 bs
      have hclt := closeS_lt a0 bs HB.out.lt
      go_wp2_with fail
      go_loopw [14] (fun i wr => ∃ (j : Nat) (zs : List Nat), j ≤ len4 ∧ j ≤ 2 ∧ i = .int .i64 j ∧ zs.length = bs.length + 4 ∧ (∀ x ∈ zs, x < 256) ∧ wr.ownsRow wa.heap.size 5 1 (.slice (some ⟨gz, 0, none⟩) (bs.length + 4) capz) (bs.length + 4) (u8s zs) ∧ Fr [] W wr) (fun i _ => 2 - (intOf i).toNat)
      case atStart => exact ⟨0, closeS a0 bs, by omega, by omega, rfl, hcl, hclt, hownz, hFz'⟩
      case round =>
        obtain ⟨j, zs, hj, hj2, rfl, hzl, hzlt, hown, hF⟩ := hrel
        clear hownz hFz' hcl hclt
        by_cases hlt : j < len4
        · obtain ⟨b, off, rfl, hlb, hc⟩ := HC.out (by omega)
          have hcj := (hF.cell (p := ⟨b, off + j, none⟩) hlb (by simp)).trans (hc j hlt)
          have hwj := HW.out j hlt
          clear hc
          by_cases hlt2 : j < 2
          · have hi1 : 0 ≤ z4 j % ((bs.length : Int) + 4) := Int.emod_nonneg _ (by omega)
            have hi2 : z4 j % ((bs.length : Int) + 4) < (bs.length : Int) + 4 := Int.emod_lt_of_pos _ (by omega)
            obtain ⟨i, hi⟩ : ∃ i : Nat, z4 j % ((bs.length : Int) + 4) = i := ⟨(z4 j % ((bs.length : Int) + 4)).toNat, by omega⟩
            have hib : i < bs.length + 4 := by omega
            have hiz : i < zs.length := by omega
            obtain ⟨x, hx⟩ : ∃ x, zs[i] = x := ⟨_, rfl⟩
            have hx256 : x < 256 := hx ▸ hzlt _ (List.getElem_mem hiz)
            have hcell : wr.cell? ⟨gz, i, none⟩ = some (.int .u8 (x : Nat)) := by rw [hown.cellAt i (by omega), u8s_get hiz, hx]
            have hfz : wr.frozen? ⟨gz, i, none⟩ = false := hown.frozenAt i
            have hxor := u8_xor_nat x by_ hx256 (by omega)
            have hown4 := set_own hown i (x ^^^ by_) hib
            have hX : Fr [gz] wr (wr.setCell ⟨gz, i, none⟩ (.int .u8 ((x ^^^ by_ : Nat) : Int))) := (Fr.refl [gz] wr).setCell (.inl (by simp)) _
            have hF4 := hF.trans hX (fun y hy => by simp at hy; subst hy; right; omega)
            have hzlt' : ∀ y ∈ zs.set i (x ^^^ by_), y < 256 := fun y hy => by
              rcases List.mem_or_eq_of_mem_set hy with h | h
              · exact hzlt y h
              · subst h; exact xor_lt _ _ hx256 (by omega)
            have HI := Lib.hid hi; clear hi hx hX
            go_wp2_with fail
            refine (pick_any _ _ _ (by omega) (by omega)).mono ?_; rintro e w' ⟨rfl, rfl⟩
            rw [HI.out]
            go_wp2_with fail
            clear hown hF hcell hfz hcj
            go_roundw
            case rel => exact ⟨j + 1, _, by omega, by omega, by go_num, by rw [List.length_set]; exact hzl, hzlt', hown4, hF4⟩
            case measure => simp [intOf]; omega
          · go_wp2_with fail
            go_meet
            case rel => exact ⟨zs, LS.of_own' hown, ⟨hzlt, by omega⟩, hF⟩
        · go_wp2_with fail
          go_meet
          case rel => exact ⟨zs, LS.of_own' hown, ⟨hzlt, by omega⟩, hF⟩
  case rest =>
    obtain ⟨zs, hz, hZ, hF⟩ := hcut
    have HZ := Lib.hid hZ
    clear hls hFa hsz hZ
    go_wp2_with fail
    refine (open_any _ _ _ _ hz HZ.out).mono ?_; rintro e w2 ⟨vp, rfl, hp, hF2⟩
    have hz2 := hz.fr0 hF2
    have hF2' := hF.trans hF2 (by simp)
    clear hz hF hF2
    go_wp2_with fail
    refine (ropen_any _ _ _ _ hz2 HZ.out).mono ?_; rintro e w3 ⟨vq, rfl, hq, hF3⟩
    have hp3 := hp.fr0 hF3
    have hF3' := hF2'.trans hF3 (by simp)
    clear hz2 hp hF2' hF3
    have P3 := Lib.hid hp3; have Q3 := Lib.hid hq; have F3 := Lib.hid hF3'
    clear hp3 hq hF3'
    go_wp2_with fail
    obtain ⟨o, ho⟩ : ∃ o, opens a0 zs = o := ⟨_, rfl⟩
    rw [ho]; clear ho
    obtain ⟨V, hV⟩ : ∃ V, opensV a0 zs = V := ⟨_, rfl⟩
    rw [hV] at P3 Q3; clear hV
    refine wp_region_any (by kernel_rfl) ?_
    try (change wpAny _ _ _ _ _ _ _ (World.drew _))
    have F4 := Lib.hid F3.out.drew
    have P4 := Lib.hid (show LS w3.drew vp (u8s V) from P3.out.fr0 (Fr.refl [] w3).drew)
    have Q4 := Lib.hid (show LS w3.drew vq (u8s V) from Q3.out.fr0 (Fr.refl [] w3).drew)
    clear P3 Q3 F3
    generalize w3.drew = w4 at *
    refine wpAny_ready (rs := [0]) (by kernel_rfl) (by simp) ?_
    refine AllReady.cons rfl (fun K hK => ?_) (AllReady.nil)
    go_simp
    refine (known5_any _).mono ?_; rintro e w5 ⟨rfl, hFk⟩
    have F5 := Lib.hid (F4.out.trans hFk (by simp)); have P5 := Lib.hid (P4.out.fr0 hFk); have Q5 := Lib.hid (Q4.out.fr0 hFk); have B5 := Lib.hid (LB.out.fr0 F5.out)
    clear hFk F4 P4 Q4
    dsimp only; refine hK _ _ ?_; clear hK K
    refine wpAny_take (i := 1) (v := ?_) rfl (by kernel_rfl) (by kernel_rfl) (by kernel_rfl) (fun _ _ _ h => h) (Or.inl ⟨by kernel_rfl, ?_⟩) ?_; rotate_left; (intro w; go_simp; try with_reducible rfl)
    refine wpAny_take (i := 2) (v := ?_) rfl (by kernel_rfl) (by kernel_rfl) (by kernel_rfl) (fun _ _ _ h => h) (Or.inl ⟨by kernel_rfl, ?_⟩) ?_; rotate_left; (intro w; go_simp; try with_reducible rfl)
    refine wpAny_take (i := 3) (v := ?_) rfl (by kernel_rfl) (by kernel_rfl) (by kernel_rfl) (fun _ _ _ h => h) (Or.inl ⟨by kernel_rfl, ?_⟩) ?_; rotate_left; (intro w; go_simp; try with_reducible rfl)
    refine wpAny_take (i := 5) (v := ?_) rfl (by kernel_rfl) (by kernel_rfl) (by kernel_rfl) (fun _ _ _ h => h) (Or.inl ⟨by kernel_rfl, ?_⟩) ?_; rotate_left; (intro w; go_simp; try with_reducible rfl)
    refine wpAny_take (i := 6) (v := ?_) rfl (by kernel_rfl) (by kernel_rfl) (by kernel_rfl) (fun _ _ _ h => h) (Or.inl ⟨by kernel_rfl, ?_⟩) ?_; rotate_left; (intro w; go_simp; try with_reducible rfl)
    refine wpAny_ready (rs := [4]) (by kernel_rfl) (by simp) ?_
    refine AllReady.cons rfl (fun K hK => ?_) (AllReady.nil)
    go_simp
    refine (sum_any _ _ _ _ B5.out HB.out).mono ?_; rintro e w' ⟨rfl, rfl⟩
    dsimp only; refine hK _ _ ?_; clear hK K
    refine wpAny_ready (rs := [7]) (by kernel_rfl) (by simp) ?_
    refine AllReady.cons rfl (fun K hK => ?_) (AllReady.nil)
    go_simp
    refine (rsum_any _ _ _ _ B5.out HB.out).mono ?_; rintro e w' ⟨rfl, rfl⟩
    dsimp only; refine hK _ _ ?_; clear hK K
    refine wpAny_take (i := 8) (v := .bool true) rfl (by kernel_rfl) (by kernel_rfl) (by kernel_rfl) (fun _ _ _ h => h) (Or.inl ⟨by kernel_rfl, fun w => by go_simp⟩) ?_
    refine wpAny_take (i := 9) (v := .bool true) rfl (by kernel_rfl) (by kernel_rfl) (by kernel_rfl) (fun _ _ _ h => h) (Or.inl ⟨by kernel_rfl, fun w => by go_simp⟩) ?_
    refine wpAny_take (i := 10) (v := .bool true) rfl (by kernel_rfl) (by kernel_rfl) (by kernel_rfl) (fun _ _ _ h => h) (Or.inl ⟨by kernel_rfl, fun w => by go_simp⟩) ?_
    refine wpAny_take (i := 11) (v := ?_) rfl (by kernel_rfl) (by kernel_rfl) (by kernel_rfl) (fun _ _ _ h => h) (Or.inl ⟨by kernel_rfl, ?_⟩) ?_; rotate_left; (intro w; go_simp; try with_reducible rfl)
    refine wpAny_take (i := 13) (v := ?_) rfl (by kernel_rfl) (by kernel_rfl) (by kernel_rfl) (fun _ _ _ h => h) (Or.inl ⟨by kernel_rfl, ?_⟩) ?_; rotate_left; (intro w; go_simp; try with_reducible rfl)
    refine wpAny_ready (rs := [12]) (by kernel_rfl) (by simp) ?_
    refine AllReady.cons rfl (fun K hK => ?_) (AllReady.nil)
    go_simp
    refine (mark_any _ _ _ B5.out HB.out).mono ?_; rintro e w' ⟨rfl, rfl⟩
    dsimp only; refine hK _ _ ?_; clear hK K
    refine wpAny_ready (rs := [14]) (by kernel_rfl) (by simp) ?_
    refine AllReady.cons rfl (fun K hK => ?_) (AllReady.nil)
    go_simp
    refine (rmark_any _ _ _ B5.out HB.out).mono ?_; rintro e w' ⟨rfl, rfl⟩
    dsimp only; refine hK _ _ ?_; clear hK K
    refine wpAny_take (i := 15) (v := .bool true) rfl (by kernel_rfl) (by kernel_rfl) (by kernel_rfl) (fun _ _ _ h => h) (Or.inl ⟨by kernel_rfl, fun w => by go_simp⟩) ?_
    refine wpAny_take (i := 16) (v := .bool true) rfl (by kernel_rfl) (by kernel_rfl) (by kernel_rfl) (fun _ _ _ h => h) (Or.inl ⟨by kernel_rfl, fun w => by go_simp⟩) ?_
    refine wpAny_take (i := 17) (v := .bool true) rfl (by kernel_rfl) (by kernel_rfl) (by kernel_rfl) (fun _ _ _ h => h) (Or.inl ⟨by kernel_rfl, fun w => by go_simp⟩) ?_
    refine wpAny_take (i := 18) (v := ?_) rfl (by kernel_rfl) (by kernel_rfl) (by kernel_rfl) (fun _ _ _ h => h) (Or.inl ⟨by kernel_rfl, ?_⟩) ?_; rotate_left; (intro w; go_simp; try with_reducible rfl)
    refine wpAny_take (i := 19) (v := ?_) rfl (by kernel_rfl) (by kernel_rfl) (by kernel_rfl) (fun _ _ _ h => h) (Or.inl ⟨by kernel_rfl, ?_⟩) ?_; rotate_left; (intro w; go_simp; try with_reducible rfl)
    refine wpAny_take (i := 22) (v := ?_) rfl (by kernel_rfl) (by kernel_rfl) (by kernel_rfl) (fun _ _ _ h => h) (Or.inl ⟨by kernel_rfl, ?_⟩) ?_; rotate_left; (intro w; go_simp; try with_reducible rfl)
    refine wpAny_take (i := 23) (v := ?_) rfl (by kernel_rfl) (by kernel_rfl) (by kernel_rfl) (fun _ _ _ h => h) (Or.inl ⟨by kernel_rfl, ?_⟩) ?_; rotate_left; (intro w; go_simp; try with_reducible rfl)
    refine wpAny_ready (rs := [20]) (by kernel_rfl) (by simp) ?_
    refine AllReady.cons rfl (fun K hK => ?_) (AllReady.nil)
    go_simp
    refine (close_any _ _ _ _ B5.out HB.out).mono ?_; rintro e w6 ⟨v6, rfl, hown6, hFc⟩
    have hx6 := run_str (P := Try.prog) (src := 43) (dst := 9) (LS.of_own' hown6) Try.underlying43 Try.underlying5 Try.underlying9
    have F6 := Lib.hid (F5.out.trans hFc (by simp)); have P6 := Lib.hid (P5.out.fr0 hFc); have Q6 := Lib.hid (Q5.out.fr0 hFc); have B6 := Lib.hid (B5.out.fr0 hFc); have O6 := Lib.hid hown6
    clear hFc hown6 F5 P5 Q5 B5
    dsimp only; refine hK _ _ ?_; clear hK K
    refine wpAny_ready (rs := [21, 24]) (by kernel_rfl) (by simp) ?_
    refine AllReady.cons rfl (fun K hK => ?_) (AllReady.cons rfl (fun K hK => ?_) (AllReady.nil))
    · go_simp; refine hK _ _ ?_; clear hK K
      refine wpAny_ready (rs := [24]) (by kernel_rfl) (by simp) ?_
      refine AllReady.cons rfl (fun K hK => ?_) (AllReady.nil)
      go_simp
      refine (rclose_any _ _ _ _ B6.out HB.out).mono ?_; rintro e w7 ⟨v7, rfl, hown7, hFc⟩
      have hx7 := run_str (P := Try.prog) (src := 43) (dst := 9) (LS.of_own' (own_keep O6.out hFc (by simp))) Try.underlying43 Try.underlying5 Try.underlying9
      have hy7 := run_str (P := Try.prog) (src := 43) (dst := 9) (LS.of_own' hown7) Try.underlying43 Try.underlying5 Try.underlying9
      have hp7 := run_str (P := Try.prog) (src := 43) (dst := 9) (P6.out.fr0 hFc) Try.underlying43 Try.underlying5 Try.underlying9
      have hq7 := run_str (P := Try.prog) (src := 43) (dst := 9) (Q6.out.fr0 hFc) Try.underlying43 Try.underlying5 Try.underlying9
      have F7 := Lib.hid (F6.out.trans hFc (by simp))
      clear hFc hown7
      dsimp only; refine hK _ _ ?_; clear hK K
      refine wpAny_ready (rs := [25]) (by kernel_rfl) (by simp) ?_
      refine AllReady.cons rfl (fun K hK => ?_) (AllReady.nil)
      go_simp; refine hK _ _ ?_; clear hK K
      refine wpAny_take (i := 26) (v := .bool true) rfl (by kernel_rfl) (by kernel_rfl) (by kernel_rfl) (fun _ _ _ h => h) (Or.inl ⟨by kernel_rfl, fun w => by go_simp⟩) ?_
      refine wpAny_take (i := 27) (v := .bool true) rfl (by kernel_rfl) (by kernel_rfl) (by kernel_rfl) (fun _ _ _ h => h) (Or.inl ⟨by kernel_rfl, fun w => by go_simp⟩) ?_
      refine wpAny_take (i := 28) (v := .bool true) rfl (by kernel_rfl) (by kernel_rfl) (by kernel_rfl) (fun _ _ _ h => h) (Or.inl ⟨by kernel_rfl, fun w => by go_simp⟩) ?_
      refine wpAny_take (i := 29) (v := ?_) rfl (by kernel_rfl) (by kernel_rfl) (by kernel_rfl) (fun _ _ _ h => h) (Or.inl ⟨by kernel_rfl, ?_⟩) ?_; rotate_left; (intro w; go_simp; try with_reducible rfl)
      refine wpAny_take (i := 30) (v := ?_) rfl (by kernel_rfl) (by kernel_rfl) (by kernel_rfl) (fun _ _ _ h => h) (Or.inl ⟨by kernel_rfl, ?_⟩) ?_; rotate_left; (intro w; go_simp; try with_reducible rfl)
      refine wpAny_take (i := 31) (v := .bool true) rfl (by kernel_rfl) (by kernel_rfl) (by kernel_rfl) (fun _ _ _ h => h) (Or.inl ⟨by kernel_rfl, fun w => by go_simp⟩) ?_
      refine wpAny_take (i := 32) (v := .bool true) rfl (by kernel_rfl) (by kernel_rfl) (by kernel_rfl) (fun _ _ _ h => h) (Or.inl ⟨by kernel_rfl, fun w => by go_simp⟩) ?_
      refine wpAny_take (i := 33) (v := .bool true) rfl (by kernel_rfl) (by kernel_rfl) (by kernel_rfl) (fun _ _ _ h => h) (Or.inl ⟨by kernel_rfl, fun w => by go_simp⟩) ?_
      refine wpAny_take (i := 34) (v := ?_) rfl (by kernel_rfl) (by kernel_rfl) (by kernel_rfl) (fun _ _ _ h => h) (Or.inl ⟨by kernel_rfl, ?_⟩) ?_; rotate_left; (intro w; go_simp; try with_reducible rfl)
      refine wpAny_take (i := 36) (v := ?_) rfl (by kernel_rfl) (by kernel_rfl) (by kernel_rfl) (fun _ _ _ h => h) (Or.inl ⟨by kernel_rfl, ?_⟩) ?_; rotate_left; (intro w; go_simp; try with_reducible rfl)
      refine wpAny_ready (rs := [35, 37]) (by kernel_rfl) (by simp) ?_
      refine AllReady.cons rfl (fun K hK => ?_) (AllReady.cons rfl (fun K hK => ?_) (AllReady.nil))
      · go_simp; refine hK _ _ ?_; clear hK K
        refine wpAny_ready (rs := [37]) (by kernel_rfl) (by simp) ?_
        refine AllReady.cons rfl (fun K hK => ?_) (AllReady.nil)
        go_simp; refine hK _ _ ?_; clear hK K
        refine wpAny_take (i := 38) (v := .bool true) rfl (by kernel_rfl) (by kernel_rfl) (by kernel_rfl) (fun _ _ _ h => h) (Or.inl ⟨by kernel_rfl, fun w => by go_simp⟩) ?_
        refine wpAny_take (i := 39) (v := .bool true) rfl (by kernel_rfl) (by kernel_rfl) (by kernel_rfl) (fun _ _ _ h => h) (Or.inl ⟨by kernel_rfl, fun w => by go_simp⟩) ?_
        refine wpAny_take (i := 40) (v := ?_) rfl (by kernel_rfl) (by kernel_rfl) (by kernel_rfl) (fun _ _ _ h => h) (Or.inl ⟨by kernel_rfl, ?_⟩) ?_; rotate_left; (intro w; go_simp; try with_reducible rfl)
        refine wpAny_done (by kernel_rfl) ?_ _
        go_wp2_with fail
        go_ret
        exact ⟨rfl, F7.out.below (Nat.le_refl _) (by simp)⟩
      · go_simp; refine hK _ _ ?_; clear hK K
        refine wpAny_ready (rs := [35]) (by kernel_rfl) (by simp) ?_
        refine AllReady.cons rfl (fun K hK => ?_) (AllReady.nil)
        go_simp; refine hK _ _ ?_; clear hK K
        refine wpAny_take (i := 38) (v := .bool true) rfl (by kernel_rfl) (by kernel_rfl) (by kernel_rfl) (fun _ _ _ h => h) (Or.inl ⟨by kernel_rfl, fun w => by go_simp⟩) ?_
        refine wpAny_take (i := 39) (v := .bool true) rfl (by kernel_rfl) (by kernel_rfl) (by kernel_rfl) (fun _ _ _ h => h) (Or.inl ⟨by kernel_rfl, fun w => by go_simp⟩) ?_
        refine wpAny_take (i := 40) (v := ?_) rfl (by kernel_rfl) (by kernel_rfl) (by kernel_rfl) (fun _ _ _ h => h) (Or.inl ⟨by kernel_rfl, ?_⟩) ?_; rotate_left; (intro w; go_simp; try with_reducible rfl)
        refine wpAny_done (by kernel_rfl) ?_ _
        go_wp2_with fail
        go_ret
        exact ⟨rfl, F7.out.below (Nat.le_refl _) (by simp)⟩
    · go_simp
      refine (rclose_any _ _ _ _ B6.out HB.out).mono ?_; rintro e w7 ⟨v7, rfl, hown7, hFc⟩
      have hx7 := run_str (P := Try.prog) (src := 43) (dst := 9) (LS.of_own' (own_keep O6.out hFc (by simp))) Try.underlying43 Try.underlying5 Try.underlying9
      have hy7 := run_str (P := Try.prog) (src := 43) (dst := 9) (LS.of_own' hown7) Try.underlying43 Try.underlying5 Try.underlying9
      have hp7 := run_str (P := Try.prog) (src := 43) (dst := 9) (P6.out.fr0 hFc) Try.underlying43 Try.underlying5 Try.underlying9
      have hq7 := run_str (P := Try.prog) (src := 43) (dst := 9) (Q6.out.fr0 hFc) Try.underlying43 Try.underlying5 Try.underlying9
      have F7 := Lib.hid (F6.out.trans hFc (by simp))
      clear hFc hown7
      dsimp only; refine hK _ _ ?_; clear hK K
      refine wpAny_ready (rs := [21, 25]) (by kernel_rfl) (by simp) ?_
      refine AllReady.cons rfl (fun K hK => ?_) (AllReady.cons rfl (fun K hK => ?_) (AllReady.nil))
      · go_simp; refine hK _ _ ?_; clear hK K
        refine wpAny_ready (rs := [25]) (by kernel_rfl) (by simp) ?_
        refine AllReady.cons rfl (fun K hK => ?_) (AllReady.nil)
        go_simp; refine hK _ _ ?_; clear hK K
        refine wpAny_take (i := 26) (v := .bool true) rfl (by kernel_rfl) (by kernel_rfl) (by kernel_rfl) (fun _ _ _ h => h) (Or.inl ⟨by kernel_rfl, fun w => by go_simp⟩) ?_
        refine wpAny_take (i := 27) (v := .bool true) rfl (by kernel_rfl) (by kernel_rfl) (by kernel_rfl) (fun _ _ _ h => h) (Or.inl ⟨by kernel_rfl, fun w => by go_simp⟩) ?_
        refine wpAny_take (i := 28) (v := .bool true) rfl (by kernel_rfl) (by kernel_rfl) (by kernel_rfl) (fun _ _ _ h => h) (Or.inl ⟨by kernel_rfl, fun w => by go_simp⟩) ?_
        refine wpAny_take (i := 29) (v := ?_) rfl (by kernel_rfl) (by kernel_rfl) (by kernel_rfl) (fun _ _ _ h => h) (Or.inl ⟨by kernel_rfl, ?_⟩) ?_; rotate_left; (intro w; go_simp; try with_reducible rfl)
        refine wpAny_take (i := 30) (v := ?_) rfl (by kernel_rfl) (by kernel_rfl) (by kernel_rfl) (fun _ _ _ h => h) (Or.inl ⟨by kernel_rfl, ?_⟩) ?_; rotate_left; (intro w; go_simp; try with_reducible rfl)
        refine wpAny_take (i := 31) (v := .bool true) rfl (by kernel_rfl) (by kernel_rfl) (by kernel_rfl) (fun _ _ _ h => h) (Or.inl ⟨by kernel_rfl, fun w => by go_simp⟩) ?_
        refine wpAny_take (i := 32) (v := .bool true) rfl (by kernel_rfl) (by kernel_rfl) (by kernel_rfl) (fun _ _ _ h => h) (Or.inl ⟨by kernel_rfl, fun w => by go_simp⟩) ?_
        refine wpAny_take (i := 33) (v := .bool true) rfl (by kernel_rfl) (by kernel_rfl) (by kernel_rfl) (fun _ _ _ h => h) (Or.inl ⟨by kernel_rfl, fun w => by go_simp⟩) ?_
        refine wpAny_take (i := 34) (v := ?_) rfl (by kernel_rfl) (by kernel_rfl) (by kernel_rfl) (fun _ _ _ h => h) (Or.inl ⟨by kernel_rfl, ?_⟩) ?_; rotate_left; (intro w; go_simp; try with_reducible rfl)
        refine wpAny_take (i := 36) (v := ?_) rfl (by kernel_rfl) (by kernel_rfl) (by kernel_rfl) (fun _ _ _ h => h) (Or.inl ⟨by kernel_rfl, ?_⟩) ?_; rotate_left; (intro w; go_simp; try with_reducible rfl)
        refine wpAny_ready (rs := [35, 37]) (by kernel_rfl) (by simp) ?_
        refine AllReady.cons rfl (fun K hK => ?_) (AllReady.cons rfl (fun K hK => ?_) (AllReady.nil))
        · go_simp; refine hK _ _ ?_; clear hK K
          refine wpAny_ready (rs := [37]) (by kernel_rfl) (by simp) ?_
          refine AllReady.cons rfl (fun K hK => ?_) (AllReady.nil)
          go_simp; refine hK _ _ ?_; clear hK K
          refine wpAny_take (i := 38) (v := .bool true) rfl (by kernel_rfl) (by kernel_rfl) (by kernel_rfl) (fun _ _ _ h => h) (Or.inl ⟨by kernel_rfl, fun w => by go_simp⟩) ?_
          refine wpAny_take (i := 39) (v := .bool true) rfl (by kernel_rfl) (by kernel_rfl) (by kernel_rfl) (fun _ _ _ h => h) (Or.inl ⟨by kernel_rfl, fun w => by go_simp⟩) ?_
          refine wpAny_take (i := 40) (v := ?_) rfl (by kernel_rfl) (by kernel_rfl) (by kernel_rfl) (fun _ _ _ h => h) (Or.inl ⟨by kernel_rfl, ?_⟩) ?_; rotate_left; (intro w; go_simp; try with_reducible rfl)
          refine wpAny_done (by kernel_rfl) ?_ _
          go_wp2_with fail
          go_ret
          exact ⟨rfl, F7.out.below (Nat.le_refl _) (by simp)⟩
        · go_simp; refine hK _ _ ?_; clear hK K
          refine wpAny_ready (rs := [35]) (by kernel_rfl) (by simp) ?_
          refine AllReady.cons rfl (fun K hK => ?_) (AllReady.nil)
          go_simp; refine hK _ _ ?_; clear hK K
          refine wpAny_take (i := 38) (v := .bool true) rfl (by kernel_rfl) (by kernel_rfl) (by kernel_rfl) (fun _ _ _ h => h) (Or.inl ⟨by kernel_rfl, fun w => by go_simp⟩) ?_
          refine wpAny_take (i := 39) (v := .bool true) rfl (by kernel_rfl) (by kernel_rfl) (by kernel_rfl) (fun _ _ _ h => h) (Or.inl ⟨by kernel_rfl, fun w => by go_simp⟩) ?_
          refine wpAny_take (i := 40) (v := ?_) rfl (by kernel_rfl) (by kernel_rfl) (by kernel_rfl) (fun _ _ _ h => h) (Or.inl ⟨by kernel_rfl, ?_⟩) ?_; rotate_left; (intro w; go_simp; try with_reducible rfl)
          refine wpAny_done (by kernel_rfl) ?_ _
          go_wp2_with fail
          go_ret
          exact ⟨rfl, F7.out.below (Nat.le_refl _) (by simp)⟩
      · go_simp; refine hK _ _ ?_; clear hK K
        refine wpAny_ready (rs := [21]) (by kernel_rfl) (by simp) ?_
        refine AllReady.cons rfl (fun K hK => ?_) (AllReady.nil)
        go_simp; refine hK _ _ ?_; clear hK K
        refine wpAny_take (i := 26) (v := .bool true) rfl (by kernel_rfl) (by kernel_rfl) (by kernel_rfl) (fun _ _ _ h => h) (Or.inl ⟨by kernel_rfl, fun w => by go_simp⟩) ?_
        refine wpAny_take (i := 27) (v := .bool true) rfl (by kernel_rfl) (by kernel_rfl) (by kernel_rfl) (fun _ _ _ h => h) (Or.inl ⟨by kernel_rfl, fun w => by go_simp⟩) ?_
        refine wpAny_take (i := 28) (v := .bool true) rfl (by kernel_rfl) (by kernel_rfl) (by kernel_rfl) (fun _ _ _ h => h) (Or.inl ⟨by kernel_rfl, fun w => by go_simp⟩) ?_
        refine wpAny_take (i := 29) (v := ?_) rfl (by kernel_rfl) (by kernel_rfl) (by kernel_rfl) (fun _ _ _ h => h) (Or.inl ⟨by kernel_rfl, ?_⟩) ?_; rotate_left; (intro w; go_simp; try with_reducible rfl)
        refine wpAny_take (i := 30) (v := ?_) rfl (by kernel_rfl) (by kernel_rfl) (by kernel_rfl) (fun _ _ _ h => h) (Or.inl ⟨by kernel_rfl, ?_⟩) ?_; rotate_left; (intro w; go_simp; try with_reducible rfl)
        refine wpAny_take (i := 31) (v := .bool true) rfl (by kernel_rfl) (by kernel_rfl) (by kernel_rfl) (fun _ _ _ h => h) (Or.inl ⟨by kernel_rfl, fun w => by go_simp⟩) ?_
        refine wpAny_take (i := 32) (v := .bool true) rfl (by kernel_rfl) (by kernel_rfl) (by kernel_rfl) (fun _ _ _ h => h) (Or.inl ⟨by kernel_rfl, fun w => by go_simp⟩) ?_
        refine wpAny_take (i := 33) (v := .bool true) rfl (by kernel_rfl) (by kernel_rfl) (by kernel_rfl) (fun _ _ _ h => h) (Or.inl ⟨by kernel_rfl, fun w => by go_simp⟩) ?_
        refine wpAny_take (i := 34) (v := ?_) rfl (by kernel_rfl) (by kernel_rfl) (by kernel_rfl) (fun _ _ _ h => h) (Or.inl ⟨by kernel_rfl, ?_⟩) ?_; rotate_left; (intro w; go_simp; try with_reducible rfl)
        refine wpAny_take (i := 36) (v := ?_) rfl (by kernel_rfl) (by kernel_rfl) (by kernel_rfl) (fun _ _ _ h => h) (Or.inl ⟨by kernel_rfl, ?_⟩) ?_; rotate_left; (intro w; go_simp; try with_reducible rfl)
        refine wpAny_ready (rs := [35, 37]) (by kernel_rfl) (by simp) ?_
        refine AllReady.cons rfl (fun K hK => ?_) (AllReady.cons rfl (fun K hK => ?_) (AllReady.nil))
        · go_simp; refine hK _ _ ?_; clear hK K
          refine wpAny_ready (rs := [37]) (by kernel_rfl) (by simp) ?_
          refine AllReady.cons rfl (fun K hK => ?_) (AllReady.nil)
          go_simp; refine hK _ _ ?_; clear hK K
          refine wpAny_take (i := 38) (v := .bool true) rfl (by kernel_rfl) (by kernel_rfl) (by kernel_rfl) (fun _ _ _ h => h) (Or.inl ⟨by kernel_rfl, fun w => by go_simp⟩) ?_
          refine wpAny_take (i := 39) (v := .bool true) rfl (by kernel_rfl) (by kernel_rfl) (by kernel_rfl) (fun _ _ _ h => h) (Or.inl ⟨by kernel_rfl, fun w => by go_simp⟩) ?_
          refine wpAny_take (i := 40) (v := ?_) rfl (by kernel_rfl) (by kernel_rfl) (by kernel_rfl) (fun _ _ _ h => h) (Or.inl ⟨by kernel_rfl, ?_⟩) ?_; rotate_left; (intro w; go_simp; try with_reducible rfl)
          refine wpAny_done (by kernel_rfl) ?_ _
          go_wp2_with fail
          go_ret
          exact ⟨rfl, F7.out.below (Nat.le_refl _) (by simp)⟩
        · go_simp; refine hK _ _ ?_; clear hK K
          refine wpAny_ready (rs := [35]) (by kernel_rfl) (by simp) ?_
          refine AllReady.cons rfl (fun K hK => ?_) (AllReady.nil)
          go_simp; refine hK _ _ ?_; clear hK K
          refine wpAny_take (i := 38) (v := .bool true) rfl (by kernel_rfl) (by kernel_rfl) (by kernel_rfl) (fun _ _ _ h => h) (Or.inl ⟨by kernel_rfl, fun w => by go_simp⟩) ?_
          refine wpAny_take (i := 39) (v := .bool true) rfl (by kernel_rfl) (by kernel_rfl) (by kernel_rfl) (fun _ _ _ h => h) (Or.inl ⟨by kernel_rfl, fun w => by go_simp⟩) ?_
          refine wpAny_take (i := 40) (v := ?_) rfl (by kernel_rfl) (by kernel_rfl) (by kernel_rfl) (fun _ _ _ h => h) (Or.inl ⟨by kernel_rfl, ?_⟩) ?_; rotate_left; (intro w; go_simp; try with_reducible rfl)
          refine wpAny_done (by kernel_rfl) ?_ _
          go_wp2_with fail
          go_ret
          exact ⟨rfl, F7.out.below (Nat.le_refl _) (by simp)⟩
end Go.Proofs.Ytidlpihffolelaa.Tg
