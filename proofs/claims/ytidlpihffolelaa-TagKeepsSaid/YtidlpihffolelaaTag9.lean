import Derived.Test.YtidlpihffolelaaTag7
import Derived.Deep.QuietTactic
import Derived.BigQuiet
namespace Go.Proofs.Ytidlpihffolelaa.Tg
open Go.RowKit Dt Go.Proofs.Ytidlpihffolelaa.Hd
set_option linter.unusedVariables false
set_option maxRecDepth 100000 in
set_option maxHeartbeats 3200000 in
theorem walk_keeps (a0 a1 : Int) (a2 : Option Addr) (len2 cap2 : Nat) (z2 : Nat → Int) (a3 a4 : Int) (W : World) (w0 : (Lit.int .i64 a0).wf = true) (w1 : (Lit.int .i64 a1).wf = true) (w2 : SlI .u8 W a2 len2 cap2 z2) (w3 : (Lit.int .i64 a3).wf = true) (w4 : (Lit.int .u8 a4).wf = true) :
    Calls Try.prog 11 #[.int .i64 a0, .int .i64 a1, .slice a2 len2 cap2, .int .i64 a3, .int .u8 a4] W fun e w' => e = .returned (.bool true) ∧ Below W.heap.size W w' := by
  obtain ⟨bs0, hls, hB0, hlen0⟩ := bytes_of w2
  obtain ⟨i0, hi0, hz0, hz1, hz2⟩ := info_parts info8
  have y1 := u8_lo w4
  have y2 := u8_hi w4
  obtain ⟨by_, rfl⟩ := Int.eq_ofNat_of_zero_le y1
  have HB0 := Lib.hid hB0; have HL0 := Lib.hid hls
  clear w2 w4 hB0 hls y1 hlen0
  go_enter Try.func11, Try.ntmps11
  go_wp2_with fail
  refine (few_any _ _ bs0 300 HL0.out HB0.out (by decide)).mono ?_; rintro e w1 ⟨vb, rfl, hownb, hF1⟩
  have hB := HB0.out.take 300
  have h300 : (bs0.take 300).length ≤ 300 := by simp; omega
  obtain ⟨bs, hbs⟩ : ∃ bs, bs = bs0.take 300 := ⟨_, rfl⟩
  rw [← hbs] at hownb hB h300
  clear hbs HB0 HL0
  have HB := Lib.hid hB; clear hB
  go_wp2_with fail
  refine (close_any _ _ _ _ (LS.of_own' hownb) HB.out).mono ?_; rintro e w2 ⟨vz, rfl, hownz, hF2⟩
  have hownb2 := own_keep hownb hF2 (by simp)
  have hF2' := hF1.trans hF2 (by simp)
  rw [closeS_len] at hownz
  obtain ⟨gz, capz, rfl, hgz, hcz, hcm⟩ := own_form hownz (by omega)
  obtain ⟨ab, capb, rfl, hcb, hcbm, -, -⟩ := own_any hownb2
  clear hownb hF1 hF2 hgz
  go_wp2_with fail
  refine (known5_any _).mono ?_; rintro e w3 ⟨rfl, hF3⟩
  have hownb3 := own_keep hownb2 hF3 (by simp)
  have hownz3 := own_keep hownz hF3 (by simp)
  have hF3' := hF2'.trans hF3 (by simp)
  clear hownb2 hownz hF2' hF3
  go_wp2_with fail
  refine (open_yes _ _ _ _ bs.length (LS.of_own' hownz3) ⟨closeS_lt _ _ HB.out.lt, by rw [closeS_len]; omega⟩ (closeS_len _ _) (by rw [close_take])).mono ?_; rintro e w4 ⟨vx, rfl, hownx, hF4⟩
  rw [close_take] at hownx
  have hownb4 := own_keep hownb3 hF4 (by simp)
  have hownz4 := own_keep hownz3 hF4 (by simp)
  have hF4' := hF3'.trans hF4 (by simp)
  have hx4 := run_str (P := Try.prog) (src := 43) (dst := 9) (LS.of_own' hownx) Try.underlying43 Try.underlying5 Try.underlying9
  have hb4 := run_str (P := Try.prog) (src := 43) (dst := 9) (LS.of_own' hownb4) Try.underlying43 Try.underlying5 Try.underlying9
  clear hownb3 hownz3 hF3' hF4 hownx
  go_wp2_with fail
  refine (pick_any _ _ _ (by decide) (by decide)).mono ?_; rintro e w' ⟨rfl, rfl⟩
  go_wp2_with fail
  have ho : opens (a1 % 2147483647) (closeS a0 bs) = (a1 % 2147483647 == a0 % 2147483647) := by rw [opens_other]; rfl
  refine (open_any _ _ _ _ (LS.of_own' hownz4) ⟨closeS_lt _ _ HB.out.lt, by rw [closeS_len]; have := HB.out.len; omega⟩).mono ?_; rintro e w5 ⟨v5, rfl, -, hF5⟩
  rw [ho]
  have hownb5 := own_keep hownb4 hF5 (by simp)
  have hownz5 := own_keep hownz4 hF5 (by simp)
  have hF5' := hF4'.trans hF5 (by simp)
  clear ho hownb4 hownz4 hF4' hF5
  go_wp2_with fail
  refine (pick_any _ _ _ (by decide) (by decide)).mono ?_; rintro e w' ⟨rfl, rfl⟩
  go_upto_region 12 with (fail)
  clear hx4 hb4
  apply wp_region_lit
  iterate 2 (refine wpList_plain rfl (fun K hK => ?_); go_simp; refine hK _ _ ?_; clear hK K)
  have hblk := Blk.new w5 #[] 5
  have hF6 := hF5'.alloc (.cells #[] 5)
  have hownb6 := hownb5.alloc (.cells #[] 5)
  have hownz6 := hownz5.alloc (.cells #[] 5)
  have hsrc := own_src hownz6 (u8s_one _)
  have hsz : w5.heap.size ≤ (w5.alloc (.cells #[] 5)).heap.size := by simp
  have hsz5 : W.heap.size ≤ w5.heap.size := hF5'.size
  have hgz5 : gz < w5.heap.size := own_lt hownz5 rfl
  have hgb5 : ∀ g, (Value.slice ab bs.length capb).ownBlock = some g → g < w5.heap.size := fun g hg => own_lt hownb5 hg
  refine wpList_append_src _ rfl (Operand.tmp 63) (Operand.tmp 64) 43 rfl w5.heap.size 5 i0 (.int .u8 0) 1 1 Try.underlying43 hi0 hz0 hz1 hz2 rfl (by decide) _ _ 0 _ [] _ rfl rfl (own_empty hblk (Nat.le_refl _)) hsrc (by simp only [maxLen]; omega) (by omega) hsz ?_
  intro v7 w7 hown7 hg7 _
  have hF7 := fr_own hF6 (own_empty (sz := 1) (base := w5.heap.size) hblk (Nat.le_refl _)) hg7 hsz5
  have hownb7 := own_keep hownb6 (fr_grown hg7) (fun g hg => notin_row (by have := hgb5 g hg; omega))
  have hownz7 := own_keep hownz6 (fr_grown hg7) (fun g hg => notin_row (by simp [Value.ownBlock] at hg; omega))
  simp only [Nat.zero_add, List.nil_append] at hown7
  obtain ⟨gu, capu, rfl, hgu, hcu, hcum⟩ := own_form hown7 (by omega)
  clear hg7 hblk hsrc hsz hF6 hownb6 hownz6 hownb5 hownz5 hF5'
  have hi1 : 0 ≤ a3 % ((bs.length : Int) + 4) := Int.emod_nonneg _ (by omega)
  have hi2 : a3 % ((bs.length : Int) + 4) < (bs.length : Int) + 4 := Int.emod_lt_of_pos _ (by omega)
  obtain ⟨i, hi⟩ : ∃ i : Nat, a3 % (bs.length + 4) = i := ⟨(a3 % (bs.length + 4)).toNat, by omega⟩
  have hib : i < bs.length + 4 := by omega
  have hcl := closeS_len a0 bs
  have hiz : i < (closeS a0 bs).length := by omega
  obtain ⟨x, hx⟩ : ∃ x, (closeS a0 bs)[i]? = some x := ⟨_, List.getElem?_eq_getElem hiz⟩
  have hx256 : x < 256 := closeS_lt a0 bs HB.out.lt _ (List.mem_of_getElem? hx)
  have hcell : w7.cell? ⟨gu, i, none⟩ = some (.int .u8 (x : Nat)) := by rw [hown7.cellAt i (by omega)]; simp [u8s, hx]
  have hfz : w7.frozen? ⟨gu, i, none⟩ = false := hown7.frozenAt i
  have hxor := u8_xor_nat x by_ hx256 (by omega)
  have hown8 := set_own hown7 i (x ^^^ by_) hib
  have hX : Fr [gu] w7 (w7.setCell ⟨gu, i, none⟩ (.int .u8 ((x ^^^ by_ : Nat) : Int))) := (Fr.refl [gu] w7).setCell (.inl (by simp)) _
  have hownz8 := own_keep hownz7 hX (fun g hg => by simp [Value.ownBlock] at hg; simp; omega)
  have hownb8 := own_keep hownb7 hX (fun g hg => by have := hgb5 g hg; simp; omega)
  have hF8 := hF7.trans hX (fun y hy => by simp at hy; subst hy; right; omega)
  have hot := opens_turned a0 HB.out.lt (y := by_) hib (by omega) hx
  have hul : ((closeS a0 bs).set i (x ^^^ by_)).length = bs.length + 4 := by rw [List.length_set, hcl]
  have hBu : Bs ((closeS a0 bs).set i (x ^^^ by_)) := ⟨fun y hy => by
    rcases List.mem_or_eq_of_mem_set hy with h | h
    · exact closeS_lt _ _ HB.out.lt y h
    · subst h; exact xor_lt _ _ hx256 (by omega), by rw [hul]; omega⟩
  have HI := Lib.hid hi; clear hi
  have HX := Lib.hid hx; clear hx hX
  go_wp2_with fail
  refine (pick_any _ _ _ (by omega) (by omega)).mono ?_; rintro e w' ⟨rfl, rfl⟩
  rw [HI.out]
  go_wp2_with fail
  clear hown7 hownz7 hownb7 hF7 hcell hfz hxor
  generalize w7.setCell ⟨gu, i, none⟩ (.int .u8 ((x ^^^ by_ : Nat) : Int)) = w8 at *
  refine (open_any _ _ _ _ (LS.of_own' hown8) hBu).mono ?_; rintro e w9 ⟨v9, rfl, hls9, hF9⟩
  rw [hot]
  have hownz9 := own_keep hownz8 hF9 (by simp)
  have hownb9 := own_keep hownb8 hF9 (by simp)
  have hF9' := hF8.trans hF9 (by simp)
  have hz9 := run_str (P := Try.prog) (src := 43) (dst := 9) (LS.of_own' hownz9) Try.underlying43 Try.underlying5 Try.underlying9
  have hz9d := run_str (P := Try.prog) (src := 43) (dst := 9) (w := w9.drew) (LS.of_own' hownz9.drew) Try.underlying43 Try.underlying5 Try.underlying9
  clear hown8 hownz8 hownb8 hF8 hF9 hul hBu hcl
  obtain ⟨av, capv, rfl, -⟩ := hls9.ex
  rw [u8s_len]
  by_cases h0 : by_ = 0
  · subst h0
    rw [decide_eq_true rfl]
    clear hot hls9
    go_wp2_with fail
    clear hgb5 hiz hx256 HX
    have D := Lib.hid hz9d; have O1 := Lib.hid hownz9; have O2 := Lib.hid hownb9; have F9 := Lib.hid hF9'
    clear hz9 hownz9 hownb9 hF9' HI hib hi1 hi2 hgu hcu hcum hsz5 hgz5
    refine wp_region_any (by kernel_rfl) ?_
    try (change wpAny _ _ _ _ _ _ _ (World.drew _))
    refine wpAny_take (i := 0) (v := ?_) rfl (by kernel_rfl) (by kernel_rfl) (by kernel_rfl) (fun _ _ _ h => h) (Or.inl ⟨by kernel_rfl, ?_⟩) ?_; rotate_left; (intro w; go_simp; try with_reducible rfl)
    refine wpAny_take (i := 1) (v := ?_) rfl (by kernel_rfl) (by kernel_rfl) (by kernel_rfl) (fun _ _ _ h => h) (Or.inl ⟨by kernel_rfl, ?_⟩) ?_; rotate_left; (intro w; go_simp; try with_reducible rfl)
    refine wpAny_take (i := 2) (v := ?_) rfl (by kernel_rfl) (by kernel_rfl) (by kernel_rfl) (fun _ _ _ h => h) (Or.inl ⟨by kernel_rfl, ?_⟩) ?_; rotate_left; (intro w; go_simp; try with_reducible rfl)
    refine wpAny_take (i := 3) (v := ?_) rfl (by kernel_rfl) (by kernel_rfl) (by kernel_rfl) (fun _ _ _ h => h) (Or.inl ⟨by kernel_rfl, ?_⟩) ?_; rotate_left; (intro w; go_simp; try with_reducible rfl)
    refine wpAny_take (i := 4) (v := ?_) rfl (by kernel_rfl) (by kernel_rfl) (by kernel_rfl) (fun _ _ _ h => h) (Or.inl ⟨by kernel_rfl, ?_⟩) ?_; rotate_left; (intro w; go_simp; try with_reducible rfl)
    refine wpAny_take (i := 5) (v := ?_) rfl (by kernel_rfl) (by kernel_rfl) (by kernel_rfl) (fun _ _ _ h => h) (Or.inl ⟨by kernel_rfl, ?_⟩) ?_; rotate_left; (intro w; go_simp; try with_reducible rfl)
    refine wpAny_take (i := 6) (v := ?_) rfl (by kernel_rfl) (by kernel_rfl) (by kernel_rfl) (fun _ _ _ h => h) (Or.inl ⟨by kernel_rfl, ?_⟩) ?_; rotate_left; (intro w; go_simp; try with_reducible rfl)
    refine wpAny_take (i := 7) (v := undef) rfl (by kernel_rfl) (by kernel_rfl) (by kernel_rfl) (fun _ _ _ h => h) (Or.inr ⟨by kernel_rfl, rfl⟩) ?_
    refine wpAny_take (i := 8) (v := undef) rfl (by kernel_rfl) (by kernel_rfl) (by kernel_rfl) (fun _ _ _ h => h) (Or.inr ⟨by kernel_rfl, rfl⟩) ?_
    refine wpAny_take (i := 9) (v := undef) rfl (by kernel_rfl) (by kernel_rfl) (by kernel_rfl) (fun _ _ _ h => h) (Or.inr ⟨by kernel_rfl, rfl⟩) ?_
    refine wpAny_take (i := 10) (v := ?_) rfl (by kernel_rfl) (by kernel_rfl) (by kernel_rfl) (fun _ _ _ h => h) (Or.inl ⟨by kernel_rfl, ?_⟩) ?_; rotate_left; (intro w; go_simp; try with_reducible rfl)
    refine wpAny_take (i := 11) (v := ?_) rfl (by kernel_rfl) (by kernel_rfl) (by kernel_rfl) (fun _ _ _ h => h) (Or.inl ⟨by kernel_rfl, ?_⟩) ?_; rotate_left; (intro w; go_simp; try with_reducible rfl)
    refine wpAny_take (i := 12) (v := ?_) rfl (by kernel_rfl) (by kernel_rfl) (by kernel_rfl) (fun _ _ _ h => h) (Or.inl ⟨by kernel_rfl, ?_⟩) ?_; rotate_left; (intro w; go_simp; try with_reducible rfl)
    refine wpAny_take (i := 13) (v := ?_) rfl (by kernel_rfl) (by kernel_rfl) (by kernel_rfl) (fun _ _ _ h => h) (Or.inl ⟨by kernel_rfl, ?_⟩) ?_; rotate_left; (intro w; go_simp; try with_reducible rfl)
    refine wpAny_take (i := 15) (v := ?_) rfl (by kernel_rfl) (by kernel_rfl) (by kernel_rfl) (fun _ _ _ h => h) (Or.inl ⟨by kernel_rfl, ?_⟩) ?_; rotate_left; (intro w; go_simp; try with_reducible rfl)
    refine wpAny_take (i := 16) (v := ?_) rfl (by kernel_rfl) (by kernel_rfl) (by kernel_rfl) (fun _ _ _ h => h) (Or.inl ⟨by kernel_rfl, ?_⟩) ?_; rotate_left; (intro w; go_simp; try with_reducible rfl)
    refine wpAny_ready (rs := [14, 17]) (by kernel_rfl) (by simp) ?_
    refine AllReady.cons rfl (fun K hK => ?_) (AllReady.cons rfl (fun K hK => ?_) (AllReady.nil))
    · go_simp; refine hK _ _ ?_; clear hK K
      refine wpAny_ready (rs := [17]) (by kernel_rfl) (by simp) ?_
      refine AllReady.cons rfl (fun K hK => ?_) (AllReady.nil)
      go_simp
      refine (close_any _ _ _ _ (LS.of_own' O2.out.drew) HB.out).mono ?_; rintro e w10 ⟨v10, rfl, hown10, hF10⟩
      have hz10 := run_str (P := Try.prog) (src := 43) (dst := 9) (LS.of_own' (own_keep O1.out.drew hF10 (by simp))) Try.underlying43 Try.underlying5 Try.underlying9
      have hc10 := run_str (P := Try.prog) (src := 43) (dst := 9) (LS.of_own' hown10) Try.underlying43 Try.underlying5 Try.underlying9
      have hF11 := Lib.hid (F9.out.drew.trans hF10 (by simp)); clear hown10 hF10
      dsimp only; refine hK _ _ ?_; clear hK K
      refine wpAny_ready (rs := [18]) (by kernel_rfl) (by simp) ?_
      refine AllReady.cons rfl (fun K hK => ?_) (AllReady.nil)
      go_simp; refine hK _ _ ?_; clear hK K
      refine wpAny_take (i := 19) (v := ?_) rfl (by kernel_rfl) (by kernel_rfl) (by kernel_rfl) (fun _ _ _ h => h) (Or.inl ⟨by kernel_rfl, ?_⟩) ?_; rotate_left; (intro w; go_simp; try with_reducible rfl)
      refine wpAny_take (i := 20) (v := ?_) rfl (by kernel_rfl) (by kernel_rfl) (by kernel_rfl) (fun _ _ _ h => h) (Or.inl ⟨by kernel_rfl, ?_⟩) ?_; rotate_left; (intro w; go_simp; try with_reducible rfl)
      refine wpAny_take (i := 21) (v := ?_) rfl (by kernel_rfl) (by kernel_rfl) (by kernel_rfl) (fun _ _ _ h => h) (Or.inl ⟨by kernel_rfl, ?_⟩) ?_; rotate_left; (intro w; go_simp; try with_reducible rfl)
      refine wpAny_done (by kernel_rfl) ?_ _
      go_wp2_with fail
      go_ret
      exact ⟨rfl, hF11.out.below (Nat.le_refl _) (by simp)⟩
    · go_simp
      refine (close_any _ _ _ _ (LS.of_own' O2.out.drew) HB.out).mono ?_; rintro e w10 ⟨v10, rfl, hown10, hF10⟩
      have hz10 := run_str (P := Try.prog) (src := 43) (dst := 9) (LS.of_own' (own_keep O1.out.drew hF10 (by simp))) Try.underlying43 Try.underlying5 Try.underlying9
      have hc10 := run_str (P := Try.prog) (src := 43) (dst := 9) (LS.of_own' hown10) Try.underlying43 Try.underlying5 Try.underlying9
      have hF11 := Lib.hid (F9.out.drew.trans hF10 (by simp)); clear hown10 hF10
      dsimp only; refine hK _ _ ?_; clear hK K
      refine wpAny_ready (rs := [14, 18]) (by kernel_rfl) (by simp) ?_
      refine AllReady.cons rfl (fun K hK => ?_) (AllReady.cons rfl (fun K hK => ?_) (AllReady.nil))
      · go_simp; refine hK _ _ ?_; clear hK K
        refine wpAny_ready (rs := [18]) (by kernel_rfl) (by simp) ?_
        refine AllReady.cons rfl (fun K hK => ?_) (AllReady.nil)
        go_simp; refine hK _ _ ?_; clear hK K
        refine wpAny_take (i := 19) (v := ?_) rfl (by kernel_rfl) (by kernel_rfl) (by kernel_rfl) (fun _ _ _ h => h) (Or.inl ⟨by kernel_rfl, ?_⟩) ?_; rotate_left; (intro w; go_simp; try with_reducible rfl)
        refine wpAny_take (i := 20) (v := ?_) rfl (by kernel_rfl) (by kernel_rfl) (by kernel_rfl) (fun _ _ _ h => h) (Or.inl ⟨by kernel_rfl, ?_⟩) ?_; rotate_left; (intro w; go_simp; try with_reducible rfl)
        refine wpAny_take (i := 21) (v := ?_) rfl (by kernel_rfl) (by kernel_rfl) (by kernel_rfl) (fun _ _ _ h => h) (Or.inl ⟨by kernel_rfl, ?_⟩) ?_; rotate_left; (intro w; go_simp; try with_reducible rfl)
        refine wpAny_done (by kernel_rfl) ?_ _
        go_wp2_with fail
        go_ret
        exact ⟨rfl, hF11.out.below (Nat.le_refl _) (by simp)⟩
      · go_simp; refine hK _ _ ?_; clear hK K
        refine wpAny_ready (rs := [14]) (by kernel_rfl) (by simp) ?_
        refine AllReady.cons rfl (fun K hK => ?_) (AllReady.nil)
        go_simp; refine hK _ _ ?_; clear hK K
        refine wpAny_take (i := 19) (v := ?_) rfl (by kernel_rfl) (by kernel_rfl) (by kernel_rfl) (fun _ _ _ h => h) (Or.inl ⟨by kernel_rfl, ?_⟩) ?_; rotate_left; (intro w; go_simp; try with_reducible rfl)
        refine wpAny_take (i := 20) (v := ?_) rfl (by kernel_rfl) (by kernel_rfl) (by kernel_rfl) (fun _ _ _ h => h) (Or.inl ⟨by kernel_rfl, ?_⟩) ?_; rotate_left; (intro w; go_simp; try with_reducible rfl)
        refine wpAny_take (i := 21) (v := ?_) rfl (by kernel_rfl) (by kernel_rfl) (by kernel_rfl) (fun _ _ _ h => h) (Or.inl ⟨by kernel_rfl, ?_⟩) ?_; rotate_left; (intro w; go_simp; try with_reducible rfl)
        refine wpAny_done (by kernel_rfl) ?_ _
        go_wp2_with fail
        go_ret
        exact ⟨rfl, hF11.out.below (Nat.le_refl _) (by simp)⟩
  · have hb0 : ((by_ : Int) == 0) = false := by simp [h0]
    rw [decide_eq_false h0] at hot ⊢
    rw [opensV_no hot]
    clear hot hls9
    go_wp2_with fail
    clear hgb5 hiz hx256 HX
    have D := Lib.hid hz9d; have O1 := Lib.hid hownz9; have O2 := Lib.hid hownb9; have F9 := Lib.hid hF9'
    clear hz9 hownz9 hownb9 hF9' HI hib hi1 hi2 hgu hcu hcum hsz5 hgz5
    refine wp_region_any (by kernel_rfl) ?_
    try (change wpAny _ _ _ _ _ _ _ (World.drew _))
    refine wpAny_take (i := 0) (v := ?_) rfl (by kernel_rfl) (by kernel_rfl) (by kernel_rfl) (fun _ _ _ h => h) (Or.inl ⟨by kernel_rfl, ?_⟩) ?_; rotate_left; (intro w; go_simp; try with_reducible rfl)
    refine wpAny_take (i := 1) (v := ?_) rfl (by kernel_rfl) (by kernel_rfl) (by kernel_rfl) (fun _ _ _ h => h) (Or.inl ⟨by kernel_rfl, ?_⟩) ?_; rotate_left; (intro w; go_simp; try with_reducible rfl)
    refine wpAny_take (i := 2) (v := .bool false) rfl (by kernel_rfl) (by kernel_rfl) (by kernel_rfl) (fun _ _ _ h => h) (Or.inl ⟨by kernel_rfl, fun w => by go_simp⟩) ?_
    refine wpAny_take (i := 3) (v := ?_) rfl (by kernel_rfl) (by kernel_rfl) (by kernel_rfl) (fun _ _ _ h => h) (Or.inl ⟨by kernel_rfl, ?_⟩) ?_; rotate_left; (intro w; go_simp; try with_reducible rfl)
    refine wpAny_take (i := 4) (v := ?_) rfl (by kernel_rfl) (by kernel_rfl) (by kernel_rfl) (fun _ _ _ h => h) (Or.inl ⟨by kernel_rfl, ?_⟩) ?_; rotate_left; (intro w; go_simp; try with_reducible rfl)
    refine wpAny_take (i := 5) (v := ?_) rfl (by kernel_rfl) (by kernel_rfl) (by kernel_rfl) (fun _ _ _ h => h) (Or.inl ⟨by kernel_rfl, ?_⟩) ?_; rotate_left; (intro w; go_simp; try with_reducible rfl)
    refine wpAny_take (i := 6) (v := ?_) rfl (by kernel_rfl) (by kernel_rfl) (by kernel_rfl) (fun _ _ _ h => h) (Or.inl ⟨by kernel_rfl, ?_⟩) ?_; rotate_left; (intro w; go_simp; try with_reducible rfl)
    refine wpAny_take (i := 7) (v := ?_) rfl (by kernel_rfl) (by kernel_rfl) (by kernel_rfl) (fun _ _ _ h => h) (Or.inl ⟨by kernel_rfl, ?_⟩) ?_; rotate_left; (intro w; go_simp; try with_reducible rfl)
    refine wpAny_take (i := 8) (v := ?_) rfl (by kernel_rfl) (by kernel_rfl) (by kernel_rfl) (fun _ _ _ h => h) (Or.inl ⟨by kernel_rfl, ?_⟩) ?_; rotate_left; (intro w; go_simp; try with_reducible rfl)
    refine wpAny_take (i := 9) (v := ?_) rfl (by kernel_rfl) (by kernel_rfl) (by kernel_rfl) (fun _ _ _ h => h) (Or.inl ⟨by kernel_rfl, ?_⟩) ?_; rotate_left; (intro w; go_simp; try with_reducible rfl)
    refine wpAny_take (i := 10) (v := ?_) rfl (by kernel_rfl) (by kernel_rfl) (by kernel_rfl) (fun _ _ _ h => h) (Or.inl ⟨by kernel_rfl, ?_⟩) ?_; rotate_left; (intro w; go_simp; try with_reducible rfl)
    refine wpAny_take (i := 11) (v := ?_) rfl (by kernel_rfl) (by kernel_rfl) (by kernel_rfl) (fun _ _ _ h => h) (Or.inl ⟨by kernel_rfl, ?_⟩) ?_; rotate_left; (intro w; go_simp; try with_reducible rfl)
    refine wpAny_take (i := 12) (v := ?_) rfl (by kernel_rfl) (by kernel_rfl) (by kernel_rfl) (fun _ _ _ h => h) (Or.inl ⟨by kernel_rfl, ?_⟩) ?_; rotate_left; (intro w; go_simp; try with_reducible rfl)
    refine wpAny_take (i := 13) (v := ?_) rfl (by kernel_rfl) (by kernel_rfl) (by kernel_rfl) (fun _ _ _ h => h) (Or.inl ⟨by kernel_rfl, ?_⟩) ?_; rotate_left; (intro w; go_simp; try with_reducible rfl)
    refine wpAny_take (i := 15) (v := ?_) rfl (by kernel_rfl) (by kernel_rfl) (by kernel_rfl) (fun _ _ _ h => h) (Or.inl ⟨by kernel_rfl, ?_⟩) ?_; rotate_left; (intro w; go_simp; try with_reducible rfl)
    refine wpAny_take (i := 16) (v := ?_) rfl (by kernel_rfl) (by kernel_rfl) (by kernel_rfl) (fun _ _ _ h => h) (Or.inl ⟨by kernel_rfl, ?_⟩) ?_; rotate_left; (intro w; go_simp; try with_reducible rfl)
    refine wpAny_ready (rs := [14, 17]) (by kernel_rfl) (by simp) ?_
    refine AllReady.cons rfl (fun K hK => ?_) (AllReady.cons rfl (fun K hK => ?_) (AllReady.nil))
    · go_simp; refine hK _ _ ?_; clear hK K
      refine wpAny_ready (rs := [17]) (by kernel_rfl) (by simp) ?_
      refine AllReady.cons rfl (fun K hK => ?_) (AllReady.nil)
      go_simp
      refine (close_any _ _ _ _ (LS.of_own' O2.out.drew) HB.out).mono ?_; rintro e w10 ⟨v10, rfl, hown10, hF10⟩
      have hz10 := run_str (P := Try.prog) (src := 43) (dst := 9) (LS.of_own' (own_keep O1.out.drew hF10 (by simp))) Try.underlying43 Try.underlying5 Try.underlying9
      have hc10 := run_str (P := Try.prog) (src := 43) (dst := 9) (LS.of_own' hown10) Try.underlying43 Try.underlying5 Try.underlying9
      have hF11 := Lib.hid (F9.out.drew.trans hF10 (by simp)); clear hown10 hF10
      dsimp only; refine hK _ _ ?_; clear hK K
      refine wpAny_ready (rs := [18]) (by kernel_rfl) (by simp) ?_
      refine AllReady.cons rfl (fun K hK => ?_) (AllReady.nil)
      go_simp; refine hK _ _ ?_; clear hK K
      refine wpAny_take (i := 19) (v := ?_) rfl (by kernel_rfl) (by kernel_rfl) (by kernel_rfl) (fun _ _ _ h => h) (Or.inl ⟨by kernel_rfl, ?_⟩) ?_; rotate_left; (intro w; go_simp; try with_reducible rfl)
      refine wpAny_take (i := 20) (v := ?_) rfl (by kernel_rfl) (by kernel_rfl) (by kernel_rfl) (fun _ _ _ h => h) (Or.inl ⟨by kernel_rfl, ?_⟩) ?_; rotate_left; (intro w; go_simp; try with_reducible rfl)
      refine wpAny_take (i := 21) (v := ?_) rfl (by kernel_rfl) (by kernel_rfl) (by kernel_rfl) (fun _ _ _ h => h) (Or.inl ⟨by kernel_rfl, ?_⟩) ?_; rotate_left; (intro w; go_simp; try with_reducible rfl)
      refine wpAny_done (by kernel_rfl) ?_ _
      go_wp2_with fail
      go_ret
      exact ⟨rfl, hF11.out.below (Nat.le_refl _) (by simp)⟩
    · go_simp
      refine (close_any _ _ _ _ (LS.of_own' O2.out.drew) HB.out).mono ?_; rintro e w10 ⟨v10, rfl, hown10, hF10⟩
      have hz10 := run_str (P := Try.prog) (src := 43) (dst := 9) (LS.of_own' (own_keep O1.out.drew hF10 (by simp))) Try.underlying43 Try.underlying5 Try.underlying9
      have hc10 := run_str (P := Try.prog) (src := 43) (dst := 9) (LS.of_own' hown10) Try.underlying43 Try.underlying5 Try.underlying9
      have hF11 := Lib.hid (F9.out.drew.trans hF10 (by simp)); clear hown10 hF10
      dsimp only; refine hK _ _ ?_; clear hK K
      refine wpAny_ready (rs := [14, 18]) (by kernel_rfl) (by simp) ?_
      refine AllReady.cons rfl (fun K hK => ?_) (AllReady.cons rfl (fun K hK => ?_) (AllReady.nil))
      · go_simp; refine hK _ _ ?_; clear hK K
        refine wpAny_ready (rs := [18]) (by kernel_rfl) (by simp) ?_
        refine AllReady.cons rfl (fun K hK => ?_) (AllReady.nil)
        go_simp; refine hK _ _ ?_; clear hK K
        refine wpAny_take (i := 19) (v := ?_) rfl (by kernel_rfl) (by kernel_rfl) (by kernel_rfl) (fun _ _ _ h => h) (Or.inl ⟨by kernel_rfl, ?_⟩) ?_; rotate_left; (intro w; go_simp; try with_reducible rfl)
        refine wpAny_take (i := 20) (v := ?_) rfl (by kernel_rfl) (by kernel_rfl) (by kernel_rfl) (fun _ _ _ h => h) (Or.inl ⟨by kernel_rfl, ?_⟩) ?_; rotate_left; (intro w; go_simp; try with_reducible rfl)
        refine wpAny_take (i := 21) (v := ?_) rfl (by kernel_rfl) (by kernel_rfl) (by kernel_rfl) (fun _ _ _ h => h) (Or.inl ⟨by kernel_rfl, ?_⟩) ?_; rotate_left; (intro w; go_simp; try with_reducible rfl)
        refine wpAny_done (by kernel_rfl) ?_ _
        go_wp2_with fail
        go_ret
        exact ⟨rfl, hF11.out.below (Nat.le_refl _) (by simp)⟩
      · go_simp; refine hK _ _ ?_; clear hK K
        refine wpAny_ready (rs := [14]) (by kernel_rfl) (by simp) ?_
        refine AllReady.cons rfl (fun K hK => ?_) (AllReady.nil)
        go_simp; refine hK _ _ ?_; clear hK K
        refine wpAny_take (i := 19) (v := ?_) rfl (by kernel_rfl) (by kernel_rfl) (by kernel_rfl) (fun _ _ _ h => h) (Or.inl ⟨by kernel_rfl, ?_⟩) ?_; rotate_left; (intro w; go_simp; try with_reducible rfl)
        refine wpAny_take (i := 20) (v := ?_) rfl (by kernel_rfl) (by kernel_rfl) (by kernel_rfl) (fun _ _ _ h => h) (Or.inl ⟨by kernel_rfl, ?_⟩) ?_; rotate_left; (intro w; go_simp; try with_reducible rfl)
        refine wpAny_take (i := 21) (v := ?_) rfl (by kernel_rfl) (by kernel_rfl) (by kernel_rfl) (fun _ _ _ h => h) (Or.inl ⟨by kernel_rfl, ?_⟩) ?_; rotate_left; (intro w; go_simp; try with_reducible rfl)
        refine wpAny_done (by kernel_rfl) ?_ _
        go_wp2_with fail
        go_ret
        exact ⟨rfl, hF11.out.below (Nat.le_refl _) (by simp)⟩
end Go.Proofs.Ytidlpihffolelaa.Tg
