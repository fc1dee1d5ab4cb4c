import Derived.Test.YtidlpihffolelaaTag10
import Derived.Deep.QuietTactic
import Derived.BigQuiet
import Derived.Deep.RegionWith
namespace Go.Proofs.Ytidlpihffolelaa.Tg
open Go.RowKit Dt Go.Proofs.Ytidlpihffolelaa.Hd
set_option linter.unusedVariables false

theorem toList_inj {a b : ByteArray} (h : a.toList = b.toList) : a = b := by
  rw [ByteArray.toList_eq, ByteArray.toList_eq] at h
  cases a; cases b; simp only [Array.toList_inj] at h; simpa using h

set_option maxRecDepth 100000 in
set_option maxHeartbeats 1600000 in
theorem ropen_any (w : World) (key : Int) (sv : Value) (bs : List Nat) (h : LS w sv (u8s bs)) (hB : Bs bs) :
    Calls Try.prog 39 #[.int .i64 key, sv] w fun e w' => ∃ v, e = .returned (.tuple #[v, .bool (opens key bs)]) ∧ LS w' v (u8s (opensV key bs)) ∧ Fr [] w w' := by
  obtain ⟨i0, hi0, hz0, hz1, hz2⟩ := info_parts info8
  obtain ⟨a, cap, rfl, hla, hma, hz, hca⟩ := h.ex
  simp only [u8s_len] at *
  have hl := hB.len
  by_cases h4 : bs.length < 4
  · have e1 : opens key bs = false := by unfold opens; exact decide_eq_false (by omega)
    have e2 : opensV key bs = [] := by unfold opensV; rw [e1]; rfl
    rw [e1, e2]
    clear hca e1 e2 hz h
    go_enter Try.func39, Try.ntmps39
    go_wp2_with fail
    have hd : decide ((bs.length : Int) - 4 < 0) = true := by simp; omega
    go_quiet (fail)
    go_wp2_with fail
    go_ret2
    exact ⟨_, rfl, LS.nil _, (Fr.refl [] _).drewN _⟩
  · obtain ⟨n, hn⟩ : ∃ n, bs.length = n + 4 := ⟨bs.length - 4, by omega⟩
    have hn4 : bs.length - 4 = n := by omega
    obtain ⟨b, off, rfl, hlb, hcc⟩ := hca (by omega)
    have nle : n ≤ 140737488355300 := by omega
    obtain ⟨f1, f2, f3, f4⟩ := open_facts (key := key) h hB hn
    have HH := Lib.hid h; have F1 := Lib.hid f1; have F2 := Lib.hid f2; have F4 := Lib.hid f4
    have g1 : 4 ≤ bs.length := by omega
    have g2 : ((bs.length : Int) - 4) = (n : Int) := by omega
    have g3 : n + 4 ≤ bs.length := by omega
    have gc : n ≤ cap := by omega
    have hFd : Fr [] w w.drew := (Fr.refl [] w).drew
    have hd9 := run_str (P := Try.prog) (src := 43) (dst := 9) (w := w.drew) (HH.out.fr0 hFd) Try.underlying43 Try.underlying5 Try.underlying9
    obtain ⟨X, hX⟩ : ∃ X, strOf (closeS key (bs.take n)) = X := ⟨_, rfl⟩
    obtain ⟨T, hT⟩ : ∃ T, strOf bs = T := ⟨_, rfl⟩
    have hlt1 := closeS_lt key (bs.take n) f2.lt
    have QX := Lib.hid hX; have QT := Lib.hid hT
    rw [hT] at hd9
    have hxt : (X = T) ↔ closeS key (bs.take n) = bs := by rw [← hX, ← hT]; exact strOf_eq hlt1 hB.lt
    clear hX hT h hca hcc f1 f2 f3 f4 hl hlt1 hz
    by_cases hc : closeS key (bs.take n) = bs
    · have e1 : opens key bs = true := by unfold opens; rw [hn4]; exact decide_eq_true ⟨by omega, hc⟩
      have e2 : opensV key bs = bs.take n := by unfold opensV; rw [e1, hn4]; rfl
      rw [e1, e2]
      obtain rfl := hxt.2 hc
      clear e1 e2 hn hn4 hxt hc hB
      have hb0 : decide ((n : Int) < 0) = false := decide_eq_false (by omega)
      go_enter Try.func39, Try.ntmps39
      go_wp2_with fail
      refine wp_region_any (by kernel_rfl) ?_
      try (change wpAny _ _ _ _ _ _ _ (World.drew _))
      refine wpAny_take (i := 0) (v := ?_) rfl (by kernel_rfl) (by kernel_rfl) (by kernel_rfl) (fun _ _ _ h => h) (Or.inl ⟨by kernel_rfl, ?_⟩) ?_; rotate_left; (intro w; go_simp; try with_reducible rfl)
      refine wpAny_take (i := 1) (v := .bool false) rfl (by kernel_rfl) (by kernel_rfl) (by kernel_rfl) (fun _ _ _ h => h) (Or.inl ⟨by kernel_rfl, fun w => by go_simp⟩) ?_
      refine wpAny_take (i := 2) (v := ?_) rfl (by kernel_rfl) (by kernel_rfl) (by kernel_rfl) (fun _ _ _ h => h) (Or.inl ⟨by kernel_rfl, ?_⟩) ?_; rotate_left; (intro w; go_simp; try with_reducible rfl)
      refine wpAny_take (i := 3) (v := ?_) rfl (by kernel_rfl) (by kernel_rfl) (by kernel_rfl) (fun _ _ _ h => h) (Or.inl ⟨by kernel_rfl, ?_⟩) ?_; rotate_left; (intro w; go_simp; try with_reducible rfl)
      refine wpAny_take (i := 4) (v := ?_) rfl (by kernel_rfl) (by kernel_rfl) (by kernel_rfl) (fun _ _ _ h => h) (Or.inl ⟨by kernel_rfl, ?_⟩) ?_; rotate_left; (intro w; go_simp; try with_reducible rfl)
      refine wpAny_take (i := 5) (v := ?_) rfl (by kernel_rfl) (by kernel_rfl) (by kernel_rfl) (fun _ _ _ h => h) (Or.inl ⟨by kernel_rfl, ?_⟩) ?_; rotate_left; (intro w; go_simp; try with_reducible rfl)
      refine wpAny_take (i := 6) (v := .slice (some ⟨b, off, none⟩) n cap) rfl (by kernel_rfl) (by kernel_rfl) (by kernel_rfl) (fun _ _ _ h => h) (Or.inl ⟨by kernel_rfl, fun w => by (go_simp <;> rw [if_pos gc])⟩) ?_
      refine wpAny_take (i := 9) (v := ?_) rfl (by kernel_rfl) (by kernel_rfl) (by kernel_rfl) (fun _ _ _ h => h) (Or.inl ⟨by kernel_rfl, ?_⟩) ?_; rotate_left; (intro w; go_simp; try with_reducible rfl)
      refine wpAny_ready (rs := [7, 10]) (by kernel_rfl) (by simp) ?_
      refine AllReady.cons rfl (fun K hK => ?_) (AllReady.cons rfl (fun K hK => ?_) (AllReady.nil))
      · go_simp
        refine (rclose_any _ _ _ _ (F1.out.fr0 hFd) F2.out).mono ?_; rintro e w10 ⟨v10, rfl, hown10, hF10⟩
        have hb10 := run_str (P := Try.prog) (src := 43) (dst := 9) ((HH.out.fr0 hFd).fr0 hF10) Try.underlying43 Try.underlying5 Try.underlying9
        have hc10 := run_str (P := Try.prog) (src := 43) (dst := 9) (LS.of_own' hown10) Try.underlying43 Try.underlying5 Try.underlying9
        rw [QX.out] at hc10; rw [QT.out] at hb10
        have hF11 := Lib.hid (hFd.trans hF10 (by simp)); clear hown10 hF10
        dsimp only; refine hK _ _ ?_; clear hK K
        refine wpAny_ready (rs := [8, 10]) (by kernel_rfl) (by simp) ?_
        refine AllReady.cons rfl (fun K hK => ?_) (AllReady.cons rfl (fun K hK => ?_) (AllReady.nil))
        · go_simp; refine hK _ _ ?_; clear hK K
          refine wpAny_ready (rs := [10]) (by kernel_rfl) (by simp) ?_
          refine AllReady.cons rfl (fun K hK => ?_) (AllReady.nil)
          go_simp; refine hK _ _ ?_; clear hK K
          refine wpAny_take (i := 11) (v := ?_) rfl (by kernel_rfl) (by kernel_rfl) (by kernel_rfl) (fun _ _ _ h => h) (Or.inl ⟨by kernel_rfl, ?_⟩) ?_; rotate_left; (intro w; go_simp; try with_reducible rfl)
          refine wpAny_take (i := 12) (v := .bool false) rfl (by kernel_rfl) (by kernel_rfl) (by kernel_rfl) (fun _ _ _ h => h) (Or.inl ⟨by kernel_rfl, fun w => by go_simp⟩) ?_
          refine wpAny_done (by kernel_rfl) ?_ _
          clear hb10 hc10 hb0
          go_upto_region 4 with (fail)
          apply wp_region_lit
          iterate 4 (refine wpList_plain rfl (fun K hK => ?_); go_simp; refine hK _ _ ?_; clear hK K)
          have hblk := Blk.new w10 #[] 5
          have hF := hF11.out.alloc (.cells #[] 5)
          have hsrc := (F1.out.fr0 hF).src (u8s_one _)
          have hl8 := u8s_len (bs.take n)
          rw [u8s_len, F4.out] at hsrc
          have hsz : w10.heap.size ≤ (w10.alloc (.cells #[] 5)).heap.size := by simp
          refine wpList_append_src _ rfl (Operand.tmp 23) (Operand.tmp 26) 43 rfl w10.heap.size 5 i0 (.int .u8 0) 1 1 Try.underlying43 hi0 hz0 hz1 hz2 rfl (by decide) _ _ 0 _ [] _ rfl rfl (own_empty hblk (Nat.le_refl _)) hsrc (by simp only [maxLen]; omega) (by omega) hsz ?_
          intro v1 w1 hown1 hg1 _
          have hFz := fr_own hF (own_empty (sz := 1) (base := w10.heap.size) hblk (Nat.le_refl _)) hg1 hF11.out.size
          simp only [Nat.zero_add, List.nil_append] at hown1
          clear hg1 hblk hsrc hsz hF hl8
          go_wp2_with fail
          go_ret2
          exact ⟨_, rfl, LS.of_own' hown1, hFz⟩
        · go_simp; refine hK _ _ ?_; clear hK K
          refine wpAny_ready (rs := [8]) (by kernel_rfl) (by simp) ?_
          refine AllReady.cons rfl (fun K hK => ?_) (AllReady.nil)
          go_simp; refine hK _ _ ?_; clear hK K
          refine wpAny_take (i := 11) (v := ?_) rfl (by kernel_rfl) (by kernel_rfl) (by kernel_rfl) (fun _ _ _ h => h) (Or.inl ⟨by kernel_rfl, ?_⟩) ?_; rotate_left; (intro w; go_simp; try with_reducible rfl)
          refine wpAny_take (i := 12) (v := .bool false) rfl (by kernel_rfl) (by kernel_rfl) (by kernel_rfl) (fun _ _ _ h => h) (Or.inl ⟨by kernel_rfl, fun w => by go_simp⟩) ?_
          refine wpAny_done (by kernel_rfl) ?_ _
          clear hb10 hc10 hb0
          go_upto_region 4 with (fail)
          apply wp_region_lit
          iterate 4 (refine wpList_plain rfl (fun K hK => ?_); go_simp; refine hK _ _ ?_; clear hK K)
          have hblk := Blk.new w10 #[] 5
          have hF := hF11.out.alloc (.cells #[] 5)
          have hsrc := (F1.out.fr0 hF).src (u8s_one _)
          have hl8 := u8s_len (bs.take n)
          rw [u8s_len, F4.out] at hsrc
          have hsz : w10.heap.size ≤ (w10.alloc (.cells #[] 5)).heap.size := by simp
          refine wpList_append_src _ rfl (Operand.tmp 23) (Operand.tmp 26) 43 rfl w10.heap.size 5 i0 (.int .u8 0) 1 1 Try.underlying43 hi0 hz0 hz1 hz2 rfl (by decide) _ _ 0 _ [] _ rfl rfl (own_empty hblk (Nat.le_refl _)) hsrc (by simp only [maxLen]; omega) (by omega) hsz ?_
          intro v1 w1 hown1 hg1 _
          have hFz := fr_own hF (own_empty (sz := 1) (base := w10.heap.size) hblk (Nat.le_refl _)) hg1 hF11.out.size
          simp only [Nat.zero_add, List.nil_append] at hown1
          clear hg1 hblk hsrc hsz hF hl8
          go_wp2_with fail
          go_ret2
          exact ⟨_, rfl, LS.of_own' hown1, hFz⟩
      · go_simp; refine hK _ _ ?_; clear hK K
        refine wpAny_ready (rs := [7]) (by kernel_rfl) (by simp) ?_
        refine AllReady.cons rfl (fun K hK => ?_) (AllReady.nil)
        go_simp
        refine (rclose_any _ _ _ _ (F1.out.fr0 hFd) F2.out).mono ?_; rintro e w10 ⟨v10, rfl, hown10, hF10⟩
        have hb10 := run_str (P := Try.prog) (src := 43) (dst := 9) ((HH.out.fr0 hFd).fr0 hF10) Try.underlying43 Try.underlying5 Try.underlying9
        have hc10 := run_str (P := Try.prog) (src := 43) (dst := 9) (LS.of_own' hown10) Try.underlying43 Try.underlying5 Try.underlying9
        rw [QX.out] at hc10; rw [QT.out] at hb10
        have hF11 := Lib.hid (hFd.trans hF10 (by simp)); clear hown10 hF10
        dsimp only; refine hK _ _ ?_; clear hK K
        refine wpAny_ready (rs := [8]) (by kernel_rfl) (by simp) ?_
        refine AllReady.cons rfl (fun K hK => ?_) (AllReady.nil)
        go_simp; refine hK _ _ ?_; clear hK K
        refine wpAny_take (i := 11) (v := ?_) rfl (by kernel_rfl) (by kernel_rfl) (by kernel_rfl) (fun _ _ _ h => h) (Or.inl ⟨by kernel_rfl, ?_⟩) ?_; rotate_left; (intro w; go_simp; try with_reducible rfl)
        refine wpAny_take (i := 12) (v := .bool false) rfl (by kernel_rfl) (by kernel_rfl) (by kernel_rfl) (fun _ _ _ h => h) (Or.inl ⟨by kernel_rfl, fun w => by go_simp⟩) ?_
        refine wpAny_done (by kernel_rfl) ?_ _
        clear hb10 hc10 hb0
        go_upto_region 4 with (fail)
        apply wp_region_lit
        iterate 4 (refine wpList_plain rfl (fun K hK => ?_); go_simp; refine hK _ _ ?_; clear hK K)
        have hblk := Blk.new w10 #[] 5
        have hF := hF11.out.alloc (.cells #[] 5)
        have hsrc := (F1.out.fr0 hF).src (u8s_one _)
        have hl8 := u8s_len (bs.take n)
        rw [u8s_len, F4.out] at hsrc
        have hsz : w10.heap.size ≤ (w10.alloc (.cells #[] 5)).heap.size := by simp
        refine wpList_append_src _ rfl (Operand.tmp 23) (Operand.tmp 26) 43 rfl w10.heap.size 5 i0 (.int .u8 0) 1 1 Try.underlying43 hi0 hz0 hz1 hz2 rfl (by decide) _ _ 0 _ [] _ rfl rfl (own_empty hblk (Nat.le_refl _)) hsrc (by simp only [maxLen]; omega) (by omega) hsz ?_
        intro v1 w1 hown1 hg1 _
        have hFz := fr_own hF (own_empty (sz := 1) (base := w10.heap.size) hblk (Nat.le_refl _)) hg1 hF11.out.size
        simp only [Nat.zero_add, List.nil_append] at hown1
        clear hg1 hblk hsrc hsz hF hl8
        go_wp2_with fail
        go_ret2
        exact ⟨_, rfl, LS.of_own' hown1, hFz⟩
    · have e1 : opens key bs = false := by unfold opens; rw [hn4]; exact decide_eq_false (fun x => hc x.2)
      have e2 : opensV key bs = [] := by unfold opensV; rw [e1]; rfl
      rw [e1, e2]
      have hbd : ¬ X.toList = T.toList := fun h => hc (hxt.1 (toList_inj h))
      clear e1 e2 hn hn4 hxt hc hB
      have hb0 : decide ((n : Int) < 0) = false := decide_eq_false (by omega)
      go_enter Try.func39, Try.ntmps39
      go_wp2_with fail
      refine wp_region_any (by kernel_rfl) ?_
      try (change wpAny _ _ _ _ _ _ _ (World.drew _))
      refine wpAny_take (i := 0) (v := ?_) rfl (by kernel_rfl) (by kernel_rfl) (by kernel_rfl) (fun _ _ _ h => h) (Or.inl ⟨by kernel_rfl, ?_⟩) ?_; rotate_left; (intro w; go_simp; try with_reducible rfl)
      refine wpAny_take (i := 1) (v := .bool false) rfl (by kernel_rfl) (by kernel_rfl) (by kernel_rfl) (fun _ _ _ h => h) (Or.inl ⟨by kernel_rfl, fun w => by go_simp⟩) ?_
      refine wpAny_take (i := 2) (v := ?_) rfl (by kernel_rfl) (by kernel_rfl) (by kernel_rfl) (fun _ _ _ h => h) (Or.inl ⟨by kernel_rfl, ?_⟩) ?_; rotate_left; (intro w; go_simp; try with_reducible rfl)
      refine wpAny_take (i := 3) (v := ?_) rfl (by kernel_rfl) (by kernel_rfl) (by kernel_rfl) (fun _ _ _ h => h) (Or.inl ⟨by kernel_rfl, ?_⟩) ?_; rotate_left; (intro w; go_simp; try with_reducible rfl)
      refine wpAny_take (i := 4) (v := ?_) rfl (by kernel_rfl) (by kernel_rfl) (by kernel_rfl) (fun _ _ _ h => h) (Or.inl ⟨by kernel_rfl, ?_⟩) ?_; rotate_left; (intro w; go_simp; try with_reducible rfl)
      refine wpAny_take (i := 5) (v := ?_) rfl (by kernel_rfl) (by kernel_rfl) (by kernel_rfl) (fun _ _ _ h => h) (Or.inl ⟨by kernel_rfl, ?_⟩) ?_; rotate_left; (intro w; go_simp; try with_reducible rfl)
      refine wpAny_take (i := 6) (v := .slice (some ⟨b, off, none⟩) n cap) rfl (by kernel_rfl) (by kernel_rfl) (by kernel_rfl) (fun _ _ _ h => h) (Or.inl ⟨by kernel_rfl, fun w => by (go_simp <;> rw [if_pos gc])⟩) ?_
      refine wpAny_take (i := 9) (v := ?_) rfl (by kernel_rfl) (by kernel_rfl) (by kernel_rfl) (fun _ _ _ h => h) (Or.inl ⟨by kernel_rfl, ?_⟩) ?_; rotate_left; (intro w; go_simp; try with_reducible rfl)
      refine wpAny_ready (rs := [7, 10]) (by kernel_rfl) (by simp) ?_
      refine AllReady.cons rfl (fun K hK => ?_) (AllReady.cons rfl (fun K hK => ?_) (AllReady.nil))
      · go_simp
        refine (rclose_any _ _ _ _ (F1.out.fr0 hFd) F2.out).mono ?_; rintro e w10 ⟨v10, rfl, hown10, hF10⟩
        have hb10 := run_str (P := Try.prog) (src := 43) (dst := 9) ((HH.out.fr0 hFd).fr0 hF10) Try.underlying43 Try.underlying5 Try.underlying9
        have hc10 := run_str (P := Try.prog) (src := 43) (dst := 9) (LS.of_own' hown10) Try.underlying43 Try.underlying5 Try.underlying9
        rw [QX.out] at hc10; rw [QT.out] at hb10
        have hF11 := Lib.hid (hFd.trans hF10 (by simp)); clear hown10 hF10
        dsimp only; refine hK _ _ ?_; clear hK K
        refine wpAny_ready (rs := [8, 10]) (by kernel_rfl) (by simp) ?_
        refine AllReady.cons rfl (fun K hK => ?_) (AllReady.cons rfl (fun K hK => ?_) (AllReady.nil))
        · go_simp; refine hK _ _ ?_; clear hK K
          refine wpAny_ready (rs := [10]) (by kernel_rfl) (by simp) ?_
          refine AllReady.cons rfl (fun K hK => ?_) (AllReady.nil)
          go_simp; refine hK _ _ ?_; clear hK K
          refine wpAny_take (i := 11) (v := ?_) rfl (by kernel_rfl) (by kernel_rfl) (by kernel_rfl) (fun _ _ _ h => h) (Or.inl ⟨by kernel_rfl, ?_⟩) ?_; rotate_left; (intro w; go_simp; try with_reducible rfl)
          refine wpAny_take (i := 12) (v := .bool true) rfl (by kernel_rfl) (by kernel_rfl) (by kernel_rfl) (fun _ _ _ h => h) (Or.inl ⟨by kernel_rfl, fun w => by go_simp⟩) ?_
          refine wpAny_done (by kernel_rfl) ?_ _
          clear hb10 hc10 hb0 hbd
          go_wp2_with fail
          go_ret2
          exact ⟨_, rfl, LS.nil _, hF11.out⟩
        · go_simp; refine hK _ _ ?_; clear hK K
          refine wpAny_ready (rs := [8]) (by kernel_rfl) (by simp) ?_
          refine AllReady.cons rfl (fun K hK => ?_) (AllReady.nil)
          go_simp; refine hK _ _ ?_; clear hK K
          refine wpAny_take (i := 11) (v := ?_) rfl (by kernel_rfl) (by kernel_rfl) (by kernel_rfl) (fun _ _ _ h => h) (Or.inl ⟨by kernel_rfl, ?_⟩) ?_; rotate_left; (intro w; go_simp; try with_reducible rfl)
          refine wpAny_take (i := 12) (v := .bool true) rfl (by kernel_rfl) (by kernel_rfl) (by kernel_rfl) (fun _ _ _ h => h) (Or.inl ⟨by kernel_rfl, fun w => by go_simp⟩) ?_
          refine wpAny_done (by kernel_rfl) ?_ _
          clear hb10 hc10 hb0 hbd
          go_wp2_with fail
          go_ret2
          exact ⟨_, rfl, LS.nil _, hF11.out⟩
      · go_simp; refine hK _ _ ?_; clear hK K
        refine wpAny_ready (rs := [7]) (by kernel_rfl) (by simp) ?_
        refine AllReady.cons rfl (fun K hK => ?_) (AllReady.nil)
        go_simp
        refine (rclose_any _ _ _ _ (F1.out.fr0 hFd) F2.out).mono ?_; rintro e w10 ⟨v10, rfl, hown10, hF10⟩
        have hb10 := run_str (P := Try.prog) (src := 43) (dst := 9) ((HH.out.fr0 hFd).fr0 hF10) Try.underlying43 Try.underlying5 Try.underlying9
        have hc10 := run_str (P := Try.prog) (src := 43) (dst := 9) (LS.of_own' hown10) Try.underlying43 Try.underlying5 Try.underlying9
        rw [QX.out] at hc10; rw [QT.out] at hb10
        have hF11 := Lib.hid (hFd.trans hF10 (by simp)); clear hown10 hF10
        dsimp only; refine hK _ _ ?_; clear hK K
        refine wpAny_ready (rs := [8]) (by kernel_rfl) (by simp) ?_
        refine AllReady.cons rfl (fun K hK => ?_) (AllReady.nil)
        go_simp; refine hK _ _ ?_; clear hK K
        refine wpAny_take (i := 11) (v := ?_) rfl (by kernel_rfl) (by kernel_rfl) (by kernel_rfl) (fun _ _ _ h => h) (Or.inl ⟨by kernel_rfl, ?_⟩) ?_; rotate_left; (intro w; go_simp; try with_reducible rfl)
        refine wpAny_take (i := 12) (v := .bool true) rfl (by kernel_rfl) (by kernel_rfl) (by kernel_rfl) (fun _ _ _ h => h) (Or.inl ⟨by kernel_rfl, fun w => by go_simp⟩) ?_
        refine wpAny_done (by kernel_rfl) ?_ _
        clear hb10 hc10 hb0 hbd
        go_wp2_with fail
        go_ret2
        exact ⟨_, rfl, LS.nil _, hF11.out⟩
end Go.Proofs.Ytidlpihffolelaa.Tg
