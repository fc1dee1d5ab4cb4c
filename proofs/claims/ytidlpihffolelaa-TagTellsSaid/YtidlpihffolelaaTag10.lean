import Derived.Test.YtidlpihffolelaaTag8
namespace Go.Proofs.Ytidlpihffolelaa.Tg
open Go.RowKit Dt Go.Proofs.Ytidlpihffolelaa.Hd
set_option linter.unusedVariables false

theorem rsum_any (w : World) (key : Int) (sv : Value) (bs : List Nat) (h : LS w sv (u8s bs)) (hB : Bs bs) :
    Calls Try.prog 40 #[.int .i64 key, sv] w fun e w' => e = .returned (.int .i64 (sumS key bs)) ∧ w = w' := by
  obtain ⟨a, cap, rfl, hla, hma, -, hca⟩ := h.ex
  simp only [u8s_len] at *
  have hlen := hB.len
  have HA := Lib.hid hca; have HBS := Lib.hid hB.lt
  clear h hca hB hma hla
  obtain ⟨b1, b2⟩ := tmod_bd (n := key) (m := 2147483647) (by omega)
  have ek := emod_of_tmod (n := key) (m := 2147483647) (by omega)
  by_cases hneg : key.tmod 2147483647 < 0
  all_goals
    first | rw [if_pos hneg] at ek | rw [if_neg hneg] at ek
    have k1 : 0 ≤ key % 2147483647 := by omega
    have k2 : key % 2147483647 < 2147483647 := by omega
    go_enter Try.func40, Try.ntmps40
    go_wp2_with fail
    rw [← ek]
    clear ek
    go_loop [5, 6] (fun hv i => ∃ j : Nat, j ≤ bs.length ∧ i = .int .i64 j ∧ hv = .int .i64 (sumH key (bs.take j))) (fun _ i => bs.length - (intOf i).toNat)
    case atStart => exact ⟨0, by omega, rfl, rfl⟩
    case round =>
      obtain ⟨j, hj, rfl, rfl⟩ := hrel
      obtain ⟨h1, h2⟩ := sumH_bd key (bs.take j)
      by_cases hlt : j < bs.length
      · obtain ⟨b, off, rfl, _, hc⟩ := HA.out (by omega)
        have c1 : w.cell? ⟨b, off + j, none⟩ = some (.int .u8 (bs[j] : Nat)) := hc j _ (u8s_get hlt)
        have hx : bs[j] < 256 := HBS.out _ (List.getElem_mem _)
        have HS := Lib.hid (sumH_snoc key bs hlt)
        clear hc
        generalize sumH key (bs.take j) = hh at *
        generalize bs[j] = x at *
        go_wp2_with fail
        go_round
        case rel => exact ⟨j + 1, by omega, by go_num, by rw [HS.out]⟩
        case measure => simp [intOf]; omega
      · have e1 : bs.take j = bs := List.take_of_length_le (by omega)
        rw [e1] at h1 h2 ⊢
        clear e1
        have hfin : sumS key bs = (sumH key bs + (bs.length : Nat)) % 2147483647 := rfl
        have HF := Lib.hid hfin; clear hfin
        go_wp2_with fail
        go_ret
        exact ⟨ret_i (by rw [HF.out]), rfl⟩

theorem four_any (w : World) (n : Nat) (hn : n < 2147483648) :
    Calls Try.prog 45 #[.int .i64 n] w fun e w' => ∃ v, e = .returned v ∧ LS w' v (u8s (four n)) ∧ Fr [] w w' := by
  have e1 : (n : Int) / 16777216 = ((n / 16777216 % 256 : Nat) : Int) := by omega
  have e2 : (n : Int) / 65536 % 256 = ((n / 65536 % 256 : Nat) : Int) := by omega
  have e3 : (n : Int) / 256 % 256 = ((n / 256 % 256 : Nat) : Int) := by omega
  have e4 : (n : Int) % 256 = ((n % 256 : Nat) : Int) := by omega
  have E1 := Lib.hid e1; have E2 := Lib.hid e2; have E3 := Lib.hid e3; have E4 := Lib.hid e4
  clear e1 e2 e3 e4
  go_enter Try.func45, Try.ntmps45
  go_wp2_with fail
  rw [E4.out, E3.out, E2.out, E1.out]
  go_ret
  exact ⟨_, rfl, LS.of_blk (Blk.new w #[.int .u8 ((n / 16777216 % 256 : Nat) : Int), .int .u8 ((n / 65536 % 256 : Nat) : Int), .int .u8 ((n / 256 % 256 : Nat) : Int), .int .u8 ((n % 256 : Nat) : Int)] 5) (Nat.le_refl 4) (by decide), (Fr.refl [] w).alloc _⟩

theorem rclose_any (w : World) (key : Int) (sv : Value) (bs : List Nat) (h : LS w sv (u8s bs)) (hB : Bs bs) :
    Calls Try.prog 38 #[.int .i64 key, sv] w fun e w' => ∃ v, e = .returned v ∧ w'.ownsRow w.heap.size 5 1 v (closeS key bs).length (u8s (closeS key bs)) ∧ Fr [] w w' := by
  obtain ⟨i0, hi0, hz0, hz1, hz2⟩ := info_parts info8
  have hl := hB.len
  obtain ⟨s1, s2⟩ := sumS_bd key bs
  obtain ⟨m, hm⟩ : ∃ m : Nat, sumS key bs = m := ⟨(sumS key bs).toNat, by omega⟩
  have HM := Lib.hid hm; clear hm
  go_enter Try.func38, Try.ntmps38
  go_upto_region 1 with (fail)
  apply wp_region_lit
  iterate 2 (refine wpList_plain rfl (fun K hK => ?_); go_simp; refine hK _ _ ?_; clear hK K)
  have hblk := Blk.new w #[] 5
  have hF := (Fr.refl [] w).alloc (.cells #[] 5)
  have hl0 := h.fr0 hF
  have hsrc := hl0.src (u8s_one _)
  have hsz : w.heap.size ≤ (w.alloc (.cells #[] 5)).heap.size := hF.size
  have hl8 := u8s_len bs
  refine wpList_append_src _ rfl (Operand.tmp 5) (Operand.tmp 6) 43 rfl w.heap.size 5 i0 (.int .u8 0) 1 1 Try.underlying43 hi0 hz0 hz1 hz2 rfl (by decide) _ _ 0 _ [] _ rfl rfl (own_empty hblk (Nat.le_refl _)) hsrc (by simp only [maxLen]; omega) (by omega) hsz ?_
  intro v1 w1 hown1 hg1 _
  have hF1 := fr_own hF (own_empty (sz := 1) (base := w.heap.size) hblk (Nat.le_refl _)) hg1 (Nat.le_refl _)
  simp only [Nat.zero_add, List.nil_append] at hown1
  clear hg1 hblk hsrc hsz hF hl0
  go_wp2_with fail
  refine (rsum_any _ _ _ _ (h.fr0 hF1) hB).mono ?_; rintro e w' ⟨rfl, rfl⟩
  rw [HM.out] at s1 s2 ⊢
  go_wp2_with fail
  refine (four_any _ m (by omega)).mono ?_; rintro e w2 ⟨v2, rfl, hl2, hF2⟩
  have hown2 := own_keep hown1 hF2 (by simp)
  have hF3 := hF1.trans hF2 (by simp)
  have hsrc2 := hl2.src (u8s_one _)
  have hl4 : (u8s (four m)).length = 4 := by simp [u8s, four]
  rw [hl4] at hsrc2
  clear hown1 hF1 hF2 hl2
  dsimp only
  go_step
  refine wpList_append_src _ rfl (Operand.tmp 7) (Operand.tmp 11) 43 rfl w.heap.size 5 i0 (.int .u8 0) 1 1 Try.underlying43 hi0 hz0 hz1 hz2 rfl (by decide) _ _ (u8s bs).length 4 (u8s bs) (u8s (four m)) rfl rfl hown2 hsrc2 (by simp only [maxLen]; omega) (by omega) hF3.size ?_
  intro v3 w3 hown3 hg3 _
  have hF4 := fr_own hF3 hown2 hg3 (Nat.le_refl _)
  have hfin : u8s bs ++ u8s (four m) = u8s (closeS key bs) := by rw [u8s_append]; unfold closeS; rw [HM.out]; rfl
  have hlen : (u8s bs).length + 4 = (closeS key bs).length := by rw [closeS_len, u8s_len]
  rw [hfin, hlen] at hown3
  clear hfin hlen hg3 hsrc2 hl8 hl4 hown2 hF3
  go_wp2_with fail
  go_ret
  exact ⟨_, rfl, hown3, hF4⟩

theorem rmark_any (w : World) (sv : Value) (bs : List Nat) (h : LS w sv (u8s bs)) (hB : Bs bs) :
    Calls Try.prog 41 #[sv] w fun e w' => e = .returned (.int .i64 (markS bs)) ∧ w = w' := by
  obtain ⟨a1, a2⟩ := sumS_bd 7 bs
  obtain ⟨b1, b2⟩ := sumS_bd 11 bs
  have hfin : markS bs = sumS 7 bs * 2147483648 + sumS 11 bs := rfl
  have HF := Lib.hid hfin; clear hfin
  have HH := Lib.hid h; have HB := Lib.hid hB; clear h hB
  go_enter Try.func41, Try.ntmps41
  go_wp2_with fail
  refine (rsum_any _ _ _ _ HH.out HB.out).mono ?_; rintro e w' ⟨rfl, rfl⟩
  go_wp2_with fail
  refine (rsum_any _ _ _ _ HH.out HB.out).mono ?_; rintro e w' ⟨rfl, rfl⟩
  go_wp2_with fail
  go_ret
  exact ⟨ret_i (by rw [HF.out]), rfl⟩

end Go.Proofs.Ytidlpihffolelaa.Tg
