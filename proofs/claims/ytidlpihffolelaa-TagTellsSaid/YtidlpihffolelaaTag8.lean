import Derived.Test.YtidlpihffolelaaTag7
import Derived.Deep.QuietTactic
import Derived.BigQuiet
namespace Go.Proofs.Ytidlpihffolelaa.Tg
open Go.RowKit Dt Go.Proofs.Ytidlpihffolelaa.Hd
set_option linter.unusedVariables false

theorem sum_q {w : World} {sv : Value} {bs : List Nat} (key : Int) (h : LS w sv (u8s bs)) (hB : Bs bs) {s : Int} (hs : sumS key bs = s) (n : Nat) :
    Calls Try.prog 36 #[.int .i64 key, sv] (w.drewN n) fun e w' => e = .returned (.int .i64 s) ∧ w' = w.drewN n :=
  hs ▸ (sum_any _ _ _ _ (h.fr0 ((Fr.refl [] w).drewN n)) hB).mono (fun _ _ ⟨a, b⟩ => ⟨a, b.symm⟩)
theorem mark_q {w : World} {sv : Value} {bs : List Nat} (h : LS w sv (u8s bs)) (hB : Bs bs) {s : Int} (hs : markS bs = s) (n : Nat) :
    Calls Try.prog 37 #[sv] (w.drewN n) fun e w' => e = .returned (.int .i64 s) ∧ w' = w.drewN n :=
  hs ▸ (mark_any _ _ _ (h.fr0 ((Fr.refl [] w).drewN n)) hB).mono (fun _ _ ⟨a, b⟩ => ⟨a, b.symm⟩)
theorem mark_bd (bs : List Nat) : 0 ≤ markS bs ∧ markS bs < 4611686018427387904 := by
  have a := sumS_bd 7 bs
  have b := sumS_bd 11 bs
  unfold markS; omega
theorem mark_ne {a b : List Nat} (h : sumS 7 a ≠ sumS 7 b) : markS a ≠ markS b := by
  have a1 := sumS_bd 7 a
  have b1 := sumS_bd 11 a
  have a2 := sumS_bd 7 b
  have b2 := sumS_bd 11 b
  unfold markS; omega

set_option maxRecDepth 100000 in
set_option maxHeartbeats 1600000 in
theorem walk_marks (a0 : Int) (a1 : Option Addr) (len1 cap1 : Nat) (z1 : Nat → Int) (a2 a3 : Int) (W : World) (w0 : (Lit.int .i64 a0).wf = true) (w1 : SlI .u8 W a1 len1 cap1 z1) (w2 : (Lit.int .i64 a2).wf = true) (w3 : (Lit.int .u8 a3).wf = true) :
    Calls Try.prog 14 #[.int .i64 a0, .slice a1 len1 cap1, .int .i64 a2, .int .u8 a3] W fun e w' => e = .returned (.bool true) ∧ Below W.heap.size W w' := by
  obtain ⟨bs0, hls, hB0, hlen0⟩ := bytes_of w1
  have y1 := u8_lo w3
  have y2 := u8_hi w3
  obtain ⟨by_, rfl⟩ := Int.eq_ofNat_of_zero_le y1
  have HB0 := Lib.hid hB0; have HL0 := Lib.hid hls
  clear w1 w3 hB0 hls y1 hlen0
  go_enter Try.func14, Try.ntmps14
  go_wp2_with fail
  refine (known5_any _).mono ?_; rintro e w1 ⟨rfl, hF1⟩
  go_wp2_with fail
  refine (few_any _ _ bs0 200 (HL0.out.fr0 hF1) HB0.out (by decide)).mono ?_; rintro e w2 ⟨va, rfl, hown2, hF2⟩
  have hF2' := hF1.trans hF2 (by simp)
  have hsz2 := hF2'.size
  go_wp2_with fail
  refine (few_any _ _ bs0 200 (HL0.out.fr0 hF2') HB0.out (by decide)).mono ?_; rintro e w3 ⟨vc, rfl, hown3, hF3⟩
  have hF3' := hF2'.trans hF3 (by simp)
  have howna := own_keep hown2 hF3 (by simp)
  have hB := HB0.out.take 200
  have h200 : (bs0.take 200).length ≤ 200 := by simp; omega
  obtain ⟨bs, hbs⟩ : ∃ bs, bs = bs0.take 200 := ⟨_, rfl⟩
  rw [← hbs] at hown3 howna hB h200
  have hlta : ∀ g, va.ownBlock = some g → g < w2.heap.size := by rw [hbs] at *; exact fun g hg => own_lt hown2 hg
  clear hbs HB0 HL0 hown2 hF1 hF2 hF2' hF3
  have HB := Lib.hid hB; clear hB
  obtain ⟨aa, capa, rfl, hca, hcam, -, -⟩ := own_any howna
  obtain ⟨ac, capc, rfl, hcc, hccm, -, hgc⟩ := own_any hown3
  by_cases hpos : bs.length = 0
  · have hnil : bs = [] := List.eq_nil_of_length_eq_zero hpos
    subst hnil
    have hla := LS.of_own' howna
    clear hgc
    go_wp2_with fail
    refine (mark_any _ _ _ hla HB.out).mono ?_; rintro e w' ⟨rfl, rfl⟩
    go_wp2_with fail
    refine (mark_any _ _ [] (LS.nil _) HB.out).mono ?_; rintro e w' ⟨rfl, rfl⟩
    go_wp2_with fail
    go_ret
    exact ⟨by simp, hF3'.below (Nat.le_refl _) (by simp)⟩
  · obtain ⟨gc, rfl, hgcb⟩ := hgc (by omega)
    have hi1 : 0 ≤ a2 % (bs.length : Int) := Int.emod_nonneg _ (by omega)
    have hi2 : a2 % (bs.length : Int) < (bs.length : Int) := Int.emod_lt_of_pos _ (by omega)
    obtain ⟨i, hi⟩ : ∃ i : Nat, a2 % (bs.length : Int) = i := ⟨(a2 % (bs.length : Int)).toNat, by omega⟩
    have hib : i < bs.length := by omega
    obtain ⟨x, hx⟩ : ∃ x, bs[i] = x := ⟨_, rfl⟩
    have hx256 : x < 256 := hx ▸ HB.out.lt _ (List.getElem_mem hib)
    have hcell : w3.cell? ⟨gc, i, none⟩ = some (.int .u8 (x : Nat)) := by rw [hown3.cellAt i (by omega), u8s_get hib, hx]
    have hfz : w3.frozen? ⟨gc, i, none⟩ = false := hown3.frozenAt i
    have hxor := u8_xor_nat x by_ hx256 (by omega)
    have hown4 := set_own hown3 i (x ^^^ by_) hib
    have hX : Fr [gc] w3 (w3.setCell ⟨gc, i, none⟩ (.int .u8 ((x ^^^ by_ : Nat) : Int))) := (Fr.refl [gc] w3).setCell (.inl (by simp)) _
    have howna4 := own_keep howna hX (fun g hg => by have := hlta g hg; simp; omega)
    have hF4 := hF3'.trans hX (fun y hy => by simp at hy; subst hy; right; omega)
    have hBc : Bs (bs.set i (x ^^^ by_)) := ⟨fun y hy => by
      rcases List.mem_or_eq_of_mem_set hy with h | h
      · exact HB.out.lt y h
      · subst h; exact xor_lt _ _ hx256 (by omega), by rw [List.length_set]; omega⟩
    have hla := LS.of_own' howna4
    have hlc := LS.of_own' hown4
    obtain ⟨m1, m2⟩ := mark_bd bs
    obtain ⟨s1, s2⟩ := sumS_bd a0 bs
    obtain ⟨S, hS⟩ : ∃ S, sumS a0 bs = S := ⟨_, rfl⟩
    obtain ⟨S', hS'⟩ : ∃ S', sumS a0 (bs.set i (x ^^^ by_)) = S' := ⟨_, rfl⟩
    obtain ⟨M, hM⟩ : ∃ M, markS bs = M := ⟨_, rfl⟩
    obtain ⟨M', hM'⟩ : ∃ M', markS (bs.set i (x ^^^ by_)) = M' := ⟨_, rfl⟩
    have key : (by_ = 0 → S = S' ∧ M = M') ∧ (by_ ≠ 0 → S ≠ S' ∧ M ≠ M') := by
      rw [← hS, ← hS', ← hM, ← hM']
      constructor
      · intro h0; subst h0
        rw [Nat.xor_zero, ← hx, List.set_getElem_self]; exact ⟨rfl, rfl⟩
      · intro h0
        have t := fun k => sum_turned k hib (hx ▸ hx256) (xor_lt x by_ hx256 (by omega)) (by rw [hx]; exact xor_ne x by_ h0)
        exact ⟨(t a0).symm, mark_ne (t 7).symm⟩
    rw [hM] at m1 m2
    rw [hS] at s1 s2
    have HI := Lib.hid hi; clear hi
    clear hx hx256 hX
    by_cases h0 : by_ = 0
    · obtain ⟨rfl, rfl⟩ := key.1 h0
      have hb0 : ((by_ : Int) == 0) = true := by simp [h0]
      have QS := Lib.hid hS; have QS2 := Lib.hid hS'; have QM := Lib.hid hM; have QM2 := Lib.hid hM'
      clear key hS hS' hM hM' h0
      go_wp2_with fail
      refine (pick_any _ _ _ (by omega) (by omega)).mono ?_; rintro e w' ⟨rfl, rfl⟩
      rw [HI.out]
      go_wp2_with fail
      generalize w3.setCell ⟨gc, i, none⟩ (.int .u8 ((x ^^^ by_ : Nat) : Int)) = w4 at *
      refine (mark_any _ _ _ hla HB.out).mono ?_; rintro e w' ⟨rfl, rfl⟩
      rw [QM.out]
      go_wp2_with fail
      refine (sum_any _ _ _ _ hla HB.out).mono ?_; rintro e w' ⟨rfl, rfl⟩
      rw [QS.out]
      go_wp2_with fail
      refine (sum_any _ _ _ _ hlc hBc).mono ?_; rintro e w' ⟨rfl, rfl⟩
      rw [QS2.out]
      go_wp2_with fail
      refine (mark_any _ _ _ hlc hBc).mono ?_; rintro e w' ⟨rfl, rfl⟩
      rw [QM2.out]
      go_wp2_with fail
      refine (sum_any _ _ _ _ hla HB.out).mono ?_; rintro e w' ⟨rfl, rfl⟩
      rw [QS.out]
      go_wp2_with fail
      refine (sum_any _ _ _ _ hla HB.out).mono ?_; rintro e w' ⟨rfl, rfl⟩
      rw [QS.out]
      go_wp2_with fail
      go_ret
      exact ⟨by first | rfl | simp, hF4.below (Nat.le_refl _) (by simp)⟩
    · obtain ⟨k1, k2⟩ := key.2 h0
      have hb0 : ((by_ : Int) == 0) = false := by simp [h0]
      have hb1 : (S == S') = false := by simp [k1]
      have hb2 : (M == M') = false := by simp [k2]
      have QS := Lib.hid hS; have QS2 := Lib.hid hS'; have QM := Lib.hid hM; have QM2 := Lib.hid hM'
      clear key hS hS' hM hM' h0 k1 k2
      go_wp2_with fail
      refine (pick_any _ _ _ (by omega) (by omega)).mono ?_; rintro e w' ⟨rfl, rfl⟩
      rw [HI.out]
      go_wp2_with fail
      generalize w3.setCell ⟨gc, i, none⟩ (.int .u8 ((x ^^^ by_ : Nat) : Int)) = w4 at *
      refine (mark_any _ _ _ hla HB.out).mono ?_; rintro e w' ⟨rfl, rfl⟩
      rw [QM.out]
      go_wp2_with fail
      refine (sum_any _ _ _ _ hla HB.out).mono ?_; rintro e w' ⟨rfl, rfl⟩
      rw [QS.out]
      go_wp2_with fail
      refine (sum_any _ _ _ _ hlc hBc).mono ?_; rintro e w' ⟨rfl, rfl⟩
      rw [QS2.out]
      go_wp2_with fail
      refine (mark_any _ _ _ hlc hBc).mono ?_; rintro e w' ⟨rfl, rfl⟩
      rw [QM2.out]
      go_wp2_with fail
      refine (sum_any _ _ _ _ hla HB.out).mono ?_; rintro e w' ⟨rfl, rfl⟩
      rw [QS.out]
      go_wp2_with fail
      refine (sum_any _ _ _ _ hla HB.out).mono ?_; rintro e w' ⟨rfl, rfl⟩
      rw [QS.out]
      go_wp2_with fail
      go_ret
      exact ⟨by first | rfl | simp, hF4.below (Nat.le_refl _) (by simp)⟩
end Go.Proofs.Ytidlpihffolelaa.Tg
