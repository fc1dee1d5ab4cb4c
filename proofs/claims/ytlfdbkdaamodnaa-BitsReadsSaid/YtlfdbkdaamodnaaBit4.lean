import Derived.Test.YtlfdbkdaamodnaaBit3
import Derived.Deep.RegionWith
namespace Go.Proofs.Ytlfdbkdaamodnaa.Bt
open Go.RowKit Dt Go.Proofs.Ytlfdbkdaamodnaa.Hd
set_option linter.unusedVariables false

/-- the row lies from 'lo' on -/
def From (bv : Value) (lo : Nat) : Prop := ∀ g, bv.ownBlock = some g → lo ≤ g
theorem From.none (lo : Nat) : From (.slice none 0 0) lo := fun g h => by simp [Value.ownBlock] at h
theorem From.step {bv bv' : Value} {lo sz : Nat} (h : From bv lo) (hs : lo ≤ sz) (hat : bv'.ownBlock = bv.ownBlock ∨ ∃ g, bv'.ownBlock = some g ∧ sz ≤ g) : From bv' lo := by
  intro g hg
  rcases hat with e | ⟨g', e, h'⟩
  · exact h g (e ▸ hg)
  · rw [e] at hg; cases hg; omega
theorem From.not {bv : Value} {lo x : Nat} (h : From bv lo) (hx : x < lo) : x ∉ bv.ownBlock.toList := fun hm => by
  simp only [Option.mem_toList] at hm
  have := h x hm; omega
theorem From.fresh {bv : Value} {lo A a : Nat} (h : From bv lo) (ha : a ≤ lo) (hA : a ≤ A) : ∀ x ∈ A :: bv.ownBlock.toList, x ∈ ([] : List Nat) ∨ a ≤ x := fun x hx => by
  simp only [List.mem_cons, Option.mem_toList] at hx
  rcases hx with rfl | hx
  · exact .inr hA
  · have := h x hx; exact .inr (by omega)
/-- a writer that another one's laying leaves alone -/
theorem HasWr.other {w w' : World} {B A A' lo : Nat} {bv bv' : Value} {bs : List Nat} {n : Nat} (h : HasWr w B A bv bs n) (hf : Fr (A' :: bv'.ownBlock.toList) w w') (hne : A ≠ A') (hb : From bv' lo) (hA : A < lo) (hg : ∀ g, bv.ownBlock = some g → g ≠ A' ∧ g < lo) : HasWr w' B A bv bs n := by
  refine h.fr hf ?_ ?_
  · simp only [List.mem_cons, not_or]; exact ⟨hne, hb.not hA⟩
  · intro g e
    obtain ⟨h1, h2⟩ := hg g e
    simp only [List.mem_cons, not_or]; exact ⟨h1, hb.not h2⟩

set_option maxRecDepth 100000 in
set_option maxHeartbeats 3200000 in
theorem walk_joins (a0 a1 a2 a3 a4 : Int) (W : World) (w0 : (Lit.int .u64 a0).wf = true) (w1 : (Lit.int .u64 a1).wf = true) (w2 : (Lit.int .i64 a2).wf = true) (w3 : (Lit.int .i64 a3).wf = true) (w4 : (Lit.int .i64 a4).wf = true) :
    Calls Try.prog 8 #[.int .u64 a0, .int .u64 a1, .int .i64 a2, .int .i64 a3, .int .i64 a4] W fun e w' => e = .returned (.bool true) ∧ Below W.heap.size W w' := by
  have y1 := u64_lo w0
  have y2 := u64_hi w0
  have y3 := u64_lo w1
  have y4 := u64_hi w1
  obtain ⟨v, rfl⟩ := Int.eq_ofNat_of_zero_le y1
  obtain ⟨t, rfl⟩ := Int.eq_ofNat_of_zero_le y3
  obtain ⟨n, hn⟩ : ∃ n : Nat, a2 % 64 = n := ⟨(a2 % 64).toNat, by omega⟩
  have hn64 : n < 64 := by omega
  have hk1 : 0 ≤ a3 % (1 + (n : Int) + 1) := Int.emod_nonneg _ (by omega)
  have hk2 : a3 % (1 + (n : Int) + 1) < 1 + (n : Int) + 1 := Int.emod_lt_of_pos _ (by omega)
  obtain ⟨k, hk⟩ : ∃ k : Nat, a3 % (1 + (n : Int) + 1) = k := ⟨(a3 % (1 + (n : Int) + 1)).toNat, by omega⟩
  have hkn : k ≤ n + 1 := by omega
  obtain ⟨m, hm⟩ : ∃ m : Nat, a4 % 65 = m := ⟨(a4 % 65).toNat, by omega⟩
  have hm65 : m < 65 := by omega
  have hvk : v / 2 ^ (n + 1 - k) < 18446744073709551616 := Nat.lt_of_le_of_lt (Nat.div_le_self _ _) (by omega)
  obtain ⟨d, hd⟩ : ∃ d : Nat, n + 1 = k + d := ⟨n + 1 - k, by omega⟩
  have HN := Lib.hid hn; have HK := Lib.hid hk; have HM := Lib.hid hm
  clear hn hk hm hk1 hk2 w0 w1 w2 w3 w4 y1 y3
  go_enter Try.func8, Try.ntmps8
  go_wp2_with fail
  refine (new_any _).mono ?_; rintro e w1 ⟨rfl, hA1, hF1⟩
  have hsz1 := hF1.size
  go_wp2_with fail
  refine (new_any _).mono ?_; rintro e w2 ⟨rfl, hB2, hF2⟩
  have hA2 := hA1.fr hF2 (by simp) (by simp [Value.ownBlock])
  have hF2' := hF1.trans hF2 (by simp)
  have hlt1 : W.heap.size < w1.heap.size := hA1.blk.lt
  clear hA1 hF2
  go_wp2_with fail
  refine (known_any _).mono ?_; rintro e w3 ⟨rfl, hF3⟩
  have hA3 := hA2.fr hF3 (by simp) (by simp [Value.ownBlock])
  have hB3 := hB2.fr hF3 (by simp) (by simp [Value.ownBlock])
  have hF3' := hF2'.trans hF3 (by simp)
  clear hA2 hB2 hF2' hF3
  go_wp2_with fail
  refine (pick_any _ _ _ (by decide) (by decide)).mono ?_; rintro e w' ⟨rfl, rfl⟩
  rw [HN.out]
  go_wp2_with fail
  refine (pick_any _ _ _ (by omega) (by omega)).mono ?_; rintro e w' ⟨rfl, rfl⟩
  rw [HK.out]
  go_wp2_with fail
  refine (pick_any _ _ _ (by decide) (by decide)).mono ?_; rintro e w' ⟨rfl, rfl⟩
  rw [HM.out]
  have hsz3 := hF3'.size
  have hba := hB3.blk.lt
  go_wp2_with fail
  refine (Put_any (L := []) (v := v) (k := n + 1) hA3 (by omega) (by omega) (by decide)).mono ?_; rintro e w4 ⟨rfl, bva, hA4, hF4, hat4⟩
  have fa4 := (From.none w3.heap.size).step (Nat.le_refl _) hat4
  have hB4 := hB3.other hF4 (by omega) (From.none w3.heap.size) hba (by simp [Value.ownBlock])
  have hF4' := hF3'.trans hF4 ((From.none w3.heap.size).fresh hsz3 (Nat.le_refl _))
  have hsz4 := hF4.size
  simp only [List.nil_append] at hA4
  clear hA3 hB3 hF3' hF4 hat4
  have hl4 := bitsOf_len v (n + 1)
  go_wp2_with fail
  refine (Put_any (v := t) (k := m) hA4 (by omega) (by omega) (by rw [hl4]; omega)).mono ?_; rintro e w5 ⟨rfl, bva5, hA5, hF5, hat5⟩
  have fa5 := fa4.step hsz4 hat5
  have hB5 := hB4.other hF5 (by omega) fa4 hba (by simp [Value.ownBlock])
  have hF5' := hF4'.trans hF5 (fa4.fresh hsz3 (Nat.le_refl _))
  have hsz5 := hF5.size
  have hga : ∀ g, bva5.ownBlock = some g → g ≠ w1.heap.size ∧ g < w5.heap.size := fun g hg => ⟨by have := fa5 g hg; omega, own_lt hA5.own hg⟩
  clear hA4 hB4 hF4' hF5 hat5 hl4
  have hnk : 1 + (n : Int) - (k : Int) = (d : Int) := by omega
  have hnd : n + 1 - k = d := by omega
  rw [hnd] at hvk
  have HA5 := Lib.hid hA5; have HB5 := Lib.hid hB5; clear hA5 hB5
  have HND := Lib.hid hnd; clear hnd
  have hd64 : (d : Int) < 18446744073709551616 := by omega
  go_wp2_with fail
  have hvd : (v : Int) / 2 ^ d = ((v / 2 ^ d : Nat) : Int) := by push_cast; rfl
  rw [hvd]
  clear hvd
  refine (Put_any (L := []) (v := v / 2 ^ d) (k := k) HB5.out hvk (by omega) (by decide)).mono ?_; rintro e w6 ⟨rfl, bvb, hB6, hF6, hat6⟩
  have fb6 := (From.none w5.heap.size).step (Nat.le_refl _) hat6
  have hA6 := HA5.out.other hF6 (by omega) (From.none w5.heap.size) (by omega) hga
  have hF6' := hF5'.trans hF6 ((From.none w5.heap.size).fresh (by omega) (by omega))
  simp only [List.nil_append] at hB6
  have hsz6 := hF6.size
  have HA6 := Lib.hid hA6
  clear HA5 HB5 hF5' hF6 hat6 hA6
  have hlk := bitsOf_len (v / 2 ^ d) k
  have hld := bitsOf_len v d
  go_wp2_with fail
  refine (Put_any (v := v) (k := d) hB6 (by omega) (by omega) (by rw [hlk]; omega)).mono ?_; rintro e w7 ⟨rfl, bvb7, hB7, hF7, hat7⟩
  have fb7 := fb6.step hsz6 hat7
  have hA7 := HA6.out.other hF7 (by omega) fb6 (by omega) hga
  have hF7' := hF6'.trans hF7 (fb6.fresh (by omega) (by omega))
  have hsz7 := hF7.size
  have HA7 := Lib.hid hA7; have HB7 := Lib.hid hB7
  clear HA6 hB6 hF6' hF7 hat7 hA7 hB7
  go_wp2_with fail
  refine (Put_any (v := t) (k := m) HB7.out (by omega) (by omega) (by rw [List.length_append, hlk, hld]; omega)).mono ?_; rintro e w8 ⟨rfl, bvb8, hB8, hF8, hat8⟩
  have hA8 := HA7.out.other hF8 (by omega) fb7 (by omega) hga
  have hF8' := hF7'.trans hF8 (fb7.fresh (by omega) (by omega))
  have hLL : bitsOf (v / 2 ^ d) k ++ bitsOf v d ++ bitsOf t m = bitsOf v (n + 1) ++ bitsOf t m := by rw [bitsOf_join, hd]
  rw [hLL] at hB8
  have hlen : (bitsOf v (n + 1) ++ bitsOf t m).length = n + 1 + m := by rw [List.length_append, bitsOf_len, bitsOf_len]
  rw [hlen] at hA8 hB8
  obtain ⟨P, hP⟩ : ∃ P, pk (bitsOf v (n + 1) ++ bitsOf t m) = P := ⟨_, rfl⟩
  rw [hP] at hA8 hB8
  have HA8 := Lib.hid hA8; have HB8 := Lib.hid hB8; have HF8 := Lib.hid hF8'
  clear HA7 HB7 hF7' hF8 hat8 hA8 hB8 hF8' hP hLL hlen hlk hld
  go_wp2_with fail
  refine wp_region_any (by kernel_rfl) ?_
  try (change wpAny _ _ _ _ _ _ _ (World.drew _))
  have HA := Lib.hid (HA8.out.fr (Fr.refl [] w8).drew (by simp) (by simp))
  have HB := Lib.hid (HB8.out.fr (Fr.refl [] w8).drew (by simp) (by simp))
  have HF := Lib.hid HF8.out.drew
  have hadd : IntKind.i64.wrap (1 + (n : Int) + (m : Int)) = 1 + (n : Int) + (m : Int) := IntWalk.i64_in _ (by omega)
  have hlen : ((n + 1 + m : Nat) : Int) = 1 + (n : Int) + m := by omega
  have HL := Lib.hid hlen
  clear hlen HA8 HB8 HF8
  generalize w8.drew = w9 at *
  refine wpAny_take (i := 0) (v := ?_) rfl (by kernel_rfl) (by kernel_rfl) (by kernel_rfl) (fun _ _ _ h => h) (Or.inl ⟨by kernel_rfl, ?_⟩) ?_; rotate_left; (intro w; go_simp; try with_reducible rfl)
  refine wpAny_take (i := 3) (v := ?_) rfl (by kernel_rfl) (by kernel_rfl) (by kernel_rfl) (fun _ _ _ h => h) (Or.inl ⟨by kernel_rfl, ?_⟩) ?_; rotate_left; (intro w; go_simp; try with_reducible rfl)
  refine wpAny_ready (rs := [1]) (by kernel_rfl) (by simp) ?_
  refine AllReady.cons rfl (fun K hK => ?_) (AllReady.nil)
  go_simp
  refine (bytes_any HA.out).mono ?_; rintro e w10 ⟨vx, rfl, hown, hFx⟩
  have hx10 := run_str (P := Try.prog) (src := 51) (dst := 9) (LS.of_own' hown) Try.underlying51 Try.underlying5 Try.underlying9
  have O10 := Lib.hid hown; have A10 := Lib.hid (HA.out.fr hFx (by simp) (by simp)); have B10 := Lib.hid (HB.out.fr hFx (by simp) (by simp)); have F10 := Lib.hid (HF.out.trans hFx (by simp))
  clear hown hFx HA HB HF
  dsimp only; refine hK _ _ ?_; clear hK K
  refine wpAny_ready (rs := [2, 4]) (by kernel_rfl) (by simp) ?_
  refine AllReady.cons rfl (fun K hK => ?_) (AllReady.cons rfl (fun K hK => ?_) (AllReady.nil))
  · go_simp; refine hK _ _ ?_; clear hK K
    refine wpAny_ready (rs := [4]) (by kernel_rfl) (by simp) ?_
    refine AllReady.cons rfl (fun K hK => ?_) (AllReady.nil)
    go_simp
    refine (bytes_any B10.out).mono ?_; rintro e w11 ⟨vy, rfl, hown, hFx⟩
    have hy11 := run_str (P := Try.prog) (src := 51) (dst := 9) (LS.of_own' hown) Try.underlying51 Try.underlying5 Try.underlying9
    have hx11 := run_str (P := Try.prog) (src := 51) (dst := 9) (LS.of_own' (own_keep O10.out hFx (by simp))) Try.underlying51 Try.underlying5 Try.underlying9
    have A11 := Lib.hid (A10.out.fr hFx (by simp) (by simp)); have B11 := Lib.hid (B10.out.fr hFx (by simp) (by simp)); have F11 := Lib.hid (F10.out.trans hFx (by simp))
    clear hown hFx A10 B10 F10
    dsimp only; refine hK _ _ ?_; clear hK K
    refine wpAny_ready (rs := [5]) (by kernel_rfl) (by simp) ?_
    refine AllReady.cons rfl (fun K hK => ?_) (AllReady.nil)
    go_simp; refine hK _ _ ?_; clear hK K
    refine wpAny_take (i := 6) (v := .bool true) rfl (by kernel_rfl) (by kernel_rfl) (by kernel_rfl) (fun _ _ _ h => h) (Or.inl ⟨by kernel_rfl, fun w => by go_simp⟩) ?_
    refine wpAny_take (i := 7) (v := .bool true) rfl (by kernel_rfl) (by kernel_rfl) (by kernel_rfl) (fun _ _ _ h => h) (Or.inl ⟨by kernel_rfl, fun w => by go_simp⟩) ?_
    refine wpAny_take (i := 8) (v := ?_) rfl (by kernel_rfl) (by kernel_rfl) (by kernel_rfl) (fun _ _ _ h => h) (Or.inl ⟨by kernel_rfl, ?_⟩) ?_; rotate_left; (intro w; go_simp; try with_reducible rfl)
    refine wpAny_take (i := 10) (v := ?_) rfl (by kernel_rfl) (by kernel_rfl) (by kernel_rfl) (fun _ _ _ h => h) (Or.inl ⟨by kernel_rfl, ?_⟩) ?_; rotate_left; (intro w; go_simp; try with_reducible rfl)
    refine wpAny_take (i := 11) (v := ?_) rfl (by kernel_rfl) (by kernel_rfl) (by kernel_rfl) (fun _ _ _ h => h) (Or.inl ⟨by kernel_rfl, ?_⟩) ?_; rotate_left; (intro w; go_simp; try with_reducible rfl)
    refine wpAny_take (i := 12) (v := .int .i64 (1 + (n : Int) + m)) rfl (by kernel_rfl) (by kernel_rfl) (by kernel_rfl) (fun _ _ _ h => h) (Or.inl ⟨by kernel_rfl, fun w => by go_simp⟩) ?_
    refine wpAny_ready (rs := [9]) (by kernel_rfl) (by simp) ?_
    refine AllReady.cons rfl (fun K hK => ?_) (AllReady.nil)
    go_simp
    refine (len_any A11.out).mono ?_; rintro e w' ⟨rfl, rfl⟩
    rw [HL.out]
    dsimp only; refine hK _ _ ?_; clear hK K
    refine wpAny_take (i := 13) (v := .bool true) rfl (by kernel_rfl) (by kernel_rfl) (by kernel_rfl) (fun _ _ _ h => h) (Or.inl ⟨by kernel_rfl, fun w => by go_simp⟩) ?_
    refine wpAny_take (i := 14) (v := .bool true) rfl (by kernel_rfl) (by kernel_rfl) (by kernel_rfl) (fun _ _ _ h => h) (Or.inl ⟨by kernel_rfl, fun w => by go_simp⟩) ?_
    refine wpAny_take (i := 15) (v := .bool true) rfl (by kernel_rfl) (by kernel_rfl) (by kernel_rfl) (fun _ _ _ h => h) (Or.inl ⟨by kernel_rfl, fun w => by go_simp⟩) ?_
    refine wpAny_take (i := 16) (v := ?_) rfl (by kernel_rfl) (by kernel_rfl) (by kernel_rfl) (fun _ _ _ h => h) (Or.inl ⟨by kernel_rfl, ?_⟩) ?_; rotate_left; (intro w; go_simp; try with_reducible rfl)
    refine wpAny_take (i := 18) (v := ?_) rfl (by kernel_rfl) (by kernel_rfl) (by kernel_rfl) (fun _ _ _ h => h) (Or.inl ⟨by kernel_rfl, ?_⟩) ?_; rotate_left; (intro w; go_simp; try with_reducible rfl)
    refine wpAny_take (i := 19) (v := ?_) rfl (by kernel_rfl) (by kernel_rfl) (by kernel_rfl) (fun _ _ _ h => h) (Or.inl ⟨by kernel_rfl, ?_⟩) ?_; rotate_left; (intro w; go_simp; try with_reducible rfl)
    refine wpAny_take (i := 20) (v := .int .i64 (1 + (n : Int) + m)) rfl (by kernel_rfl) (by kernel_rfl) (by kernel_rfl) (fun _ _ _ h => h) (Or.inl ⟨by kernel_rfl, fun w => by go_simp⟩) ?_
    refine wpAny_ready (rs := [17]) (by kernel_rfl) (by simp) ?_
    refine AllReady.cons rfl (fun K hK => ?_) (AllReady.nil)
    go_simp
    refine (len_any B11.out).mono ?_; rintro e w' ⟨rfl, rfl⟩
    rw [HL.out]
    dsimp only; refine hK _ _ ?_; clear hK K
    refine wpAny_take (i := 21) (v := .bool true) rfl (by kernel_rfl) (by kernel_rfl) (by kernel_rfl) (fun _ _ _ h => h) (Or.inl ⟨by kernel_rfl, fun w => by go_simp⟩) ?_
    refine wpAny_take (i := 22) (v := .bool true) rfl (by kernel_rfl) (by kernel_rfl) (by kernel_rfl) (fun _ _ _ h => h) (Or.inl ⟨by kernel_rfl, fun w => by go_simp⟩) ?_
    refine wpAny_take (i := 23) (v := ?_) rfl (by kernel_rfl) (by kernel_rfl) (by kernel_rfl) (fun _ _ _ h => h) (Or.inl ⟨by kernel_rfl, ?_⟩) ?_; rotate_left; (intro w; go_simp; try with_reducible rfl)
    refine wpAny_done (by kernel_rfl) ?_ _
    go_wp2_with fail
    go_ret
    exact ⟨rfl, F11.out.below (Nat.le_refl _) (by simp)⟩
  · go_simp
    refine (bytes_any B10.out).mono ?_; rintro e w11 ⟨vy, rfl, hown, hFx⟩
    have hy11 := run_str (P := Try.prog) (src := 51) (dst := 9) (LS.of_own' hown) Try.underlying51 Try.underlying5 Try.underlying9
    have hx11 := run_str (P := Try.prog) (src := 51) (dst := 9) (LS.of_own' (own_keep O10.out hFx (by simp))) Try.underlying51 Try.underlying5 Try.underlying9
    have A11 := Lib.hid (A10.out.fr hFx (by simp) (by simp)); have B11 := Lib.hid (B10.out.fr hFx (by simp) (by simp)); have F11 := Lib.hid (F10.out.trans hFx (by simp))
    clear hown hFx A10 B10 F10
    dsimp only; refine hK _ _ ?_; clear hK K
    refine wpAny_ready (rs := [2, 5]) (by kernel_rfl) (by simp) ?_
    refine AllReady.cons rfl (fun K hK => ?_) (AllReady.cons rfl (fun K hK => ?_) (AllReady.nil))
    · go_simp; refine hK _ _ ?_; clear hK K
      refine wpAny_ready (rs := [5]) (by kernel_rfl) (by simp) ?_
      refine AllReady.cons rfl (fun K hK => ?_) (AllReady.nil)
      go_simp; refine hK _ _ ?_; clear hK K
      refine wpAny_take (i := 6) (v := .bool true) rfl (by kernel_rfl) (by kernel_rfl) (by kernel_rfl) (fun _ _ _ h => h) (Or.inl ⟨by kernel_rfl, fun w => by go_simp⟩) ?_
      refine wpAny_take (i := 7) (v := .bool true) rfl (by kernel_rfl) (by kernel_rfl) (by kernel_rfl) (fun _ _ _ h => h) (Or.inl ⟨by kernel_rfl, fun w => by go_simp⟩) ?_
      refine wpAny_take (i := 8) (v := ?_) rfl (by kernel_rfl) (by kernel_rfl) (by kernel_rfl) (fun _ _ _ h => h) (Or.inl ⟨by kernel_rfl, ?_⟩) ?_; rotate_left; (intro w; go_simp; try with_reducible rfl)
      refine wpAny_take (i := 10) (v := ?_) rfl (by kernel_rfl) (by kernel_rfl) (by kernel_rfl) (fun _ _ _ h => h) (Or.inl ⟨by kernel_rfl, ?_⟩) ?_; rotate_left; (intro w; go_simp; try with_reducible rfl)
      refine wpAny_take (i := 11) (v := ?_) rfl (by kernel_rfl) (by kernel_rfl) (by kernel_rfl) (fun _ _ _ h => h) (Or.inl ⟨by kernel_rfl, ?_⟩) ?_; rotate_left; (intro w; go_simp; try with_reducible rfl)
      refine wpAny_take (i := 12) (v := .int .i64 (1 + (n : Int) + m)) rfl (by kernel_rfl) (by kernel_rfl) (by kernel_rfl) (fun _ _ _ h => h) (Or.inl ⟨by kernel_rfl, fun w => by go_simp⟩) ?_
      refine wpAny_ready (rs := [9]) (by kernel_rfl) (by simp) ?_
      refine AllReady.cons rfl (fun K hK => ?_) (AllReady.nil)
      go_simp
      refine (len_any A11.out).mono ?_; rintro e w' ⟨rfl, rfl⟩
      rw [HL.out]
      dsimp only; refine hK _ _ ?_; clear hK K
      refine wpAny_take (i := 13) (v := .bool true) rfl (by kernel_rfl) (by kernel_rfl) (by kernel_rfl) (fun _ _ _ h => h) (Or.inl ⟨by kernel_rfl, fun w => by go_simp⟩) ?_
      refine wpAny_take (i := 14) (v := .bool true) rfl (by kernel_rfl) (by kernel_rfl) (by kernel_rfl) (fun _ _ _ h => h) (Or.inl ⟨by kernel_rfl, fun w => by go_simp⟩) ?_
      refine wpAny_take (i := 15) (v := .bool true) rfl (by kernel_rfl) (by kernel_rfl) (by kernel_rfl) (fun _ _ _ h => h) (Or.inl ⟨by kernel_rfl, fun w => by go_simp⟩) ?_
      refine wpAny_take (i := 16) (v := ?_) rfl (by kernel_rfl) (by kernel_rfl) (by kernel_rfl) (fun _ _ _ h => h) (Or.inl ⟨by kernel_rfl, ?_⟩) ?_; rotate_left; (intro w; go_simp; try with_reducible rfl)
      refine wpAny_take (i := 18) (v := ?_) rfl (by kernel_rfl) (by kernel_rfl) (by kernel_rfl) (fun _ _ _ h => h) (Or.inl ⟨by kernel_rfl, ?_⟩) ?_; rotate_left; (intro w; go_simp; try with_reducible rfl)
      refine wpAny_take (i := 19) (v := ?_) rfl (by kernel_rfl) (by kernel_rfl) (by kernel_rfl) (fun _ _ _ h => h) (Or.inl ⟨by kernel_rfl, ?_⟩) ?_; rotate_left; (intro w; go_simp; try with_reducible rfl)
      refine wpAny_take (i := 20) (v := .int .i64 (1 + (n : Int) + m)) rfl (by kernel_rfl) (by kernel_rfl) (by kernel_rfl) (fun _ _ _ h => h) (Or.inl ⟨by kernel_rfl, fun w => by go_simp⟩) ?_
      refine wpAny_ready (rs := [17]) (by kernel_rfl) (by simp) ?_
      refine AllReady.cons rfl (fun K hK => ?_) (AllReady.nil)
      go_simp
      refine (len_any B11.out).mono ?_; rintro e w' ⟨rfl, rfl⟩
      rw [HL.out]
      dsimp only; refine hK _ _ ?_; clear hK K
      refine wpAny_take (i := 21) (v := .bool true) rfl (by kernel_rfl) (by kernel_rfl) (by kernel_rfl) (fun _ _ _ h => h) (Or.inl ⟨by kernel_rfl, fun w => by go_simp⟩) ?_
      refine wpAny_take (i := 22) (v := .bool true) rfl (by kernel_rfl) (by kernel_rfl) (by kernel_rfl) (fun _ _ _ h => h) (Or.inl ⟨by kernel_rfl, fun w => by go_simp⟩) ?_
      refine wpAny_take (i := 23) (v := ?_) rfl (by kernel_rfl) (by kernel_rfl) (by kernel_rfl) (fun _ _ _ h => h) (Or.inl ⟨by kernel_rfl, ?_⟩) ?_; rotate_left; (intro w; go_simp; try with_reducible rfl)
      refine wpAny_done (by kernel_rfl) ?_ _
      go_wp2_with fail
      go_ret
      exact ⟨rfl, F11.out.below (Nat.le_refl _) (by simp)⟩
    · go_simp; refine hK _ _ ?_; clear hK K
      refine wpAny_ready (rs := [2]) (by kernel_rfl) (by simp) ?_
      refine AllReady.cons rfl (fun K hK => ?_) (AllReady.nil)
      go_simp; refine hK _ _ ?_; clear hK K
      refine wpAny_take (i := 6) (v := .bool true) rfl (by kernel_rfl) (by kernel_rfl) (by kernel_rfl) (fun _ _ _ h => h) (Or.inl ⟨by kernel_rfl, fun w => by go_simp⟩) ?_
      refine wpAny_take (i := 7) (v := .bool true) rfl (by kernel_rfl) (by kernel_rfl) (by kernel_rfl) (fun _ _ _ h => h) (Or.inl ⟨by kernel_rfl, fun w => by go_simp⟩) ?_
      refine wpAny_take (i := 8) (v := ?_) rfl (by kernel_rfl) (by kernel_rfl) (by kernel_rfl) (fun _ _ _ h => h) (Or.inl ⟨by kernel_rfl, ?_⟩) ?_; rotate_left; (intro w; go_simp; try with_reducible rfl)
      refine wpAny_take (i := 10) (v := ?_) rfl (by kernel_rfl) (by kernel_rfl) (by kernel_rfl) (fun _ _ _ h => h) (Or.inl ⟨by kernel_rfl, ?_⟩) ?_; rotate_left; (intro w; go_simp; try with_reducible rfl)
      refine wpAny_take (i := 11) (v := ?_) rfl (by kernel_rfl) (by kernel_rfl) (by kernel_rfl) (fun _ _ _ h => h) (Or.inl ⟨by kernel_rfl, ?_⟩) ?_; rotate_left; (intro w; go_simp; try with_reducible rfl)
      refine wpAny_take (i := 12) (v := .int .i64 (1 + (n : Int) + m)) rfl (by kernel_rfl) (by kernel_rfl) (by kernel_rfl) (fun _ _ _ h => h) (Or.inl ⟨by kernel_rfl, fun w => by go_simp⟩) ?_
      refine wpAny_ready (rs := [9]) (by kernel_rfl) (by simp) ?_
      refine AllReady.cons rfl (fun K hK => ?_) (AllReady.nil)
      go_simp
      refine (len_any A11.out).mono ?_; rintro e w' ⟨rfl, rfl⟩
      rw [HL.out]
      dsimp only; refine hK _ _ ?_; clear hK K
      refine wpAny_take (i := 13) (v := .bool true) rfl (by kernel_rfl) (by kernel_rfl) (by kernel_rfl) (fun _ _ _ h => h) (Or.inl ⟨by kernel_rfl, fun w => by go_simp⟩) ?_
      refine wpAny_take (i := 14) (v := .bool true) rfl (by kernel_rfl) (by kernel_rfl) (by kernel_rfl) (fun _ _ _ h => h) (Or.inl ⟨by kernel_rfl, fun w => by go_simp⟩) ?_
      refine wpAny_take (i := 15) (v := .bool true) rfl (by kernel_rfl) (by kernel_rfl) (by kernel_rfl) (fun _ _ _ h => h) (Or.inl ⟨by kernel_rfl, fun w => by go_simp⟩) ?_
      refine wpAny_take (i := 16) (v := ?_) rfl (by kernel_rfl) (by kernel_rfl) (by kernel_rfl) (fun _ _ _ h => h) (Or.inl ⟨by kernel_rfl, ?_⟩) ?_; rotate_left; (intro w; go_simp; try with_reducible rfl)
      refine wpAny_take (i := 18) (v := ?_) rfl (by kernel_rfl) (by kernel_rfl) (by kernel_rfl) (fun _ _ _ h => h) (Or.inl ⟨by kernel_rfl, ?_⟩) ?_; rotate_left; (intro w; go_simp; try with_reducible rfl)
      refine wpAny_take (i := 19) (v := ?_) rfl (by kernel_rfl) (by kernel_rfl) (by kernel_rfl) (fun _ _ _ h => h) (Or.inl ⟨by kernel_rfl, ?_⟩) ?_; rotate_left; (intro w; go_simp; try with_reducible rfl)
      refine wpAny_take (i := 20) (v := .int .i64 (1 + (n : Int) + m)) rfl (by kernel_rfl) (by kernel_rfl) (by kernel_rfl) (fun _ _ _ h => h) (Or.inl ⟨by kernel_rfl, fun w => by go_simp⟩) ?_
      refine wpAny_ready (rs := [17]) (by kernel_rfl) (by simp) ?_
      refine AllReady.cons rfl (fun K hK => ?_) (AllReady.nil)
      go_simp
      refine (len_any B11.out).mono ?_; rintro e w' ⟨rfl, rfl⟩
      rw [HL.out]
      dsimp only; refine hK _ _ ?_; clear hK K
      refine wpAny_take (i := 21) (v := .bool true) rfl (by kernel_rfl) (by kernel_rfl) (by kernel_rfl) (fun _ _ _ h => h) (Or.inl ⟨by kernel_rfl, fun w => by go_simp⟩) ?_
      refine wpAny_take (i := 22) (v := .bool true) rfl (by kernel_rfl) (by kernel_rfl) (by kernel_rfl) (fun _ _ _ h => h) (Or.inl ⟨by kernel_rfl, fun w => by go_simp⟩) ?_
      refine wpAny_take (i := 23) (v := ?_) rfl (by kernel_rfl) (by kernel_rfl) (by kernel_rfl) (fun _ _ _ h => h) (Or.inl ⟨by kernel_rfl, ?_⟩) ?_; rotate_left; (intro w; go_simp; try with_reducible rfl)
      refine wpAny_done (by kernel_rfl) ?_ _
      go_wp2_with fail
      go_ret
      exact ⟨rfl, F11.out.below (Nat.le_refl _) (by simp)⟩
end Go.Proofs.Ytlfdbkdaamodnaa.Bt
