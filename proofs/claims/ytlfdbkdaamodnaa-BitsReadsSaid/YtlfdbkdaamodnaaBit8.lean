import Derived.Test.YtlfdbkdaamodnaaBit7
import Derived.Test.YtlfdbkdaamodnaaBit4
import Derived.Test.YtlfdbkdaamodnaaSlField
import Derived.StillTailTactics
import Derived.Deep.RegionHeld3
namespace Go.Proofs.Ytlfdbkdaamodnaa.Bt
open Go.RowKit Dt Go.Proofs.Ytlfdbkdaamodnaa.Hd
set_option linter.unusedVariables false
set_option linter.unusedSimpArgs false

theorem own_blk {w : World} {base g b : Nat} {v : Value} {n e sz : Nat} {xs : List Value} {cs : Array Value} {t : TypeId} (h : w.ownsRow base e sz v n xs) (hb : Blk w b cs t) (ht : e ≠ t) : ∀ g, v.ownBlock = some g → g ≠ b := by
  intro g hg hgb
  subst hgb
  rcases h.2 with ⟨rfl, _⟩ | ⟨g', cap, cur, rfl, hb', hh, _⟩
  · simp [Value.ownBlock] at hg
  · simp [Value.ownBlock] at hg
    subst hg
    unfold Blk at hb
    rw [hb] at hh
    simp at hh
    exact ht hh.2.symm
theorem own_own {w : World} {base base' : Nat} {v v' : Value} {n n' e e' sz sz' : Nat} {xs xs' : List Value} (h : w.ownsRow base e sz v n xs) (h' : w.ownsRow base' e' sz' v' n' xs') (ht : e ≠ e') : ∀ g, v.ownBlock = some g → v'.ownBlock ≠ some g := by
  intro g hg hg'
  rcases h'.2 with ⟨rfl, _⟩ | ⟨g', cap, cur, rfl, hb', hh, _⟩
  · simp [Value.ownBlock] at hg'
  · simp [Value.ownBlock] at hg'
    subst hg'
    exact own_blk (g := 0) h (show Blk w g' cur e' from hh) ht g' hg rfl
theorem blk_blk {w : World} {b b' : Nat} {cs cs' : Array Value} {t t' : TypeId} (h : Blk w b cs t) (h' : Blk w b' cs' t') (ht : t ≠ t') : b ≠ b' := by
  rintro rfl
  unfold Blk at h h'
  rw [h] at h'
  simp at h'
  exact ht h'.2

/-- the writer is left alone by the reference's laying, and the other way -/
theorem HasWr.by_ref {w w' : World} {B A B' C n : Nat} {bv rv : Value} {bs L : List Nat} (h : HasWr w B A bv bs n) (k : HasRB w B' C rv L) (hF : Fr (C :: rv.ownBlock.toList) w w') : HasWr w' B A bv bs n := by
  refine h.fr hF ?_ ?_
  · simp only [List.mem_cons, Option.mem_toList, not_or]
    exact ⟨blk_blk h.blk k.blk (by decide), fun hx => own_blk (g := 0) k.own h.blk (by decide) _ hx rfl⟩
  · intro g hg
    simp only [List.mem_cons, Option.mem_toList, not_or]
    exact ⟨own_blk (g := 0) h.own k.blk (by decide) g hg, own_own h.own k.own (by decide) g hg⟩
theorem HasRB.fr {S : List Nat} {w w' : World} {B A : Nat} {bv : Value} {L : List Nat} (h : HasRB w B A bv L) (hf : Fr S w w') (hA : A ∉ S) (hS : ∀ g, bv.ownBlock = some g → g ∉ S) : HasRB w' B A bv L :=
  ⟨hf.blk h.blk hA, own_keep h.own hf hS, h.base, Nat.le_trans h.room hf.size⟩
theorem HasRB.by_wr {w w' : World} {B A B' C n : Nat} {bv rv : Value} {bs L : List Nat} (k : HasRB w B' C rv L) (h : HasWr w B A bv bs n) (hF : Fr (A :: bv.ownBlock.toList) w w') : HasRB w' B' C rv L := by
  refine k.fr hF ?_ ?_
  · simp only [List.mem_cons, Option.mem_toList, not_or]
    exact ⟨blk_blk k.blk h.blk (by decide), fun hx => own_blk (g := 0) h.own k.blk (by decide) _ hx rfl⟩
  · intro g hg
    simp only [List.mem_cons, Option.mem_toList, not_or]
    exact ⟨own_blk (g := 0) k.own h.blk (by decide) g hg, own_own k.own h.own (by decide) g hg⟩
theorem wrap_back (v : Nat) (h : v < 18446744073709551616) : IntKind.u64.wrap (IntKind.i64.wrap (v : Int)) = (v : Int) := by
  rw [IntKind.wrap_u64, IntKind.wrap_i64]
  rcases Nat.lt_or_ge v 9223372036854775808 with h1 | h1
  · have : ((v : Int) + 9223372036854775808) % 18446744073709551616 = (v : Int) + 9223372036854775808 := Int.emod_eq_of_lt (by omega) (by omega)
    rw [this, Int.add_sub_cancel]; exact Int.emod_eq_of_lt (by omega) (by omega)
  · have : ((v : Int) + 9223372036854775808) % 18446744073709551616 = (v : Int) - 9223372036854775808 := by
      rw [← Int.sub_emod_right]
      have e : (v : Int) + 9223372036854775808 - 18446744073709551616 = (v : Int) - 9223372036854775808 := by omega
      rw [e]; exact Int.emod_eq_of_lt (by omega) (by omega)
    rw [this]
    have e : (v : Int) - 9223372036854775808 - 9223372036854775808 = (v : Int) - 18446744073709551616 := by omega
    rw [e, Int.sub_emod_right]; exact Int.emod_eq_of_lt (by omega) (by omega)
theorem bitsOf_lt (v k : Nat) : ∀ x ∈ bitsOf v k, x < 2 := by
  induction k with
  | zero => intro x hx; simp [bitsOf] at hx
  | succ k ih =>
    intro x hx
    simp only [bitsOf, List.mem_cons] at hx
    rcases hx with rfl | hx
    · exact Nat.mod_lt _ (by decide)
    · exact ih x hx

set_option maxRecDepth 100000 in
set_option maxHeartbeats 3200000 in
theorem walk_lays (a0 : Option Addr) (len0 cap0 : Nat) (z0 : Nat → Int × Int × Bool) (W : World) (s0 : SlField W a0 len0 cap0 z0) :
    Calls Try.prog 9 #[.slice a0 len0 cap0] W fun e w' => e = .returned (.bool true) ∧ Below W.heap.size W w' := by
  have hr := s0.1.reach
  have hl := s0.1.le
  have HS := Lib.hid s0; clear s0
  go_enter Try.func9, Try.ntmps9
  go_wp2_with fail
  refine (new_any _).mono ?_; rintro e w1 ⟨rfl, hA1, hF1⟩
  go_wp2_with fail
  refine (known_any _).mono ?_; rintro e w2 ⟨rfl, hF2⟩
  have hA2 := hA1.fr hF2 (by simp) (by simp [Value.ownBlock])
  have hF3 := hF1.trans hF2 (by simp)
  have hsz := hF1.size
  clear hA1 hF1 hF2
  go_upto_region 6 with (fail)
  have hC : HasRB (w2.alloc (.cells #[.slice none 0 0] 58)) (w2.heap.size + 1) w2.heap.size (.slice none 0 0) [] := ⟨Blk.new w2 _ _, own_nil _ _ _ _, by omega, by simp⟩
  have hA := hA2.fr ((Fr.refl [] w2).alloc (.cells #[.slice none 0 0] 58)) (by simp) (by simp)
  have hF := hF3.alloc (.cells #[.slice none 0 0] 58)
  have hCW : W.heap.size ≤ w2.heap.size := hF3.size
  obtain ⟨A, hAW⟩ : ∃ A, A = W.heap.size := ⟨_, rfl⟩
  rw [← hAW] at hA ⊢
  clear hA2 hF3
  generalize w2.heap.size = C at *
  generalize w2.alloc (.cells #[.slice none 0 0] 58) = w3 at *
  have HAW := Lib.hid hAW; have HCW := Lib.hid hCW; have HA0 := Lib.hid hA; have HC0 := Lib.hid hC; have HF0 := Lib.hid hF
  clear hAW hCW hA hC hF hsz
  go_loopw [5] (fun iv wr => ∃ (j : Nat) (L : List Nat) (bv rv : Value), (j ≤ len0 ∧ j ≤ 30 ∧ L.length ≤ 64 * j) ∧ iv = .int .i64 j ∧ HasWr wr (A + 1) A bv (pk L) L.length ∧ HasRB wr (C + 1) C rv L ∧ (∀ x ∈ L, x < 2) ∧ Fr [] W wr) (fun iv _ => 30 - (intOf iv).toNat)
  case atStart => exact ⟨0, [], _, _, by simp, rfl, HA0.out, HC0.out, by simp, HF0.out⟩
  case round =>
    obtain ⟨j, L, bv, rv, hjb, rfl, hA, hC, hL, hF⟩ := hrel
    have HA := Lib.hid hA; have HC := Lib.hid hC; have HL := Lib.hid hL; have HF := Lib.hid hF
    clear hA hC hL hF HA0 HC0 HF0
    by_cases hlt : j < len0
    · obtain ⟨b, off, rfl, hlb, hcs⟩ := HS.out.1.cells (by omega)
      obtain ⟨s1, s2, s3⟩ := hcs j hlt
      rw [← Nat.add_assoc] at s2 s3
      have hv := (HS.out.2 j hlt).1
      have v0 := u64_lo hv
      have v1 := u64_hi hv
      have r1 := (HF.out.cell (p := ⟨b, off + j * 3, none⟩) hlb (by simp)).trans s1
      have r2 := (HF.out.cell (p := ⟨b, off + j * 3 + 1, none⟩) hlb (by simp)).trans s2
      have r3 := (HF.out.cell (p := ⟨b, off + j * 3 + 2, none⟩) hlb (by simp)).trans s3
      obtain ⟨v, hvv⟩ : ∃ v : Nat, (z0 j).1 = v := ⟨(z0 j).1.toNat, by omega⟩
      obtain ⟨nn, hnn⟩ : ∃ nn, (z0 j).2.1 = nn := ⟨_, rfl⟩
      obtain ⟨sg, hsg⟩ : ∃ sg, (z0 j).2.2 = sg := ⟨_, rfl⟩
      rw [hvv] at r1 v1; rw [hnn] at r2; rw [hsg] at r3
      clear s1 s2 s3 hcs hvv hnn hsg hv v0
      have q0 : 0 ≤ (j : Int) := by omega
      have q1 : (j : Int) < (len0 : Int) := by omega
      have hsz := sizeS_bd nn
      obtain ⟨k, hk⟩ : ∃ k : Nat, (k : Int) = max 0 (min (sizeS nn) 64) := ⟨(max 0 (min (sizeS nn) 64)).toNat, by omega⟩
      have hk2 : (k : Int) = max 0 (min 64 (sizeS nn)) := by omega
      have hk64 : k ≤ 64 := by omega
      have HKK := Lib.hid hk; have HKK2 := Lib.hid hk2
      clear hk hk2
      by_cases hlt2 : j < 30
      · have q2 : (j : Int) < 30 := by omega
        have hLs : L.length + 64 ≤ 1099511627776 := by omega
        obtain ⟨L', hL'⟩ : ∃ L', L' = L ++ bitsOf v k := ⟨_, rfl⟩
        have hl' : L'.length ≤ 64 * (j + 1) := by rw [hL', List.length_append, bitsOf_len]; omega
        have hb' : ∀ x ∈ L', x < 2 := by
          rw [hL']; intro x hx
          rcases List.mem_append.1 hx with h | h
          · exact HL.out x h
          · exact bitsOf_lt v k x h
        have HL' := Lib.hid hL'; have HB' := Lib.hid hb'
        clear hL' hb'
        cases sg with
        | true =>
          have HWU := Lib.hid (show IntKind.u64.wrap (wrap64 (v : Int)) = (v : Int) by rw [← IntWalk.i64_left]; exact wrap_back v (by omega))
          go_wp2_with fail
          refine wp_region_still_tail 13 (by kernel_rfl) (by kernel_rfl) ?_
          simp only [List.take_succ_cons, List.take_zero, List.drop_succ_cons, List.drop_zero]
          repeat still_step
          refine wpStill_step (fun K hK => ?_)
          go_simp
          refine ⟨_, (size_any _ _).mono (fun e w' h => ⟨h.1, h.2.symm⟩), hK _ ?_⟩
          clear hK K
          repeat still_step
          (try refine wpStill_nil ?_)
          change wpList _ _ _ _ _ wr.drew
          have HD := Lib.hid (HA.out.fr (Fr.refl [] wr).drew (by simp) (by simp))
          have HE := Lib.hid (HC.out.fr (Fr.refl [] wr).drew (by simp) (by simp))
          have HG := Lib.hid HF.out.drew
          have r1' : wr.drew.cell? ⟨b, off + j * 3, none⟩ = some (.int .u64 v) := r1
          have r2' : wr.drew.cell? ⟨b, off + j * 3 + 1, none⟩ = some (.int .i64 nn) := r2
          have hbd := hlb
          clear HA HC HF r1 r2 r3
          generalize wr.drew = w4 at *
          go_wp2_with fail
          refine (Signed_any HD.out HWU.out HKK.out hLs).mono ?_; rintro e w5 ⟨rfl, bv', hA5, hF5, hat5⟩
          rw [← HL'.out] at hA5
          have hC5 := HE.out.by_wr HD.out hF5
          have hFF5 := HG.out.trans hF5 (fun x hx => by
            right
            simp only [List.mem_cons, Option.mem_toList] at hx
            have := HAW.out
            rcases hx with rfl | hx
            · omega
            · have := own_base HD.out.own hx; omega)
          have hnA : b ∉ A :: bv.ownBlock.toList := by
            have := HAW.out
            simp only [List.mem_cons, Option.mem_toList, not_or]
            exact ⟨by omega, fun hx => by have := own_base HD.out.own hx; omega⟩
          have hbl := Nat.lt_of_lt_of_le hbd HG.out.size
          have r1 := (hF5.cell (p := ⟨b, off + j * 3, none⟩) hbl hnA).trans r1'
          have r2 := (hF5.cell (p := ⟨b, off + j * 3 + 1, none⟩) hbl hnA).trans r2'
          have HA5 := Lib.hid hA5; have HC5 := Lib.hid hC5; have HF5 := Lib.hid hFF5
          clear hA5 hC5 hF5 hFF5 hat5 HD HE HG r1' r2' hnA hbl hbd
          go_wp2_with fail
          refine wp_region_still_tail 13 (by kernel_rfl) (by kernel_rfl) ?_
          simp only [List.take_succ_cons, List.take_zero, List.drop_succ_cons, List.drop_zero]
          repeat still_step
          refine wpStill_step (fun K hK => ?_)
          go_simp
          refine ⟨_, (size_any _ _).mono (fun e w' h => ⟨h.1, h.2.symm⟩), hK _ ?_⟩
          clear hK K
          repeat still_step
          (try refine wpStill_nil ?_)
          change wpList _ _ _ _ _ w5.drew
          have HA4 := Lib.hid (HA5.out.fr (Fr.refl [] w5).drew (by simp) (by simp))
          have HC4 := Lib.hid (HC5.out.fr (Fr.refl [] w5).drew (by simp) (by simp))
          have HF4 := Lib.hid HF5.out.drew
          clear HA5 HC5 HF5 r1 r2
          generalize w5.drew = w6 at *
          go_wp2_with fail
          refine (rSigned_any HC4.out HWU.out HKK2.out hLs).mono ?_; rintro e w7 ⟨rfl, rv', hC7, hF7, hat7⟩
          rw [← HL'.out] at hC7
          have hA7 := HA4.out.by_ref HC4.out hF7
          have hFF7 := HF4.out.trans hF7 (fun x hx => by
            right
            simp only [List.mem_cons, Option.mem_toList] at hx
            have := HCW.out
            rcases hx with rfl | hx
            · omega
            · have := own_base HC4.out.own hx; omega)
          have HA7 := Lib.hid hA7; have HC7 := Lib.hid hC7; have HF7 := Lib.hid hFF7
          clear hA7 hC7 hF7 hFF7 hat7 HA4 HC4 HF4
          go_wp2_with fail
          obtain ⟨P, hP⟩ : ∃ P, pk L' = P := ⟨_, rfl⟩
          obtain ⟨adc, capc, rfl, -, -, -, -⟩ := own_any HC7.out.own
          have HP := Lib.hid hP
          rw [hP] at HA7
          clear hP
          refine wp_region_any (by kernel_rfl) ?_
          try (change wpAny _ _ _ _ _ _ _ (World.drew _))
          have HA := Lib.hid (HA7.out.fr (Fr.refl [] w7).drew (by simp) (by simp))
          have HB := Lib.hid (HC7.out.fr (Fr.refl [] w7).drew (by simp) (by simp))
          have HF := Lib.hid HF7.out.drew
          clear HA7 HC7 HF7
          generalize w7.drew = w9 at *
          refine wpAny_take (i := 0) (v := ?_) rfl (by kernel_rfl) (by kernel_rfl) (by kernel_rfl) (fun _ _ _ h => h) (Or.inl ⟨by kernel_rfl, ?_⟩) ?_; rotate_left; (intro w; go_simp; try with_reducible rfl)
          refine wpAny_take (i := 3) (v := ?_) rfl (by kernel_rfl) (by kernel_rfl) (by kernel_rfl) (fun _ _ _ h => h) (Or.inl ⟨by kernel_rfl, ?_⟩) ?_; rotate_left; (intro w; go_simp; try with_reducible rfl)
          refine wpAny_ready (rs := [1]) (by kernel_rfl) (by simp) ?_
          refine AllReady.cons rfl (fun K hK => ?_) (AllReady.nil)
          go_simp
          refine (bytes_any HA.out).mono ?_; rintro e w10 ⟨vx, rfl, hown, hFx⟩
          have hx10 := run_str (P := Try.prog) (src := 51) (dst := 9) (LS.of_own' hown) Try.underlying51 Try.underlying5 Try.underlying9
          have O10 := Lib.hid hown; have A10 := Lib.hid (HA.out.fr hFx (by simp) (by simp)); have B10 := Lib.hid (HB.out.fr hFx (by simp) (by simp)); have F10 := Lib.hid (HF.out.trans hFx (by simp))
          clear hown hFx HA HB HF
          dsimp only; refine hK _ _ ?_; clear hK K
          have d10 : w10.cell? ⟨C, 0, none⟩ = some (.slice adc L'.length capc) := B10.out.blk.cell (i := 0) rfl
          refine wpAny_of_held (S := fun w' => (convert 51 9 vx).run Try.prog w' = .ok (.string (strOf P)) w' ∧ w'.cell? ⟨C, 0, none⟩ = some (.slice adc L'.length capc)) _ _ _ _ ?_
          try simp only [List.getElem_toArray, List.getElem_cons_succ, List.getElem_cons_zero, Act.put, List.setIfInBounds_toArray, List.set_cons_zero, List.set_cons_succ]
          have hS := And.intro hx10 d10
          clear d10
          refine wpAnyH_take (i := 2) (v := ?_) rfl (by kernel_rfl) (by kernel_rfl) (by kernel_rfl) (fun _ _ _ h => h) (Or.inl ⟨by kernel_rfl, ?_⟩) hS ?_; rotate_left; (intro w hSw; obtain ⟨hSw1, hSw2⟩ := hSw; go_simp; try with_reducible rfl)
          try simp only [List.getElem_toArray, List.getElem_cons_succ, List.getElem_cons_zero, Act.put, List.setIfInBounds_toArray, List.set_cons_zero, List.set_cons_succ]
          clear hS hx10
          refine wpAnyH_ready (rs := [4]) (by kernel_rfl) (by simp) ?_
          refine AllReadyH.cons rfl (fun K hK => ?_) AllReadyH.nil
          go_simp
          refine (rBytes_any B10.out HB'.out (by omega)).mono ?_; rintro e w11 ⟨vy, rfl, hown, hFx⟩
          rw [HP.out] at hown
          have hy11 := run_str (P := Try.prog) (src := 51) (dst := 9) (LS.of_own' hown) Try.underlying51 Try.underlying5 Try.underlying9
          have hx11 := run_str (P := Try.prog) (src := 51) (dst := 9) (LS.of_own' (own_keep O10.out hFx (by simp))) Try.underlying51 Try.underlying5 Try.underlying9
          have A11 := Lib.hid (A10.out.fr hFx (by simp) (by simp)); have B11 := Lib.hid (B10.out.fr hFx (by simp) (by simp)); have F11 := Lib.hid (F10.out.trans hFx (by simp))
          have d11 : w11.cell? ⟨C, 0, none⟩ = some (.slice adc L'.length capc) := B11.out.blk.cell (i := 0) rfl
          clear hown hFx A10 B10 F10
          have hS' := And.intro hx11 d11
          (try dsimp only); refine hK.out _ _ hS' (fun _ => ?_); clear hK K
          try simp only [List.getElem_toArray, List.getElem_cons_succ, List.getElem_cons_zero, Act.put, List.setIfInBounds_toArray, List.set_cons_zero, List.set_cons_succ]
          have hS := hS'
          clear hS'
          refine wpAnyH_ready (rs := [5]) (by kernel_rfl) (by simp) ?_
          refine AllReadyH.cons rfl (fun K hK => ?_) AllReadyH.nil
          go_simp
          (try dsimp only); refine hK.out _ _ hS (fun _ => ?_); clear hK K
          try simp only [List.getElem_toArray, List.getElem_cons_succ, List.getElem_cons_zero, Act.put, List.setIfInBounds_toArray, List.set_cons_zero, List.set_cons_succ]
          refine wpAnyH_take (i := 6) (v := .bool false) rfl (by kernel_rfl) (by kernel_rfl) (by kernel_rfl) (fun _ _ _ h => h) (Or.inl ⟨by kernel_rfl, fun w _ => by go_simp⟩) hS ?_
          try simp only [List.getElem_toArray, List.getElem_cons_succ, List.getElem_cons_zero, Act.put, List.setIfInBounds_toArray, List.set_cons_zero, List.set_cons_succ]
          refine wpAnyH_take (i := 7) (v := .bool false) rfl (by kernel_rfl) (by kernel_rfl) (by kernel_rfl) (fun _ _ _ h => h) (Or.inl ⟨by kernel_rfl, fun w _ => by go_simp⟩) hS ?_
          try simp only [List.getElem_toArray, List.getElem_cons_succ, List.getElem_cons_zero, Act.put, List.setIfInBounds_toArray, List.set_cons_zero, List.set_cons_succ]
          refine wpAnyH_take (i := 8) (v := ?_) rfl (by kernel_rfl) (by kernel_rfl) (by kernel_rfl) (fun _ _ _ h => h) (Or.inl ⟨by kernel_rfl, ?_⟩) hS ?_; rotate_left; (intro w hSw; obtain ⟨hSw1, hSw2⟩ := hSw; go_simp; try with_reducible rfl)
          try simp only [List.getElem_toArray, List.getElem_cons_succ, List.getElem_cons_zero, Act.put, List.setIfInBounds_toArray, List.set_cons_zero, List.set_cons_succ]
          refine wpAnyH_take (i := 10) (v := ?_) rfl (by kernel_rfl) (by kernel_rfl) (by kernel_rfl) (fun _ _ _ h => h) (Or.inl ⟨by kernel_rfl, ?_⟩) hS ?_; rotate_left; (intro w hSw; obtain ⟨hSw1, hSw2⟩ := hSw; go_simp; try with_reducible rfl)
          try simp only [List.getElem_toArray, List.getElem_cons_succ, List.getElem_cons_zero, Act.put, List.setIfInBounds_toArray, List.set_cons_zero, List.set_cons_succ]
          refine wpAnyH_take (i := 11) (v := ?_) rfl (by kernel_rfl) (by kernel_rfl) (by kernel_rfl) (fun _ _ _ h => h) (Or.inl ⟨by kernel_rfl, ?_⟩) hS ?_; rotate_left; (intro w hSw; obtain ⟨hSw1, hSw2⟩ := hSw; go_simp; try with_reducible rfl)
          try simp only [List.getElem_toArray, List.getElem_cons_succ, List.getElem_cons_zero, Act.put, List.setIfInBounds_toArray, List.set_cons_zero, List.set_cons_succ]
          refine wpAnyH_take (i := 12) (v := ?_) rfl (by kernel_rfl) (by kernel_rfl) (by kernel_rfl) (fun _ _ _ h => h) (Or.inl ⟨by kernel_rfl, ?_⟩) hS ?_; rotate_left; (intro w hSw; obtain ⟨hSw1, hSw2⟩ := hSw; go_simp; try with_reducible rfl)
          try simp only [List.getElem_toArray, List.getElem_cons_succ, List.getElem_cons_zero, Act.put, List.setIfInBounds_toArray, List.set_cons_zero, List.set_cons_succ]
          refine wpAnyH_take (i := 13) (v := ?_) rfl (by kernel_rfl) (by kernel_rfl) (by kernel_rfl) (fun _ _ _ h => h) (Or.inl ⟨by kernel_rfl, ?_⟩) hS ?_; rotate_left; (intro w hSw; obtain ⟨hSw1, hSw2⟩ := hSw; go_simp; try with_reducible rfl)
          try simp only [List.getElem_toArray, List.getElem_cons_succ, List.getElem_cons_zero, Act.put, List.setIfInBounds_toArray, List.set_cons_zero, List.set_cons_succ]
          refine wpAnyH_take (i := 14) (v := ?_) rfl (by kernel_rfl) (by kernel_rfl) (by kernel_rfl) (fun _ _ _ h => h) (Or.inl ⟨by kernel_rfl, ?_⟩) hS ?_; rotate_left; (intro w hSw; obtain ⟨hSw1, hSw2⟩ := hSw; go_simp; try with_reducible rfl)
          try simp only [List.getElem_toArray, List.getElem_cons_succ, List.getElem_cons_zero, Act.put, List.setIfInBounds_toArray, List.set_cons_zero, List.set_cons_succ]
          refine wpAnyH_ready (rs := [9]) (by kernel_rfl) (by simp) ?_
          refine AllReadyH.cons rfl (fun K hK => ?_) AllReadyH.nil
          go_simp
          refine (len_any A11.out).mono ?_; rintro e w' ⟨rfl, rfl⟩
          (try dsimp only); refine hK.out _ _ hS (fun _ => ?_); clear hK K
          try simp only [List.getElem_toArray, List.getElem_cons_succ, List.getElem_cons_zero, Act.put, List.setIfInBounds_toArray, List.set_cons_zero, List.set_cons_succ]
          refine wpAnyH_take (i := 15) (v := .bool false) rfl (by kernel_rfl) (by kernel_rfl) (by kernel_rfl) (fun _ _ _ h => h) (Or.inl ⟨by kernel_rfl, fun w _ => by go_simp⟩) hS ?_
          try simp only [List.getElem_toArray, List.getElem_cons_succ, List.getElem_cons_zero, Act.put, List.setIfInBounds_toArray, List.set_cons_zero, List.set_cons_succ]
          refine wpAnyH_take (i := 16) (v := ?_) rfl (by kernel_rfl) (by kernel_rfl) (by kernel_rfl) (fun _ _ _ h => h) (Or.inl ⟨by kernel_rfl, ?_⟩) hS ?_; rotate_left; (intro w hSw; obtain ⟨hSw1, hSw2⟩ := hSw; go_simp; try with_reducible rfl)
          try simp only [List.getElem_toArray, List.getElem_cons_succ, List.getElem_cons_zero, Act.put, List.setIfInBounds_toArray, List.set_cons_zero, List.set_cons_succ]
          refine wpAnyH_done (by kernel_rfl) ?_ _
          clear hS hx11 hy11 d11
          go_wp2_with fail
          go_roundw
          case rel => exact ⟨j + 1, L', bv', .slice adc L'.length capc, ⟨by omega, by omega, hl'⟩, by go_num, by rw [HP.out]; exact A11.out, B11.out, HB'.out, F11.out⟩
          case measure => simp [intOf]; omega
        | false =>
          go_wp2_with fail
          refine wp_region_still_tail 12 (by kernel_rfl) (by kernel_rfl) ?_
          simp only [List.take_succ_cons, List.take_zero, List.drop_succ_cons, List.drop_zero]
          repeat still_step
          refine wpStill_step (fun K hK => ?_)
          go_simp
          refine ⟨_, (size_any _ _).mono (fun e w' h => ⟨h.1, h.2.symm⟩), hK _ ?_⟩
          clear hK K
          repeat still_step
          (try refine wpStill_nil ?_)
          change wpList _ _ _ _ _ wr.drew
          have HD := Lib.hid (HA.out.fr (Fr.refl [] wr).drew (by simp) (by simp))
          have HE := Lib.hid (HC.out.fr (Fr.refl [] wr).drew (by simp) (by simp))
          have HG := Lib.hid HF.out.drew
          have r1' : wr.drew.cell? ⟨b, off + j * 3, none⟩ = some (.int .u64 v) := r1
          have r2' : wr.drew.cell? ⟨b, off + j * 3 + 1, none⟩ = some (.int .i64 nn) := r2
          have hbd := hlb
          clear HA HC HF r1 r2 r3
          generalize wr.drew = w4 at *
          go_wp2_with fail
          refine (Put_any HD.out (by omega) HKK.out hLs).mono ?_; rintro e w5 ⟨rfl, bv', hA5, hF5, hat5⟩
          rw [← HL'.out] at hA5
          have hC5 := HE.out.by_wr HD.out hF5
          have hFF5 := HG.out.trans hF5 (fun x hx => by
            right
            simp only [List.mem_cons, Option.mem_toList] at hx
            have := HAW.out
            rcases hx with rfl | hx
            · omega
            · have := own_base HD.out.own hx; omega)
          have hnA : b ∉ A :: bv.ownBlock.toList := by
            have := HAW.out
            simp only [List.mem_cons, Option.mem_toList, not_or]
            exact ⟨by omega, fun hx => by have := own_base HD.out.own hx; omega⟩
          have hbl := Nat.lt_of_lt_of_le hbd HG.out.size
          have r1 := (hF5.cell (p := ⟨b, off + j * 3, none⟩) hbl hnA).trans r1'
          have r2 := (hF5.cell (p := ⟨b, off + j * 3 + 1, none⟩) hbl hnA).trans r2'
          have HA5 := Lib.hid hA5; have HC5 := Lib.hid hC5; have HF5 := Lib.hid hFF5
          clear hA5 hC5 hF5 hFF5 hat5 HD HE HG r1' r2' hnA hbl hbd
          go_wp2_with fail
          refine wp_region_still_tail 12 (by kernel_rfl) (by kernel_rfl) ?_
          simp only [List.take_succ_cons, List.take_zero, List.drop_succ_cons, List.drop_zero]
          repeat still_step
          refine wpStill_step (fun K hK => ?_)
          go_simp
          refine ⟨_, (size_any _ _).mono (fun e w' h => ⟨h.1, h.2.symm⟩), hK _ ?_⟩
          clear hK K
          repeat still_step
          (try refine wpStill_nil ?_)
          change wpList _ _ _ _ _ w5.drew
          have HA4 := Lib.hid (HA5.out.fr (Fr.refl [] w5).drew (by simp) (by simp))
          have HC4 := Lib.hid (HC5.out.fr (Fr.refl [] w5).drew (by simp) (by simp))
          have HF4 := Lib.hid HF5.out.drew
          clear HA5 HC5 HF5 r1 r2
          generalize w5.drew = w6 at *
          go_wp2_with fail
          refine (rPut_any HC4.out (by omega) HKK2.out hLs).mono ?_; rintro e w7 ⟨rfl, rv', hC7, hF7, hat7⟩
          rw [← HL'.out] at hC7
          have hA7 := HA4.out.by_ref HC4.out hF7
          have hFF7 := HF4.out.trans hF7 (fun x hx => by
            right
            simp only [List.mem_cons, Option.mem_toList] at hx
            have := HCW.out
            rcases hx with rfl | hx
            · omega
            · have := own_base HC4.out.own hx; omega)
          have HA7 := Lib.hid hA7; have HC7 := Lib.hid hC7; have HF7 := Lib.hid hFF7
          clear hA7 hC7 hF7 hFF7 hat7 HA4 HC4 HF4
          go_wp2_with fail
          obtain ⟨P, hP⟩ : ∃ P, pk L' = P := ⟨_, rfl⟩
          obtain ⟨adc, capc, rfl, -, -, -, -⟩ := own_any HC7.out.own
          have HP := Lib.hid hP
          rw [hP] at HA7
          clear hP
          refine wp_region_any (by kernel_rfl) ?_
          try (change wpAny _ _ _ _ _ _ _ (World.drew _))
          have HA := Lib.hid (HA7.out.fr (Fr.refl [] w7).drew (by simp) (by simp))
          have HB := Lib.hid (HC7.out.fr (Fr.refl [] w7).drew (by simp) (by simp))
          have HF := Lib.hid HF7.out.drew
          clear HA7 HC7 HF7
          generalize w7.drew = w9 at *
          refine wpAny_take (i := 0) (v := ?_) rfl (by kernel_rfl) (by kernel_rfl) (by kernel_rfl) (fun _ _ _ h => h) (Or.inl ⟨by kernel_rfl, ?_⟩) ?_; rotate_left; (intro w; go_simp; try with_reducible rfl)
          refine wpAny_take (i := 3) (v := ?_) rfl (by kernel_rfl) (by kernel_rfl) (by kernel_rfl) (fun _ _ _ h => h) (Or.inl ⟨by kernel_rfl, ?_⟩) ?_; rotate_left; (intro w; go_simp; try with_reducible rfl)
          refine wpAny_ready (rs := [1]) (by kernel_rfl) (by simp) ?_
          refine AllReady.cons rfl (fun K hK => ?_) (AllReady.nil)
          go_simp
          refine (bytes_any HA.out).mono ?_; rintro e w10 ⟨vx, rfl, hown, hFx⟩
          have hx10 := run_str (P := Try.prog) (src := 51) (dst := 9) (LS.of_own' hown) Try.underlying51 Try.underlying5 Try.underlying9
          have O10 := Lib.hid hown; have A10 := Lib.hid (HA.out.fr hFx (by simp) (by simp)); have B10 := Lib.hid (HB.out.fr hFx (by simp) (by simp)); have F10 := Lib.hid (HF.out.trans hFx (by simp))
          clear hown hFx HA HB HF
          dsimp only; refine hK _ _ ?_; clear hK K
          have d10 : w10.cell? ⟨C, 0, none⟩ = some (.slice adc L'.length capc) := B10.out.blk.cell (i := 0) rfl
          refine wpAny_of_held (S := fun w' => (convert 51 9 vx).run Try.prog w' = .ok (.string (strOf P)) w' ∧ w'.cell? ⟨C, 0, none⟩ = some (.slice adc L'.length capc)) _ _ _ _ ?_
          try simp only [List.getElem_toArray, List.getElem_cons_succ, List.getElem_cons_zero, Act.put, List.setIfInBounds_toArray, List.set_cons_zero, List.set_cons_succ]
          have hS := And.intro hx10 d10
          clear d10
          refine wpAnyH_take (i := 2) (v := ?_) rfl (by kernel_rfl) (by kernel_rfl) (by kernel_rfl) (fun _ _ _ h => h) (Or.inl ⟨by kernel_rfl, ?_⟩) hS ?_; rotate_left; (intro w hSw; obtain ⟨hSw1, hSw2⟩ := hSw; go_simp; try with_reducible rfl)
          try simp only [List.getElem_toArray, List.getElem_cons_succ, List.getElem_cons_zero, Act.put, List.setIfInBounds_toArray, List.set_cons_zero, List.set_cons_succ]
          clear hS hx10
          refine wpAnyH_ready (rs := [4]) (by kernel_rfl) (by simp) ?_
          refine AllReadyH.cons rfl (fun K hK => ?_) AllReadyH.nil
          go_simp
          refine (rBytes_any B10.out HB'.out (by omega)).mono ?_; rintro e w11 ⟨vy, rfl, hown, hFx⟩
          rw [HP.out] at hown
          have hy11 := run_str (P := Try.prog) (src := 51) (dst := 9) (LS.of_own' hown) Try.underlying51 Try.underlying5 Try.underlying9
          have hx11 := run_str (P := Try.prog) (src := 51) (dst := 9) (LS.of_own' (own_keep O10.out hFx (by simp))) Try.underlying51 Try.underlying5 Try.underlying9
          have A11 := Lib.hid (A10.out.fr hFx (by simp) (by simp)); have B11 := Lib.hid (B10.out.fr hFx (by simp) (by simp)); have F11 := Lib.hid (F10.out.trans hFx (by simp))
          have d11 : w11.cell? ⟨C, 0, none⟩ = some (.slice adc L'.length capc) := B11.out.blk.cell (i := 0) rfl
          clear hown hFx A10 B10 F10
          have hS' := And.intro hx11 d11
          (try dsimp only); refine hK.out _ _ hS' (fun _ => ?_); clear hK K
          try simp only [List.getElem_toArray, List.getElem_cons_succ, List.getElem_cons_zero, Act.put, List.setIfInBounds_toArray, List.set_cons_zero, List.set_cons_succ]
          have hS := hS'
          clear hS'
          refine wpAnyH_ready (rs := [5]) (by kernel_rfl) (by simp) ?_
          refine AllReadyH.cons rfl (fun K hK => ?_) AllReadyH.nil
          go_simp
          (try dsimp only); refine hK.out _ _ hS (fun _ => ?_); clear hK K
          try simp only [List.getElem_toArray, List.getElem_cons_succ, List.getElem_cons_zero, Act.put, List.setIfInBounds_toArray, List.set_cons_zero, List.set_cons_succ]
          refine wpAnyH_take (i := 6) (v := .bool false) rfl (by kernel_rfl) (by kernel_rfl) (by kernel_rfl) (fun _ _ _ h => h) (Or.inl ⟨by kernel_rfl, fun w _ => by go_simp⟩) hS ?_
          try simp only [List.getElem_toArray, List.getElem_cons_succ, List.getElem_cons_zero, Act.put, List.setIfInBounds_toArray, List.set_cons_zero, List.set_cons_succ]
          refine wpAnyH_take (i := 7) (v := .bool false) rfl (by kernel_rfl) (by kernel_rfl) (by kernel_rfl) (fun _ _ _ h => h) (Or.inl ⟨by kernel_rfl, fun w _ => by go_simp⟩) hS ?_
          try simp only [List.getElem_toArray, List.getElem_cons_succ, List.getElem_cons_zero, Act.put, List.setIfInBounds_toArray, List.set_cons_zero, List.set_cons_succ]
          refine wpAnyH_take (i := 8) (v := ?_) rfl (by kernel_rfl) (by kernel_rfl) (by kernel_rfl) (fun _ _ _ h => h) (Or.inl ⟨by kernel_rfl, ?_⟩) hS ?_; rotate_left; (intro w hSw; obtain ⟨hSw1, hSw2⟩ := hSw; go_simp; try with_reducible rfl)
          try simp only [List.getElem_toArray, List.getElem_cons_succ, List.getElem_cons_zero, Act.put, List.setIfInBounds_toArray, List.set_cons_zero, List.set_cons_succ]
          refine wpAnyH_take (i := 10) (v := ?_) rfl (by kernel_rfl) (by kernel_rfl) (by kernel_rfl) (fun _ _ _ h => h) (Or.inl ⟨by kernel_rfl, ?_⟩) hS ?_; rotate_left; (intro w hSw; obtain ⟨hSw1, hSw2⟩ := hSw; go_simp; try with_reducible rfl)
          try simp only [List.getElem_toArray, List.getElem_cons_succ, List.getElem_cons_zero, Act.put, List.setIfInBounds_toArray, List.set_cons_zero, List.set_cons_succ]
          refine wpAnyH_take (i := 11) (v := ?_) rfl (by kernel_rfl) (by kernel_rfl) (by kernel_rfl) (fun _ _ _ h => h) (Or.inl ⟨by kernel_rfl, ?_⟩) hS ?_; rotate_left; (intro w hSw; obtain ⟨hSw1, hSw2⟩ := hSw; go_simp; try with_reducible rfl)
          try simp only [List.getElem_toArray, List.getElem_cons_succ, List.getElem_cons_zero, Act.put, List.setIfInBounds_toArray, List.set_cons_zero, List.set_cons_succ]
          refine wpAnyH_take (i := 12) (v := ?_) rfl (by kernel_rfl) (by kernel_rfl) (by kernel_rfl) (fun _ _ _ h => h) (Or.inl ⟨by kernel_rfl, ?_⟩) hS ?_; rotate_left; (intro w hSw; obtain ⟨hSw1, hSw2⟩ := hSw; go_simp; try with_reducible rfl)
          try simp only [List.getElem_toArray, List.getElem_cons_succ, List.getElem_cons_zero, Act.put, List.setIfInBounds_toArray, List.set_cons_zero, List.set_cons_succ]
          refine wpAnyH_take (i := 13) (v := ?_) rfl (by kernel_rfl) (by kernel_rfl) (by kernel_rfl) (fun _ _ _ h => h) (Or.inl ⟨by kernel_rfl, ?_⟩) hS ?_; rotate_left; (intro w hSw; obtain ⟨hSw1, hSw2⟩ := hSw; go_simp; try with_reducible rfl)
          try simp only [List.getElem_toArray, List.getElem_cons_succ, List.getElem_cons_zero, Act.put, List.setIfInBounds_toArray, List.set_cons_zero, List.set_cons_succ]
          refine wpAnyH_take (i := 14) (v := ?_) rfl (by kernel_rfl) (by kernel_rfl) (by kernel_rfl) (fun _ _ _ h => h) (Or.inl ⟨by kernel_rfl, ?_⟩) hS ?_; rotate_left; (intro w hSw; obtain ⟨hSw1, hSw2⟩ := hSw; go_simp; try with_reducible rfl)
          try simp only [List.getElem_toArray, List.getElem_cons_succ, List.getElem_cons_zero, Act.put, List.setIfInBounds_toArray, List.set_cons_zero, List.set_cons_succ]
          refine wpAnyH_ready (rs := [9]) (by kernel_rfl) (by simp) ?_
          refine AllReadyH.cons rfl (fun K hK => ?_) AllReadyH.nil
          go_simp
          refine (len_any A11.out).mono ?_; rintro e w' ⟨rfl, rfl⟩
          (try dsimp only); refine hK.out _ _ hS (fun _ => ?_); clear hK K
          try simp only [List.getElem_toArray, List.getElem_cons_succ, List.getElem_cons_zero, Act.put, List.setIfInBounds_toArray, List.set_cons_zero, List.set_cons_succ]
          refine wpAnyH_take (i := 15) (v := .bool false) rfl (by kernel_rfl) (by kernel_rfl) (by kernel_rfl) (fun _ _ _ h => h) (Or.inl ⟨by kernel_rfl, fun w _ => by go_simp⟩) hS ?_
          try simp only [List.getElem_toArray, List.getElem_cons_succ, List.getElem_cons_zero, Act.put, List.setIfInBounds_toArray, List.set_cons_zero, List.set_cons_succ]
          refine wpAnyH_take (i := 16) (v := ?_) rfl (by kernel_rfl) (by kernel_rfl) (by kernel_rfl) (fun _ _ _ h => h) (Or.inl ⟨by kernel_rfl, ?_⟩) hS ?_; rotate_left; (intro w hSw; obtain ⟨hSw1, hSw2⟩ := hSw; go_simp; try with_reducible rfl)
          try simp only [List.getElem_toArray, List.getElem_cons_succ, List.getElem_cons_zero, Act.put, List.setIfInBounds_toArray, List.set_cons_zero, List.set_cons_succ]
          refine wpAnyH_done (by kernel_rfl) ?_ _
          clear hS hx11 hy11 d11
          go_wp2_with fail
          go_roundw
          case rel => exact ⟨j + 1, L', bv', .slice adc L'.length capc, ⟨by omega, by omega, hl'⟩, by go_num, by rw [HP.out]; exact A11.out, B11.out, HB'.out, F11.out⟩
          case measure => simp [intOf]; omega
      · have q2 : ¬ (j : Int) < 30 := by omega
        clear r1 r2 r3
        go_wp2_with fail
        go_ret
        exact ⟨rfl, HF.out.below (Nat.le_refl _) (by simp)⟩
    · have q2 : ¬ (j : Int) < (len0 : Int) := by omega
      go_wp2_with fail
      go_ret
      exact ⟨rfl, HF.out.below (Nat.le_refl _) (by simp)⟩
end Go.Proofs.Ytlfdbkdaamodnaa.Bt
