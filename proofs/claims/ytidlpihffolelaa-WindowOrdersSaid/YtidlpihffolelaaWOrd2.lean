import Derived.Test.YtidlpihffolelaaWOrd
import Derived.Test.YtidlpihffolelaaApp
import Derived.Test.YtidlpihffolelaaArr
import Derived.Test.YtidlpihffolelaaHand
import Derived.Deep.DeepCutAuto
import Derived.Deep.CutBlock
import Derived.Deep.RegionLaw
import Derived.IntWalk
namespace Go.Proofs.Ytidlpihffolelaa.Wn
open Go.RowKit Dt Go.Proofs.Ytidlpihffolelaa.Sq Go.Proofs.Ytidlpihffolelaa.Hd
set_option linter.unusedVariables false

theorem info3 : (Try.prog.info? 3).map (fun i => (i.zero, i.size, i.bytes)) = some (some (.int .i64 0), 1, 8) := by kernel_rfl
/-- the numbers as they lie in the list -/
def nums (base : Int) (L : List Nat) : List Value := L.map fun (k : Nat) => .int .i64 (base + k)
theorem nums_one (base : Int) (L : List Nat) : ∀ u ∈ nums base L, u.oneCell' = true := by
  intro u hu
  simp only [nums, List.mem_map] at hu
  obtain ⟨k, _, rfl⟩ := hu; rfl
def memF (L : List Nat) : Nat → Bool := fun k => decide (k ∈ L)
theorem memF_def (L : List Nat) (k : Nat) : memF L k = decide (k ∈ L) := rfl
theorem nums_get {base : Int} {L : List Nat} {j : Nat} (h : j < L.length) : (nums base L)[j]? = some (.int .i64 (base + (L[j] : Nat))) := by simp [nums, h]
theorem nums_len (base : Int) (L : List Nat) : (nums base L).length = L.length := by simp [nums]
def lenOf : Value → Nat | .slice _ n _ => n | _ => 0

set_option maxRecDepth 100000 in
set_option maxHeartbeats 3200000 in
theorem walk_orders (a0 : Int) (a1 : Option Addr) (len1 cap1 : Nat) (z1 : Nat → Int) (a2 : Option Addr) (len2 cap2 : Nat) (z2 : Nat → Int) (W : World) (w0 : (Lit.int .i64 a0).wf = true) (w1 : SlI .i64 W a1 len1 cap1 z1) (w2 : SlI .i64 W a2 len2 cap2 z2) :
    Calls Try.prog 9 #[.int .i64 a0, .slice a1 len1 cap1, .slice a2 len2 cap2] W fun e w' => e = .returned (.bool true) ∧ Below W.heap.size W w' := by
  obtain ⟨⟨hle, -, hre, hcells⟩, hwf⟩ := w1
  obtain ⟨⟨hle2, -, hre2, hcells2⟩, hwf2⟩ := w2
  have b1 : 0 ≤ a0 % 65536 := by omega
  have b2 : a0 % 65536 < 65536 := by omega
  have HC := Lib.hid hcells; clear hcells
  have HC2 := Lib.hid hcells2; clear hcells2
  have HW2 := Lib.hid hwf2; clear hwf2 hwf
  have hz : ∀ w, (zeroValue 40).run Try.prog w = .ok (.agg (bools 60 (fun _ => false))) w := fun _ => by kernel_rfl
  go_enter Try.func9, Try.ntmps9
  go_wp2_with fail
  have hA : HasW ((W.alloc (.cells #[.bool false, .int .i64 0, .int .u64 0] 31)).alloc (.cells #[.bool false, .int .i64 0, .int .u64 0] 31)) W.heap.size s0 :=
    (new_win W).fr ((Fr.refl [] _).alloc _) (by simp)
  have hB := new_win (W.alloc (.cells #[.bool false, .int .i64 0, .int .u64 0] 31))
  have hF : Fr [] W ((W.alloc (.cells #[.bool false, .int .i64 0, .int .u64 0] 31)).alloc (.cells #[.bool false, .int .i64 0, .int .u64 0] 31)) := ((Fr.refl [] _).alloc _).alloc _
  have hS : ((W.alloc (.cells #[.bool false, .int .i64 0, .int .u64 0] 31)).alloc (.cells #[.bool false, .int .i64 0, .int .u64 0] 31)).heap.size = W.heap.size + 2 := by simp
  simp only [World.size_alloc] at hB
  generalize (W.alloc (.cells #[.bool false, .int .i64 0, .int .u64 0] 31)).alloc (.cells #[.bool false, .int .i64 0, .int .u64 0] 31) = Wa at *
  obtain ⟨A, hAe⟩ : ∃ A, A = W.heap.size := ⟨_, rfl⟩
  obtain ⟨H, hHe⟩ : ∃ H, H = Wa.heap.size := ⟨_, rfl⟩
  have hHA : A + 2 ≤ H := by omega
  have hWA : W.heap.size ≤ A := by omega
  rw [← hAe] at hA hB
  have HAe := Lib.hid hAe; have HHe := Lib.hid hHe
  refine (pick_any _ _ _ (by decide) (by decide)).mono ?_; rintro e w' ⟨rfl, rfl⟩
  generalize a0 % 65536 = base at *
  rw [← hAe]
  clear hS hAe
  go_upto_block 0 with (fail)
  have hbk := Blk.new Wa (bools 60 (fun _ => false)) 40
  have hA1 := hA.fr ((Fr.refl [] _).alloc (.cells (bools 60 (fun _ => false)) 40)) (by simp)
  have hB1 := hB.fr ((Fr.refl [] _).alloc (.cells (bools 60 (fun _ => false)) 40)) (by simp)
  have hF1 := hF.alloc (.cells (bools 60 (fun _ => false)) 40)
  have hlt : Wa.heap.size < (Wa.alloc (.cells (bools 60 (fun _ => false)) 40)).heap.size := by simp
  rw [← hHe] at hbk hlt ⊢
  clear hHe hA hB hF
  generalize Wa.alloc (.cells (bools 60 (fun _ => false)) 40) = Wb at *
  obtain ⟨i0, hi0, hz0, hz1, hz2⟩ := info_parts info3
  go_cut [10] (fun v w1 => ∃ L : List Nat, L.length ≤ 50 ∧ L.Nodup ∧ (∀ x ∈ L, x < 60) ∧ w1.ownsRow (H + 1) 3 1 v L.length (nums base L) ∧ HasW w1 A s0 ∧ HasW w1 (A + 1) s0 ∧ Fr [] W w1 ∧ H < w1.heap.size)
  case first =>
    go_wp2_with fail
    go_loopw [10, 11] (fun v i wr => ∃ (j : Nat) (L : List Nat), j ≤ len1 ∧ j ≤ 50 ∧ i = .int .i64 j ∧ L.length ≤ j ∧ L.Nodup ∧ (∀ x ∈ L, x < 60) ∧ wr.ownsRow (H + 1) 3 1 v L.length (nums base L) ∧ Blk wr H (bools 60 (memF L)) 40 ∧ HasW wr A s0 ∧ HasW wr (A + 1) s0 ∧ Fr [] W wr) (fun _ i _ => 50 - (intOf i).toNat)
    case atStart => exact ⟨0, [], by omega, by omega, rfl, by simp, by simp, by simp, own_nil _ _ _ _, hbk.eq (bools_congr fun i _ => by simp [memF]), hA1, hB1, hF1⟩
    case round =>
      obtain ⟨j, L, hj, hj2, rfl, hLj, hnd, h60, hown, hbk, hA2, hB2, hF2⟩ := hrel
      clear hA1 hB1 hF1 hlt
      by_cases hlt : j < len1
      · obtain ⟨b, off, rfl, hlb, hc⟩ := HC.out (by omega)
        have hcj := (hF2.cell (p := ⟨b, off + j, none⟩) hlb (by simp)).trans (hc j hlt)
        clear hc
        by_cases hlt2 : j < 50
        · go_wp2_with fail
          refine (pick_any _ _ _ (by decide) (by decide)).mono ?_; rintro e w' ⟨rfl, rfl⟩
          obtain ⟨k, hk⟩ : ∃ k : Nat, z1 j % 60 = k := ⟨(z1 j % 60).toNat, by omega⟩
          have hk60 : k < 60 := by omega
          rw [hk]
          clear hk
          have hck := Blk.cell (i := k) hbk (bools_get _ hk60)
          have hfk := Blk.free hbk k
          by_cases hkL : k ∈ L
          · have e1 : memF L k = true := by simp [memF, hkL]
            rw [e1] at hck
            have HK := Lib.hid hkL; clear hkL e1
            go_wp2_with fail
            go_roundw
            case rel => exact ⟨j + 1, L, by omega, by omega, by go_num, by omega, hnd, h60, hown, hbk, hA2, hB2, hF2⟩
            case measure => simp [intOf]; omega
          · have e1 : memF L k = false := by simp [memF, hkL]
            rw [e1] at hck
            have HK := Lib.hid hkL; clear hkL e1
            go_upto_region 11 with (fail)
            have hw : IntKind.i64.wrap (base + (k : Int)) = base + (k : Int) := IntWalk.i64_in _ (by omega)
            apply wp_region_lit
            iterate 5 (refine wpList_plain rfl (fun K hK => ?_); go_simp; refine hK _ _ ?_; clear hK K)
            refine wpList_append_src _ rfl (Operand.tmp 40) (Operand.tmp 44) 28 rfl (H + 1) 3 i0 (.int .i64 0) 1 8 Try.underlying28 hi0 hz0 hz1 hz2 rfl (by decide) _ _ L.length 1 (nums base L) [.int .i64 (base + k)] rfl rfl ?c1 ?c2 ?c3 ?c4 ?c5 ?_
            case c1 => exact (own_fr hown ((Fr.refl [H] wr).setCell (.inl (by simp)) _) (by simp)).alloc _
            case c2 => exact src_blk (sz := 1) (m := 1) (by simpa using Blk.new (wr.setCell ⟨H, k, none⟩ (.bool true)) #[.int .i64 (base + k)] 3) (by simp) (by simp; rfl) 1
            case c3 => unfold maxLen; omega
            case c4 => omega
            case c5 => have := Blk.lt hbk; simp; omega
            clear hw
            intro v1 w1 hown1 hg1 hat1
            have hX : Fr [H] wr ((wr.setCell ⟨H, k, none⟩ (.bool true)).alloc (.cells #[.int .i64 (base + k)] 3)) := ((Fr.refl [H] wr).setCell (.inl (by simp)) _).alloc _
            have hY := own_fr hown hX (by simp)
            have hZ := fr_own (S := []) (hF2.trans hX (fun x hx => by simp at hx; subst hx; right; omega)) hY hg1 (by omega)
            have hbk1 := blk_own ((hbk.set k (.bool true)).alloc (.cells #[.int .i64 (base + k)] 3)) hY hg1 (by omega)
            rw [bools_set] at hbk1
            have hA3 := (hA2.fr hX (by simp; omega)).fr (fr_grown hg1) (fun hx => by simp only [Option.mem_toList] at hx; have := own_base hY hx; omega)
            have hB3 := (hB2.fr hX (by simp; omega)).fr (fr_grown hg1) (fun hx => by simp only [Option.mem_toList] at hx; have := own_base hY hx; omega)
            clear hX hY hg1 hat1 hown hbk hA2 hB2 hF2 hck hfk hcj
            go_wp2_with fail
            go_roundw
            case rel =>
              refine ⟨j + 1, L ++ [k], by omega, by omega, by go_num, by simp; omega, ?_, ?_, ?_, hbk1.eq (bools_congr fun i _ => ?_), hA3, hB3, hZ⟩
              · exact List.nodup_append.2 ⟨hnd, by simp, fun x hx y hy => by simp at hy; subst hy; intro e; exact HK.out (e ▸ hx)⟩
              · intro x hx; simp at hx; rcases hx with hx | hx
                · exact h60 x hx
                · omega
              · simpa [nums] using hown1
              · by_cases e : i = k
                · subst e; simp [memF]
                · simp [memF, e]
            case measure => simp [intOf]; omega
        · go_wp2_with fail
          go_meet
          case rel => exact ⟨L, by omega, hnd, h60, hown, hA2, hB2, hF2, Blk.lt hbk⟩
      · go_wp2_with fail
        go_meet
        case rel => exact ⟨L, by omega, hnd, h60, hown, hA2, hB2, hF2, Blk.lt hbk⟩
  case rest =>
    obtain ⟨L, hL50, hnd, h60, hown, hA2, hB2, hF2, hH2⟩ := hcut
    obtain ⟨va, vcap, rfl, hvc, hvm, hvn, hvg⟩ := own_any hown
    have HG := Lib.hid hvg; clear hvg hvn
    go_wp2_with fail
    go_loopw [48] (fun i wr => ∃ (j : Nat) (s : WS), j ≤ L.length ∧ i = .int .i64 j ∧ WInv base (L.take j) s ∧ HasW wr A s ∧ HasW wr (A + 1) s0 ∧ wr.ownsRow (H + 1) 3 1 (.slice va L.length vcap) L.length (nums base L) ∧ Fr [] W wr ∧ H < wr.heap.size) (fun i _ => L.length - (intOf i).toNat)
    case atStart => exact ⟨0, s0, by omega, rfl, winv_0 base, hA2, hB2, hown, hF2, hH2⟩
    case round =>
      obtain ⟨j, s, hj, rfl, hinv, hA3, hB3, hown, hF3, hH3⟩ := hrel
      clear hA2 hB2 hF2 hH2
      by_cases hlt : j < L.length
      · obtain ⟨g, rfl, hgb⟩ := HG.out (by omega)
        obtain ⟨k, hk⟩ : ∃ k, L[j] = k := ⟨_, rfl⟩
        have hkL : k ∈ L := hk ▸ List.getElem_mem _
        have hkn : k ∉ L.take j := by
          intro hh
          have e1 : L = L.take j ++ L[j] :: L.drop (j + 1) := by rw [← List.drop_eq_getElem_cons hlt, List.take_append_drop]
          rw [e1] at hnd
          have := (List.nodup_append.1 hnd).2.2 k hh k (by rw [hk]; simp)
          exact this rfl
        have hst := hinv.note (h60 k hkL) (fun x hx => h60 x (List.mem_of_mem_take hx)) hkn
        have hcj : wr.cell? ⟨g, j, none⟩ = some (.int .i64 (base + k)) := by rw [hown.cellAt j (by omega), nums_get hlt, hk]
        have etk : L.take j ++ [k] = L.take (j + 1) := by rw [List.take_succ_eq_append_getElem hlt, hk]
        rw [etk] at hst
        have HS1 := Lib.hid hst.1
        have HS2 := Lib.hid hst.2
        clear hst etk hkn hkL hk
        go_wp2_with fail
        refine (note_is hA3 HS1.out rfl).mono ?_; rintro e w5 ⟨rfl, hA5, fr5⟩
        have hB5 := hB3.fr fr5 (by simp)
        have hF5 := hF3.trans fr5 (fun x hx => by simp at hx; subst hx; right; omega)
        have hown5 := own_fr hown fr5 (fun x hx => by simp at hx; subst hx; omega)
        have hH5 := Nat.lt_of_lt_of_le hH3 fr5.size
        clear hA3 hB3 hF3 hown fr5 hcj hH3 hinv
        go_wp2_with fail
        go_roundw
        case rel => exact ⟨j + 1, _, by omega, by go_num, HS2.out, hA5, hB5, hown5, hF5, hH5⟩
        case measure => simp [intOf]; omega
      · have ej : L.take j = L := List.take_of_length_le (by omega)
        rw [ej] at hinv
        have HI := Lib.hid hinv; clear hinv ej
        go_upto_region 18 with (fail)
        apply wp_region_lit
        iterate 2 (refine wpList_plain rfl (fun K hK => ?_); go_simp; refine hK _ _ ?_; clear hK K)
        have hblk := Blk.new wr #[] 3
        have hF6 := hF3.alloc (.cells #[] 3)
        have hA6 := hA3.fr ((Fr.refl [] _).alloc (.cells #[] 3)) (by simp)
        have hB6 := hB3.fr ((Fr.refl [] _).alloc (.cells #[] 3)) (by simp)
        have hown6 := hown.alloc (.cells #[] 3)
        have hH6 : H < (wr.alloc (.cells #[] 3)).heap.size := by simp; omega
        obtain ⟨G, hG⟩ : ∃ G, G = wr.heap.size := ⟨_, rfl⟩
        have hGH : H < G := by omega
        have hGs : G ≤ (wr.alloc (.cells #[] 3)).heap.size := by simp; omega
        rw [← hG] at hblk ⊢
        generalize wr.alloc (.cells #[] 3) = w6 at *
        refine wpList_append_src _ rfl (Operand.tmp 58) (Operand.tmp 59) 28 rfl (H + 1) 3 i0 (.int .i64 0) 1 8 Try.underlying28 hi0 hz0 hz1 hz2 rfl (by decide) _ _ 0 L.length [] (nums base L) rfl rfl (own_empty hblk (by omega)) (own_src hown6 (nums_one base L)) (by unfold maxLen; omega) (by omega) (by omega) ?_
        intro v7 w7 hown7 hg7 hat7
        have hF7 := fr_own hF6 (own_empty (sz := 1) (base := H + 1) hblk (by omega)) hg7 (by omega)
        have hA7 := hA6.fr (fr_grown hg7) (notin_row (by omega))
        have hB7 := hB6.fr (fr_grown hg7) (notin_row (by omega))
        have hH7 := Nat.lt_of_lt_of_le hH6 hg7.size
        simp only [Nat.zero_add, List.nil_append] at hown7
        clear hg7 hat7 hF6 hA6 hB6 hown6 hH6 hblk hGs hown hA3 hB3 hF3 hG
        go_wp2_with fail
        go_loopw [14, 15] (fun v i wr => ∃ (j : Nat) (D R : List Nat) (sb : WS), i = .int .i64 j ∧ j + R.length = L.length ∧ (∀ x, x ∈ L ↔ x ∈ D ∨ x ∈ R) ∧ (∀ x ∈ D, x ∉ R) ∧ R.Nodup ∧ WInv base D sb ∧ HasW wr A s ∧ HasW wr (A + 1) sb ∧ wr.ownsRow (H + 1) 3 1 v R.length (nums base R) ∧ Fr [] W wr ∧ H < wr.heap.size) (fun v _ _ => lenOf v)
        case atStart => exact ⟨0, [], L, s0, rfl, by omega, by simp, by simp, hnd, winv_0 base, hA7, hB7, hown7, hF7, hH7⟩
        case round =>
          obtain ⟨j3, D, R, sb, rfl, hjR, hmem, hdis, hndR, hinvb, hA8, hB8, hown8, hF8, hH8⟩ := hrel
          clear hA7 hB7 hown7 hF7 hH7
          obtain ⟨ra, rcap, rfl, hrc, hrm, -, hrg⟩ := own_any hown8
          have HGR := Lib.hid hrg; clear hrg
          have HMEM := Lib.hid hmem; have HDIS := Lib.hid hdis; have HND := Lib.hid hndR; have HINV := Lib.hid hinvb
          clear hmem hdis hndR hinvb
          by_cases hR0 : 0 < R.length
          · obtain ⟨g, rfl, hgb⟩ := HGR.out hR0
            clear HGR
            go_upto_if 69 with (fail)
            go_cut [16] (fun sk w1 => ∃ kk : Nat, kk < R.length ∧ sk = .int .i64 kk ∧ wr = w1)
            case first =>
              by_cases ho : j3 < len2
              · obtain ⟨b, off, rfl, hlb, hc⟩ := HC2.out (by omega)
                have hcj := (hF8.cell (p := ⟨b, off + j3, none⟩) hlb (by simp)).trans (hc j3 ho)
                clear hc
                go_wp2_with fail
                refine (pick_any _ _ _ (by omega) (by unfold maxLen at *; omega)).mono ?_; rintro e w' ⟨rfl, rfl⟩
                obtain ⟨kk, hkk⟩ : ∃ kk : Nat, z2 j3 % (R.length : Int) = kk := ⟨(z2 j3 % (R.length : Int)).toNat, by have := Int.emod_nonneg (z2 j3) (show (R.length : Int) ≠ 0 by omega); omega⟩
                have hkk2 : kk < R.length := by have := Int.emod_lt_of_pos (z2 j3) (show 0 < (R.length : Int) by omega); omega
                rw [hkk]
                clear hkk
                go_wp2_with fail
                go_meet
                case rel => exact ⟨kk, hkk2, rfl, rfl⟩
              · go_wp2_with fail
                go_meet
                case rel => exact ⟨0, hR0, rfl, rfl⟩
            case rest =>
              obtain ⟨kk, hkk, rfl, rfl⟩ := hcut
              obtain ⟨k, hk⟩ : ∃ k, R[kk] = k := ⟨_, rfl⟩
              have hcj : wr.cell? ⟨g, kk, none⟩ = some (.int .i64 (base + k)) := by rw [hown8.cellAt kk (by omega), nums_get hkk, hk]
              have hkR : k ∈ R := hk ▸ List.getElem_mem _
              have hkD : k ∉ D := fun h => HDIS.out k h hkR
              have hst := HINV.out.note (h60 k ((HMEM.out k).2 (.inr hkR))) (fun x hx => h60 x ((HMEM.out x).2 (.inl hx))) hkD
              have HS1 := Lib.hid hst.1
              have HS2 := Lib.hid hst.2
              have HK := Lib.hid hk; have HKR := Lib.hid hkR
              clear hst hkR hkD hk
              go_wp2_with fail
              refine (note_is hB8 HS1.out rfl).mono ?_; rintro e w9 ⟨rfl, hB9, fr9⟩
              have hA9 := hA8.fr fr9 (by simp)
              have hF9 := hF8.trans fr9 (fun x hx => by simp at hx; subst hx; right; omega)
              have hown9 := own_fr hown8 fr9 (fun x hx => by simp at hx; subst hx; omega)
              have hH9 := Nat.lt_of_lt_of_le hH8 fr9.size
              clear hA8 hB8 hF8 hown8 fr9 hcj hH8
              go_upto_region 27 with (fail)
              have hblk := Blk.new w9.drew #[] 3
              obtain ⟨G2, hG2⟩ : ∃ G2, G2 = w9.heap.size := ⟨_, rfl⟩
              have hgG : g < G2 := by rw [hG2]; exact own_lt hown9 rfl
              have hHG2 : H < G2 := by omega
              have hown10 : (w9.drew.alloc (.cells #[] 3)).ownsRow (H + 1) 3 1 (.slice (some ⟨g, 0, none⟩) R.length rcap) R.length (nums base R) := World.ownsRow.alloc (w := w9.drew) hown9 _
              have hF10 : Fr [] W (w9.drew.alloc (.cells #[] 3)) := hF9.drew.alloc _
              have hFa : Fr [] w9 (w9.drew.alloc (.cells #[] 3)) := (Fr.refl [] w9).drew.alloc _
              have hA10 := hA9.fr hFa (by simp)
              have hB10 := hB9.fr hFa (by simp)
              have HS3 := Lib.hid (own_empty (sz := 1) (base := G2) hblk (by rw [hG2]; exact Nat.le_refl _))
              have hs4 := own_piece (lo := 0) (hi := kk) hown10 (Nat.zero_le _) (by omega) (nums_one base R) ⟨g, 0, none⟩ (fun _ => by simp) rcap
              simp only [Nat.sub_zero, List.drop_zero, Nat.mul_one] at hs4
              have HS4 := Lib.hid hs4
              have hsz10 : (w9.drew.alloc (.cells #[] 3)).heap.size = G2 + 1 := by rw [hG2, World.size_alloc]; rfl
              have HM1 := Lib.hid (show 0 + kk ≤ maxLen by unfold maxLen; omega)
              have HM2 := Lib.hid (show (0 + kk) * 8 ≤ 140737488355328 by omega)
              have HM3 := Lib.hid (show G2 ≤ (w9.drew.alloc (.cells #[] 3)).heap.size by omega)
              have HM4 := Lib.hid (show 0 + kk + (R.length - (kk + 1)) ≤ maxLen by unfold maxLen; omega)
              have HM5 := Lib.hid (show (0 + kk + (R.length - (kk + 1))) * 8 ≤ 140737488355328 by omega)
              have hA' : ∃ A', (if rcap = kk + 1 then some (⟨g, 0, none⟩ : Addr) else some ⟨g, kk + 1, none⟩) = some A' ∧ (kk + 1 < R.length → A' = ⟨g, (kk + 1) * 1, none⟩) := by
                by_cases h : rcap = kk + 1
                · exact ⟨_, by rw [if_pos h], fun h' => by omega⟩
                · exact ⟨_, by rw [if_neg h], fun _ => by simp⟩
              obtain ⟨A', hA1', hA2'⟩ := hA'
              have HA2 := Lib.hid hA2'; clear hA2'
              have HOWN := Lib.hid hown10
              have HF := Lib.hid hF10; have HHA := Lib.hid hA10; have HHB := Lib.hid hB10; have HSZ := Lib.hid hsz10
              have HG2 := Lib.hid hG2
              have hwr : IntKind.i64.wrap ((kk : Int) + 1) = (kk : Int) + 1 := IntWalk.i64_in _ (by omega)
              have hp0 : (0 : Int) ≤ (kk : Int) + 1 := by omega
              have hp1 : (kk : Int) + 1 ≤ (R.length : Int) := by omega
              have hp2 : ((kk : Int) + 1).toNat = kk + 1 := by omega
              have hp3 : (kk : Int) ≤ (rcap : Int) := by omega
              have HB9 := Lib.hid hB9; have HF9 := Lib.hid hF9
              clear hown10 hF10 hA10 hB10 hsz10 hFa hA9 hB9 hF9 hown9 hblk hs4
              rw [hG2] at *
              go_region_law (first
                | (refine step_append_src _ rfl (Operand.tmp 83) (Operand.tmp 86) 28 rfl w9.heap.size 3 i0 (.int .i64 0) 1 8 Try.underlying28 hi0 hz0 hz1 hz2 rfl (by decide) (.slice (some ⟨w9.heap.size, 0, none⟩) 0 0) (.slice (some ⟨g, 0, none⟩) kk rcap) 0 kk [] ((nums base R).take kk) rfl rfl HS3.out HS4.out HM1.out HM2.out HM3.out ?_; intro v1 w11 hown11 hg11 hat11; have HO11 := Lib.hid hown11; have HG11 := Lib.hid hg11; have hs5 := own_piece (lo := kk + 1) (hi := R.length) (own_keep HOWN.out (fr_grown hg11) (fun x hx => by cases hx; exact notin_row (by show w9.heap.size ≠ g; omega))) (by omega) (Nat.le_refl _) (nums_one base R) A' HA2.out (rcap - (kk + 1)); have HS5 := Lib.hid hs5; clear hown11 hg11 hat11 hs5)
                | (refine step_append_src _ rfl (Operand.tmp 87) (Operand.tmp 91) 28 rfl w9.heap.size 3 i0 (.int .i64 0) 1 8 Try.underlying28 hi0 hz0 hz1 hz2 rfl (by decide) v1 (.slice (some A') (R.length - (kk + 1)) (rcap - (kk + 1))) (0 + kk) (R.length - (kk + 1)) ([] ++ (nums base R).take kk) _ rfl rfl HO11.out HS5.out HM4.out HM5.out (Nat.le_trans HM3.out HG11.out.size) ?_; intro v2 w12 hown12 hg12 hat12; have HO12 := Lib.hid hown12; have HG12 := Lib.hid hg12; clear hown12 hg12 hat12))
              have hg11 := HG11.out
              have hg12 := HG12.out
              have hF12 := fr_own (fr_own HF.out HS3.out hg11 (by omega)) HO11.out hg12 (by omega)
              have hA12 := (HHA.out.fr (fr_grown hg11) (notin_row (by omega))).fr (fr_grown hg12) (notin_own HO11.out (by omega))
              have hB12 := (HHB.out.fr (fr_grown hg11) (notin_row (by omega))).fr (fr_grown hg12) (notin_own HO11.out (by omega))
              have hs11 : w9.heap.size + 1 ≤ w11.heap.size := by have := hg11.size; simpa using this
              have hH12 : H < w12.heap.size := Nat.lt_of_lt_of_le (by omega) hg12.size
              obtain ⟨q1, q2, q3, q4⟩ := erase_facts hkk HND.out
              have eL : [] ++ (nums base R).take kk ++ ((nums base R).drop ((kk + 1) * 1)).take ((R.length - (kk + 1)) * 1) = nums base (R.eraseIdx kk) := by
                rw [Nat.mul_one, Nat.mul_one, List.nil_append, List.take_of_length_le (l := (nums base R).drop (kk + 1)) (by rw [List.length_drop, nums_len]; exact Nat.le_refl _)]
                rw [List.eraseIdx_eq_take_drop_succ]; simp [nums]
              have hown12 := own_weaken (base' := H + 1) HO12.out (by omega)
              rw [eL] at hown12
              have en : 0 + kk + (R.length - (kk + 1)) = (R.eraseIdx kk).length := by omega
              rw [en] at hown12
              have HEN := Lib.hid en; have HQ1 := Lib.hid q1; have HQ2 := Lib.hid q2; have HQ3 := Lib.hid q3
              have hq4 : (R.eraseIdx kk).length < R.length := by omega
              have hq5 : (R.eraseIdx kk).length + 1 ≤ R.length := by omega
              have hq6 : R.length ≤ (R.eraseIdx kk).length + 1 := by omega
              clear hg11 hg12 eL en q1 q2 q3 q4 hA1'
              go_wp2_with fail
              go_roundw
              case rel =>
                refine ⟨j3 + 1, D ++ [k], R.eraseIdx kk, _, by go_num, by omega, fun x => ?_, fun x hx => ?_, HQ3.out, HS2.out, hA12, hB12, hown12, hF12, hH12⟩
                · rw [HMEM.out x, HQ1.out x, HK.out]; simp only [List.mem_append, List.mem_singleton]
                  constructor
                  · rintro (h | h | h)
                    · exact .inl (.inl h)
                    · exact .inl (.inr h)
                    · exact .inr h
                  · rintro ((h | h) | h)
                    · exact .inl h
                    · exact .inr (.inl h)
                    · exact .inr (.inr h)
                · simp only [List.mem_append, List.mem_singleton] at hx
                  rcases hx with hx | hx
                  · intro h; exact HDIS.out x hx ((HQ1.out x).2 (.inr h))
                  · subst hx; rw [← HK.out]; exact HQ2.out
              case measure =>
                obtain ⟨va2, vc2, rfl, -⟩ := own_any hown12
                simp [lenOf]; omega
          · have hRn : R = [] := List.eq_nil_of_length_eq_zero (by omega)
            have hsame : s.any = sb.any ∧ s.last = sb.last ∧ ∀ i, i < 64 → s.f i = sb.f i := HI.out.same HINV.out (fun x => by rw [HMEM.out x, hRn]; simp)
            have HSA := Lib.hid hsame
            clear hsame hRn
            go_wp2_with fail
            refine (known7_any _).mono ?_; rintro e w13 ⟨rfl, fr13⟩
            have hA13 := hA8.fr fr13 (by simp)
            have hB13 := hB8.fr fr13 (by simp)
            have hF13 := hF8.trans fr13 (by simp)
            clear hA8 hB8 hown8 hF8 fr13
            go_wp2_with fail
            refine (wany_any _ _ _ hA13).mono ?_; rintro e w' ⟨rfl, rfl⟩
            go_wp2_with fail
            refine (wany_any _ _ _ hB13).mono ?_; rintro e w' ⟨rfl, rfl⟩
            rw [HSA.out.1]
            go_wp2_with fail
            refine (wlast_any _ _ _ hA13).mono ?_; rintro e w' ⟨rfl, rfl⟩
            go_wp2_with fail
            refine (wlast_any _ _ _ hB13).mono ?_; rintro e w' ⟨rfl, rfl⟩
            rw [HSA.out.2.1]
            go_wp2_with fail
            refine (wbits_any _ _ _ hA13).mono ?_; rintro e w' ⟨v, rfl, hv, rfl⟩
            go_wp2_with fail
            refine (wbits_any _ _ _ hB13).mono ?_; rintro e w' ⟨v', rfl, hv', rfl⟩
            obtain rfl := hv.unique hv' HSA.out.2.2
            clear hv hv'
            go_wp2_with fail
            go_ret
            exact ⟨rfl, hF13.below (Nat.le_refl _) (by simp)⟩
end Go.Proofs.Ytidlpihffolelaa.Wn
