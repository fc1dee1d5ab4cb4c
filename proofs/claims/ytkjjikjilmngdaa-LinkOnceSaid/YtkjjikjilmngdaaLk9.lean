/- chapter 16: LinkOnce's walk. -/
import Derived.Test.YtkjjikjilmngdaaLkQ
import Derived.Test.YtkjjikjilmngdaaLk7
import Derived.Test.YtkjjikjilmngdaaArr
namespace Go.Proofs.Ytkjjikjilmngdaa.Lk
open Go.RowKit Dt Go.Proofs.Ytkjjikjilmngdaa.Hd Go.Proofs.Ytkjjikjilmngdaa.Wn Go.Proofs.Ytkjjikjilmngdaa.Sq Go.Proofs.Ytkjjikjilmngdaa.Mt
set_option linter.unusedVariables false
set_option linter.unusedSimpArgs false

theorem infP : (Try.prog.info? 38).map (fun i => (i.zero, i.size, i.bytes)) = some (some (.agg #[.int .i64 0, .int .i64 0, .int .i64 0, .int .i64 0, .bool false, .int .u64 0, .int .i64 0, .int .i64 0, .slice none 0 0, .int .i64 0, .slice none 0 0, .int .i64 0, .int .i64 0]), 13, 136) := by kernel_rfl
theorem infB : (Try.prog.info? 4).map (fun i => (i.zero, i.size, i.bytes)) = some (some (.bool false), 1, 1) := by kernel_rfl
/-- the cells of a greeting with a number -/
def pkc (k : Nat) : List Value := [.int .i64 1, .int .i64 0, .int .i64 k, .int .i64 0, .bool false, .int .u64 0, .int .i64 0, .int .i64 0, .slice none 0 0, .int .i64 0, .slice none 0 0, .int .i64 0, .int .i64 0]
def pks (n : Nat) : List Value := (List.range n).flatMap pkc
theorem pks_succ (n : Nat) : pks (n + 1) = pks n ++ pkc n := by unfold pks; rw [List.range_succ, List.flatMap_append]; simp
theorem pks_len : ∀ n, (pks n).length = n * 13
  | 0 => rfl
  | n + 1 => by rw [pks_succ, List.length_append, pks_len n]; simp [pkc]; omega
theorem pks_get {j : Nat} (hj : j < 13) : ∀ {n t : Nat}, t < n → (pks n)[t * 13 + j]? = (pkc t)[j]?
  | 0, _, h => by omega
  | n + 1, t, h => by
    rw [pks_succ]
    rcases Nat.lt_or_ge t n with h1 | h1
    · rw [List.getElem?_append_left (by rw [pks_len]; omega)]; exact pks_get hj h1
    · have : t = n := by omega
      subst this
      rw [List.getElem?_append_right (by rw [pks_len]; omega), pks_len]
      congr 1; omega
theorem made_bools (n : Nat) : madeCells #[.bool false] n = bools n fun _ => false := by
  apply Array.ext
  · simp [madeCells, bools]
  · intro i h1 h2
    simp [madeCells, bools, Nat.mod_one]
theorem pkc_one (k : Nat) : ∀ u ∈ pkc k, u.oneCell' = true := fun u hu => by
  simp [pkc] at hu
  rcases hu with rfl | rfl | rfl | rfl | rfl | rfl | rfl | rfl | rfl | rfl | rfl <;> rfl
set_option maxRecDepth 100000 in
set_option maxHeartbeats 12800000 in
theorem walk_once (a0 : Int) (a1 : Option Addr) (len1 cap1 : Nat) (z1 : Nat → Int) (a2 : Option Addr) (len2 cap2 : Nat) (z2 : Nat → Bool) (W : World) (w0 : (Lit.int .i64 a0).wf = true) (s1 : SlI .i64 W a1 len1 cap1 z1) (s2 : SlB W a2 len2 cap2 z2) :
    Calls Try.prog 3 #[.int .i64 a0, .slice a1 len1 cap1, .slice a2 len2 cap2] W fun e w' => e = .returned (.bool true) ∧ Below W.heap.size W w' := by
  obtain ⟨n, hn⟩ : ∃ n : Nat, 1 + a0 % 30 = n := ⟨(1 + a0 % 30).toNat, by omega⟩
  have hn30 : n ≤ 30 := by omega
  have hn1 : 1 ≤ n := by omega
  have HN := Lib.hid hn
  clear hn
  obtain ⟨⟨h1le, -, h1re, h1cells⟩, h1wf⟩ := s1
  obtain ⟨h2le, -, h2re, h2cells⟩ := s2
  have H1 := Lib.hid h1cells; have H2 := Lib.hid h2cells
  clear h1cells h2cells h1wf
  obtain ⟨i0, hi0, hz0, hz1, hz2⟩ := info_parts infP
  obtain ⟨j0, hj0, hy0, hy1, hy2⟩ := info_parts infB
  have hmk : ∀ w : World, (Instr.makeSlice 23 (.int .i64 (n : Int)) (.int .i64 (n : Int))).run Try.prog w = .ok (.slice (some ⟨w.heap.size, 0, none⟩) n n) (w.alloc (.cells (bools n fun _ => false) 4)) := fun w => by
    have h := run_makeSlice (P := Try.prog) w 23 4 j0 _ Try.underlying23 hj0 hy0 .i64 .i64 (n : Int) (n : Int) (by omega) (Int.le_refl _) (by rw [hy1]; omega) (by rw [hy2]; omega) (by omega)
    rw [h, hy1, Int.toNat_natCast, Nat.mul_one, ← made_bools]; rfl
  have HMK := Lib.hid hmk
  clear hmk
  go_enter Try.func3, Try.ntmps3
  go_wp2_with fail
  have hA := (HasL.new W).fr ((Fr.refl [] (W.alloc (.cells #[.int .i64 0, .slice none 0 0, .bool false, .int .i64 0, .int .u64 0, .int .i64 0, .float .f64 0, .float .f64 0] 32))).alloc (.cells #[.int .i64 0, .slice none 0 0, .bool false, .int .i64 0, .int .u64 0, .int .i64 0, .float .f64 0, .float .f64 0] 32)) (by simp) (by simp)
  have hB := HasL.new (W.alloc (.cells #[.int .i64 0, .slice none 0 0, .bool false, .int .i64 0, .int .u64 0, .int .i64 0, .float .f64 0, .float .f64 0] 32))
  rw [show (W.alloc (.cells #[.int .i64 0, .slice none 0 0, .bool false, .int .i64 0, .int .u64 0, .int .i64 0, .float .f64 0, .float .f64 0] 32)).heap.size = W.heap.size + 1 by simp] at hB
  have hF := ((Fr.refl [] W).alloc (.cells #[.int .i64 0, .slice none 0 0, .bool false, .int .i64 0, .int .u64 0, .int .i64 0, .float .f64 0, .float .f64 0] 32)).alloc (.cells #[.int .i64 0, .slice none 0 0, .bool false, .int .i64 0, .int .u64 0, .int .i64 0, .float .f64 0, .float .f64 0] 32)
  generalize (W.alloc (.cells #[.int .i64 0, .slice none 0 0, .bool false, .int .i64 0, .int .u64 0, .int .i64 0, .float .f64 0, .float .f64 0] 32)).alloc (.cells #[.int .i64 0, .slice none 0 0, .bool false, .int .i64 0, .int .u64 0, .int .i64 0, .float .f64 0, .float .f64 0] 32) = w1 at *
  obtain ⟨A, hAe⟩ : ∃ A, W.heap.size = A := ⟨_, rfl⟩
  rw [hAe] at hA hB ⊢
  have HAE := Lib.hid hAe
  clear hAe
  refine (pick_any _ _ _ (by decide) (by decide)).mono ?_; rintro e w' ⟨rfl, rfl⟩
  go_wp2_with fail
  rw [HN.out]
  go_loopw [9, 10] (fun sv iv wr => ∃ (k : Nat) (fp : Option Nat), k ≤ n ∧ iv = .int .i64 k ∧ HasL wr A fp k s0 (qn k) (0, 0, 0) ∧ HasL wr (A + 1) none 0 s0 [] (0, 0, 0) ∧ wr.ownsRow A 38 13 sv k (pks k) ∧ (∀ g, fp = some g → A ≤ g) ∧ Fr [] W wr) (fun _ iv _ => n - (intOf iv).toNat)
  case atStart => exact ⟨0, none, Nat.zero_le _, rfl, hA, hB, own_nil _ _ _ _, by simp, hF⟩
  case round =>
    obtain ⟨k, fp, hk, rfl, hL, hB, ho, hfp, hFr⟩ := hrel
    by_cases hlt : k < n
    · have q1 : (k : Int) < n := by omega
      have HL := Lib.hid hL; have HB := Lib.hid hB; have HO := Lib.hid ho; have HFP := Lib.hid hfp; have HFR := Lib.hid hFr
      clear hL hB ho hfp hFr hA hF
      go_wp2_with fail
      refine (send_q HL.out (by omega) (pk0 1)).mono ?_
      rintro e w2 ⟨fp2, rfl, hL2, hfp2, hF2⟩
      have hge2 := HFR.out.size
      have HL2 := Lib.hid hL2; have HFP2 := Lib.hid (fun g (hg : fp2 = some g) => show A ≤ g from by have := hfp2 g hg; have := HAE.out; omega)
      have HB2 := Lib.hid (HB.out.fr hF2 (by
        simp only [List.mem_cons, Option.mem_toList, not_or]
        exact ⟨by omega, fun h => HL.out.apartL HB.out h⟩) (by simp))
      have HO2 := Lib.hid (own_keep HO.out hF2 (fun g hg => by
        simp only [List.mem_cons, Option.mem_toList, not_or]
        obtain ⟨vs, wv, x1, x2, x3, x4⟩ := HL.out.ex
        exact ⟨fun e => own_blk (g := 0) HO.out x1 (by decide) g hg e, fun e => own_own HO.out x3 (by decide) g hg (x4.trans e)⟩))
      have HF2 := Lib.hid (HFR.out.trans hF2 (fun x hx => .inr (by
        simp only [List.mem_cons, Option.mem_toList] at hx
        rw [HAE.out]
        rcases hx with rfl | hx
        · exact Nat.le_refl _
        · exact HFP.out _ hx)))
      clear hL2 hfp2 hF2 HL HFP HFR HB HO
      dsimp only [Pk.v, pk0]
      go_step
      iterate 1 (refine wpList_plain rfl (fun K hK => ?_); go_simp; refine hK _ _ ?_; clear hK K)
      have hnb := Blk.new w2 (pkc k).toArray 38
      have hF4 := (Fr.refl [] w2).alloc (.cells (pkc k).toArray 38)
      have ho4 := own_fr (S := []) HO2.out hF4 (by simp)
      have hA24 : A ≤ (w2.alloc (.cells (pkc k).toArray 38)).heap.size := by have h1 := HF2.out.size; have h2 := hF4.size; have h3 := HAE.out; omega
      refine wpList_append_src _ rfl (Operand.tmp 25) (Operand.tmp 29) 34 rfl A 38 i0 _ 13 136 Try.underlying34 hi0 hz0 hz1 hz2 rfl (by decide) u9 (.slice (some ⟨w2.heap.size, 0, none⟩) 1 1) k 1 (pks k) (pkc k) rfl (by kernel_rfl) ho4 (src_blk hnb (by simp [pkc]) (by simpa using pkc_one k) 1) (by unfold maxLen; omega) (by omega) hA24 ?_
      intro v5 w5 ho5 hg5 hat5
      have hF5 := fr_own (HF2.out.trans hF4 (by simp)) ho4 hg5 (by rw [HAE.out]; exact Nat.le_refl _)
      have hfg := fr_grown hg5
      rw [← pks_succ] at ho5
      have hLL := HL2.out.fr hF4 (by simp) (by simp)
      have hBB := HB2.out.fr hF4 (by simp) (by simp)
      have hL5 := hLL.fr hfg (fun hx => by
        obtain ⟨vs, wv, x1, x2, x3, x4⟩ := hLL.ex
        exact own_notin ho4 x1 (by decide) hx) (fun g hg hx => by
        obtain ⟨vs, wv, x1, x2, x3, x4⟩ := hLL.ex
        simp only [Option.mem_toList] at hx
        exact own_own ho4 x3 (by decide) g hx (x4.trans hg))
      have hB5 := hBB.fr hfg (fun hx => by
        obtain ⟨vs, wv, x1, x2, x3, x4⟩ := hBB.ex
        exact own_notin ho4 x1 (by decide) hx) (by simp)
      have HO5 := Lib.hid ho5; have HF5 := Lib.hid hF5; have HL5 := Lib.hid hL5; have HB5 := Lib.hid hB5
      clear hnb hF4 ho4 hA24 ho5 hg5 hat5 hF5 hfg hLL hBB hL5 hB5
      go_wp2_with fail
      go_roundw
      case rel => exact ⟨k + 1, fp2, by omega, by go_num, HL5.out, HB5.out, HO5.out, HFP2.out, HF5.out⟩
      case measure => simp [intOf]; omega
    · have hkn : k = n := by omega
      subst hkn
      have q1 : ¬ (k : Int) < k := by omega
      have hmk := HMK.out
      have HL := Lib.hid hL; have HB := Lib.hid hB; have HO := Lib.hid ho; have HFP := Lib.hid hfp; have HFR := Lib.hid hFr
      clear hL hB ho hfp hFr hA hF
      go_wp2_with fail
      have hC := Blk.new wr (bools k fun _ => false) 4
      have hFn := (Fr.refl [] wr).alloc (.cells (bools k fun _ => false) 4)
      have HL0 := Lib.hid (HL.out.fr hFn (by simp) (by simp)); have HB0 := Lib.hid (HB.out.fr hFn (by simp) (by simp)); have HO0 := Lib.hid (own_fr (S := []) HO.out hFn (by simp)); have HF0 := Lib.hid (HFR.out.trans hFn (by simp))
      obtain ⟨g0, cap0, hsv, hg0, hcap0, hcap1⟩ := own_form HO0.out (by omega)
      subst hsv
      have hg0l0 := own_lt HO.out (g := g0) rfl
      have hAl := HL.out.lt
      have hBl := HB.out.lt
      have hAg : A ≠ g0 := fun e => by
        obtain ⟨vs, wv, x1, -⟩ := HL.out.ex
        exact own_blk (g := 0) HO.out x1 (by decide) g0 rfl e.symm
      have HG0 := Lib.hid (show g0 ≠ A + 1 from fun e => by
        obtain ⟨vs, wv, x1, -⟩ := HB.out.ex
        exact own_blk (g := 0) HO.out x1 (by decide) g0 rfl e)
      obtain ⟨C, hCe⟩ : ∃ C, wr.heap.size = C := ⟨_, rfl⟩
      rw [hCe] at hC hg0l0 hAl hBl ⊢
      have HCA := Lib.hid (show C ≠ A + 1 by omega)
      have HC0 := Lib.hid hC
      have hAW : A ≤ W.heap.size := by rw [HAE.out]; exact Nat.le_refl _
      clear hC hFn hCe hmk HL HB HO HFR
      generalize wr.alloc (.cells (bools k fun _ => false) 4) = w2 at *
      go_loopw [12] (fun iv w3 => ∃ (i : Nat) (L : List Nat) (s : WS) (fb : Option Nat), i ≤ 60 ∧ i ≤ len1 ∧ iv = .int .i64 i ∧ HasL w3 A fp k s0 (qn k) (0, 0, 0) ∧ HasL w3 (A + 1) fb 0 s [] (0, 0, 0) ∧ WIn L s ∧ (∀ x ∈ L, x < k) ∧ Blk w3 C (bools k fun x => decide (x ∈ L)) 4 ∧ w3.ownsRow A 38 13 (.slice (some ⟨g0, 0, none⟩) k cap0) k (pks k) ∧ (∀ g, fb = some g → A ≤ g ∧ fp ≠ some g) ∧ Fr [] W w3) (fun iv _ => len1 - (intOf iv).toNat)
      case atStart => exact ⟨0, [], s0, none, by omega, by omega, rfl, HL0.out, HB0.out, WIn.zero, by simp, HC0.out.eq (bools_congr fun x _ => by simp), HO0.out, by simp, HF0.out⟩
      case round =>
        obtain ⟨i, L, s, fb, hi60, hil, rfl, hL, hB, hW, hLn, hC, hO, hfb, hFr⟩ := hrel
        clear HL0 HB0 HC0 HO0 HF0
        by_cases hgo : i < len1 ∧ i < 60
        · obtain ⟨hi1, hi2⟩ := hgo
          have q1 : (i : Int) < len1 := by omega
          have q2 : (i : Int) < 60 := by omega
          have q0 : (0 : Int) ≤ i := by omega
          obtain ⟨ba, oa, rfl, hbalt, hca⟩ := H1.out (by omega)
          have d1 : wr.cell? ⟨ba, oa + i, none⟩ = some (.int .i64 (z1 i)) := (hFr.cell (p := ⟨ba, oa + i, none⟩) hbalt (by simp)).trans (hca i hi1)
          obtain ⟨kk, hkke⟩ : ∃ kk : Nat, z1 i % (k : Int) = kk := ⟨(z1 i % (k : Int)).toNat, by have := Int.emod_nonneg (z1 i) (b := k) (by omega); omega⟩
          have hkk : kk < k := by have := Int.emod_lt_of_pos (z1 i) (b := k) (by omega); omega
          have HKE := Lib.hid hkke
          have HL := Lib.hid hL; have HB := Lib.hid hB; have HW := Lib.hid hW; have HLn := Lib.hid hLn; have HC := Lib.hid hC; have HO := Lib.hid hO; have HFB := Lib.hid hfb; have HFR := Lib.hid hFr
          clear hkke hca hL hB hW hLn hC hO hfb hFr
          go_wp2_with fail
          refine (pick_any _ _ _ (by omega) (by omega)).mono ?_; rintro e w' ⟨rfl, rfl⟩
          rw [HKE.out]
          clear d1
          by_cases hlost : kk < len2 ∧ z2 kk = true
          · obtain ⟨hk2, hz2⟩ := hlost
            have q3 : (kk : Int) < len2 := by omega
            have q4 : (0 : Int) ≤ kk := by omega
            obtain ⟨b2, o2, rfl, hb2lt, hc2⟩ := H2.out (by omega)
            have d2 : wr.cell? ⟨b2, o2 + kk, none⟩ = some (.bool true) := by rw [← hz2]; exact (HFR.out.cell (p := ⟨b2, o2 + kk, none⟩) hb2lt (by simp)).trans (hc2 kk hk2)
            clear hz2 hc2
            go_wp2_with fail
            go_roundw
            case rel => exact ⟨i + 1, L, s, fb, by omega, by omega, by go_num, HL.out, HB.out, HW.out, HLn.out, HC.out, HO.out, HFB.out, HFR.out⟩
            case measure => simp [intOf]; omega
          · go_upto_region 13 with (fail)
            have HST := Lib.hid (show ¬ kk < len2 ∨ (kk < len2 ∧ z2 kk = false) by
              by_cases h : kk < len2
              · exact .inr ⟨h, by cases hz : z2 kk; rfl; exact absurd ⟨h, hz⟩ hlost⟩
              · exact .inl h)
            clear hlost
            have HLd := Lib.hid (HL.out.fr (Fr.refl [] wr).drew (by simp) (by simp)); have HBd := Lib.hid (HB.out.fr (Fr.refl [] wr).drew (by simp) (by simp)); have HCd := Lib.hid HC.out.drew; have HOd := Lib.hid (own_fr (S := []) HO.out (Fr.refl [] wr).drew (by simp)); have HFBd := HFB; have HFd := Lib.hid HFR.out.drew
            have hg0l : g0 < wr.drew.heap.size := own_lt HO.out rfl
            have hCl : C < wr.drew.heap.size := HC.out.lt
            have e0 : wr.drew.cell? ⟨g0, kk * 13, none⟩ = some (.int .i64 1) := by rw [show wr.drew.cell? ⟨g0, kk * 13, none⟩ = wr.cell? ⟨g0, kk * 13, none⟩ from rfl, HO.out.cellAt _ (by omega)]; exact pks_get (j := 0) (by decide) hkk
            have e1 : wr.drew.cell? ⟨g0, kk * 13 + 1, none⟩ = some (.int .i64 0) := by rw [show wr.drew.cell? ⟨g0, kk * 13 + 1, none⟩ = wr.cell? ⟨g0, kk * 13 + 1, none⟩ from rfl, HO.out.cellAt _ (by omega)]; exact pks_get (j := 1) (by decide) hkk
            have e2 : wr.drew.cell? ⟨g0, kk * 13 + 2, none⟩ = some (.int .i64 kk) := by rw [show wr.drew.cell? ⟨g0, kk * 13 + 2, none⟩ = wr.cell? ⟨g0, kk * 13 + 2, none⟩ from rfl, HO.out.cellAt _ (by omega)]; exact pks_get (j := 2) (by decide) hkk
            have e3 : wr.drew.cell? ⟨g0, kk * 13 + 3, none⟩ = some (.int .i64 0) := by rw [show wr.drew.cell? ⟨g0, kk * 13 + 3, none⟩ = wr.cell? ⟨g0, kk * 13 + 3, none⟩ from rfl, HO.out.cellAt _ (by omega)]; exact pks_get (j := 3) (by decide) hkk
            have e4 : wr.drew.cell? ⟨g0, kk * 13 + 4, none⟩ = some (.bool false) := by rw [show wr.drew.cell? ⟨g0, kk * 13 + 4, none⟩ = wr.cell? ⟨g0, kk * 13 + 4, none⟩ from rfl, HO.out.cellAt _ (by omega)]; exact pks_get (j := 4) (by decide) hkk
            have e5 : wr.drew.cell? ⟨g0, kk * 13 + 5, none⟩ = some (.int .u64 0) := by rw [show wr.drew.cell? ⟨g0, kk * 13 + 5, none⟩ = wr.cell? ⟨g0, kk * 13 + 5, none⟩ from rfl, HO.out.cellAt _ (by omega)]; exact pks_get (j := 5) (by decide) hkk
            have e6 : wr.drew.cell? ⟨g0, kk * 13 + 6, none⟩ = some (.int .i64 0) := by rw [show wr.drew.cell? ⟨g0, kk * 13 + 6, none⟩ = wr.cell? ⟨g0, kk * 13 + 6, none⟩ from rfl, HO.out.cellAt _ (by omega)]; exact pks_get (j := 6) (by decide) hkk
            have e7 : wr.drew.cell? ⟨g0, kk * 13 + 7, none⟩ = some (.int .i64 0) := by rw [show wr.drew.cell? ⟨g0, kk * 13 + 7, none⟩ = wr.cell? ⟨g0, kk * 13 + 7, none⟩ from rfl, HO.out.cellAt _ (by omega)]; exact pks_get (j := 7) (by decide) hkk
            have e8 : wr.drew.cell? ⟨g0, kk * 13 + 8, none⟩ = some (.slice none 0 0) := by rw [show wr.drew.cell? ⟨g0, kk * 13 + 8, none⟩ = wr.cell? ⟨g0, kk * 13 + 8, none⟩ from rfl, HO.out.cellAt _ (by omega)]; exact pks_get (j := 8) (by decide) hkk
            have e9 : wr.drew.cell? ⟨g0, kk * 13 + 9, none⟩ = some (.int .i64 0) := by rw [show wr.drew.cell? ⟨g0, kk * 13 + 9, none⟩ = wr.cell? ⟨g0, kk * 13 + 9, none⟩ from rfl, HO.out.cellAt _ (by omega)]; exact pks_get (j := 9) (by decide) hkk
            have e10 : wr.drew.cell? ⟨g0, kk * 13 + 10, none⟩ = some (.slice none 0 0) := by rw [show wr.drew.cell? ⟨g0, kk * 13 + 10, none⟩ = wr.cell? ⟨g0, kk * 13 + 10, none⟩ from rfl, HO.out.cellAt _ (by omega)]; exact pks_get (j := 10) (by decide) hkk
            have e11 : wr.drew.cell? ⟨g0, kk * 13 + 11, none⟩ = some (.int .i64 0) := by rw [show wr.drew.cell? ⟨g0, kk * 13 + 11, none⟩ = wr.cell? ⟨g0, kk * 13 + 11, none⟩ from rfl, HO.out.cellAt _ (by omega)]; exact pks_get (j := 11) (by decide) hkk
            have e12 : wr.drew.cell? ⟨g0, kk * 13 + 12, none⟩ = some (.int .i64 0) := by rw [show wr.drew.cell? ⟨g0, kk * 13 + 12, none⟩ = wr.cell? ⟨g0, kk * 13 + 12, none⟩ from rfl, HO.out.cellAt _ (by omega)]; exact pks_get (j := 12) (by decide) hkk
            have q0k : (0 : Int) ≤ kk := by omega
            have q0n : (kk : Int) < k := by omega
            rcases HST.out with hk2 | ⟨hk2, hz2⟩
            · have q3 : ¬ (kk : Int) < len2 := by omega
              go_upto_region 14 with (fail)
              by_cases hkL : kk ∈ L
              · have HDEC := Lib.hid (show (noteS s (kk : Int)).1 = 2 from by rw [HW.out.twice (fun x hx => by have := HLn.out x hx; omega) hkL])
                have HWN := Lib.hid (show WIn L (noteS s (kk : Int)).2 from by rw [HW.out.twice (fun x hx => by have := HLn.out x hx; omega) hkL]; exact HW.out)
                have ec : wr.drew.cell? ⟨C, kk, none⟩ = some (.bool true) := Blk.cell HCd.out (by rw [bools_get _ hkk, decide_eq_true hkL])
                have hwr : IntKind.i64.wrap (40 + (i : Int)) = 40 + (i : Int) := IntWalk.i64_in _ (by omega)
                refine wp_region_M 12 (fun w' => w'.cell? ⟨g0, kk * 13, none⟩ = some (.int .i64 1) ∧ w'.cell? ⟨g0, kk * 13 + 1, none⟩ = some (.int .i64 0) ∧ w'.cell? ⟨g0, kk * 13 + 2, none⟩ = some (.int .i64 kk) ∧ w'.cell? ⟨g0, kk * 13 + 3, none⟩ = some (.int .i64 0) ∧ w'.cell? ⟨g0, kk * 13 + 4, none⟩ = some (.bool false) ∧ w'.cell? ⟨g0, kk * 13 + 5, none⟩ = some (.int .u64 0) ∧ w'.cell? ⟨g0, kk * 13 + 6, none⟩ = some (.int .i64 0) ∧ w'.cell? ⟨g0, kk * 13 + 7, none⟩ = some (.int .i64 0) ∧ w'.cell? ⟨g0, kk * 13 + 8, none⟩ = some (.slice none 0 0) ∧ w'.cell? ⟨g0, kk * 13 + 9, none⟩ = some (.int .i64 0) ∧ w'.cell? ⟨g0, kk * 13 + 10, none⟩ = some (.slice none 0 0) ∧ w'.cell? ⟨g0, kk * 13 + 11, none⟩ = some (.int .i64 0) ∧ w'.cell? ⟨g0, kk * 13 + 12, none⟩ = some (.int .i64 0) ∧ w'.cell? ⟨C, kk, none⟩ = some (.bool true)) (by kernel_rfl) (⟨e0, e1, e2, e3, e4, e5, e6, e7, e8, e9, e10, e11, e12, ec⟩) (fun hS => ?_)
                try simp only [List.getElem_toArray, List.getElem_cons_succ, List.getElem_cons_zero, Act.put, List.setIfInBounds_toArray, List.set_cons_zero, List.set_cons_succ]
                refine wpAnyM_take (i := 0) (v := ?_) rfl (by kernel_rfl) (by kernel_rfl) (by kernel_rfl) (by kernel_rfl) (fun _ _ _ h => h) (Or.inl ⟨by kernel_rfl, ?_⟩) hS ?_; rotate_left; (intro w hSw; (try dsimp only at hSw); go_split_ands; go_simp; try with_reducible rfl)
                try simp only [List.getElem_toArray, List.getElem_cons_succ, List.getElem_cons_zero, Act.put, List.setIfInBounds_toArray, List.set_cons_zero, List.set_cons_succ]
                refine wpAnyM_take (i := 1) (v := ?_) rfl (by kernel_rfl) (by kernel_rfl) (by kernel_rfl) (by kernel_rfl) (fun _ _ _ h => h) (Or.inl ⟨by kernel_rfl, ?_⟩) hS ?_; rotate_left; (intro w hSw; (try dsimp only at hSw); go_split_ands; go_simp; try with_reducible rfl)
                try simp only [List.getElem_toArray, List.getElem_cons_succ, List.getElem_cons_zero, Act.put, List.setIfInBounds_toArray, List.set_cons_zero, List.set_cons_succ]
                refine wpAnyM_take (i := 2) (v := ?_) rfl (by kernel_rfl) (by kernel_rfl) (by kernel_rfl) (by kernel_rfl) (fun _ _ _ h => h) (Or.inl ⟨by kernel_rfl, ?_⟩) hS ?_; rotate_left; (intro w hSw; (try dsimp only at hSw); go_split_ands; go_simp; try with_reducible rfl)
                try simp only [List.getElem_toArray, List.getElem_cons_succ, List.getElem_cons_zero, Act.put, List.setIfInBounds_toArray, List.set_cons_zero, List.set_cons_succ]
                refine wpAnyM_take (i := 3) (v := ?_) rfl (by kernel_rfl) (by kernel_rfl) (by kernel_rfl) (by kernel_rfl) (fun _ _ _ h => h) (Or.inl ⟨by kernel_rfl, ?_⟩) hS ?_; rotate_left; (intro w hSw; (try dsimp only at hSw); go_split_ands; go_simp; try with_reducible rfl)
                try simp only [List.getElem_toArray, List.getElem_cons_succ, List.getElem_cons_zero, Act.put, List.setIfInBounds_toArray, List.set_cons_zero, List.set_cons_succ]
                refine wpAnyM_take (i := 4) (v := ?_) rfl (by kernel_rfl) (by kernel_rfl) (by kernel_rfl) (by kernel_rfl) (fun _ _ _ h => h) (Or.inl ⟨by kernel_rfl, ?_⟩) hS ?_; rotate_left; (intro w hSw; (try dsimp only at hSw); go_split_ands; go_simp; try with_reducible rfl)
                try simp only [List.getElem_toArray, List.getElem_cons_succ, List.getElem_cons_zero, Act.put, List.setIfInBounds_toArray, List.set_cons_zero, List.set_cons_succ]
                refine wpAnyM_take (i := 5) (v := ?_) rfl (by kernel_rfl) (by kernel_rfl) (by kernel_rfl) (by kernel_rfl) (fun _ _ _ h => h) (Or.inl ⟨by kernel_rfl, ?_⟩) hS ?_; rotate_left; (intro w hSw; (try dsimp only at hSw); go_split_ands; go_simp; try with_reducible rfl)
                try simp only [List.getElem_toArray, List.getElem_cons_succ, List.getElem_cons_zero, Act.put, List.setIfInBounds_toArray, List.set_cons_zero, List.set_cons_succ]
                refine wpAnyM_take (i := 7) (v := ?_) rfl (by kernel_rfl) (by kernel_rfl) (by kernel_rfl) (by kernel_rfl) (fun _ _ _ h => h) (Or.inl ⟨by kernel_rfl, ?_⟩) hS ?_; rotate_left; (intro w hSw; (try dsimp only at hSw); go_split_ands; go_simp; try with_reducible rfl)
                try simp only [List.getElem_toArray, List.getElem_cons_succ, List.getElem_cons_zero, Act.put, List.setIfInBounds_toArray, List.set_cons_zero, List.set_cons_succ]
                refine wpAnyM_take (i := 8) (v := ?_) rfl (by kernel_rfl) (by kernel_rfl) (by kernel_rfl) (by kernel_rfl) (fun _ _ _ h => h) (Or.inl ⟨by kernel_rfl, ?_⟩) hS ?_; rotate_left; (intro w hSw; (try dsimp only at hSw); go_split_ands; go_simp; try with_reducible rfl)
                try simp only [List.getElem_toArray, List.getElem_cons_succ, List.getElem_cons_zero, Act.put, List.setIfInBounds_toArray, List.set_cons_zero, List.set_cons_succ]
                refine wpAnyM_take (i := 9) (v := ?_) rfl (by kernel_rfl) (by kernel_rfl) (by kernel_rfl) (by kernel_rfl) (fun _ _ _ h => h) (Or.inl ⟨by kernel_rfl, ?_⟩) hS ?_; rotate_left; (intro w hSw; (try dsimp only at hSw); go_split_ands; go_simp; try with_reducible rfl)
                try simp only [List.getElem_toArray, List.getElem_cons_succ, List.getElem_cons_zero, Act.put, List.setIfInBounds_toArray, List.set_cons_zero, List.set_cons_succ]
                refine wpAnyM_take (i := 10) (v := ?_) rfl (by kernel_rfl) (by kernel_rfl) (by kernel_rfl) (by kernel_rfl) (fun _ _ _ h => h) (Or.inl ⟨by kernel_rfl, ?_⟩) hS ?_; rotate_left; (intro w hSw; (try dsimp only at hSw); go_split_ands; go_simp; try with_reducible rfl)
                try simp only [List.getElem_toArray, List.getElem_cons_succ, List.getElem_cons_zero, Act.put, List.setIfInBounds_toArray, List.set_cons_zero, List.set_cons_succ]
                refine wpAnyM_one (i := 6) (by kernel_rfl) rfl (fun KK hK => ?_)
                go_simp
                refine (take_L HBd.out (by simp) { pk0 1 with seq := kk } bt_zero (40 + (i : Int))).mono ?_
                rintro e w4 ⟨fb4, q4, t4, rfl, hif, hB4, ht4, hfb4, hF4⟩
                rw [if_neg (fun h => by cases h.2)] at hif
                obtain ⟨rfl, rfl⟩ := hif
                rw [show decide ((noteS s (Pk.seq { pk0 1 with seq := (kk : Int) })).1 = 1) = false from by rw [show (noteS s (Pk.seq { pk0 1 with seq := (kk : Int) })).1 = 2 from HDEC.out]; rfl]
                have hnA : A + 1 ∉ ([] : List Nat) := by simp
                have hg0A : g0 ≠ A + 1 := HG0.out
                have hCA : C ≠ A + 1 := HCA.out
                have hS4 : w4.cell? ⟨g0, kk * 13, none⟩ = some (.int .i64 1) ∧ w4.cell? ⟨g0, kk * 13 + 1, none⟩ = some (.int .i64 0) ∧ w4.cell? ⟨g0, kk * 13 + 2, none⟩ = some (.int .i64 kk) ∧ w4.cell? ⟨g0, kk * 13 + 3, none⟩ = some (.int .i64 0) ∧ w4.cell? ⟨g0, kk * 13 + 4, none⟩ = some (.bool false) ∧ w4.cell? ⟨g0, kk * 13 + 5, none⟩ = some (.int .u64 0) ∧ w4.cell? ⟨g0, kk * 13 + 6, none⟩ = some (.int .i64 0) ∧ w4.cell? ⟨g0, kk * 13 + 7, none⟩ = some (.int .i64 0) ∧ w4.cell? ⟨g0, kk * 13 + 8, none⟩ = some (.slice none 0 0) ∧ w4.cell? ⟨g0, kk * 13 + 9, none⟩ = some (.int .i64 0) ∧ w4.cell? ⟨g0, kk * 13 + 10, none⟩ = some (.slice none 0 0) ∧ w4.cell? ⟨g0, kk * 13 + 11, none⟩ = some (.int .i64 0) ∧ w4.cell? ⟨g0, kk * 13 + 12, none⟩ = some (.int .i64 0) ∧ w4.cell? ⟨C, kk, none⟩ = some (.bool true) := ⟨(hF4.cell (p := ⟨g0, kk * 13, none⟩) hg0l (by simp; omega)).trans e0, (hF4.cell (p := ⟨g0, kk * 13 + 1, none⟩) hg0l (by simp; omega)).trans e1, (hF4.cell (p := ⟨g0, kk * 13 + 2, none⟩) hg0l (by simp; omega)).trans e2, (hF4.cell (p := ⟨g0, kk * 13 + 3, none⟩) hg0l (by simp; omega)).trans e3, (hF4.cell (p := ⟨g0, kk * 13 + 4, none⟩) hg0l (by simp; omega)).trans e4, (hF4.cell (p := ⟨g0, kk * 13 + 5, none⟩) hg0l (by simp; omega)).trans e5, (hF4.cell (p := ⟨g0, kk * 13 + 6, none⟩) hg0l (by simp; omega)).trans e6, (hF4.cell (p := ⟨g0, kk * 13 + 7, none⟩) hg0l (by simp; omega)).trans e7, (hF4.cell (p := ⟨g0, kk * 13 + 8, none⟩) hg0l (by simp; omega)).trans e8, (hF4.cell (p := ⟨g0, kk * 13 + 9, none⟩) hg0l (by simp; omega)).trans e9, (hF4.cell (p := ⟨g0, kk * 13 + 10, none⟩) hg0l (by simp; omega)).trans e10, (hF4.cell (p := ⟨g0, kk * 13 + 11, none⟩) hg0l (by simp; omega)).trans e11, (hF4.cell (p := ⟨g0, kk * 13 + 12, none⟩) hg0l (by simp; omega)).trans e12, (hF4.cell (p := ⟨C, kk, none⟩) hCl (by simp; omega)).trans ec⟩
                have HB4 := Lib.hid hB4; have HL4 := Lib.hid (HLd.out.fr hF4 (by simp) (fun g hg hx => by simp at hx; subst hx; exact HLd.out.apartL HBd.out hg))
                have HO4 := Lib.hid (own_keep HOd.out hF4 (fun g hg hx => by simp [Value.ownBlock] at hg; simp at hx; omega))
                have HC4 := Lib.hid (hF4.blk HCd.out (by simp; omega))
                have HF4 := Lib.hid (HFd.out.trans hF4 (fun x hx => .inr (by simp at hx; rw [HAE.out]; omega)))
                have HFB4 := Lib.hid (fun g (hg : fb4 = some g) => show A ≤ g ∧ fp ≠ some g from by
                  rcases hfb4 with h | h
                  · rw [h] at hg; exact HFBd.out g hg
                  · exact ⟨by have h1 := h g hg; have h2 := HFd.out.size; have h3 := HAE.out; omega, fun e => by have h1 := h g hg; have h2 := HLd.out.fplt g e; omega⟩)
                dsimp only; refine hK.out _ _ (fun _ => hS4) (fun _ => ?_); clear hK KK hS hB4 hF4 ht4 hfb4; have hS := hS4; clear hS4
                
                try simp only [List.getElem_toArray, List.getElem_cons_succ, List.getElem_cons_zero, Act.put, List.setIfInBounds_toArray, List.set_cons_zero, List.set_cons_succ]
                refine wpAnyM_take (i := 11) (v := ?_) rfl (by kernel_rfl) (by kernel_rfl) (by kernel_rfl) (by kernel_rfl) (fun _ _ _ h => h) (Or.inl ⟨by kernel_rfl, ?_⟩) hS ?_; rotate_left; (intro w hSw; (try dsimp only at hSw); go_split_ands; go_simp; try with_reducible rfl)
                try simp only [List.getElem_toArray, List.getElem_cons_succ, List.getElem_cons_zero, Act.put, List.setIfInBounds_toArray, List.set_cons_zero, List.set_cons_succ]
                refine wpAnyM_done (by kernel_rfl) ?_ _
                try simp only [List.getElem_toArray, List.getElem_cons_succ, List.getElem_cons_zero, Act.put, List.setIfInBounds_toArray, List.set_cons_zero, List.set_cons_succ]
                clear hS
                clear hwr e0 e1 e2 e3 e4 e5 e6 e7 e8 e9 e10 e11 e12 ec
                have fC := HC4.out.free kk
                have cC : w4.cell? ⟨C, kk, none⟩ = some (.bool true) := Blk.cell HC4.out (by rw [bools_get _ hkk, decide_eq_true hkL])
                have hC5 := HC4.out.set kk (.bool true)
                rw [bools_set] at hC5
                have hC6 : Blk (w4.setCell ⟨C, kk, none⟩ (.bool true)) C (bools k fun x => decide (x ∈ L)) 4 := hC5.eq (bools_congr fun x _ => by
                  by_cases e : x = kk
                  · subst e; rw [if_pos rfl, decide_eq_true (by exact hkL)]
                  · rw [if_neg e])
                have hFc : Fr [C] w4 (w4.setCell ⟨C, kk, none⟩ (.bool true)) := (Fr.refl [C] w4).setCell (p := ⟨C, kk, none⟩) (.inl (by simp)) _
                have hL5 := HL4.out.fr hFc (by simp; omega) (fun g hg hx => by simp at hx; subst hx; exact HL4.out.apart HC4.out (by decide) hg)
                have hB5 := HB4.out.fr hFc (by simp; omega) (fun g hg hx => by simp at hx; subst hx; exact HB4.out.apart HC4.out (by decide) hg)
                have hO5 := own_keep HO4.out hFc (fun g hg hx => by simp at hx; subst hx; exact own_blk (g := 0) HO4.out HC4.out (by decide) _ hg rfl)
                have hF5 := HF4.out.trans hFc (fun x hx => .inr (by simp at hx; rw [HAE.out]; omega))
                have HC6 := Lib.hid hC6; have HL5 := Lib.hid hL5; have HB5 := Lib.hid hB5; have HO5 := Lib.hid hO5; have HF5 := Lib.hid hF5
                clear hC5 hC6 hFc hL5 hB5 hO5 hF5
                go_wp2_with fail
                go_roundw
                case rel => exact ⟨i + 1, L, _, fb4, by omega, by omega, by go_num, HL5.out, HB5.out, HWN.out, HLn.out, HC6.out, HO5.out, HFB4.out, HF5.out⟩
                case measure => simp [intOf]; omega

              · have HDEC := Lib.hid (show (noteS s (kk : Int)).1 = 1 from (HW.out.note (by omega) (fun x hx => by have := HLn.out x hx; omega) hkL).1)
                have HWN := Lib.hid (show WIn (L ++ [kk]) (noteS s (kk : Int)).2 from (HW.out.note (by omega) (fun x hx => by have := HLn.out x hx; omega) hkL).2)
                have ec : wr.drew.cell? ⟨C, kk, none⟩ = some (.bool false) := Blk.cell HCd.out (by rw [bools_get _ hkk, decide_eq_false hkL])
                have hwr : IntKind.i64.wrap (40 + (i : Int)) = 40 + (i : Int) := IntWalk.i64_in _ (by omega)
                refine wp_region_M 12 (fun w' => w'.cell? ⟨g0, kk * 13, none⟩ = some (.int .i64 1) ∧ w'.cell? ⟨g0, kk * 13 + 1, none⟩ = some (.int .i64 0) ∧ w'.cell? ⟨g0, kk * 13 + 2, none⟩ = some (.int .i64 kk) ∧ w'.cell? ⟨g0, kk * 13 + 3, none⟩ = some (.int .i64 0) ∧ w'.cell? ⟨g0, kk * 13 + 4, none⟩ = some (.bool false) ∧ w'.cell? ⟨g0, kk * 13 + 5, none⟩ = some (.int .u64 0) ∧ w'.cell? ⟨g0, kk * 13 + 6, none⟩ = some (.int .i64 0) ∧ w'.cell? ⟨g0, kk * 13 + 7, none⟩ = some (.int .i64 0) ∧ w'.cell? ⟨g0, kk * 13 + 8, none⟩ = some (.slice none 0 0) ∧ w'.cell? ⟨g0, kk * 13 + 9, none⟩ = some (.int .i64 0) ∧ w'.cell? ⟨g0, kk * 13 + 10, none⟩ = some (.slice none 0 0) ∧ w'.cell? ⟨g0, kk * 13 + 11, none⟩ = some (.int .i64 0) ∧ w'.cell? ⟨g0, kk * 13 + 12, none⟩ = some (.int .i64 0) ∧ w'.cell? ⟨C, kk, none⟩ = some (.bool false)) (by kernel_rfl) (⟨e0, e1, e2, e3, e4, e5, e6, e7, e8, e9, e10, e11, e12, ec⟩) (fun hS => ?_)
                try simp only [List.getElem_toArray, List.getElem_cons_succ, List.getElem_cons_zero, Act.put, List.setIfInBounds_toArray, List.set_cons_zero, List.set_cons_succ]
                refine wpAnyM_take (i := 0) (v := ?_) rfl (by kernel_rfl) (by kernel_rfl) (by kernel_rfl) (by kernel_rfl) (fun _ _ _ h => h) (Or.inl ⟨by kernel_rfl, ?_⟩) hS ?_; rotate_left; (intro w hSw; (try dsimp only at hSw); go_split_ands; go_simp; try with_reducible rfl)
                try simp only [List.getElem_toArray, List.getElem_cons_succ, List.getElem_cons_zero, Act.put, List.setIfInBounds_toArray, List.set_cons_zero, List.set_cons_succ]
                refine wpAnyM_take (i := 1) (v := ?_) rfl (by kernel_rfl) (by kernel_rfl) (by kernel_rfl) (by kernel_rfl) (fun _ _ _ h => h) (Or.inl ⟨by kernel_rfl, ?_⟩) hS ?_; rotate_left; (intro w hSw; (try dsimp only at hSw); go_split_ands; go_simp; try with_reducible rfl)
                try simp only [List.getElem_toArray, List.getElem_cons_succ, List.getElem_cons_zero, Act.put, List.setIfInBounds_toArray, List.set_cons_zero, List.set_cons_succ]
                refine wpAnyM_take (i := 2) (v := ?_) rfl (by kernel_rfl) (by kernel_rfl) (by kernel_rfl) (by kernel_rfl) (fun _ _ _ h => h) (Or.inl ⟨by kernel_rfl, ?_⟩) hS ?_; rotate_left; (intro w hSw; (try dsimp only at hSw); go_split_ands; go_simp; try with_reducible rfl)
                try simp only [List.getElem_toArray, List.getElem_cons_succ, List.getElem_cons_zero, Act.put, List.setIfInBounds_toArray, List.set_cons_zero, List.set_cons_succ]
                refine wpAnyM_take (i := 3) (v := ?_) rfl (by kernel_rfl) (by kernel_rfl) (by kernel_rfl) (by kernel_rfl) (fun _ _ _ h => h) (Or.inl ⟨by kernel_rfl, ?_⟩) hS ?_; rotate_left; (intro w hSw; (try dsimp only at hSw); go_split_ands; go_simp; try with_reducible rfl)
                try simp only [List.getElem_toArray, List.getElem_cons_succ, List.getElem_cons_zero, Act.put, List.setIfInBounds_toArray, List.set_cons_zero, List.set_cons_succ]
                refine wpAnyM_take (i := 4) (v := ?_) rfl (by kernel_rfl) (by kernel_rfl) (by kernel_rfl) (by kernel_rfl) (fun _ _ _ h => h) (Or.inl ⟨by kernel_rfl, ?_⟩) hS ?_; rotate_left; (intro w hSw; (try dsimp only at hSw); go_split_ands; go_simp; try with_reducible rfl)
                try simp only [List.getElem_toArray, List.getElem_cons_succ, List.getElem_cons_zero, Act.put, List.setIfInBounds_toArray, List.set_cons_zero, List.set_cons_succ]
                refine wpAnyM_take (i := 5) (v := ?_) rfl (by kernel_rfl) (by kernel_rfl) (by kernel_rfl) (by kernel_rfl) (fun _ _ _ h => h) (Or.inl ⟨by kernel_rfl, ?_⟩) hS ?_; rotate_left; (intro w hSw; (try dsimp only at hSw); go_split_ands; go_simp; try with_reducible rfl)
                try simp only [List.getElem_toArray, List.getElem_cons_succ, List.getElem_cons_zero, Act.put, List.setIfInBounds_toArray, List.set_cons_zero, List.set_cons_succ]
                refine wpAnyM_take (i := 7) (v := ?_) rfl (by kernel_rfl) (by kernel_rfl) (by kernel_rfl) (by kernel_rfl) (fun _ _ _ h => h) (Or.inl ⟨by kernel_rfl, ?_⟩) hS ?_; rotate_left; (intro w hSw; (try dsimp only at hSw); go_split_ands; go_simp; try with_reducible rfl)
                try simp only [List.getElem_toArray, List.getElem_cons_succ, List.getElem_cons_zero, Act.put, List.setIfInBounds_toArray, List.set_cons_zero, List.set_cons_succ]
                refine wpAnyM_take (i := 8) (v := ?_) rfl (by kernel_rfl) (by kernel_rfl) (by kernel_rfl) (by kernel_rfl) (fun _ _ _ h => h) (Or.inl ⟨by kernel_rfl, ?_⟩) hS ?_; rotate_left; (intro w hSw; (try dsimp only at hSw); go_split_ands; go_simp; try with_reducible rfl)
                try simp only [List.getElem_toArray, List.getElem_cons_succ, List.getElem_cons_zero, Act.put, List.setIfInBounds_toArray, List.set_cons_zero, List.set_cons_succ]
                refine wpAnyM_take (i := 9) (v := ?_) rfl (by kernel_rfl) (by kernel_rfl) (by kernel_rfl) (by kernel_rfl) (fun _ _ _ h => h) (Or.inl ⟨by kernel_rfl, ?_⟩) hS ?_; rotate_left; (intro w hSw; (try dsimp only at hSw); go_split_ands; go_simp; try with_reducible rfl)
                try simp only [List.getElem_toArray, List.getElem_cons_succ, List.getElem_cons_zero, Act.put, List.setIfInBounds_toArray, List.set_cons_zero, List.set_cons_succ]
                refine wpAnyM_take (i := 10) (v := ?_) rfl (by kernel_rfl) (by kernel_rfl) (by kernel_rfl) (by kernel_rfl) (fun _ _ _ h => h) (Or.inl ⟨by kernel_rfl, ?_⟩) hS ?_; rotate_left; (intro w hSw; (try dsimp only at hSw); go_split_ands; go_simp; try with_reducible rfl)
                try simp only [List.getElem_toArray, List.getElem_cons_succ, List.getElem_cons_zero, Act.put, List.setIfInBounds_toArray, List.set_cons_zero, List.set_cons_succ]
                refine wpAnyM_one (i := 6) (by kernel_rfl) rfl (fun KK hK => ?_)
                go_simp
                refine (take_L HBd.out (by simp) { pk0 1 with seq := kk } bt_zero (40 + (i : Int))).mono ?_
                rintro e w4 ⟨fb4, q4, t4, rfl, hif, hB4, ht4, hfb4, hF4⟩
                rw [if_neg (fun h => by cases h.2)] at hif
                obtain ⟨rfl, rfl⟩ := hif
                rw [show decide ((noteS s (Pk.seq { pk0 1 with seq := (kk : Int) })).1 = 1) = true from by rw [show (noteS s (Pk.seq { pk0 1 with seq := (kk : Int) })).1 = 1 from HDEC.out]; rfl]
                have hnA : A + 1 ∉ ([] : List Nat) := by simp
                have hg0A : g0 ≠ A + 1 := HG0.out
                have hCA : C ≠ A + 1 := HCA.out
                have hS4 : w4.cell? ⟨g0, kk * 13, none⟩ = some (.int .i64 1) ∧ w4.cell? ⟨g0, kk * 13 + 1, none⟩ = some (.int .i64 0) ∧ w4.cell? ⟨g0, kk * 13 + 2, none⟩ = some (.int .i64 kk) ∧ w4.cell? ⟨g0, kk * 13 + 3, none⟩ = some (.int .i64 0) ∧ w4.cell? ⟨g0, kk * 13 + 4, none⟩ = some (.bool false) ∧ w4.cell? ⟨g0, kk * 13 + 5, none⟩ = some (.int .u64 0) ∧ w4.cell? ⟨g0, kk * 13 + 6, none⟩ = some (.int .i64 0) ∧ w4.cell? ⟨g0, kk * 13 + 7, none⟩ = some (.int .i64 0) ∧ w4.cell? ⟨g0, kk * 13 + 8, none⟩ = some (.slice none 0 0) ∧ w4.cell? ⟨g0, kk * 13 + 9, none⟩ = some (.int .i64 0) ∧ w4.cell? ⟨g0, kk * 13 + 10, none⟩ = some (.slice none 0 0) ∧ w4.cell? ⟨g0, kk * 13 + 11, none⟩ = some (.int .i64 0) ∧ w4.cell? ⟨g0, kk * 13 + 12, none⟩ = some (.int .i64 0) ∧ w4.cell? ⟨C, kk, none⟩ = some (.bool false) := ⟨(hF4.cell (p := ⟨g0, kk * 13, none⟩) hg0l (by simp; omega)).trans e0, (hF4.cell (p := ⟨g0, kk * 13 + 1, none⟩) hg0l (by simp; omega)).trans e1, (hF4.cell (p := ⟨g0, kk * 13 + 2, none⟩) hg0l (by simp; omega)).trans e2, (hF4.cell (p := ⟨g0, kk * 13 + 3, none⟩) hg0l (by simp; omega)).trans e3, (hF4.cell (p := ⟨g0, kk * 13 + 4, none⟩) hg0l (by simp; omega)).trans e4, (hF4.cell (p := ⟨g0, kk * 13 + 5, none⟩) hg0l (by simp; omega)).trans e5, (hF4.cell (p := ⟨g0, kk * 13 + 6, none⟩) hg0l (by simp; omega)).trans e6, (hF4.cell (p := ⟨g0, kk * 13 + 7, none⟩) hg0l (by simp; omega)).trans e7, (hF4.cell (p := ⟨g0, kk * 13 + 8, none⟩) hg0l (by simp; omega)).trans e8, (hF4.cell (p := ⟨g0, kk * 13 + 9, none⟩) hg0l (by simp; omega)).trans e9, (hF4.cell (p := ⟨g0, kk * 13 + 10, none⟩) hg0l (by simp; omega)).trans e10, (hF4.cell (p := ⟨g0, kk * 13 + 11, none⟩) hg0l (by simp; omega)).trans e11, (hF4.cell (p := ⟨g0, kk * 13 + 12, none⟩) hg0l (by simp; omega)).trans e12, (hF4.cell (p := ⟨C, kk, none⟩) hCl (by simp; omega)).trans ec⟩
                have HB4 := Lib.hid hB4; have HL4 := Lib.hid (HLd.out.fr hF4 (by simp) (fun g hg hx => by simp at hx; subst hx; exact HLd.out.apartL HBd.out hg))
                have HO4 := Lib.hid (own_keep HOd.out hF4 (fun g hg hx => by simp [Value.ownBlock] at hg; simp at hx; omega))
                have HC4 := Lib.hid (hF4.blk HCd.out (by simp; omega))
                have HF4 := Lib.hid (HFd.out.trans hF4 (fun x hx => .inr (by simp at hx; rw [HAE.out]; omega)))
                have HFB4 := Lib.hid (fun g (hg : fb4 = some g) => show A ≤ g ∧ fp ≠ some g from by
                  rcases hfb4 with h | h
                  · rw [h] at hg; exact HFBd.out g hg
                  · exact ⟨by have h1 := h g hg; have h2 := HFd.out.size; have h3 := HAE.out; omega, fun e => by have h1 := h g hg; have h2 := HLd.out.fplt g e; omega⟩)
                dsimp only; refine hK.out _ _ (fun _ => hS4) (fun _ => ?_); clear hK KK hS hB4 hF4 ht4 hfb4; have hS := hS4; clear hS4
                
                try simp only [List.getElem_toArray, List.getElem_cons_succ, List.getElem_cons_zero, Act.put, List.setIfInBounds_toArray, List.set_cons_zero, List.set_cons_succ]
                refine wpAnyM_take (i := 11) (v := ?_) rfl (by kernel_rfl) (by kernel_rfl) (by kernel_rfl) (by kernel_rfl) (fun _ _ _ h => h) (Or.inl ⟨by kernel_rfl, ?_⟩) hS ?_; rotate_left; (intro w hSw; (try dsimp only at hSw); go_split_ands; go_simp; try with_reducible rfl)
                try simp only [List.getElem_toArray, List.getElem_cons_succ, List.getElem_cons_zero, Act.put, List.setIfInBounds_toArray, List.set_cons_zero, List.set_cons_succ]
                refine wpAnyM_done (by kernel_rfl) ?_ _
                try simp only [List.getElem_toArray, List.getElem_cons_succ, List.getElem_cons_zero, Act.put, List.setIfInBounds_toArray, List.set_cons_zero, List.set_cons_succ]
                clear hS
                clear hwr e0 e1 e2 e3 e4 e5 e6 e7 e8 e9 e10 e11 e12 ec
                have fC := HC4.out.free kk
                have cC : w4.cell? ⟨C, kk, none⟩ = some (.bool false) := Blk.cell HC4.out (by rw [bools_get _ hkk, decide_eq_false hkL])
                have hC5 := HC4.out.set kk (.bool true)
                rw [bools_set] at hC5
                have hC6 : Blk (w4.setCell ⟨C, kk, none⟩ (.bool true)) C (bools k fun x => decide (x ∈ (L ++ [kk]))) 4 := hC5.eq (bools_congr fun x _ => by
                  by_cases e : x = kk
                  · subst e; rw [if_pos rfl, decide_eq_true (by simp)]
                  · rw [if_neg e]; simp [e])
                have hFc : Fr [C] w4 (w4.setCell ⟨C, kk, none⟩ (.bool true)) := (Fr.refl [C] w4).setCell (p := ⟨C, kk, none⟩) (.inl (by simp)) _
                have hL5 := HL4.out.fr hFc (by simp; omega) (fun g hg hx => by simp at hx; subst hx; exact HL4.out.apart HC4.out (by decide) hg)
                have hB5 := HB4.out.fr hFc (by simp; omega) (fun g hg hx => by simp at hx; subst hx; exact HB4.out.apart HC4.out (by decide) hg)
                have hO5 := own_keep HO4.out hFc (fun g hg hx => by simp at hx; subst hx; exact own_blk (g := 0) HO4.out HC4.out (by decide) _ hg rfl)
                have hF5 := HF4.out.trans hFc (fun x hx => .inr (by simp at hx; rw [HAE.out]; omega))
                have HC6 := Lib.hid hC6; have HL5 := Lib.hid hL5; have HB5 := Lib.hid hB5; have HO5 := Lib.hid hO5; have HF5 := Lib.hid hF5
                clear hC5 hC6 hFc hL5 hB5 hO5 hF5
                go_wp2_with fail
                go_roundw
                case rel => exact ⟨i + 1, (L ++ [kk]), _, fb4, by omega, by omega, by go_num, HL5.out, HB5.out, HWN.out, (fun x hx => by simp at hx; rcases hx with hx | hx; exact HLn.out x hx; omega), HC6.out, HO5.out, HFB4.out, HF5.out⟩
                case measure => simp [intOf]; omega

            · have q3 : (kk : Int) < len2 := by omega
              obtain ⟨b2, o2, rfl, hb2lt, hc2⟩ := H2.out (by omega)
              have d2 : wr.cell? ⟨b2, o2 + kk, none⟩ = some (.bool false) := by rw [← hz2]; exact (HFR.out.cell (p := ⟨b2, o2 + kk, none⟩) hb2lt (by simp)).trans (hc2 kk hk2)
              clear hz2 hc2
              go_upto_region 14 with (fail)
              clear d2
              by_cases hkL : kk ∈ L
              · have HDEC := Lib.hid (show (noteS s (kk : Int)).1 = 2 from by rw [HW.out.twice (fun x hx => by have := HLn.out x hx; omega) hkL])
                have HWN := Lib.hid (show WIn L (noteS s (kk : Int)).2 from by rw [HW.out.twice (fun x hx => by have := HLn.out x hx; omega) hkL]; exact HW.out)
                have ec : wr.drew.cell? ⟨C, kk, none⟩ = some (.bool true) := Blk.cell HCd.out (by rw [bools_get _ hkk, decide_eq_true hkL])
                have hwr : IntKind.i64.wrap (40 + (i : Int)) = 40 + (i : Int) := IntWalk.i64_in _ (by omega)
                refine wp_region_M 12 (fun w' => w'.cell? ⟨g0, kk * 13, none⟩ = some (.int .i64 1) ∧ w'.cell? ⟨g0, kk * 13 + 1, none⟩ = some (.int .i64 0) ∧ w'.cell? ⟨g0, kk * 13 + 2, none⟩ = some (.int .i64 kk) ∧ w'.cell? ⟨g0, kk * 13 + 3, none⟩ = some (.int .i64 0) ∧ w'.cell? ⟨g0, kk * 13 + 4, none⟩ = some (.bool false) ∧ w'.cell? ⟨g0, kk * 13 + 5, none⟩ = some (.int .u64 0) ∧ w'.cell? ⟨g0, kk * 13 + 6, none⟩ = some (.int .i64 0) ∧ w'.cell? ⟨g0, kk * 13 + 7, none⟩ = some (.int .i64 0) ∧ w'.cell? ⟨g0, kk * 13 + 8, none⟩ = some (.slice none 0 0) ∧ w'.cell? ⟨g0, kk * 13 + 9, none⟩ = some (.int .i64 0) ∧ w'.cell? ⟨g0, kk * 13 + 10, none⟩ = some (.slice none 0 0) ∧ w'.cell? ⟨g0, kk * 13 + 11, none⟩ = some (.int .i64 0) ∧ w'.cell? ⟨g0, kk * 13 + 12, none⟩ = some (.int .i64 0) ∧ w'.cell? ⟨C, kk, none⟩ = some (.bool true)) (by kernel_rfl) (⟨e0, e1, e2, e3, e4, e5, e6, e7, e8, e9, e10, e11, e12, ec⟩) (fun hS => ?_)
                try simp only [List.getElem_toArray, List.getElem_cons_succ, List.getElem_cons_zero, Act.put, List.setIfInBounds_toArray, List.set_cons_zero, List.set_cons_succ]
                refine wpAnyM_take (i := 0) (v := ?_) rfl (by kernel_rfl) (by kernel_rfl) (by kernel_rfl) (by kernel_rfl) (fun _ _ _ h => h) (Or.inl ⟨by kernel_rfl, ?_⟩) hS ?_; rotate_left; (intro w hSw; (try dsimp only at hSw); go_split_ands; go_simp; try with_reducible rfl)
                try simp only [List.getElem_toArray, List.getElem_cons_succ, List.getElem_cons_zero, Act.put, List.setIfInBounds_toArray, List.set_cons_zero, List.set_cons_succ]
                refine wpAnyM_take (i := 1) (v := ?_) rfl (by kernel_rfl) (by kernel_rfl) (by kernel_rfl) (by kernel_rfl) (fun _ _ _ h => h) (Or.inl ⟨by kernel_rfl, ?_⟩) hS ?_; rotate_left; (intro w hSw; (try dsimp only at hSw); go_split_ands; go_simp; try with_reducible rfl)
                try simp only [List.getElem_toArray, List.getElem_cons_succ, List.getElem_cons_zero, Act.put, List.setIfInBounds_toArray, List.set_cons_zero, List.set_cons_succ]
                refine wpAnyM_take (i := 2) (v := ?_) rfl (by kernel_rfl) (by kernel_rfl) (by kernel_rfl) (by kernel_rfl) (fun _ _ _ h => h) (Or.inl ⟨by kernel_rfl, ?_⟩) hS ?_; rotate_left; (intro w hSw; (try dsimp only at hSw); go_split_ands; go_simp; try with_reducible rfl)
                try simp only [List.getElem_toArray, List.getElem_cons_succ, List.getElem_cons_zero, Act.put, List.setIfInBounds_toArray, List.set_cons_zero, List.set_cons_succ]
                refine wpAnyM_take (i := 3) (v := ?_) rfl (by kernel_rfl) (by kernel_rfl) (by kernel_rfl) (by kernel_rfl) (fun _ _ _ h => h) (Or.inl ⟨by kernel_rfl, ?_⟩) hS ?_; rotate_left; (intro w hSw; (try dsimp only at hSw); go_split_ands; go_simp; try with_reducible rfl)
                try simp only [List.getElem_toArray, List.getElem_cons_succ, List.getElem_cons_zero, Act.put, List.setIfInBounds_toArray, List.set_cons_zero, List.set_cons_succ]
                refine wpAnyM_take (i := 4) (v := ?_) rfl (by kernel_rfl) (by kernel_rfl) (by kernel_rfl) (by kernel_rfl) (fun _ _ _ h => h) (Or.inl ⟨by kernel_rfl, ?_⟩) hS ?_; rotate_left; (intro w hSw; (try dsimp only at hSw); go_split_ands; go_simp; try with_reducible rfl)
                try simp only [List.getElem_toArray, List.getElem_cons_succ, List.getElem_cons_zero, Act.put, List.setIfInBounds_toArray, List.set_cons_zero, List.set_cons_succ]
                refine wpAnyM_take (i := 5) (v := ?_) rfl (by kernel_rfl) (by kernel_rfl) (by kernel_rfl) (by kernel_rfl) (fun _ _ _ h => h) (Or.inl ⟨by kernel_rfl, ?_⟩) hS ?_; rotate_left; (intro w hSw; (try dsimp only at hSw); go_split_ands; go_simp; try with_reducible rfl)
                try simp only [List.getElem_toArray, List.getElem_cons_succ, List.getElem_cons_zero, Act.put, List.setIfInBounds_toArray, List.set_cons_zero, List.set_cons_succ]
                refine wpAnyM_take (i := 7) (v := ?_) rfl (by kernel_rfl) (by kernel_rfl) (by kernel_rfl) (by kernel_rfl) (fun _ _ _ h => h) (Or.inl ⟨by kernel_rfl, ?_⟩) hS ?_; rotate_left; (intro w hSw; (try dsimp only at hSw); go_split_ands; go_simp; try with_reducible rfl)
                try simp only [List.getElem_toArray, List.getElem_cons_succ, List.getElem_cons_zero, Act.put, List.setIfInBounds_toArray, List.set_cons_zero, List.set_cons_succ]
                refine wpAnyM_take (i := 8) (v := ?_) rfl (by kernel_rfl) (by kernel_rfl) (by kernel_rfl) (by kernel_rfl) (fun _ _ _ h => h) (Or.inl ⟨by kernel_rfl, ?_⟩) hS ?_; rotate_left; (intro w hSw; (try dsimp only at hSw); go_split_ands; go_simp; try with_reducible rfl)
                try simp only [List.getElem_toArray, List.getElem_cons_succ, List.getElem_cons_zero, Act.put, List.setIfInBounds_toArray, List.set_cons_zero, List.set_cons_succ]
                refine wpAnyM_take (i := 9) (v := ?_) rfl (by kernel_rfl) (by kernel_rfl) (by kernel_rfl) (by kernel_rfl) (fun _ _ _ h => h) (Or.inl ⟨by kernel_rfl, ?_⟩) hS ?_; rotate_left; (intro w hSw; (try dsimp only at hSw); go_split_ands; go_simp; try with_reducible rfl)
                try simp only [List.getElem_toArray, List.getElem_cons_succ, List.getElem_cons_zero, Act.put, List.setIfInBounds_toArray, List.set_cons_zero, List.set_cons_succ]
                refine wpAnyM_take (i := 10) (v := ?_) rfl (by kernel_rfl) (by kernel_rfl) (by kernel_rfl) (by kernel_rfl) (fun _ _ _ h => h) (Or.inl ⟨by kernel_rfl, ?_⟩) hS ?_; rotate_left; (intro w hSw; (try dsimp only at hSw); go_split_ands; go_simp; try with_reducible rfl)
                try simp only [List.getElem_toArray, List.getElem_cons_succ, List.getElem_cons_zero, Act.put, List.setIfInBounds_toArray, List.set_cons_zero, List.set_cons_succ]
                refine wpAnyM_one (i := 6) (by kernel_rfl) rfl (fun KK hK => ?_)
                go_simp
                refine (take_L HBd.out (by simp) { pk0 1 with seq := kk } bt_zero (40 + (i : Int))).mono ?_
                rintro e w4 ⟨fb4, q4, t4, rfl, hif, hB4, ht4, hfb4, hF4⟩
                rw [if_neg (fun h => by cases h.2)] at hif
                obtain ⟨rfl, rfl⟩ := hif
                rw [show decide ((noteS s (Pk.seq { pk0 1 with seq := (kk : Int) })).1 = 1) = false from by rw [show (noteS s (Pk.seq { pk0 1 with seq := (kk : Int) })).1 = 2 from HDEC.out]; rfl]
                have hnA : A + 1 ∉ ([] : List Nat) := by simp
                have hg0A : g0 ≠ A + 1 := HG0.out
                have hCA : C ≠ A + 1 := HCA.out
                have hS4 : w4.cell? ⟨g0, kk * 13, none⟩ = some (.int .i64 1) ∧ w4.cell? ⟨g0, kk * 13 + 1, none⟩ = some (.int .i64 0) ∧ w4.cell? ⟨g0, kk * 13 + 2, none⟩ = some (.int .i64 kk) ∧ w4.cell? ⟨g0, kk * 13 + 3, none⟩ = some (.int .i64 0) ∧ w4.cell? ⟨g0, kk * 13 + 4, none⟩ = some (.bool false) ∧ w4.cell? ⟨g0, kk * 13 + 5, none⟩ = some (.int .u64 0) ∧ w4.cell? ⟨g0, kk * 13 + 6, none⟩ = some (.int .i64 0) ∧ w4.cell? ⟨g0, kk * 13 + 7, none⟩ = some (.int .i64 0) ∧ w4.cell? ⟨g0, kk * 13 + 8, none⟩ = some (.slice none 0 0) ∧ w4.cell? ⟨g0, kk * 13 + 9, none⟩ = some (.int .i64 0) ∧ w4.cell? ⟨g0, kk * 13 + 10, none⟩ = some (.slice none 0 0) ∧ w4.cell? ⟨g0, kk * 13 + 11, none⟩ = some (.int .i64 0) ∧ w4.cell? ⟨g0, kk * 13 + 12, none⟩ = some (.int .i64 0) ∧ w4.cell? ⟨C, kk, none⟩ = some (.bool true) := ⟨(hF4.cell (p := ⟨g0, kk * 13, none⟩) hg0l (by simp; omega)).trans e0, (hF4.cell (p := ⟨g0, kk * 13 + 1, none⟩) hg0l (by simp; omega)).trans e1, (hF4.cell (p := ⟨g0, kk * 13 + 2, none⟩) hg0l (by simp; omega)).trans e2, (hF4.cell (p := ⟨g0, kk * 13 + 3, none⟩) hg0l (by simp; omega)).trans e3, (hF4.cell (p := ⟨g0, kk * 13 + 4, none⟩) hg0l (by simp; omega)).trans e4, (hF4.cell (p := ⟨g0, kk * 13 + 5, none⟩) hg0l (by simp; omega)).trans e5, (hF4.cell (p := ⟨g0, kk * 13 + 6, none⟩) hg0l (by simp; omega)).trans e6, (hF4.cell (p := ⟨g0, kk * 13 + 7, none⟩) hg0l (by simp; omega)).trans e7, (hF4.cell (p := ⟨g0, kk * 13 + 8, none⟩) hg0l (by simp; omega)).trans e8, (hF4.cell (p := ⟨g0, kk * 13 + 9, none⟩) hg0l (by simp; omega)).trans e9, (hF4.cell (p := ⟨g0, kk * 13 + 10, none⟩) hg0l (by simp; omega)).trans e10, (hF4.cell (p := ⟨g0, kk * 13 + 11, none⟩) hg0l (by simp; omega)).trans e11, (hF4.cell (p := ⟨g0, kk * 13 + 12, none⟩) hg0l (by simp; omega)).trans e12, (hF4.cell (p := ⟨C, kk, none⟩) hCl (by simp; omega)).trans ec⟩
                have HB4 := Lib.hid hB4; have HL4 := Lib.hid (HLd.out.fr hF4 (by simp) (fun g hg hx => by simp at hx; subst hx; exact HLd.out.apartL HBd.out hg))
                have HO4 := Lib.hid (own_keep HOd.out hF4 (fun g hg hx => by simp [Value.ownBlock] at hg; simp at hx; omega))
                have HC4 := Lib.hid (hF4.blk HCd.out (by simp; omega))
                have HF4 := Lib.hid (HFd.out.trans hF4 (fun x hx => .inr (by simp at hx; rw [HAE.out]; omega)))
                have HFB4 := Lib.hid (fun g (hg : fb4 = some g) => show A ≤ g ∧ fp ≠ some g from by
                  rcases hfb4 with h | h
                  · rw [h] at hg; exact HFBd.out g hg
                  · exact ⟨by have h1 := h g hg; have h2 := HFd.out.size; have h3 := HAE.out; omega, fun e => by have h1 := h g hg; have h2 := HLd.out.fplt g e; omega⟩)
                dsimp only; refine hK.out _ _ (fun _ => hS4) (fun _ => ?_); clear hK KK hS hB4 hF4 ht4 hfb4; have hS := hS4; clear hS4
                
                try simp only [List.getElem_toArray, List.getElem_cons_succ, List.getElem_cons_zero, Act.put, List.setIfInBounds_toArray, List.set_cons_zero, List.set_cons_succ]
                refine wpAnyM_take (i := 11) (v := ?_) rfl (by kernel_rfl) (by kernel_rfl) (by kernel_rfl) (by kernel_rfl) (fun _ _ _ h => h) (Or.inl ⟨by kernel_rfl, ?_⟩) hS ?_; rotate_left; (intro w hSw; (try dsimp only at hSw); go_split_ands; go_simp; try with_reducible rfl)
                try simp only [List.getElem_toArray, List.getElem_cons_succ, List.getElem_cons_zero, Act.put, List.setIfInBounds_toArray, List.set_cons_zero, List.set_cons_succ]
                refine wpAnyM_done (by kernel_rfl) ?_ _
                try simp only [List.getElem_toArray, List.getElem_cons_succ, List.getElem_cons_zero, Act.put, List.setIfInBounds_toArray, List.set_cons_zero, List.set_cons_succ]
                clear hS
                clear hwr e0 e1 e2 e3 e4 e5 e6 e7 e8 e9 e10 e11 e12 ec
                have fC := HC4.out.free kk
                have cC : w4.cell? ⟨C, kk, none⟩ = some (.bool true) := Blk.cell HC4.out (by rw [bools_get _ hkk, decide_eq_true hkL])
                have hC5 := HC4.out.set kk (.bool true)
                rw [bools_set] at hC5
                have hC6 : Blk (w4.setCell ⟨C, kk, none⟩ (.bool true)) C (bools k fun x => decide (x ∈ L)) 4 := hC5.eq (bools_congr fun x _ => by
                  by_cases e : x = kk
                  · subst e; rw [if_pos rfl, decide_eq_true (by exact hkL)]
                  · rw [if_neg e])
                have hFc : Fr [C] w4 (w4.setCell ⟨C, kk, none⟩ (.bool true)) := (Fr.refl [C] w4).setCell (p := ⟨C, kk, none⟩) (.inl (by simp)) _
                have hL5 := HL4.out.fr hFc (by simp; omega) (fun g hg hx => by simp at hx; subst hx; exact HL4.out.apart HC4.out (by decide) hg)
                have hB5 := HB4.out.fr hFc (by simp; omega) (fun g hg hx => by simp at hx; subst hx; exact HB4.out.apart HC4.out (by decide) hg)
                have hO5 := own_keep HO4.out hFc (fun g hg hx => by simp at hx; subst hx; exact own_blk (g := 0) HO4.out HC4.out (by decide) _ hg rfl)
                have hF5 := HF4.out.trans hFc (fun x hx => .inr (by simp at hx; rw [HAE.out]; omega))
                have HC6 := Lib.hid hC6; have HL5 := Lib.hid hL5; have HB5 := Lib.hid hB5; have HO5 := Lib.hid hO5; have HF5 := Lib.hid hF5
                clear hC5 hC6 hFc hL5 hB5 hO5 hF5
                go_wp2_with fail
                go_roundw
                case rel => exact ⟨i + 1, L, _, fb4, by omega, by omega, by go_num, HL5.out, HB5.out, HWN.out, HLn.out, HC6.out, HO5.out, HFB4.out, HF5.out⟩
                case measure => simp [intOf]; omega

              · have HDEC := Lib.hid (show (noteS s (kk : Int)).1 = 1 from (HW.out.note (by omega) (fun x hx => by have := HLn.out x hx; omega) hkL).1)
                have HWN := Lib.hid (show WIn (L ++ [kk]) (noteS s (kk : Int)).2 from (HW.out.note (by omega) (fun x hx => by have := HLn.out x hx; omega) hkL).2)
                have ec : wr.drew.cell? ⟨C, kk, none⟩ = some (.bool false) := Blk.cell HCd.out (by rw [bools_get _ hkk, decide_eq_false hkL])
                have hwr : IntKind.i64.wrap (40 + (i : Int)) = 40 + (i : Int) := IntWalk.i64_in _ (by omega)
                refine wp_region_M 12 (fun w' => w'.cell? ⟨g0, kk * 13, none⟩ = some (.int .i64 1) ∧ w'.cell? ⟨g0, kk * 13 + 1, none⟩ = some (.int .i64 0) ∧ w'.cell? ⟨g0, kk * 13 + 2, none⟩ = some (.int .i64 kk) ∧ w'.cell? ⟨g0, kk * 13 + 3, none⟩ = some (.int .i64 0) ∧ w'.cell? ⟨g0, kk * 13 + 4, none⟩ = some (.bool false) ∧ w'.cell? ⟨g0, kk * 13 + 5, none⟩ = some (.int .u64 0) ∧ w'.cell? ⟨g0, kk * 13 + 6, none⟩ = some (.int .i64 0) ∧ w'.cell? ⟨g0, kk * 13 + 7, none⟩ = some (.int .i64 0) ∧ w'.cell? ⟨g0, kk * 13 + 8, none⟩ = some (.slice none 0 0) ∧ w'.cell? ⟨g0, kk * 13 + 9, none⟩ = some (.int .i64 0) ∧ w'.cell? ⟨g0, kk * 13 + 10, none⟩ = some (.slice none 0 0) ∧ w'.cell? ⟨g0, kk * 13 + 11, none⟩ = some (.int .i64 0) ∧ w'.cell? ⟨g0, kk * 13 + 12, none⟩ = some (.int .i64 0) ∧ w'.cell? ⟨C, kk, none⟩ = some (.bool false)) (by kernel_rfl) (⟨e0, e1, e2, e3, e4, e5, e6, e7, e8, e9, e10, e11, e12, ec⟩) (fun hS => ?_)
                try simp only [List.getElem_toArray, List.getElem_cons_succ, List.getElem_cons_zero, Act.put, List.setIfInBounds_toArray, List.set_cons_zero, List.set_cons_succ]
                refine wpAnyM_take (i := 0) (v := ?_) rfl (by kernel_rfl) (by kernel_rfl) (by kernel_rfl) (by kernel_rfl) (fun _ _ _ h => h) (Or.inl ⟨by kernel_rfl, ?_⟩) hS ?_; rotate_left; (intro w hSw; (try dsimp only at hSw); go_split_ands; go_simp; try with_reducible rfl)
                try simp only [List.getElem_toArray, List.getElem_cons_succ, List.getElem_cons_zero, Act.put, List.setIfInBounds_toArray, List.set_cons_zero, List.set_cons_succ]
                refine wpAnyM_take (i := 1) (v := ?_) rfl (by kernel_rfl) (by kernel_rfl) (by kernel_rfl) (by kernel_rfl) (fun _ _ _ h => h) (Or.inl ⟨by kernel_rfl, ?_⟩) hS ?_; rotate_left; (intro w hSw; (try dsimp only at hSw); go_split_ands; go_simp; try with_reducible rfl)
                try simp only [List.getElem_toArray, List.getElem_cons_succ, List.getElem_cons_zero, Act.put, List.setIfInBounds_toArray, List.set_cons_zero, List.set_cons_succ]
                refine wpAnyM_take (i := 2) (v := ?_) rfl (by kernel_rfl) (by kernel_rfl) (by kernel_rfl) (by kernel_rfl) (fun _ _ _ h => h) (Or.inl ⟨by kernel_rfl, ?_⟩) hS ?_; rotate_left; (intro w hSw; (try dsimp only at hSw); go_split_ands; go_simp; try with_reducible rfl)
                try simp only [List.getElem_toArray, List.getElem_cons_succ, List.getElem_cons_zero, Act.put, List.setIfInBounds_toArray, List.set_cons_zero, List.set_cons_succ]
                refine wpAnyM_take (i := 3) (v := ?_) rfl (by kernel_rfl) (by kernel_rfl) (by kernel_rfl) (by kernel_rfl) (fun _ _ _ h => h) (Or.inl ⟨by kernel_rfl, ?_⟩) hS ?_; rotate_left; (intro w hSw; (try dsimp only at hSw); go_split_ands; go_simp; try with_reducible rfl)
                try simp only [List.getElem_toArray, List.getElem_cons_succ, List.getElem_cons_zero, Act.put, List.setIfInBounds_toArray, List.set_cons_zero, List.set_cons_succ]
                refine wpAnyM_take (i := 4) (v := ?_) rfl (by kernel_rfl) (by kernel_rfl) (by kernel_rfl) (by kernel_rfl) (fun _ _ _ h => h) (Or.inl ⟨by kernel_rfl, ?_⟩) hS ?_; rotate_left; (intro w hSw; (try dsimp only at hSw); go_split_ands; go_simp; try with_reducible rfl)
                try simp only [List.getElem_toArray, List.getElem_cons_succ, List.getElem_cons_zero, Act.put, List.setIfInBounds_toArray, List.set_cons_zero, List.set_cons_succ]
                refine wpAnyM_take (i := 5) (v := ?_) rfl (by kernel_rfl) (by kernel_rfl) (by kernel_rfl) (by kernel_rfl) (fun _ _ _ h => h) (Or.inl ⟨by kernel_rfl, ?_⟩) hS ?_; rotate_left; (intro w hSw; (try dsimp only at hSw); go_split_ands; go_simp; try with_reducible rfl)
                try simp only [List.getElem_toArray, List.getElem_cons_succ, List.getElem_cons_zero, Act.put, List.setIfInBounds_toArray, List.set_cons_zero, List.set_cons_succ]
                refine wpAnyM_take (i := 7) (v := ?_) rfl (by kernel_rfl) (by kernel_rfl) (by kernel_rfl) (by kernel_rfl) (fun _ _ _ h => h) (Or.inl ⟨by kernel_rfl, ?_⟩) hS ?_; rotate_left; (intro w hSw; (try dsimp only at hSw); go_split_ands; go_simp; try with_reducible rfl)
                try simp only [List.getElem_toArray, List.getElem_cons_succ, List.getElem_cons_zero, Act.put, List.setIfInBounds_toArray, List.set_cons_zero, List.set_cons_succ]
                refine wpAnyM_take (i := 8) (v := ?_) rfl (by kernel_rfl) (by kernel_rfl) (by kernel_rfl) (by kernel_rfl) (fun _ _ _ h => h) (Or.inl ⟨by kernel_rfl, ?_⟩) hS ?_; rotate_left; (intro w hSw; (try dsimp only at hSw); go_split_ands; go_simp; try with_reducible rfl)
                try simp only [List.getElem_toArray, List.getElem_cons_succ, List.getElem_cons_zero, Act.put, List.setIfInBounds_toArray, List.set_cons_zero, List.set_cons_succ]
                refine wpAnyM_take (i := 9) (v := ?_) rfl (by kernel_rfl) (by kernel_rfl) (by kernel_rfl) (by kernel_rfl) (fun _ _ _ h => h) (Or.inl ⟨by kernel_rfl, ?_⟩) hS ?_; rotate_left; (intro w hSw; (try dsimp only at hSw); go_split_ands; go_simp; try with_reducible rfl)
                try simp only [List.getElem_toArray, List.getElem_cons_succ, List.getElem_cons_zero, Act.put, List.setIfInBounds_toArray, List.set_cons_zero, List.set_cons_succ]
                refine wpAnyM_take (i := 10) (v := ?_) rfl (by kernel_rfl) (by kernel_rfl) (by kernel_rfl) (by kernel_rfl) (fun _ _ _ h => h) (Or.inl ⟨by kernel_rfl, ?_⟩) hS ?_; rotate_left; (intro w hSw; (try dsimp only at hSw); go_split_ands; go_simp; try with_reducible rfl)
                try simp only [List.getElem_toArray, List.getElem_cons_succ, List.getElem_cons_zero, Act.put, List.setIfInBounds_toArray, List.set_cons_zero, List.set_cons_succ]
                refine wpAnyM_one (i := 6) (by kernel_rfl) rfl (fun KK hK => ?_)
                go_simp
                refine (take_L HBd.out (by simp) { pk0 1 with seq := kk } bt_zero (40 + (i : Int))).mono ?_
                rintro e w4 ⟨fb4, q4, t4, rfl, hif, hB4, ht4, hfb4, hF4⟩
                rw [if_neg (fun h => by cases h.2)] at hif
                obtain ⟨rfl, rfl⟩ := hif
                rw [show decide ((noteS s (Pk.seq { pk0 1 with seq := (kk : Int) })).1 = 1) = true from by rw [show (noteS s (Pk.seq { pk0 1 with seq := (kk : Int) })).1 = 1 from HDEC.out]; rfl]
                have hnA : A + 1 ∉ ([] : List Nat) := by simp
                have hg0A : g0 ≠ A + 1 := HG0.out
                have hCA : C ≠ A + 1 := HCA.out
                have hS4 : w4.cell? ⟨g0, kk * 13, none⟩ = some (.int .i64 1) ∧ w4.cell? ⟨g0, kk * 13 + 1, none⟩ = some (.int .i64 0) ∧ w4.cell? ⟨g0, kk * 13 + 2, none⟩ = some (.int .i64 kk) ∧ w4.cell? ⟨g0, kk * 13 + 3, none⟩ = some (.int .i64 0) ∧ w4.cell? ⟨g0, kk * 13 + 4, none⟩ = some (.bool false) ∧ w4.cell? ⟨g0, kk * 13 + 5, none⟩ = some (.int .u64 0) ∧ w4.cell? ⟨g0, kk * 13 + 6, none⟩ = some (.int .i64 0) ∧ w4.cell? ⟨g0, kk * 13 + 7, none⟩ = some (.int .i64 0) ∧ w4.cell? ⟨g0, kk * 13 + 8, none⟩ = some (.slice none 0 0) ∧ w4.cell? ⟨g0, kk * 13 + 9, none⟩ = some (.int .i64 0) ∧ w4.cell? ⟨g0, kk * 13 + 10, none⟩ = some (.slice none 0 0) ∧ w4.cell? ⟨g0, kk * 13 + 11, none⟩ = some (.int .i64 0) ∧ w4.cell? ⟨g0, kk * 13 + 12, none⟩ = some (.int .i64 0) ∧ w4.cell? ⟨C, kk, none⟩ = some (.bool false) := ⟨(hF4.cell (p := ⟨g0, kk * 13, none⟩) hg0l (by simp; omega)).trans e0, (hF4.cell (p := ⟨g0, kk * 13 + 1, none⟩) hg0l (by simp; omega)).trans e1, (hF4.cell (p := ⟨g0, kk * 13 + 2, none⟩) hg0l (by simp; omega)).trans e2, (hF4.cell (p := ⟨g0, kk * 13 + 3, none⟩) hg0l (by simp; omega)).trans e3, (hF4.cell (p := ⟨g0, kk * 13 + 4, none⟩) hg0l (by simp; omega)).trans e4, (hF4.cell (p := ⟨g0, kk * 13 + 5, none⟩) hg0l (by simp; omega)).trans e5, (hF4.cell (p := ⟨g0, kk * 13 + 6, none⟩) hg0l (by simp; omega)).trans e6, (hF4.cell (p := ⟨g0, kk * 13 + 7, none⟩) hg0l (by simp; omega)).trans e7, (hF4.cell (p := ⟨g0, kk * 13 + 8, none⟩) hg0l (by simp; omega)).trans e8, (hF4.cell (p := ⟨g0, kk * 13 + 9, none⟩) hg0l (by simp; omega)).trans e9, (hF4.cell (p := ⟨g0, kk * 13 + 10, none⟩) hg0l (by simp; omega)).trans e10, (hF4.cell (p := ⟨g0, kk * 13 + 11, none⟩) hg0l (by simp; omega)).trans e11, (hF4.cell (p := ⟨g0, kk * 13 + 12, none⟩) hg0l (by simp; omega)).trans e12, (hF4.cell (p := ⟨C, kk, none⟩) hCl (by simp; omega)).trans ec⟩
                have HB4 := Lib.hid hB4; have HL4 := Lib.hid (HLd.out.fr hF4 (by simp) (fun g hg hx => by simp at hx; subst hx; exact HLd.out.apartL HBd.out hg))
                have HO4 := Lib.hid (own_keep HOd.out hF4 (fun g hg hx => by simp [Value.ownBlock] at hg; simp at hx; omega))
                have HC4 := Lib.hid (hF4.blk HCd.out (by simp; omega))
                have HF4 := Lib.hid (HFd.out.trans hF4 (fun x hx => .inr (by simp at hx; rw [HAE.out]; omega)))
                have HFB4 := Lib.hid (fun g (hg : fb4 = some g) => show A ≤ g ∧ fp ≠ some g from by
                  rcases hfb4 with h | h
                  · rw [h] at hg; exact HFBd.out g hg
                  · exact ⟨by have h1 := h g hg; have h2 := HFd.out.size; have h3 := HAE.out; omega, fun e => by have h1 := h g hg; have h2 := HLd.out.fplt g e; omega⟩)
                dsimp only; refine hK.out _ _ (fun _ => hS4) (fun _ => ?_); clear hK KK hS hB4 hF4 ht4 hfb4; have hS := hS4; clear hS4
                
                try simp only [List.getElem_toArray, List.getElem_cons_succ, List.getElem_cons_zero, Act.put, List.setIfInBounds_toArray, List.set_cons_zero, List.set_cons_succ]
                refine wpAnyM_take (i := 11) (v := ?_) rfl (by kernel_rfl) (by kernel_rfl) (by kernel_rfl) (by kernel_rfl) (fun _ _ _ h => h) (Or.inl ⟨by kernel_rfl, ?_⟩) hS ?_; rotate_left; (intro w hSw; (try dsimp only at hSw); go_split_ands; go_simp; try with_reducible rfl)
                try simp only [List.getElem_toArray, List.getElem_cons_succ, List.getElem_cons_zero, Act.put, List.setIfInBounds_toArray, List.set_cons_zero, List.set_cons_succ]
                refine wpAnyM_done (by kernel_rfl) ?_ _
                try simp only [List.getElem_toArray, List.getElem_cons_succ, List.getElem_cons_zero, Act.put, List.setIfInBounds_toArray, List.set_cons_zero, List.set_cons_succ]
                clear hS
                clear hwr e0 e1 e2 e3 e4 e5 e6 e7 e8 e9 e10 e11 e12 ec
                have fC := HC4.out.free kk
                have cC : w4.cell? ⟨C, kk, none⟩ = some (.bool false) := Blk.cell HC4.out (by rw [bools_get _ hkk, decide_eq_false hkL])
                have hC5 := HC4.out.set kk (.bool true)
                rw [bools_set] at hC5
                have hC6 : Blk (w4.setCell ⟨C, kk, none⟩ (.bool true)) C (bools k fun x => decide (x ∈ (L ++ [kk]))) 4 := hC5.eq (bools_congr fun x _ => by
                  by_cases e : x = kk
                  · subst e; rw [if_pos rfl, decide_eq_true (by simp)]
                  · rw [if_neg e]; simp [e])
                have hFc : Fr [C] w4 (w4.setCell ⟨C, kk, none⟩ (.bool true)) := (Fr.refl [C] w4).setCell (p := ⟨C, kk, none⟩) (.inl (by simp)) _
                have hL5 := HL4.out.fr hFc (by simp; omega) (fun g hg hx => by simp at hx; subst hx; exact HL4.out.apart HC4.out (by decide) hg)
                have hB5 := HB4.out.fr hFc (by simp; omega) (fun g hg hx => by simp at hx; subst hx; exact HB4.out.apart HC4.out (by decide) hg)
                have hO5 := own_keep HO4.out hFc (fun g hg hx => by simp at hx; subst hx; exact own_blk (g := 0) HO4.out HC4.out (by decide) _ hg rfl)
                have hF5 := HF4.out.trans hFc (fun x hx => .inr (by simp at hx; rw [HAE.out]; omega))
                have HC6 := Lib.hid hC6; have HL5 := Lib.hid hL5; have HB5 := Lib.hid hB5; have HO5 := Lib.hid hO5; have HF5 := Lib.hid hF5
                clear hC5 hC6 hFc hL5 hB5 hO5 hF5
                go_wp2_with fail
                go_roundw
                case rel => exact ⟨i + 1, (L ++ [kk]), _, fb4, by omega, by omega, by go_num, HL5.out, HB5.out, HWN.out, (fun x hx => by simp at hx; rcases hx with hx | hx; exact HLn.out x hx; omega), HC6.out, HO5.out, HFB4.out, HF5.out⟩
                case measure => simp [intOf]; omega

        · have hcs : (¬ (i : Int) < len1) ∨ ((i : Int) < len1 ∧ ¬ (i : Int) < 60) := by omega
          have HL := Lib.hid hL; have HB := Lib.hid hB; have HW := Lib.hid hW; have HLn := Lib.hid hLn; have HC := Lib.hid hC; have HO := Lib.hid hO; have HFB := Lib.hid hfb; have HFR := Lib.hid hFr
          have hszA : A ≤ wr.heap.size := by have h1 := hFr.size; have h2 := HAE.out; omega
          clear hL hB hW hLn hC hO hfb hFr
          clear hgo
          rcases hcs with q1 | ⟨q1, q2⟩
          all_goals
            go_wp2_with fail
            refine (send_L HB.out (pk0 6) 100).mono ?_
            rintro e w5 ⟨la, ac, fc, rfl, e1, e2, hB5, hfc, hF5⟩
            have hfa : ∃ fa, Bt ac fa ∧ (s.any = true → la = s.last ∧ fa = s.f) ∧ (s.any = false → la = 0 ∧ ac = 0) := by
              cases hy : s.any with
              | false => obtain ⟨rfl, rfl⟩ := e1 hy; exact ⟨fun _ => false, bt_zero, (fun h => by cases h), fun _ => ⟨rfl, rfl⟩⟩
              | true => obtain ⟨h1, h2⟩ := e2 hy; exact ⟨s.f, h2, (fun _ => ⟨h1, rfl⟩), fun h => by cases h⟩
            obtain ⟨fa, hbt, hya, -⟩ := hfa
            have HBT := Lib.hid hbt; have HYA := Lib.hid hya
            have hnbt : ∀ g, fb = some g → fp ≠ some g := fun g hg hp => by
              exact (HFB.out g hg).2 hp
            have HL5 := Lib.hid (HL.out.fr hF5 (by
              simp only [List.mem_cons, Option.mem_toList, not_or]
              exact ⟨by omega, fun h => HB.out.apartL HL.out h⟩) (fun g hg => by
              simp only [List.mem_cons, Option.mem_toList, not_or]
              exact ⟨fun e => HL.out.apartL HB.out (by rw [hg, e]), fun h => hnbt g h hg⟩))
            have HC5 := Lib.hid (hF5.blk HC.out (by
              simp only [List.mem_cons, Option.mem_toList, not_or]
              exact ⟨HCA.out, fun h => HB.out.apart HC.out (by decide) h⟩))
            have HO5 := Lib.hid (own_keep HO.out hF5 (fun g hg => by
              simp only [List.mem_cons, Option.mem_toList, not_or]
              obtain ⟨vs, wv, x1, x2, x3, x4⟩ := HB.out.ex
              exact ⟨fun e => own_blk (g := 0) HO.out x1 (by decide) g hg e, fun e => own_own HO.out x3 (by decide) g hg (x4.trans e)⟩))
            have HF5 := Lib.hid (HFR.out.trans hF5 (fun x hx => .inr (by
              simp only [List.mem_cons, Option.mem_toList] at hx
              rw [HAE.out]
              rcases hx with rfl | hx
              · omega
              · exact (HFB.out _ hx).1)))
            clear e1 e2 hB5 hfc hF5 hbt hya hnbt HL HB HC HO HFR HFB
            dsimp only [Pk.v, pk0]
            go_upto_region 18 with (fail)
            have hX := Blk.new w5 #[.int .i64 6, .int .i64 0, .int .i64 0, .int .i64 la, .bool s.any, .int .u64 ac, .int .i64 0, .int .i64 0, .slice none 0 0, .int .i64 0, .slice none 0 0, .int .i64 0, .int .i64 0] 38
            have hF6 := (Fr.refl [] w5).alloc (.cells #[.int .i64 6, .int .i64 0, .int .i64 0, .int .i64 la, .bool s.any, .int .u64 ac, .int .i64 0, .int .i64 0, .slice none 0 0, .int .i64 0, .slice none 0 0, .int .i64 0, .int .i64 0] 38)
            have HL6 := Lib.hid (HL5.out.fr hF6 (by simp) (by simp)); have HC6 := Lib.hid (hF6.blk HC5.out (by simp)); have HO6 := Lib.hid (own_fr (S := []) HO5.out hF6 (by simp)); have HF6 := Lib.hid (HF5.out.trans hF6 (by simp))
            have hXA : A < w5.heap.size := HL5.out.lt
            have hXC : C < w5.heap.size := HC5.out.lt
            have hXg : g0 < w5.heap.size := own_lt HO5.out rfl
            clear hF6 HL5 HC5 HO5 HF5
            obtain ⟨X, hXe⟩ : ∃ X, w5.heap.size = X := ⟨_, rfl⟩
            rw [hXe] at hX hXA hXC hXg ⊢
            clear hXe
            generalize w5.alloc (.cells #[.int .i64 6, .int .i64 0, .int .i64 0, .int .i64 la, .bool s.any, .int .u64 ac, .int .i64 0, .int .i64 0, .slice none 0 0, .int .i64 0, .slice none 0 0, .int .i64 0, .int .i64 0] 38) = w6 at *
            have HX := Lib.hid hX
            clear hX
            go_wp2_with fail
            refine (known_any _).mono ?_; rintro e w7 ⟨rfl, hF7⟩
            have HX7 := Lib.hid (hF7.blk HX.out (by simp)); have HL7 := Lib.hid (HL6.out.fr hF7 (by simp) (by simp)); have HC7 := Lib.hid (hF7.blk HC6.out (by simp)); have HO7 := Lib.hid (own_fr (S := []) HO6.out hF7 (by simp)); have HF7 := Lib.hid (HF6.out.trans hF7 (by simp))
            clear hF7 HX HL6 HC6 HO6 HF6
            have l0 := Blk.cell (i := 0) HX7.out rfl
            have l1 := Blk.cell (i := 1) HX7.out rfl
            have l2 := Blk.cell (i := 2) HX7.out rfl
            have l3 := Blk.cell (i := 3) HX7.out rfl
            have l4 := Blk.cell (i := 4) HX7.out rfl
            have l5 := Blk.cell (i := 5) HX7.out rfl
            have l6 := Blk.cell (i := 6) HX7.out rfl
            have l7 := Blk.cell (i := 7) HX7.out rfl
            have l8 := Blk.cell (i := 8) HX7.out rfl
            have l9 := Blk.cell (i := 9) HX7.out rfl
            have l10 := Blk.cell (i := 10) HX7.out rfl
            have l11 := Blk.cell (i := 11) HX7.out rfl
            have l12 := Blk.cell (i := 12) HX7.out rfl
            simp only [List.getElem_toArray, List.getElem_cons_zero, List.getElem_cons_succ] at l0 l1 l2 l3 l4 l5 l6 l7 l8 l9 l10 l11 l12
            go_wp2_with fail
            refine (take_L HL7.out (by simp) { pk0 6 with last := la, any := s.any, acks := ac } HBT.out 101).mono ?_
            rintro e w8 ⟨f8, q8, t8, rfl, hif, hL8, ht8, hf8, hF8⟩
            rw [noteS_s0, show decide ((1 : Int) = 1) = true from rfl]
            have hq8 : q8.map (·.1) = lack L k := by
              by_cases hne : L = []
              · have hs := HW.out.nil hne
                rw [if_neg (fun h => by have := h.2; rw [hs] at this; cases this)] at hif
                rw [hif.1, hne, lack_nil, qn_small (by omega), map_fst]
              · obtain ⟨hay, -⟩ := HW.out.big hne
                obtain ⟨h1, h2⟩ := HYA.out hay
                rw [if_pos ⟨noteS_s0 _, hay⟩] at hif
                rw [hif.1]
                dsimp only
                rw [h1, h2]
                exact left_L HW.out hne (by omega) HLn.out
            have HQ8 := Lib.hid hq8
            have ht8' : t8.1 ≤ 32 := ht8
            have HX8 := Lib.hid (hF8.blk HX7.out (by simp; omega)); have HL8 := Lib.hid hL8; have HC8 := Lib.hid (hF8.blk HC7.out (by simp; omega)); have HO8 := Lib.hid (own_keep HO7.out hF8 (fun g hg hx => by simp [Value.ownBlock] at hg; simp at hx; omega)); have HF8 := Lib.hid (HF7.out.trans hF8 (fun x hx => .inr (by simp at hx; rw [HAE.out]; omega)))
            clear hif hL8 ht8 hf8 hF8 hq8 HX7 HL7 HC7 HO7 HF7 l0 l1 l2 l3 l4 l5 l6 l7 l8 l9 l10 l11 l12
            go_wp2_with fail
            go_loopw [15, 85] (fun lv jv wr => ∃ j : Nat, j ≤ k ∧ jv = .int .i64 j ∧ wr.ownsRow A 3 1 lv (lack L j).length (ints (lack L j)) ∧ Blk wr X #[.int .i64 6, .int .i64 0, .int .i64 0, .int .i64 la, .bool s.any, .int .u64 ac, .int .i64 0, .int .i64 0, .slice none 0 0, .int .i64 0, .slice none 0 0, .int .i64 0, .int .i64 0] 38 ∧ HasL wr A f8 k (noteS s0 0).2 q8 t8 ∧ Blk wr C (bools k fun x => decide (x ∈ L)) 4 ∧ wr.ownsRow A 38 13 (.slice (some ⟨g0, 0, none⟩) k cap0) k (pks k) ∧ Fr [] W wr) (fun _ jv _ => k - (intOf jv).toNat)
            case atStart => exact ⟨0, Nat.zero_le _, rfl, own_nil _ _ _ _, HX8.out, HL8.out, HC8.out, HO8.out, HF8.out⟩
            case round =>
              obtain ⟨j, hj, rfl, hlo, hX, hL, hC, hO, hFr⟩ := hrel
              by_cases hjk : j < k
              · have q3 : (j : Int) < k := by omega
                have q4 : (0 : Int) ≤ j := by omega
                have HLO := Lib.hid hlo; have HX := Lib.hid hX; have HL := Lib.hid hL; have HC := Lib.hid hC; have HO := Lib.hid hO; have HFR := Lib.hid hFr
                clear hlo hX hL hC hO hFr HX8 HL8 HC8 HO8 HF8
                by_cases hjL : j ∈ L
                · have cC : wr.cell? ⟨C, j, none⟩ = some (.bool true) := Blk.cell HC.out (by rw [bools_get _ hjk, decide_eq_true hjL])
                  have HLS := Lib.hid (show lack L (j + 1) = lack L j by rw [lack_succ, if_pos hjL])
                  clear hjL
                  go_wp2_with fail
                  go_roundw
                  case rel => exact ⟨j + 1, by omega, by go_num, by rw [HLS.out]; exact HLO.out, HX.out, HL.out, HC.out, HO.out, HFR.out⟩
                  case measure => simp [intOf]; omega
                · have cC : wr.cell? ⟨C, j, none⟩ = some (.bool false) := Blk.cell HC.out (by rw [bools_get _ hjk, decide_eq_false hjL])
                  have HLS := Lib.hid (show lack L (j + 1) = lack L j ++ [j] by rw [lack_succ, if_neg hjL])
                  have ej : wr.cell? ⟨g0, j * 13 + 2, none⟩ = some (.int .i64 j) := by rw [HO.out.cellAt _ (by omega)]; exact pks_get (j := 2) (by decide) hjk
                  have hll : (lack L j).length ≤ 30 := by
                    have h1 : (lack L j).length ≤ (List.range j).length := List.length_filter_le _ _
                    rw [List.length_range] at h1; omega
                  clear hjL
                  go_upto_region 25 with (fail)
                  apply wp_region_lit
                  iterate 7 (refine wpList_plain rfl (fun K hK => ?_); go_simp; refine hK _ _ ?_; clear hK K)
                  have hnb := Blk.new wr #[.int .i64 j] 3
                  have hF4 := (Fr.refl [] wr).alloc (.cells #[.int .i64 j] 3)
                  have hlo4 := own_fr (S := []) HLO.out hF4 (by simp)
                  have hA24 : A ≤ (wr.alloc (.cells #[.int .i64 j] 3)).heap.size := by have h1 := HFR.out.size; have h2 := hF4.size; have h3 := HAE.out; omega
                  obtain ⟨ii0, hii0, hzz0, hzz1, hzz2⟩ := info_parts infInt
                  refine wpList_append_src _ rfl (Operand.tmp 93) (Operand.tmp 99) 22 rfl A 3 ii0 _ 1 8 Try.underlying22 hii0 hzz0 hzz1 hzz2 rfl (by decide) u15 (.slice (some ⟨wr.heap.size, 0, none⟩) 1 1) (lack L j).length 1 (ints (lack L j)) (ints [j]) rfl (by kernel_rfl) hlo4 (src_blk hnb (by simp) (by simp [Value.oneCell']) 1) (by unfold maxLen; omega) (by omega) hA24 ?_
                  intro v5 w9 ho9 hg9 hat9
                  have hF9 := fr_own (HFR.out.trans hF4 (by simp)) hlo4 hg9 (by rw [HAE.out]; exact Nat.le_refl _)
                  have hfg := fr_grown hg9
                  rw [← ints_app] at ho9
                  have hLL := HL.out.fr hF4 (by simp) (by simp)
                  have hL9 := hLL.fr hfg (fun hx => by
                    obtain ⟨vs, wv, x1, x2, x3, x4⟩ := hLL.ex
                    exact own_notin hlo4 x1 (by decide) hx) (fun g hg hx => by
                    obtain ⟨vs, wv, x1, x2, x3, x4⟩ := hLL.ex
                    simp only [Option.mem_toList] at hx
                    exact own_own hlo4 x3 (by decide) g hx (x4.trans hg))
                  have hX9 := hfg.blk (hF4.blk HX.out (by simp)) (own_notin hlo4 (hF4.blk HX.out (by simp)) (by decide))
                  have hC9 := hfg.blk (hF4.blk HC.out (by simp)) (own_notin hlo4 (hF4.blk HC.out (by simp)) (by decide))
                  have hO4 := own_fr (S := []) HO.out hF4 (by simp)
                  have hO9 := own_keep hO4 hfg (fun g hg hx => by
                    simp only [Option.mem_toList] at hx
                    exact own_own hlo4 hO4 (by decide) g hx hg)
                  have HO9 := Lib.hid ho9; have HF9 := Lib.hid hF9; have HL9 := Lib.hid hL9; have HX9 := Lib.hid hX9; have HC9 := Lib.hid hC9; have HP9 := Lib.hid hO9
                  clear hnb hF4 hlo4 hA24 ho9 hg9 hat9 hF9 hfg hLL hL9 hX9 hC9 hO4 hO9 cC ej
                  go_wp2_with fail
                  go_roundw
                  case rel => exact ⟨j + 1, by omega, by go_num, by rw [HLS.out, List.length_append]; exact HO9.out, HX9.out, HL9.out, HC9.out, HP9.out, HF9.out⟩
                  case measure => simp [intOf]; omega
              · have hje : j = k := by omega
                subst hje
                have q3 : ¬ (j : Int) < j := by omega
                have HLO := Lib.hid hlo; have HX := Lib.hid hX; have HL := Lib.hid hL; have HFR := Lib.hid hFr
                clear hlo hX hL hC hO hFr HX8 HL8 HC8 HO8 HF8
                go_wp2_with fail
                refine (waiting_L HL.out).mono ?_; rintro e w9 ⟨v9, rfl, hv9, hF9⟩
                rw [HQ8.out] at hv9
                have hls1 := LS.of_own' hv9
                have hls2 := LS.of_own' (own_fr (S := []) HLO.out hF9 (by simp))
                have hll : (lack L j).length ≤ 30 := by
                  have h1 : (lack L j).length ≤ (List.range j).length := List.length_filter_le _ _
                  rw [List.length_range] at h1; omega
                have HS1 := Lib.hid hls1; have HS2 := Lib.hid hls2
                have HX9 := Lib.hid (hF9.blk HX.out (by simp)); have HL9 := Lib.hid (HL.out.fr hF9 (by simp) (by simp)); have HF9 := Lib.hid (HFR.out.trans hF9 (by simp))
                clear hv9 hls1 hls2 hF9
                go_wp2_with fail
                refine (same_any HS1.out HS2.out (by omega) (by omega)).mono ?_; rintro e w10 ⟨rfl, d10, rfl⟩
                rw [decide_eq_true (show lack L j = lack L j from rfl)]
                have HX10 := Lib.hid (HX9.out.drewN d10); have HL10 := Lib.hid (HL9.out.fr ((Fr.refl [] w9).drewN d10) (by simp) (by simp)); have HF10 := Lib.hid (HF9.out.drewN d10)
                generalize w9.drewN d10 = w10 at *
                clear HX9 HL9 HF9 HS1 HS2
                have l0 := Blk.cell (i := 0) HX10.out rfl
                have l1 := Blk.cell (i := 1) HX10.out rfl
                have l2 := Blk.cell (i := 2) HX10.out rfl
                have l3 := Blk.cell (i := 3) HX10.out rfl
                have l4 := Blk.cell (i := 4) HX10.out rfl
                have l5 := Blk.cell (i := 5) HX10.out rfl
                have l6 := Blk.cell (i := 6) HX10.out rfl
                have l7 := Blk.cell (i := 7) HX10.out rfl
                have l8 := Blk.cell (i := 8) HX10.out rfl
                have l9 := Blk.cell (i := 9) HX10.out rfl
                have l10 := Blk.cell (i := 10) HX10.out rfl
                have l11 := Blk.cell (i := 11) HX10.out rfl
                have l12 := Blk.cell (i := 12) HX10.out rfl
                simp only [List.getElem_toArray, List.getElem_cons_zero, List.getElem_cons_succ] at l0 l1 l2 l3 l4 l5 l6 l7 l8 l9 l10 l11 l12
                go_wp2_with fail
                refine (take_L HL10.out (by omega) { pk0 6 with last := la, any := s.any, acks := ac } HBT.out 102).mono ?_
                rintro e w11 ⟨f11, q11, t11, rfl, -, -, -, -, hF11⟩
                have h2 : noteS (noteS s0 0).2 0 = (2, (noteS s0 0).2) := by
                  show noteS s1 0 = (2, s1)
                  unfold noteS
                  rw [if_neg (by decide), if_neg (by decide), if_neg (by decide), if_pos (by decide)]
                rw [show decide ((noteS (noteS s0 0).2 (Pk.seq { pk0 6 with last := la, any := s.any, acks := ac })).1 = 1) = false from decide_eq_false (show ¬ (noteS (noteS s0 0).2 0).1 = 1 by rw [h2]; decide)]
                clear h2
                have HF11 := Lib.hid (HF10.out.trans hF11 (fun x hx => .inr (by simp at hx; rw [HAE.out]; omega)))
                clear hF11 l0 l1 l2 l3 l4 l5 l6 l7 l8 l9 l10 l11 l12
                go_wp2_with fail
                go_ret
                exact ⟨rfl, HF11.out.below (Nat.le_refl _) (by simp)⟩
end Go.Proofs.Ytkjjikjilmngdaa.Lk
