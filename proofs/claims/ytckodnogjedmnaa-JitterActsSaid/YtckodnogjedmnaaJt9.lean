/- JitterActs. -/
import Derived.Test.YtckodnogjedmnaaJt8
import Derived.Test.YtckodnogjedmnaaSlRow
import Derived.Deep.CutBlock
import Derived.Deep.DeepCutAuto
namespace Go.Proofs.Ytckodnogjedmnaa.Jt
open Go.RowKit Dt Go.Proofs.Ytckodnogjedmnaa.Hd
set_option linter.unusedVariables false
set_option linter.unusedSimpArgs false

theorem HasJ.raise {w : World} {lo lo' B M p a c : Nat} (h : HasJ w lo B M p a c (fun _ => none)) (h1 : lo ≤ lo') (h2 : lo' ≤ w.heap.size) : HasJ w lo' B M p a c (fun _ => none) := by
  obtain ⟨f, hm, hr⟩ := h.map
  have hb := h.hB; have hm' := h.hM
  exact ⟨h.blk, ⟨f, hm, fun x hx => hr x hx⟩, by omega, by omega, h.ne, h2⟩
/-- the buffer and the law's own map tell the same -/
structure JA (w : World) (lo B M V p a c : Nat) (g : Int → Option (Nat → C4)) : Prop where
  j : HasJ w lo B M p a c g
  h : ∃ f, MapW Try.prog 3 w V c f ∧ ∀ x, inK x → RowA w [B, M, V] p (g x) (f x)
  rng : ∀ x, inK x → (g x).isSome = true → (a : Int) ≤ x ∧ x < a + 64
theorem JA.fr {w w' : World} {lo B M V p a c : Nat} {g : Int → Option (Nat → C4)} (h : JA w lo B M V p a c g) (hF : Fr [] w w') : JA w' lo B M V p a c g := by
  obtain ⟨f, hm, hr⟩ := h.h
  exact ⟨h.j.fr hF (by simp) (by simp) (by simp), ⟨f, hm.fr hF (by simp), fun x hx => (hr x hx).fr hF (by simp)⟩, h.rng⟩
theorem JA.le {w : World} {lo B M V p a c : Nat} {g : Int → Option (Nat → C4)} (h : JA w lo B M V p a c g) : c ≤ 64 := by
  obtain ⟨f, hm, hr⟩ := h.h
  refine hm.count_le intTy a 64 (fun x hx hf => h.rng x hx ?_)
  rw [← (hr x hx).some_iff]; exact hf
set_option maxRecDepth 100000 in
set_option maxHeartbeats 12800000 in
theorem walk_jacts (b0 : Int) (a1 : Option Addr) (len1 cap1 : Nat) (z1 : Nat → (Int × Int × Int) × Value × Nat × (Nat → C4)) (W : World) (w0 : (Lit.int .i64 b0).wf = true) (s1 : SlAct W a1 len1 cap1 z1) :
    Calls Try.prog 4 #[.int .i64 b0, .slice a1 len1 cap1] W fun e w' => e = .returned (.bool true) ∧ Below W.heap.size W w' := by
  have HC2 := Lib.hid s1.1.cells
  have HW2 := Lib.hid s1.2
  have hr0 := s1.1.reach
  have hl0 := s1.1.le
  clear s1 w0
  have hmm := @run_makeMap Try.prog
  go_enter Try.func4, Try.ntmps4
  go_wp2_with fail
  refine (pick_any _ _ _ (by decide) (by decide)).mono ?_; rintro e w' ⟨rfl, rfl⟩
  obtain ⟨q, hq⟩ : ∃ q : Nat, b0 % 8 = q := ⟨(b0 % 8).toNat, by omega⟩
  have hq8 : q < 8 := by omega
  rw [hq]; clear hq
  go_wp2_with fail
  refine (jnew_any (q := q + 1) (by omega) (by omega) (by omega)).mono ?_; rintro e w1 ⟨rfl, hJ1, hF1⟩
  obtain ⟨B, hB⟩ : ∃ B, W.heap.size + 1 = B := ⟨_, rfl⟩
  obtain ⟨M, hM⟩ : ∃ M, W.heap.size = M := ⟨_, rfl⟩
  have hBM : M < B := by omega
  have hlo1 := hJ1.lo_le
  have hBs : B < w1.heap.size := by omega
  rw [hB] at hJ1 ⊢
  rw [hM] at hJ1
  have HMS := Lib.hid (show W.heap.size ≤ M by omega)
  have hlB : M + 2 = B + 1 := by omega
  rw [hlB] at hJ1
  clear hB hM hlo1 hlB
  go_wp2_with fail
  refine (known_j _).mono ?_; rintro e w3 ⟨rfl, hF3⟩
  obtain ⟨V, hV⟩ : ∃ V, w3.heap.size = V := ⟨_, rfl⟩
  have hVB : B < V := by have := hF3.size; omega
  have hX : Fr [] w3 (w3.alloc (.map #[] 0)) := (Fr.refl [] w3).alloc _
  have hJ4 := ((hJ1.fr hF3 (by simp) (by simp) (by simp)).fr hX (by simp) (by simp) (by simp)).raise (lo' := V + 1) (by omega) (by simp; omega)
  have hM4 := MapW.made w3 Try.prog 3
  rw [hV] at hM4
  have hJA : JA (w3.alloc (.map #[] 0)) (V + 1) B M V (q + 1) 0 0 (fun _ => none) := ⟨hJ4, ⟨_, hM4, fun x hx => rfl⟩, fun x hx h => by simp at h⟩
  have HJA := Lib.hid hJA
  have HF4 := Lib.hid ((hF1.trans hF3 (by simp)).trans hX (by simp))
  clear hJ1 hF1 hF3 hX hJ4 hM4 hJA
  go_wp2_with fail
  try rw [hV]
  clear hV
  generalize w3.alloc (.map #[] 0) = w4 at *
  clear hmm hBs
  go_loopw [6, 8] (fun av iv wr => ∃ (i a c : Nat) (g : Int → Option (Nat → C4)), av = .int .i64 a ∧ iv = .int .i64 i ∧ i ≤ len1 ∧ i ≤ 80 ∧ a ≤ i ∧ JA wr (V + 1) B M V (q + 1) a c g ∧ Fr [] W wr) (fun _ iv _ => 80 - (intOf iv).toNat)
  case atStart => exact ⟨0, 0, 0, _, rfl, rfl, by omega, by omega, by omega, HJA.out, HF4.out⟩
  case round =>
    obtain ⟨i, a, c, g, rfl, rfl, hi1, hi2, hai, hJ, hF⟩ := hrel
    clear HJA HF4
    by_cases hlt : i < len1 ∧ i < 80
    · obtain ⟨hlt, hlt2⟩ := hlt
      obtain ⟨b, off, rfl, hlb, hc⟩ := HC2.out (by omega)
      obtain ⟨k0, k1, k2, k3⟩ := hc i hlt
      have k0 := (hF.cell (p := ⟨b, off + i * 4, none⟩) hlb (by simp)).trans k0
      have k1 := (hF.cell (p := ⟨b, off + (i * 4 + 1), none⟩) hlb (by simp)).trans k1
      have k2 := (hF.cell (p := ⟨b, off + (i * 4 + 2), none⟩) hlb (by simp)).trans k2
      have k3 := (hF.cell (p := ⟨b, off + (i * 4 + 3), none⟩) hlb (by simp)).trans k3
      rw [← Nat.add_assoc] at k1 k2 k3
      obtain ⟨⟨hw0, hw1, hw2⟩, hrow⟩ := HW2.out i hlt
      obtain ⟨⟨x0, x1, x2⟩, vr, nr, Rr, hz⟩ : ∃ (x : Int × Int × Int) (v : Value) (n : Nat) (R : Nat → C4), z1 i = (x, v, n, R) := ⟨_, _, _, _, rfl⟩
      rw [hz] at k0 k1 k2 k3 hw0 hw1 hw2 hrow
      dsimp only at k0 k1 k2 k3 hw0 hw1 hw2 hrow
      have q1 : (i : Int) < len1 := by omega
      have q2 : (i : Int) < 80 := by omega
      have q0 : (0 : Int) ≤ i := by omega
      obtain ⟨va, vc, rfl, -⟩ := id hrow
      have HROW := Lib.hid hrow
      clear hz hc hrow
      go_upto_region 11 with (fail)
      obtain ⟨A, hA⟩ : ∃ A, wr.heap.size = A := ⟨_, rfl⟩
      have hBk := Blk.new wr #[.int .i64 x0, .int .i64 x1, .int .i64 x2, .slice va nr vc] 35
      have hX : Fr [] wr (wr.alloc (.cells #[.int .i64 x0, .int .i64 x1, .int .i64 x2, .slice va nr vc] 35)) := (Fr.refl [] wr).alloc _
      have hJ5 := hJ.fr hX
      have hF5 := hF.trans hX (by simp)
      have hAV : V < A := by have := hJ.j.lo_le; omega
      rw [hA] at hBk ⊢
      have HROW5 := Lib.hid (RA.came (av := [B, M, V]) HROW.out hF5 (fun x hx => by have := HMS.out; simp at hx; omega))
      clear hJ hF hX k0 k1 k2 k3 hA HROW
      generalize wr.alloc (.cells #[.int .i64 x0, .int .i64 x1, .int .i64 x2, .slice va nr vc] 35) = w5 at *
      have l0 := Blk.cell (i := 0) hBk rfl
      have l1 := Blk.cell (i := 1) hBk rfl
      have l2 := Blk.cell (i := 2) hBk rfl
      have l3 := Blk.cell (i := 3) hBk rfl
      have HBK := Lib.hid hBk; have HJ5 := Lib.hid hJ5; have HF5 := Lib.hid hF5
      clear hBk hJ5 hF5
      go_wp2_with fail
      refine (pick_any _ _ _ (by decide) (by decide)).mono ?_; rintro e w' ⟨rfl, rfl⟩
      by_cases hw : 4 < x0 % 7
      · have q3 : (4 : Int) < x0 % 7 := hw
        cases hg : g a with
        | none =>
          go_wp2_with fail
          refine (next_no HJ5.out.j (by omega) hg).mono ?_; rintro e w6 ⟨rfl, k6, rfl⟩
          have hX : Fr [] w5 (w5.drewN k6) := (Fr.refl [] w5).drewN k6
          have hJ6 := HJ5.out.fr hX
          have hF6 := HF5.out.trans hX (by simp)
          clear hX l0 l1 l2 l3 HBK HJ5 HF5
          generalize w5.drewN k6 = w6 at *
          obtain ⟨f6, hm6, hr6⟩ := hJ6.h
          have hlk := hm6.look intTy mapTy (zeroRow w6) (x := a) (inK_of (by omega) (by omega))
          have hfa := hr6 a (inK_of (by omega) (by omega))
          rw [hg] at hfa
          rw [show f6 a = none from hfa] at hlk
          change _ = Result.ok (Value.tuple #[.slice none 0 0, Value.bool false]) w6 at hlk
          have HJ6 := Lib.hid hJ6; have HF6 := Lib.hid hF6
          clear hm6 hr6 hfa hJ6 hF6
          go_wp2_with fail
          refine (same_row (R := fun _ => c0) (RS.nil w6 0 _) (RS.nil w6 0 _) (by omega)).mono ?_; rintro e w7 ⟨rfl, k7, rfl⟩
          have hJz := HJ6.out.fr ((Fr.refl [] w6).drewN k7)
          have hFz := HF6.out.drewN k7
          clear HJ6 HF6 hlk hg
          generalize w6.drewN k7 = w7 at *
          obtain ⟨f9, hm9, -⟩ := hJz.h
          have hlen9 := hm9.len mapTy 3
          have hat9 := at_any hJz.j
          have hcn9 := count_any hJz.j
          have hle9 := hJz.le
          have q9 : ¬ (64 : Int) < ((c : Nat) : Int) := by omega
          have HJz := Lib.hid hJz; have HFz := Lib.hid hFz
          clear hm9 hJz hFz
          go_wp2_with fail
          refine hat9.mono ?_; rintro e w' ⟨rfl, rfl⟩
          go_wp2_with fail
          refine hcn9.mono ?_; rintro e w' ⟨rfl, rfl⟩
          go_wp2_with fail
          refine hcn9.mono ?_; rintro e w' ⟨rfl, rfl⟩
          go_wp2_with fail
          go_roundw
          case rel => exact ⟨i + 1, a, c, g, by go_num, by go_num, by omega, by omega, by omega, HJz.out, HFz.out⟩
          case measure => simp [intOf]; omega
        | some R =>
          have hpos := HJ5.out.j.pos (inK_of (by omega) (by omega)) hg
          go_wp2_with fail
          refine (next_yes HJ5.out.j (by omega) hg).mono ?_; rintro e w6 ⟨r6, rfl, hr6, hJ6, hF6⟩
          obtain ⟨f5, hm5, hq5⟩ := HJ5.out.h
          have hm6 := hm5.fr hF6 (by simp; omega)
          have hq6 := fun x hx => (hq5 x hx).fr hF6 (fun y hy => by simp at hy ⊢; omega)
          have hfa := hq6 a (inK_of (by omega) (by omega))
          rw [hg] at hfa
          obtain ⟨v6, hfv, hv6⟩ := hfa
          have hlk := hm6.look intTy mapTy (zeroRow w6) (x := a) (inK_of (by omega) (by omega))
          rw [hfv] at hlk
          change _ = Result.ok (Value.tuple #[v6, Value.bool true]) w6 at hlk
          have hrng := HJ5.out.rng
          have HF6 := Lib.hid (HF5.out.trans hF6 (fun x hx => .inr (by have := HMS.out; simp at hx; omega)))
          have HJ6 := Lib.hid hJ6; have HM6 := Lib.hid hm6; have HQ6 := Lib.hid hq6; have HR6 := Lib.hid hr6; have HV6 := Lib.hid hv6; have HG := Lib.hid hg; have HFV := Lib.hid hfv; have HRNG := Lib.hid hrng
          clear l0 l1 l2 l3 HBK HJ5 HF5 hm5 hq5 hF6 hJ6 hm6 hq6 hr6 hv6 hg hfv hrng
          go_wp2_with fail
          refine (same_row HR6.out HV6.out.rs (by omega)).mono ?_; rintro e w7 ⟨rfl, k7, rfl⟩
          have hX : Fr [] w6 (w6.drewN k7) := (Fr.refl [] w6).drewN k7
          have HF7 := Lib.hid (HF6.out.trans hX (by simp)); have HJ7 := Lib.hid (HJ6.out.fr hX (by simp) (by simp) (by simp)); have HM7 := Lib.hid (HM6.out.fr hX (by simp)); have HQ7 := Lib.hid (fun x hx => (HQ6.out x hx).fr hX (by simp))
          clear HF6 HJ6 HM6 HQ6 HR6 HV6 hX hlk
          generalize w6.drewN k7 = w7 at *
          obtain ⟨w8, hdr, hm8, hF8⟩ := HM7.out.drop intTy mapTy (inK_of (x := (a : Int)) (by omega) (by omega)) 0
          rw [HFV.out] at hm8
          change MapW _ _ _ _ (c - 1) _ at hm8
          have hJz : JA w8 (V + 1) B M V (q + 1) (a + 1) (c - 1) (fun x => if x = a then none else g x) := ⟨HJ7.out.fr hF8 (fun x hx => by simp at hx; omega) (by simp; omega) (by simp; omega), ⟨_, hm8, fun x hx => by
            by_cases e : x = a
            · rw [if_pos e, if_pos e]; rfl
            · rw [if_neg e, if_neg e]; exact (HQ7.out x hx).fr hF8 (fun y hy => by simp at hy ⊢; omega)⟩, fun x hx h => by
            by_cases e : x = a
            · rw [if_pos e] at h; simp at h
            · rw [if_neg e] at h
              have := HRNG.out x hx h
              omega⟩
          have hFz := HF7.out.trans hF8 (fun x hx => .inr (by have := HMS.out; simp at hx; omega))
          clear HF7 HJ7 HM7 HQ7 hm8 hF8 HG HFV HRNG
          have q10 : ((a + 1 : Nat) : Int) = (a : Int) + 1 := by omega
          obtain ⟨f9, hm9, -⟩ := hJz.h
          have hlen9 := hm9.len mapTy 3
          have hat9 := at_any hJz.j
          have hcn9 := count_any hJz.j
          have hle9 := hJz.le
          have q9 : ¬ (64 : Int) < ((c - 1 : Nat) : Int) := by omega
          rw [q10] at hat9
          have HJz := Lib.hid hJz; have HFz := Lib.hid hFz
          clear hm9 hJz hFz
          go_wp2_with fail
          refine hat9.mono ?_; rintro e w' ⟨rfl, rfl⟩
          go_wp2_with fail
          refine hcn9.mono ?_; rintro e w' ⟨rfl, rfl⟩
          go_wp2_with fail
          refine hcn9.mono ?_; rintro e w' ⟨rfl, rfl⟩
          go_wp2_with fail
          go_roundw
          case rel => exact ⟨i + 1, a + 1, c - 1, _, by go_num, by go_num, by omega, by omega, by omega, HJz.out, HFz.out⟩
          case measure => simp [intOf]; omega
      · have q3 : ¬ (4 : Int) < x0 % 7 := hw
        go_wp2_with fail
        refine (pick_any _ _ _ (by decide) (by decide)).mono ?_; rintro e w' ⟨rfl, rfl⟩
        obtain ⟨y, hy⟩ : ∃ y : Nat, x1 % 12 = y := ⟨(x1 % 12).toNat, by omega⟩
        have hy12 : y < 12 := by omega
        rw [hy]; clear hy
        go_upto_if 83 with (fail)
        go_cut [14] (fun fv w' => ∃ x : Int, inK x ∧ fv = .int .i64 x ∧ w5 = w')
        case first =>
          by_cases hc : x1.tmod 13 = 12
          · have hc1 : (x1.tmod 13 == 12) = true := by simp [hc]
            go_wp2_with fail
            refine (pick_any _ _ _ (by decide) (by decide)).mono ?_; rintro e w' ⟨rfl, rfl⟩
            obtain ⟨z, hz⟩ : ∃ z : Nat, wrap64 (x1.tdiv 13) % 80 = z := ⟨(wrap64 (x1.tdiv 13) % 80).toNat, by omega⟩
            have hz80 : z < 80 := by omega
            rw [hz]; clear hz
            go_wp2_with fail
            go_meet
            case rel => exact ⟨(a : Int) + z, inK_of (by omega) (by omega), rfl, rfl⟩
          · have hc1 : (x1.tmod 13 == 12) = false := by simp [hc]
            go_wp2_with fail
            go_meet
            case rel => exact ⟨(a : Int) + y - 2, inK_of (by omega) (by omega), rfl, rfl⟩
        case rest =>
          obtain ⟨xa, hxa, rfl, rfl⟩ := hcut
          go_upto_if 93 with (fail)
          go_cut [14] (fun fv w' => ∃ x : Int, inK x ∧ fv = .int .i64 x ∧ w5 = w')
          case first =>
            by_cases hc : x1.tmod 31 = 30
            · have hc1 : (x1.tmod 31 == 30) = true := by simp [hc]
              go_wp2_with fail
              go_meet
              case rel => exact ⟨x1, hw1, rfl, rfl⟩
            · have hc1 : (x1.tmod 31 == 30) = false := by simp [hc]
              go_wp2_with fail
              go_meet
              case rel => exact ⟨xa, hxa, rfl, rfl⟩
          case rest =>
            obtain ⟨x, hx, rfl, rfl⟩ := hcut
            clear hxa hw0 hw1
            have hx1 := i64_lo hx
            have hx2 := i64_hi hx
            go_wp2_with fail
            refine (one_lit (1 + (q : Int)) (q + 1) (by omega) (by omega)).mono ?_; rintro e w6 ⟨v6, rfl, hv6, hX⟩
            have hAs : A < w5.heap.size := Blk.lt HBK.out
            have HR6 := Lib.hid (RA.made (av := [B, M, V]) hv6 (fun x hx => by simp at hx; omega))
            have HROW6 := Lib.hid (HROW5.out.fr hX (by simp))
            have HJ6 := Lib.hid (HJ5.out.fr hX); have HF6 := Lib.hid (HF5.out.trans hX (by simp))
            have hBk6 := hX.blk HBK.out (by simp)
            have l2 := Blk.cell (i := 2) hBk6 rfl
            have l3 := Blk.cell (i := 3) hBk6 rfl
            clear l0 l1 HBK HJ5 HF5 hX hv6 HROW5 hBk6
            go_upto_if 103 with (fail)
            go_cut [15] (fun rv w' => ∃ (n : Nat) (R : Nat → C4), RA w6 [B, M, V] rv n R ∧ w6 = w')
            case first =>
              by_cases hc : x2.tmod 17 = 16
              · have hc1 : (x2.tmod 17 == 16) = true := by simp [hc]
                go_wp2_with fail
                go_meet
                case rel => exact ⟨nr, Rr, HROW6.out, rfl⟩
              · have hc1 : (x2.tmod 17 == 16) = false := by simp [hc]
                go_wp2_with fail
                go_meet
                case rel => exact ⟨q + 1, oneR x2, HR6.out, rfl⟩
            case rest =>
              obtain ⟨n, R, hRA, rfl⟩ := hcut
              obtain ⟨ra, rcp, hrv, -⟩ := id hRA
              subst hrv
              have HRA := Lib.hid hRA
              clear hRA HROW6 HR6 l2 l3
              obtain ⟨f6, hm6, hq6⟩ := HJ6.out.h
              have hlk := hm6.look intTy mapTy (zeroRow w6) hx
              obtain ⟨u6, hu6⟩ : ∃ u6, (f6 x).getD (.slice none 0 0) = u6 := ⟨_, rfl⟩
              rw [hu6, (hq6 x hx).some_iff] at hlk
              have HM6 := Lib.hid hm6; have HQ6 := Lib.hid hq6
              clear hm6 hq6 hu6
              have hcase : x < a ∨ (a : Int) ≤ x ∧ 64 ≤ x - a ∨ (a : Int) ≤ x ∧ x - a < 64 ∧ (g x).isSome = true ∨ (a : Int) ≤ x ∧ x - a < 64 ∧ g x = none ∧ n ≠ q + 1 ∨ (a : Int) ≤ x ∧ x - a < 64 ∧ g x = none ∧ n = q + 1 := by
                cases hg : g x with
                | none => simp only [Option.isSome_none, Bool.false_eq_true, and_false, false_or, true_and]; omega
                | some R' => simp only [Option.isSome_some]; rcases Int.lt_or_le x a with h | h; · exact .inl h
                             rcases Int.lt_or_le (x - a) 64 with h' | h'
                             · exact .inr (.inr (.inl ⟨h, h', trivial⟩))
                             · exact .inr (.inl ⟨h, h'⟩)
              rcases hcase with h1 | ⟨h1, h2⟩ | ⟨h1, h2, h3⟩ | ⟨h1, h2, h3, h4⟩ | ⟨h1, h2, h3, h4⟩
              · have q20 : ¬ (a : Int) ≤ x := by omega
                go_wp2_with fail
                refine (put_no HJ6.out.j HRA.out.rs (by omega) hx (.inl h1)).mono ?_; rintro e w' ⟨rfl, rfl⟩
                have hJz := HJ6.out
                have hFz := HF6.out
                clear HJ6 HF6 HM6 HQ6 HRA hlk
                obtain ⟨f9, hm9, -⟩ := hJz.h
                have hlen9 := hm9.len mapTy 3
                have hat9 := at_any hJz.j
                have hcn9 := count_any hJz.j
                have hle9 := hJz.le
                have q9 : ¬ (64 : Int) < ((c : Nat) : Int) := by omega
                have HJz := Lib.hid hJz; have HFz := Lib.hid hFz
                clear hm9 hJz hFz
                go_wp2_with fail
                refine hat9.mono ?_; rintro e w' ⟨rfl, rfl⟩
                go_wp2_with fail
                refine hcn9.mono ?_; rintro e w' ⟨rfl, rfl⟩
                go_wp2_with fail
                refine hcn9.mono ?_; rintro e w' ⟨rfl, rfl⟩
                go_wp2_with fail
                go_roundw
                case rel => exact ⟨i + 1, a, c, g, by go_num, by go_num, by omega, by omega, by omega, HJz.out, HFz.out⟩
                case measure => simp [intOf]; omega
              · have q20 : ¬ x - (a : Int) < 64 := by omega
                go_wp2_with fail
                refine (put_no HJ6.out.j HRA.out.rs (by omega) hx (.inr (.inl ⟨h1, h2⟩))).mono ?_; rintro e w' ⟨rfl, rfl⟩
                have hJz := HJ6.out
                have hFz := HF6.out
                clear HJ6 HF6 HM6 HQ6 HRA hlk
                obtain ⟨f9, hm9, -⟩ := hJz.h
                have hlen9 := hm9.len mapTy 3
                have hat9 := at_any hJz.j
                have hcn9 := count_any hJz.j
                have hle9 := hJz.le
                have q9 : ¬ (64 : Int) < ((c : Nat) : Int) := by omega
                have HJz := Lib.hid hJz; have HFz := Lib.hid hFz
                clear hm9 hJz hFz
                go_wp2_with fail
                refine hat9.mono ?_; rintro e w' ⟨rfl, rfl⟩
                go_wp2_with fail
                refine hcn9.mono ?_; rintro e w' ⟨rfl, rfl⟩
                go_wp2_with fail
                refine hcn9.mono ?_; rintro e w' ⟨rfl, rfl⟩
                go_wp2_with fail
                go_roundw
                case rel => exact ⟨i + 1, a, c, g, by go_num, by go_num, by omega, by omega, by omega, HJz.out, HFz.out⟩
                case measure => simp [intOf]; omega
              · rw [h3] at hlk
                go_wp2_with fail
                refine (put_no HJ6.out.j HRA.out.rs (by omega) hx (.inr (.inr (.inl ⟨h1, h2, h3⟩)))).mono ?_; rintro e w' ⟨rfl, rfl⟩
                have hJz := HJ6.out
                have hFz := HF6.out
                clear HJ6 HF6 HM6 HQ6 HRA hlk
                obtain ⟨f9, hm9, -⟩ := hJz.h
                have hlen9 := hm9.len mapTy 3
                have hat9 := at_any hJz.j
                have hcn9 := count_any hJz.j
                have hle9 := hJz.le
                have q9 : ¬ (64 : Int) < ((c : Nat) : Int) := by omega
                have HJz := Lib.hid hJz; have HFz := Lib.hid hFz
                clear hm9 hJz hFz
                go_wp2_with fail
                refine hat9.mono ?_; rintro e w' ⟨rfl, rfl⟩
                go_wp2_with fail
                refine hcn9.mono ?_; rintro e w' ⟨rfl, rfl⟩
                go_wp2_with fail
                refine hcn9.mono ?_; rintro e w' ⟨rfl, rfl⟩
                go_wp2_with fail
                go_roundw
                case rel => exact ⟨i + 1, a, c, g, by go_num, by go_num, by omega, by omega, by omega, HJz.out, HFz.out⟩
                case measure => simp [intOf]; omega
              · rw [h3] at hlk
                change _ = Result.ok (Value.tuple #[u6, Value.bool false]) w6 at hlk
                have q21 : ((n : Int) == 1 + (q : Int)) = false := by simp; omega
                go_wp2_with fail
                refine (put_no HJ6.out.j HRA.out.rs (by omega) hx (.inr (.inr (.inr ⟨h1, h2, h3, h4⟩)))).mono ?_; rintro e w' ⟨rfl, rfl⟩
                have hJz := HJ6.out
                have hFz := HF6.out
                clear HJ6 HF6 HM6 HQ6 HRA hlk
                obtain ⟨f9, hm9, -⟩ := hJz.h
                have hlen9 := hm9.len mapTy 3
                have hat9 := at_any hJz.j
                have hcn9 := count_any hJz.j
                have hle9 := hJz.le
                have q9 : ¬ (64 : Int) < ((c : Nat) : Int) := by omega
                have HJz := Lib.hid hJz; have HFz := Lib.hid hFz
                clear hm9 hJz hFz
                go_wp2_with fail
                refine hat9.mono ?_; rintro e w' ⟨rfl, rfl⟩
                go_wp2_with fail
                refine hcn9.mono ?_; rintro e w' ⟨rfl, rfl⟩
                go_wp2_with fail
                refine hcn9.mono ?_; rintro e w' ⟨rfl, rfl⟩
                go_wp2_with fail
                go_roundw
                case rel => exact ⟨i + 1, a, c, g, by go_num, by go_num, by omega, by omega, by omega, HJz.out, HFz.out⟩
                case measure => simp [intOf]; omega
              · subst h4
                rw [h3] at hlk
                change _ = Result.ok (Value.tuple #[u6, Value.bool false]) w6 at hlk
                have q21 : ((q : Int) + 1 == 1 + (q : Int)) = true := by simp; omega
                have hle := HJ6.out.le
                go_wp2_with fail
                refine (put_yes HJ6.out.j HRA.out.rs (by omega) (by omega) hx h1 h2 h3 (by omega)).mono ?_; rintro e w7 ⟨rfl, hJ7, hF7⟩
                obtain ⟨w8, hst, hm8, hF8⟩ := (HM6.out.fr hF7 (by simp; omega)).store intTy mapTy (by unfold maxLen; omega) hx (.slice ra (q + 1) rcp)
                have hnone : (f6 x).isSome = false := by rw [(HQ6.out x hx).some_iff, h3]; rfl
                rw [hnone] at hm8
                change MapW _ _ _ _ (c + 1) _ at hm8
                have hRA8 := (HRA.out.fr hF7 (fun y hy => by simp at hy ⊢; omega)).fr hF8 (fun y hy => by simp at hy ⊢; omega)
                have hQ7 := fun x hx => ((HQ6.out x hx).fr hF7 (fun y hy => by simp at hy ⊢; omega)).fr hF8 (fun y hy => by simp at hy ⊢; omega)
                have hJz : JA w8 (V + 1) B M V (q + 1) a (c + 1) (fun y => if y = x then some R else g y) := ⟨hJ7.fr hF8 (fun x hx => by simp at hx; omega) (by simp; omega) (by simp; omega), ⟨_, hm8, fun y hy => by
                  by_cases e : y = x
                  · rw [if_pos e, if_pos e]; exact ⟨_, rfl, hRA8⟩
                  · rw [if_neg e, if_neg e]; exact hQ7 y hy⟩, fun y hy h => by
                  by_cases e : y = x
                  · omega
                  · rw [if_neg e] at h; exact HJ6.out.rng y hy h⟩
                have hFz := (HF6.out.trans hF7 (fun x hx => .inr (by have := HMS.out; simp at hx; omega))).trans hF8 (fun x hx => .inr (by have := HMS.out; simp at hx; omega))
                clear HJ6 HF6 HM6 HQ6 HRA hJ7 hF7 hm8 hF8 hRA8 hQ7 hlk h3 hnone
                obtain ⟨f9, hm9, -⟩ := hJz.h
                have hlen9 := hm9.len mapTy 3
                have hat9 := at_any hJz.j
                have hcn9 := count_any hJz.j
                have hle9 := hJz.le
                have q9 : ¬ (64 : Int) < ((c + 1 : Nat) : Int) := by omega
                have HJz := Lib.hid hJz; have HFz := Lib.hid hFz
                clear hm9 hJz hFz
                go_wp2_with fail
                refine hat9.mono ?_; rintro e w' ⟨rfl, rfl⟩
                go_wp2_with fail
                refine hcn9.mono ?_; rintro e w' ⟨rfl, rfl⟩
                go_wp2_with fail
                refine hcn9.mono ?_; rintro e w' ⟨rfl, rfl⟩
                go_wp2_with fail
                go_roundw
                case rel => exact ⟨i + 1, a, c + 1, _, by go_num, by go_num, by omega, by omega, by omega, HJz.out, HFz.out⟩
                case measure => simp [intOf]; omega
    · have q1 : ¬ ((i : Int) < len1 ∧ (i : Int) < 80) := by omega
      by_cases hl : i < len1
      · have q2 : (i : Int) < len1 := by omega
        have q3 : ¬ (i : Int) < 80 := by omega
        clear hJ q1
        go_wp2_with fail
        go_ret
        exact ⟨rfl, hF.below (Nat.le_refl _) (by simp)⟩
      · have q2 : ¬ (i : Int) < len1 := by omega
        clear hJ q1
        go_wp2_with fail
        go_ret
        exact ⟨rfl, hF.below (Nat.le_refl _) (by simp)⟩
end Go.Proofs.Ytckodnogjedmnaa.Jt
