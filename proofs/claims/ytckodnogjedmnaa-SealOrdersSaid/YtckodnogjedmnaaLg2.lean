/- step.tokens, step.Legal. -/
import Derived.Test.YtckodnogjedmnaaLg
namespace Go.Proofs.Ytckodnogjedmnaa.Cfg
open Go.RowKit Dt Go.Proofs.Ytckodnogjedmnaa.Hd Go.Proofs.Ytckodnogjedmnaa.FlW Ieee
set_option linter.unusedVariables false
set_option linter.unusedSimpArgs false
attribute [local go_sem] run_store_float

/-- which tokens were seen -/
def seenF (tk : List Nat) (k : Nat) (x : Int) : Option Value := if ∃ t : Nat, t ∈ tk.take k ∧ (t : Int) = x then some (.bool true) else none
theorem inK_nat {n : Nat} (h : n ≤ 1000000000000) : inK n := inK_of (by omega) (by omega)
set_option maxRecDepth 100000 in
set_option maxHeartbeats 3200000 in
theorem tokens_yes {w : World} {B : Nat} {c : CfV} {l : List (Int × Int × Int)} {tk : List Nat} (h : CfOk w B c l tk) : Calls Try.prog 50 #[c.v] w fun e w' => e = .returned (.bool true) ∧ Fr [] w w' := by
  obtain ⟨pl, per, gr, st, fr, seed, rate, depth, ra, rl, rc, ta, tl, tc⟩ := c
  have hmm := @run_makeMap Try.prog
  obtain ⟨htl, htp⟩ := h.tlen
  have hnd := h.tnd; have hmax := h.tmax; have hpl := h.pl8; have ht := h.toks
  dsimp only at htl htp hpl ht
  subst htp
  have hlm : tl ≤ maxLen := by unfold maxLen; omega
  have HT := Lib.hid ht; have HND := Lib.hid hnd; have HMAX := Lib.hid hmax; have HTL := Lib.hid htl
  clear h hnd hmax ht htl
  dsimp only [CfV.v]
  go_enter Try.func50, Try.ntmps50
  go_wp2_with fail
  have hm := MapW.made (w.alloc (.cells #[.int .i64 tl, .int .i64 per, .int .i64 gr, .int .i64 st, .int .i64 fr, .int .i64 seed, .float .f64 rate, .float .f64 depth, .slice ra rl rc, .slice ta tl tc] 46)) Try.prog 3
  rw [show (w.alloc (.cells #[.int .i64 tl, .int .i64 per, .int .i64 gr, .int .i64 st, .int .i64 fr, .int .i64 seed, .float .f64 rate, .float .f64 depth, .slice ra rl rc, .slice ta tl tc] 46)).heap.size = w.heap.size + 1 by simp] at hm
  have hX := (Blk.new w #[.int .i64 tl, .int .i64 per, .int .i64 gr, .int .i64 st, .int .i64 fr, .int .i64 seed, .float .f64 rate, .float .f64 depth, .slice ra rl rc, .slice ta tl tc] 46).alloc (.map #[] 0)
  have hF := ((Fr.refl [] w).alloc (.cells #[.int .i64 tl, .int .i64 per, .int .i64 gr, .int .i64 st, .int .i64 fr, .int .i64 seed, .float .f64 rate, .float .f64 depth, .slice ra rl rc, .slice ta tl tc] 46)).alloc (.map #[] 0)
  generalize (w.alloc (.cells #[.int .i64 tl, .int .i64 per, .int .i64 gr, .int .i64 st, .int .i64 fr, .int .i64 seed, .float .f64 rate, .float .f64 depth, .slice ra rl rc, .slice ta tl tc] 46)).alloc (.map #[] 0) = w1 at *
  obtain ⟨g, hg⟩ : ∃ g, w.heap.size = g := ⟨_, rfl⟩
  rw [hg] at hX hm ⊢
  have HG := Lib.hid hg
  clear hg hmm
  go_loopw [10] (fun iv wr => ∃ k cnt : Nat, k ≤ tl ∧ iv = .int .i64 k ∧ cnt ≤ k ∧ MapW Try.prog 3 wr (g + 1) cnt (seenF tk k) ∧ Blk wr g #[.int .i64 tl, .int .i64 per, .int .i64 gr, .int .i64 st, .int .i64 fr, .int .i64 seed, .float .f64 rate, .float .f64 depth, .slice ra rl rc, .slice ta tl tc] 46 ∧ Fr [] w wr) (fun iv _ => tl - (intOf iv).toNat)
  case atStart => exact ⟨0, 0, Nat.zero_le _, rfl, Nat.zero_le _, hm.congr (fun x _ => by unfold seenF; simp), hX, hF⟩
  case round =>
    obtain ⟨k, cnt, hk, rfl, hcnt, hm, hX, hF⟩ := hrel
    by_cases hkn : k < tl
    · have q1 : (k : Int) < tl := by omega
      have q0 : (0 : Int) ≤ k := by omega
      obtain ⟨x, hx⟩ : ∃ x, tk[k]? = some x := ⟨_, List.getElem?_eq_getElem (by rw [HTL.out]; exact hkn)⟩
      have hw := own_keep HT.out hF (by simp)
      obtain ⟨g0, cap0, hv0, hg0, hcap0, hcap1⟩ := own_form hw (by omega)
      cases hv0
      have d1 : wr.cell? ⟨g0, k, none⟩ = some (.int .i64 x) := by rw [hw.cellAt _ (by omega)]; simp [intsN, hx]
      have hxm := HMAX.out x (List.mem_of_getElem? hx)
      have hno : seenF tk k (x : Int) = none := by
        unfold seenF
        rw [if_neg]
        rintro ⟨t, ht, e⟩
        have e2 : t = x := by omega
        subst e2
        obtain ⟨i, hi⟩ := List.getElem?_of_mem ht
        have hil := (List.getElem?_eq_some_iff.1 hi).1
        rw [List.length_take] at hil
        rw [List.getElem?_take_of_lt (by omega)] at hi
        have h1 := (List.getElem?_eq_some_iff.1 hi)
        have h2 := (List.getElem?_eq_some_iff.1 hx)
        have := (List.getElem_inj HND.out).1 (h1.2.trans h2.2.symm)
        omega
      have hlk := hm.look1 (x := (x : Int)) Try.underlying3 mapB (zeroB wr) (inK_nat (by omega))
      rw [hno] at hlk
      change _ = Result.ok (Value.bool false) wr at hlk
      obtain ⟨w2, hst, hm2, hF2⟩ := hm.store (x := (x : Int)) Try.underlying3 mapB (by unfold maxLen; omega) (inK_nat (by omega)) (.bool true)
      rw [hno] at hm2
      have hm3 : MapW Try.prog 3 w2 (g + 1) (cnt + 1) (seenF tk (k + 1)) := hm2.congr (fun y _ => by
        unfold seenF
        have e : tk.take (k + 1) = tk.take k ++ [x] := by rw [List.take_add_one, hx]; rfl
        rw [e]
        by_cases e2 : y = (x : Int)
        · rw [if_pos ⟨x, by simp, e2.symm⟩, if_pos e2]
        · rw [if_neg e2]
          by_cases e3 : ∃ t : Nat, t ∈ tk.take k ∧ (t : Int) = y
          · obtain ⟨t, h1, h2⟩ := e3
            rw [if_pos ⟨t, by simp [h1], h2⟩, if_pos ⟨t, h1, h2⟩]
          · rw [if_neg, if_neg e3]
            rintro ⟨t, h1, h2⟩
            simp only [List.mem_append, List.mem_singleton] at h1
            rcases h1 with h1 | h1
            · exact e3 ⟨t, h1, h2⟩
            · subst h1; exact e2 h2.symm)
      have HX2 := Lib.hid (hF2.blk hX (by simp)); have HM3 := Lib.hid hm3; have HF2 := Lib.hid (hF.trans hF2 (fun x hx => .inr (by rw [HG.out]; simp at hx; omega)))
      have HWI := Lib.hid (within_yes (n := (x : Int)) (lo := 0) (hi := 2147483646) (by omega) (by omega) wr)
      clear hm hX hF hw hx hno hm2 hm3 hF2
      go_wp2_with fail
      refine HWI.out.mono ?_; rintro e w' ⟨rfl, rfl⟩
      go_wp2_with fail
      go_roundw
      case rel => exact ⟨k + 1, cnt + 1, by omega, by go_num, by omega, HM3.out, HX2.out, HF2.out⟩
      case measure => simp [intOf]; omega
    · have hke : k = tl := by omega
      subst hke
      have q1 : ¬ (k : Int) < k := by omega
      have x0 := Blk.cell (i := 0) hX rfl
      have x9 := Blk.cell (i := 9) hX rfl
      simp only [List.getElem_toArray, List.getElem_cons_zero, List.getElem_cons_succ] at x0 x9
      have HF := Lib.hid hF
      clear hm hX hF
      go_wp2_with fail
      go_ret
      exact ⟨rfl, HF.out⟩
theorem CfOk.fr {S : List Nat} {w w' : World} {B : Nat} {c : CfV} {l : List (Int × Int × Int)} {tk : List Nat} (h : CfOk w B c l tk) (hF : Fr S w w') (h1 : ∀ g, (Value.slice c.ra c.rl c.rc).ownBlock = some g → g ∉ S) (h2 : ∀ g, (Value.slice c.ta c.tl c.tc).ownBlock = some g → g ∉ S) : CfOk w' B c l tk :=
  { h with rules := own_keep h.rules hF h1, toks := own_keep h.toks hF h2 }
set_option maxRecDepth 100000 in
set_option maxHeartbeats 3200000 in
theorem legal_yes {w : World} {B : Nat} {c : CfV} {l : List (Int × Int × Int)} {tk : List Nat} (h : CfOk w B c l tk) : Calls Try.prog 41 #[c.v] w fun e w' => e = .returned (.bool true) ∧ Fr [] w w' := by
  have HH := Lib.hid h
  have HTK := Lib.hid (fun (w1 : World) (hF : Fr [] w w1) => tokens_yes (h.fr hF (by simp) (by simp)))
  have HRR := Lib.hid (fun (w1 : World) (hF : Fr [] w w1) => rright_yes (h.fr hF (by simp) (by simp)).rules h.r16.1 h.r16.2 h.rok)
  obtain ⟨pl, per, gr, st, fr, seed, rate, depth, ra, rl, rc, ta, tl, tc⟩ := c
  obtain ⟨b1, b2, b3, b4, b5, b6, b7, b8, b9, b10, b11, -, -, -, -, -, -, -⟩ := h
  dsimp only at b1 b2 b3 b4 b5 b6 b7 b8 b9 b10 b11 HRR
  dsimp only [CfV.v] at HTK ⊢
  have HBN := Lib.hid (bnew_any b10 b11)
  clear b10 b11
  go_enter Try.func41, Try.ntmps41
  go_wp2_with fail
  have hX := Blk.new w #[.int .i64 pl, .int .i64 per, .int .i64 gr, .int .i64 st, .int .i64 fr, .int .i64 seed, .float .f64 rate, .float .f64 depth, .slice ra rl rc, .slice ta tl tc] 46
  have hF := (Fr.refl [] w).alloc (.cells #[.int .i64 pl, .int .i64 per, .int .i64 gr, .int .i64 st, .int .i64 fr, .int .i64 seed, .float .f64 rate, .float .f64 depth, .slice ra rl rc, .slice ta tl tc] 46)
  generalize w.alloc (.cells #[.int .i64 pl, .int .i64 per, .int .i64 gr, .int .i64 st, .int .i64 fr, .int .i64 seed, .float .f64 rate, .float .f64 depth, .slice ra rl rc, .slice ta tl tc] 46) = w1 at *
  generalize w.heap.size = g at *
  have x0 := Blk.cell (i := 0) hX rfl
  have x2 := Blk.cell (i := 2) hX rfl
  have x3 := Blk.cell (i := 3) hX rfl
  have x4 := Blk.cell (i := 4) hX rfl
  have x6 := Blk.cell (i := 6) hX rfl
  have x7 := Blk.cell (i := 7) hX rfl
  simp only [List.getElem_toArray, List.getElem_cons_zero, List.getElem_cons_succ] at x0 x2 x3 x4 x6 x7
  refine (within_yes (by omega) (by omega) _).mono ?_; rintro e w' ⟨rfl, rfl⟩
  go_wp2_with fail
  refine (within_yes (by omega) (by omega) _).mono ?_; rintro e w' ⟨rfl, rfl⟩
  go_wp2_with fail
  refine (within_yes (by omega) (by omega) _).mono ?_; rintro e w' ⟨rfl, rfl⟩
  go_wp2_with fail
  refine (within_yes (by omega) (by omega) _).mono ?_; rintro e w' ⟨rfl, rfl⟩
  go_wp2_with fail
  refine (HBN.out _).mono ?_; rintro e w2 ⟨rfl, hbk, hF2⟩
  have hX2 := hF2.blk hX (by simp)
  have HX2 := Lib.hid hX2; have HF2 := Lib.hid (hF.trans hF2 (by simp))
  clear hbk hF2 hX hF x0 x2 x3 x4 x6 x7
  have x0 := Blk.cell (i := 0) hX2 rfl
  have x5 := Blk.cell (i := 5) hX2 rfl
  have x8 := Blk.cell (i := 8) hX2 rfl
  simp only [List.getElem_toArray, List.getElem_cons_zero, List.getElem_cons_succ] at x0 x5 x8
  clear hX2
  go_wp2_with fail
  refine (within_yes (by omega) (by omega) _).mono ?_; rintro e w' ⟨rfl, rfl⟩
  go_wp2_with fail
  refine (within_yes (by omega) (by omega) _).mono ?_; rintro e w' ⟨rfl, rfl⟩
  go_wp2_with fail
  refine (HRR.out _ HF2.out).mono ?_; rintro e w3 ⟨rfl, hF3⟩
  have hX3 := hF3.blk HX2.out (by simp)
  have HF3 := Lib.hid (HF2.out.trans hF3 (by simp))
  clear hF3 x0 x5 x8
  have x0 := Blk.cell (i := 0) hX3 rfl
  have x1 := Blk.cell (i := 1) hX3 rfl
  have x2 := Blk.cell (i := 2) hX3 rfl
  have x3 := Blk.cell (i := 3) hX3 rfl
  have x4 := Blk.cell (i := 4) hX3 rfl
  have x5 := Blk.cell (i := 5) hX3 rfl
  have x6 := Blk.cell (i := 6) hX3 rfl
  have x7 := Blk.cell (i := 7) hX3 rfl
  have x8 := Blk.cell (i := 8) hX3 rfl
  have x9 := Blk.cell (i := 9) hX3 rfl
  simp only [List.getElem_toArray, List.getElem_cons_zero, List.getElem_cons_succ] at x0 x1 x2 x3 x4 x5 x6 x7 x8 x9
  clear hX3
  go_wp2_with fail
  refine (HTK.out _ HF3.out).mono ?_; rintro e w4 ⟨rfl, hF4⟩
  have HF4 := Lib.hid (HF3.out.trans hF4 (by simp))
  clear hF4
  go_wp2_with fail
  go_ret
  exact ⟨rfl, HF4.out⟩
end Go.Proofs.Ytckodnogjedmnaa.Cfg
