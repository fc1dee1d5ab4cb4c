/- chapter 18: the reference's NewLog, Waiting, Some. -/
import Derived.Test.YtckodnogjedmnaaRl
import Derived.Laws.EntriesVeiled
namespace Go.Proofs.Ytckodnogjedmnaa.Lo
open Go.RowKit Dt Go.Proofs.Ytckodnogjedmnaa.Hd Go.Proofs.Ytckodnogjedmnaa.Cfg Go.Proofs.Ytckodnogjedmnaa.Jt Go.Proofs.Ytckodnogjedmnaa.FlW Ieee
set_option linter.unusedVariables false
set_option linter.unusedSimpArgs false
attribute [local go_sem] run_store_float
set_option maxRecDepth 100000 in
set_option maxHeartbeats 1600000 in
theorem rnew_any {w : World} {b : Nat} {c : CfV} {l : List (Int × Int × Int)} {tk : List Nat} (h : CfOk w b c l tk) :
    Calls Try.prog 32 #[c.v] w fun e w' => ∃ B M, e = .returned (.pointer (some ⟨B, 0, none⟩)) ∧ HasRL w' (fun x => w.heap.size ≤ x) B M c [] (fun _ => none) 0 ∧ Fr [] w w' := by
  have hN := CfN.of h
  have hmm := @run_makeMap Try.prog
  obtain ⟨pl, per, gr, st, fr, seed, rate, depth, ra, rl, rc, ta, tl, tc⟩ := c
  dsimp only [CfV.v]
  clear h
  go_enter Try.func32, Try.ntmps32
  go_wp2_with fail
  go_ret
  have hs1 : ∀ (w : World) (o : Obj), (w.alloc o).heap.size = w.heap.size + 1 := fun w o => by show (w.heap.push _).size = _; simp
  have hF1 := (Fr.refl [] w).alloc (.cells #[.int .i64 pl, .int .i64 per, .int .i64 gr, .int .i64 st, .int .i64 fr, .int .i64 seed, .float .f64 rate, .float .f64 depth, .slice ra rl rc, .slice ta tl tc] 46)
  have hF2 := hF1.alloc (.map #[] 0)
  refine ⟨w.heap.size + 1 + 1, w.heap.size + 1, rfl, ?_, hF2.alloc _⟩
  have hm := MapW.made (w.alloc (.cells #[.int .i64 pl, .int .i64 per, .int .i64 gr, .int .i64 st, .int .i64 fr, .int .i64 seed, .float .f64 rate, .float .f64 depth, .slice ra rl rc, .slice ta tl tc] 46)) Try.prog 3
  have hb := Blk.new ((w.alloc (.cells #[.int .i64 pl, .int .i64 per, .int .i64 gr, .int .i64 st, .int .i64 fr, .int .i64 seed, .float .f64 rate, .float .f64 depth, .slice ra rl rc, .slice ta tl tc] 46)).alloc (.map #[] 0)) (logCells ⟨pl, per, gr, st, fr, seed, rate, depth, ra, rl, rc, ta, tl, tc⟩ (.slice none 0 0) (w.heap.size + 1)) 72
  rw [hs1, hs1] at hb
  rw [hs1] at hm
  exact {
    n := hN
    blk := ⟨.slice none 0 0, hb, own_nil _ _ _ _, fun g hg => by simp [Value.ownBlock] at hg⟩
    map := (hm.fr (S := []) ((Fr.refl [] _).alloc _) (by simp)).congr (fun _ _ => rfl)
    rrb := fun r hr => by simp at hr
    trb := fun x r hr => by simp at hr
    len := Nat.zero_le _
    pB := by show w.heap.size ≤ _; omega
    pM := by show w.heap.size ≤ _; omega }
section
variable {w w' : World} {P Q : Nat → Prop} {B M cnt : Nat} {c : CfV} {rows : List (Nat × Row)} {tk : Int → Option (Nat × Row)}
/-- what waits within i frames -/
def waitP (R : Int → Row) (L p i : Nat) : Nat := ((List.range i).map fun (i : Nat) => realsN (R ((L : Int) + (i : Int))) p).sum
theorem waitP_succ (R : Int → Row) (L p i : Nat) : waitP R L p (i + 1) = waitP R L p i + realsN (R ((L : Int) + (i : Int))) p := by
  unfold waitP; rw [List.range_succ, List.map_append, List.sum_append]; simp
theorem waitP_le (R : Int → Row) (L p : Nat) : ∀ i, waitP R L p i ≤ i * p
  | 0 => by simp [waitP]
  | i + 1 => by
    have h1 := waitP_le R L p i
    have h2 := countP_le' (fun t => (R ((L : Int) + (i : Int)) t).1) p
    rw [waitP_succ, Nat.succ_mul]
    unfold realsN
    omega
set_option maxRecDepth 100000 in
set_option maxHeartbeats 1600000 in
theorem rwait_any (h : HasRL w P B M c rows tk cnt) : Calls Try.prog 35 #[.pointer (some ⟨B, 0, none⟩)] w fun e w' => e = .returned (.int .i64 (waitR (rowOf tk) rows.length c.pl)) ∧ w = w' := by
  obtain ⟨rv, h1, h2, h3⟩ := h.blk
  obtain ⟨a, cap, rfl, -, -⟩ := own_val h2
  have c10 := Blk.cell (i := 10) h1 rfl
  have c11 := Blk.cell (i := 11) h1 rfl
  simp only [logCells, List.getElem_toArray, List.getElem_cons_zero, List.getElem_cons_succ] at c10 c11
  have hpl8 := h.n.pl8
  have hlen := h.len
  have hfr6 := h.n.fr6
  obtain ⟨L, hL⟩ : ∃ L, rows.length = L := ⟨_, rfl⟩
  rw [hL] at c10 hlen ⊢
  have hlm : L ≤ maxLen := by unfold maxLen; omega
  have HH := Lib.hid h
  clear h h1 h2 h3 hL
  go_enter Try.func35, Try.ntmps35
  go_wp2_with fail
  go_loopw [3, 4] (fun nv fv wr => ∃ i n : Nat, i ≤ 64 ∧ fv = .int .i64 ((L + i : Nat) : Int) ∧ nv = .int .i64 n ∧ n = waitP (rowOf tk) L c.pl i ∧ w = wr) (fun _ fv _ => L + 64 - (intOf fv).toNat)
  case atStart => exact ⟨0, 0, by omega, rfl, rfl, by simp [waitP], rfl⟩
  case round =>
    obtain ⟨i, n, hi, rfl, rfl, hn, rfl⟩ := hrel
    have hn5 : n ≤ 512 := by
      have := waitP_le (rowOf tk) L c.pl i
      have : i * c.pl ≤ 64 * 8 := Nat.mul_le_mul hi hpl8
      omega
    by_cases hlt : i < 64
    · obtain ⟨fx, hfx⟩ : ∃ fx : Nat, L + i = fx := ⟨_, rfl⟩
      rw [hfx]
      have hf1 : fx < L + 64 := by omega
      have hf2 : fx ≤ 700 := by omega
      have hK : inK (fx : Int) := inK_of (by omega) (by omega)
      have hfi : (L : Int) + (i : Int) = (fx : Int) := by omega
      have hsu := waitP_succ (rowOf tk) L c.pl i
      rw [hfi, ← hn] at hsu
      have hlk := HH.out.map.look1 intTy mapTy (zeroRow _) hK
      have HN := Lib.hid hn; have HFX := Lib.hid hfx; have HSU := Lib.hid hsu
      clear hn hfx hsu hfi
      cases hg : tk (fx : Int) with
      | none =>
        rw [hg] at hlk
        have hro : realsN (rowOf tk (fx : Int)) c.pl = 0 := by unfold rowOf; rw [hg]; exact realsN_c0 _
        have HRO := Lib.hid hro
        change (Instr.lookup 33 (.map (some M)) (.int .i64 (fx : Int)) false).run Try.prog w = .ok (.slice none 0 0) w at hlk
        clear hg hK hro
        go_wp2_with fail
        go_loopw [3, 6] (fun nv iv wr => nv = .int .i64 n ∧ iv = .int .i64 0 ∧ w = wr) (fun _ _ _ => 0)
        case atStart => exact ⟨rfl, rfl, rfl⟩
        case round =>
          obtain ⟨rfl, rfl, rfl⟩ := hrel
          go_wp2_with fail
          go_roundw
          case rel => exact ⟨i + 1, n, by omega, by have := HFX.out; simp; omega, rfl, by rw [HSU.out, HRO.out]; rfl, trivial⟩
          case measure => simp [intOf]; omega
      | some r =>
        rw [hg] at hlk
        have hro : realsN (rowOf tk (fx : Int)) c.pl = realsN r.2 c.pl := by unfold rowOf; rw [hg]
        have HRO := Lib.hid hro; have HRB := Lib.hid (HH.out.trb _ r hg).1
        change (Instr.lookup 33 (.map (some M)) (.int .i64 (fx : Int)) false).run Try.prog w = .ok (.slice (some ⟨r.1, 0, none⟩) c.pl c.pl) w at hlk
        clear hg hK hro
        go_wp2_with fail
        go_loopw [3, 6] (fun nv iv wr => ∃ j : Nat, j ≤ c.pl ∧ iv = .int .i64 j ∧ nv = .int .i64 ((n + realsN r.2 j : Nat) : Int) ∧ w = wr) (fun _ iv _ => c.pl - (intOf iv).toNat)
        case atStart => exact ⟨0, Nat.zero_le _, rfl, by simp [realsN], rfl⟩
        case round =>
          obtain ⟨j, hj, rfl, rfl, rfl⟩ := hrel
          have hq5 := countP_le' (fun t => (r.2 t).1) j
          obtain ⟨q, hq⟩ : ∃ q, n + realsN r.2 j = q := ⟨_, rfl⟩
          have hq6 : q ≤ 1000 := by unfold realsN at hq; omega
          have hs := realsN_succ r.2 j
          rw [hq]
          by_cases hjl : j < c.pl
          · have hjl' : (j : Int) < c.pl := by omega
            obtain ⟨⟨re, bu, xx, yy⟩, hC⟩ : ∃ C, r.2 j = C := ⟨_, rfl⟩
            have d0 : w.cell? ⟨r.1, j * 4, none⟩ = _ := HRB.out.cell hjl (j := 0) (by omega) rfl
            rw [hC] at d0 hs
            dsimp only at d0 hs
            have HSX := Lib.hid hs; have HQ := Lib.hid hq
            clear hs hq hC hq5
            cases re with
            | false =>
              go_wp2_with fail
              go_roundw
              case rel => exact ⟨j + 1, by omega, by simp, by have := HSX.out; have := HQ.out; simp at *; omega, trivial⟩
              case measure => simp [intOf]; omega
            | true =>
              go_wp2_with fail
              go_roundw
              case rel => exact ⟨j + 1, by omega, by simp, by have := HSX.out; have := HQ.out; simp at *; omega, trivial⟩
              case measure => simp [intOf]; omega
          · have e : j = c.pl := by omega
            subst e
            have HQ := Lib.hid hq
            clear hq hs hq5
            go_wp2_with fail
            go_roundw
            case rel => exact ⟨i + 1, q, by omega, by have := HFX.out; simp; omega, rfl, by rw [HSU.out, HRO.out, HQ.out], trivial⟩
            case measure => simp [intOf]; omega
    · have e : i = 64 := by omega
      subst e
      have HN := Lib.hid hn
      clear hn
      go_wp2_with fail
      go_ret
      exact ⟨by rw [HN.out]; rfl, rfl⟩
end
end Go.Proofs.Ytckodnogjedmnaa.Lo
