/- chapter 18: the reference's Some, Offer. -/
import Derived.Test.YtckodnogjedmnaaRl2
import Derived.Test.YtckodnogjedmnaaSo
namespace Go.Proofs.Ytckodnogjedmnaa.Lo
open Go.RowKit Dt Go.Proofs.Ytckodnogjedmnaa.Hd Go.Proofs.Ytckodnogjedmnaa.Cfg Go.Proofs.Ytckodnogjedmnaa.Jt
set_option linter.unusedVariables false
set_option linter.unusedSimpArgs false
section
variable {w w' : World} {P Q : Nat → Prop} {B M cnt : Nat} {c : CfV} {rows : List (Nat × Row)} {tk : Int → Option (Nat × Row)}
theorem rb_at {g p : Nat} {R : Row} (h : RB w 66 g R p) : RowAt w (rowV p g) p R :=
  ⟨g, p, rfl, fun t ht j v hv => by rw [RB.cell h ht (c4_len _ hv) hv]⟩
set_option maxRecDepth 100000 in
set_option maxHeartbeats 1600000 in
theorem rsome_any (h : HasRL w P B M c rows tk cnt) (fr most : Int) : Calls Try.prog 38 #[.pointer (some ⟨B, 0, none⟩), .int .i64 fr, .int .i64 most] w fun e w' => ∃ v, e = .returned v ∧ RowsAt w v (nRows fr most rows.length) c.pl (fun i => rowAt rows (fr.toNat + i)) ∧ ∃ k, w' = w.drewN k := by
  obtain ⟨rv, h1, h2, h3⟩ := h.blk
  obtain ⟨a, cap, rfl, hlc, hcm, -, hsm⟩ := own_any h2
  have c10 := Blk.cell (i := 10) h1 rfl
  simp only [logCells, List.getElem_toArray, List.getElem_cons_zero, List.getElem_cons_succ] at c10
  have hlen := h.len
  have hfr6 := h.n.fr6
  have hrr := h.rrb
  have HPL := Lib.hid h.n.pl1
  obtain ⟨L, hL⟩ : ∃ L, rows.length = L := ⟨_, rfl⟩
  rw [hL] at c10 hlen hlc h2 hsm ⊢
  have hlm : L ≤ maxLen := by unfold maxLen; omega
  have H2 := Lib.hid h2; have HL := Lib.hid hL; have HRR := Lib.hid hrr
  clear h h1 h2 h3 hL hrr
  have nilcase : ∀ (n : Nat), n = 0 → RowsAt w (.slice none 0 0) n c.pl (fun i => rowAt rows (fr.toNat + i)) := fun n hn => ⟨none, 0, by rw [hn], by omega, by decide, fun h => by omega⟩
  by_cases q1 : fr < 0
  · have hn : nRows fr most L = 0 := by unfold nRows; rw [if_neg (by omega)]
    have HNC := Lib.hid (nilcase _ hn)
    clear nilcase hn
    go_enter Try.func38, Try.ntmps38
    go_wp2_with fail
    go_ret
    exact ⟨_, rfl, HNC.out, 0, rfl⟩
  · by_cases q2 : (L : Int) ≤ fr
    · have hn : nRows fr most L = 0 := by unfold nRows; rw [if_pos (by omega)]; omega
      have HNC := Lib.hid (nilcase _ hn)
      clear nilcase hn
      go_enter Try.func38, Try.ntmps38
      go_wp2_with fail
      go_ret
      exact ⟨_, rfl, HNC.out, 0, rfl⟩
    · by_cases q3 : most ≤ 0
      · have hn : nRows fr most L = 0 := by unfold nRows; rw [if_pos (by omega)]; omega
        have HNC := Lib.hid (nilcase _ hn)
        clear nilcase hn
        go_enter Try.func38, Try.ntmps38
        go_wp2_with fail
        go_ret
        exact ⟨_, rfl, HNC.out, 0, rfl⟩
      · obtain ⟨g, rfl, -⟩ := hsm (by omega)
        obtain ⟨f', rfl⟩ : ∃ f' : Nat, fr = f' := ⟨fr.toNat, by omega⟩
        obtain ⟨m', rfl⟩ : ∃ m' : Nat, most = m' := ⟨most.toNat, by omega⟩
        obtain ⟨hi, hhi⟩ : ∃ hi : Nat, hi = min L (f' + min m' L) := ⟨_, rfl⟩
        have hn : nRows (f' : Int) (m' : Int) L = hi - f' := by unfold nRows; rw [if_pos (by omega)]; omega
        have hf1 : f' ≤ hi := by omega
        have hf2 : hi ≤ L := by omega
        have hm1 : (if (m' : Int) < L then (m' : Int) else (L : Int)) = ((min m' L : Nat) : Int) := by split <;> omega
        obtain ⟨q, hq⟩ : ∃ q, min m' L = q := ⟨_, rfl⟩
        have hq2 : q ≤ L := by omega
        rw [hq] at hm1 hhi
        have hm2 : (if (L : Int) < (f' : Int) + q then (L : Int) else (f' : Int) + q) = (hi : Int) := by split <;> omega
        have hra : RowsAt w (.slice (some ⟨g, f', none⟩) (hi - f') (cap - f')) (nRows (f' : Int) (m' : Int) L) c.pl (fun i => rowAt rows ((f' : Int).toNat + i)) := by
          rw [hn]
          refine ⟨_, _, rfl, by omega, by omega, fun hp => ⟨g, f', rfl, fun i hi' => ?_⟩⟩
          obtain ⟨r, hr⟩ : ∃ r, rows[f' + i]? = some r := ⟨_, List.getElem?_eq_getElem (by rw [HL.out]; omega)⟩
          refine ⟨rowV c.pl r.1, ?_, ?_⟩
          · rw [H2.out.cellAt _ (by omega), List.getElem?_map, hr]; rfl
          · have e : rowAt rows (f' + i) = r.2 := by
              unfold rowAt; rw [List.getD_eq_getElem?_getD, hr]; rfl
            dsimp only
            rw [Int.toNat_natCast, e]
            exact rb_at (HRR.out r (List.mem_of_getElem? hr)).1
        have HRA := Lib.hid hra; have HHI := Lib.hid (show hi = min L (f' + min m' L) by rw [hq]; exact hhi)
        have hpl0 := HPL.out
        clear hra nilcase hn hq hhi hsm
        go_enter Try.func38, Try.ntmps38
        go_wp2_with fail
        go_quiet (fail)
        go_wp2_with fail
        all_goals
          go_ret
          refine ⟨.slice (some ⟨g, f', none⟩) (hi - f') (cap - f'), ?_, HRA.out, nq, rfl⟩
          have hhi := HHI.out
          show Ending.returned (.slice _ _ _) = _
          simp only [Ending.returned.injEq, Value.slice.injEq, true_and, and_true]
          omega
end
end Go.Proofs.Ytckodnogjedmnaa.Lo
