/- Acts with a row in each: what came in. -/
import Derived.Test.YtckodnogjedmnaaSlS
import Derived.Test.YtckodnogjedmnaaCl
import Derived.Test.YtckodnogjedmnaaHand
namespace Go.Proofs.Ytckodnogjedmnaa.Jt
open Go.RowKit Dt Go.ChangeShapes Go.WideShapes Go.Deep
set_option linter.unusedVariables false
set_option linter.unusedSimpArgs false
theorem len3 {cs : List Value} (h : cs.length = 3) : ∃ a b c, cs = [a, b, c] := by
  match cs, h with
  | [a, b, c], _ => exact ⟨a, b, c, rfl⟩
theorem len4 {cs : List Value} (h : cs.length = 4) : ∃ a b c d, cs = [a, b, c, d] := by
  match cs, h with
  | [a, b, c, d], _ => exact ⟨a, b, c, d, rfl⟩
section
variable {H : Type} {enc : TypeId × Value → H} {w : World} {base : Nat} {held : Bool}
theorem trod_input {n : Nat} {cs : List Value} {y : DataW H × List MemPlace} (h : DataW.trod enc Try.prog w base (fun _ => true) held n 58 cs = some y) : ∃ a b c : Int, cs = [.int .i64 a, .int .i64 b, .int .i64 c] := by
  obtain ⟨xs, k, hk, hxy, hl, hxl, hfd⟩ := DataW.trod_struct Try.underlying58 h
  have hl3 : cs.length = 3 := by rw [hl]; kernel_rfl
  have g0 := hfd 0 _ rfl
  have g1 := hfd 1 _ rfl
  have g2 := hfd 2 _ rfl
  obtain ⟨x0, x1, x2, rfl⟩ := len3 hl3
  clear hl hl3
  next =>
    have c1 : Try.prog.cellsOf 3 = 1 := by kernel_rfl
    change DataW.trod enc Try.prog w base (fun _ => true) held k 3 (([x0, x1, x2].drop 0).take (Try.prog.cellsOf 3)) = _ at g0
    rw [c1] at g0
    change DataW.trod enc Try.prog w base (fun _ => true) held k 3 [x0] = _ at g0
    change DataW.trod enc Try.prog w base (fun _ => true) held k 3 (([x0, x1, x2].drop 1).take (Try.prog.cellsOf 3)) = _ at g1
    rw [c1] at g1
    change DataW.trod enc Try.prog w base (fun _ => true) held k 3 [x1] = _ at g1
    change DataW.trod enc Try.prog w base (fun _ => true) held k 3 (([x0, x1, x2].drop 2).take (Try.prog.cellsOf 3)) = _ at g2
    rw [c1] at g2
    change DataW.trod enc Try.prog w base (fun _ => true) held k 3 [x2] = _ at g2
    rw [List.getElem?_eq_getElem (by rw [hxl]; decide)] at g0 g1 g2
    obtain ⟨a0, e0, _⟩ := DataW.trod_int Try.underlying3 g0
    obtain ⟨a1, e1, _⟩ := DataW.trod_int Try.underlying3 g1
    obtain ⟨a2, e2, _⟩ := DataW.trod_int Try.underlying3 g2
    simp only [List.cons.injEq, and_true] at e0 e1 e2
    exact ⟨a0, a1, a2, by rw [e0, e1, e2]⟩
theorem trod_cell {n : Nat} {cs : List Value} {y : DataW H × List MemPlace} (h : DataW.trod enc Try.prog w base (fun _ => true) held n 66 cs = some y) : ∃ c : C4, cs = c4 c := by
  obtain ⟨xs, k, hk, hxy, hl, hxl, hfd⟩ := DataW.trod_struct Try.underlying66 h
  have hl4 : cs.length = 4 := by rw [hl]; kernel_rfl
  have g0 := hfd 0 _ rfl
  have g1 := hfd 1 _ rfl
  obtain ⟨x0, x1, x2, x3, rfl⟩ := len4 hl4
  clear hl hl4
  next =>
    have c1 : Try.prog.cellsOf 4 = 1 := by kernel_rfl
    have c2 : Try.prog.cellsOf 58 = 3 := by kernel_rfl
    change DataW.trod enc Try.prog w base (fun _ => true) held k 4 (([x0, x1, x2, x3].drop 0).take (Try.prog.cellsOf 4)) = _ at g0
    rw [c1] at g0
    change DataW.trod enc Try.prog w base (fun _ => true) held k 4 [x0] = _ at g0
    change DataW.trod enc Try.prog w base (fun _ => true) held k 58 (([x0, x1, x2, x3].drop 1).take (Try.prog.cellsOf 58)) = _ at g1
    rw [c2] at g1
    change DataW.trod enc Try.prog w base (fun _ => true) held k 58 [x1, x2, x3] = _ at g1
    rw [List.getElem?_eq_getElem (by rw [hxl]; decide)] at g0 g1
    obtain ⟨r, e0, _⟩ := DataW.trod_bool Try.underlying4 g0
    obtain ⟨a, b, c, e1⟩ := trod_input g1
    simp only [List.cons.injEq, and_true] at e0 e1
    obtain ⟨rfl, rfl, rfl⟩ := e1
    subst e0
    exact ⟨(r, a, b, c), rfl⟩
set_option maxRecDepth 100000 in
theorem trod_row {n : Nat} {v : Value} {y : DataW H × List MemPlace} (h : DataW.trod enc Try.prog w base (fun _ => true) held n 26 [v] = some y) : ∃ (len : Nat) (R : Nat → C4), RS w 0 v len R := by
  rcases DataW.trod_slice Try.underlying26 h with ⟨hcs, _⟩ | ⟨a, len, cap, elems, rest, m, hm, hcs, hx, hb, hlc, hcm, hel, hc, _⟩
  · simp at hcs; subst hcs
    exact ⟨0, fun _ => c0, RS.nil w 0 _⟩
  · simp only [List.cons.injEq, and_true] at hcs; subst hcs
    have c4' : Try.prog.cellsOf 66 = 4 := by kernel_rfl
    rw [c4'] at hc
    have each : ∀ i, ∃ c : C4, i < len → ∀ j, j < 4 → w.cell? ((a.add (i * 4)).add j) = (c4 c)[j]? := fun i => by
      by_cases hi : i < len
      · have h1 := hc i hi
        rw [List.getElem?_eq_getElem (by omega)] at h1
        cases hcs : w.cells? base (a.add (i * 4)) 4 with
        | none => rw [hcs] at h1; simp at h1
        | some cs =>
          rw [hcs] at h1
          obtain ⟨c, rfl⟩ := trod_cell h1
          obtain ⟨_, hlen, hcell⟩ := World.cells?_some hcs
          exact ⟨c, fun _ j hj => hcell j hj⟩
      · exact ⟨c0, fun h => absurd h hi⟩
    refine ⟨len, fun i => Classical.choose (each i), some a, cap, rfl, hlc, hcm, (fun h => by cases h), fun hpos => ?_⟩
    obtain ⟨b, off, spot⟩ := a
    have h0 := Classical.choose_spec (each 0) hpos 0 (by omega)
    have hs0 : (c4 (Classical.choose (each 0)))[0]? = some (.bool (Classical.choose (each 0)).1) := rfl
    rw [hs0] at h0
    have hs : spot = none := by simpa [Addr.add] using World.cell?_spot h0
    subst hs
    have hlt := cell_lt h0
    refine ⟨b, off, rfl, Nat.zero_le _, by simpa [Addr.add] using hlt, fun t j u ht hj hu => ?_⟩
    have h1 := Classical.choose_spec (each t) ht j hj
    rw [add_add, hu] at h1
    rw [← h1]
    congr 1
    unfold Addr.add; split
    · rename_i e; simp [e]
    · rfl
end
/-- acts: three numbers and a row -/
def SlAct (w : World) (a : Option Addr) (len cap : Nat) (z : Nat → (Int × Int × Int) × Value × Nat × (Nat → C4)) : Prop :=
  SlG w a len cap (fun b off => ∀ i, i < len → w.cell? ⟨b, off + i * 4, none⟩ = some (.int .i64 (z i).1.1) ∧ w.cell? ⟨b, off + (i * 4 + 1), none⟩ = some (.int .i64 (z i).1.2.1) ∧ w.cell? ⟨b, off + (i * 4 + 2), none⟩ = some (.int .i64 (z i).1.2.2) ∧ w.cell? ⟨b, off + (i * 4 + 3), none⟩ = some (z i).2.1) ∧
  ∀ i, i < len → ((Lit.int .i64 (z i).1.1).wf = true ∧ (Lit.int .i64 (z i).1.2.1).wf = true ∧ (Lit.int .i64 (z i).1.2.2).wf = true) ∧ RS w 0 (z i).2.1 (z i).2.2.1 (z i).2.2.2
theorem flat_act {fs : Array Field} (h : Try.prog.underlying 35 = some (.struct fs)) : Flat Try.prog fs ∧ fs.size = 4 ∧ (fs[0]?).map (·.type) = some 3 ∧ (fs[1]?).map (·.type) = some 3 ∧ (fs[2]?).map (·.type) = some 3 ∧ (fs[3]?).map (·.type) = some 26 := by
  rw [Try.underlying35] at h
  simp only [Option.some.injEq, TypeDesc.struct.injEq] at h
  subst h
  refine ⟨fun j f hf => ?_, rfl, rfl, rfl, rfl, rfl⟩
  match j, hf with
  | 0, hf => simp at hf; subst hf; exact ⟨rfl, by kernel_rfl⟩
  | 1, hf => simp at hf; subst hf; exact ⟨rfl, by kernel_rfl⟩
  | 2, hf => simp at hf; subst hf; exact ⟨rfl, by kernel_rfl⟩
  | 3, hf => simp at hf; subst hf; exact ⟨rfl, by kernel_rfl⟩
  | j + 4, hf => simp at hf
theorem slAct_of {H : Type} {enc : TypeId × Value → H} {w : World} {base : Nat} {held : Bool} {ts : List TypeId} {ds : List (DataW H)} {ps : List MemPlace} (hs : (DataW.weightsEach Try.prog ts ds).all (· ≤ reachBytes) = true) {j : Nat} {a : Option Addr} {len cap : Nat} {d : DataW H}
    (ht : ts[j]? = some 31) (hd : ds[j]? = some d) (h : DataW.Trod enc Try.prog w base (fun _ => true) held 31 (.slice a len cap) d ps) : ∃ z, SlAct w a len cap z := by
  obtain ⟨hfl, hsz, t0, t1, t2, t3⟩ := flat_act Try.underlying35
  obtain ⟨V, hV, hx⟩ := rows_of hs (of_decide_eq_true (by kernel_rfl)) ht hd Try.underlying31 Try.underlying35 (by kernel_rfl) hfl (by rw [hsz]; decide) h
  have each : ∀ i, ∃ z : (Int × Int × Int) × Value × Nat × (Nat → C4), i < len → V i 0 = .int .i64 z.1.1 ∧ V i 1 = .int .i64 z.1.2.1 ∧ V i 2 = .int .i64 z.1.2.2 ∧ V i 3 = z.2.1 ∧ ((Lit.int .i64 z.1.1).wf = true ∧ (Lit.int .i64 z.1.2.1).wf = true ∧ (Lit.int .i64 z.1.2.2).wf = true) ∧ RS w 0 z.2.1 z.2.2.1 z.2.2.2 := fun i => by
    by_cases hi : i < len
    · obtain ⟨n0, y0, g0⟩ := hx i hi 0 _ rfl
      obtain ⟨n1, y1, g1⟩ := hx i hi 1 _ rfl
      obtain ⟨n2, y2, g2⟩ := hx i hi 2 _ rfl
      obtain ⟨n3, y3, g3⟩ := hx i hi 3 _ rfl
      obtain ⟨a0, e0, _, f0⟩ := DataW.trod_int Try.underlying3 g0
      obtain ⟨a1, e1, _, f1⟩ := DataW.trod_int Try.underlying3 g1
      obtain ⟨a2, e2, _, f2⟩ := DataW.trod_int Try.underlying3 g2
      obtain ⟨ln, R, hR⟩ := trod_row g3
      exact ⟨((a0, a1, a2), V i 3, ln, R), fun _ => ⟨by simpa using e0, by simpa using e1, by simpa using e2, rfl, ⟨f0, f1, f2⟩, hR⟩⟩
    · exact ⟨((0, 0, 0), undef, 0, fun _ => c0), fun h => absurd h hi⟩
  refine ⟨fun i => Classical.choose (each i), ⟨hV.le, hV.nil, hV.reach, fun hp => ?_⟩, fun i hi => ?_⟩
  · obtain ⟨b, off, e, hlt, hc⟩ := hV.cells hp
    refine ⟨b, off, e, hlt, fun i hi => ?_⟩
    obtain ⟨e0, e1, e2, e3, _⟩ := Classical.choose_spec (each i) hi
    have k0 := hc i hi 0 (by decide)
    have k1 := hc i hi 1 (by decide)
    have k2 := hc i hi 2 (by decide)
    have k3 := hc i hi 3 (by decide)
    rw [e0] at k0; rw [e1] at k1; rw [e2] at k2; rw [e3] at k3
    exact ⟨k0, k1, k2, k3⟩
  · obtain ⟨_, _, _, _, f, g⟩ := Classical.choose_spec (each i) hi
    exact ⟨f, g⟩
end Go.Proofs.Ytckodnogjedmnaa.Jt
