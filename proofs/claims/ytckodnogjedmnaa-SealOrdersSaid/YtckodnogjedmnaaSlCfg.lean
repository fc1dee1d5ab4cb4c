/- A raw config that came in. -/
import Derived.Test.YtckodnogjedmnaaSlRow
import Derived.Test.YtckodnogjedmnaaCf2
namespace Go.Proofs.Ytckodnogjedmnaa.Lo
open Go.RowKit Dt Go.ChangeShapes Go.WideShapes Go.Deep Go.Proofs.Ytckodnogjedmnaa.Jt Go.Proofs.Ytckodnogjedmnaa.Cfg
set_option linter.unusedVariables false
set_option linter.unusedSimpArgs false
theorem len8 {cs : List Value} (h : cs.length = 8) : ∃ a b c d e f g i, cs = [a, b, c, d, e, f, g, i] := by
  match cs, h with
  | [a, b, c, d, e, f, g, i], _ => exact ⟨a, b, c, d, e, f, g, i, rfl⟩
section
variable {H : Type} {enc : TypeId × Value → H} {w : World} {base : Nat} {held : Bool}
theorem trod_rawop {n : Nat} {cs : List Value} {y : DataW H × List MemPlace} (h : DataW.trod enc Try.prog w base (fun _ => true) held n 89 cs = some y) : ∃ a : Int × Int × Int, cs = [.int .i64 a.1, .int .i64 a.2.1, .int .i64 a.2.2] := by
  obtain ⟨xs, k, hk, hxy, hl, hxl, hfd⟩ := DataW.trod_struct Try.underlying89 h
  have hl3 : cs.length = 3 := by rw [hl]; kernel_rfl
  have g0 := hfd 0 _ rfl
  have g1 := hfd 1 _ rfl
  have g2 := hfd 2 _ rfl
  obtain ⟨x0, x1, x2, rfl⟩ := len3 hl3
  clear hl hl3
  have c1 : Try.prog.cellsOf 3 = 1 := by kernel_rfl
  change DataW.trod enc Try.prog w base (fun _ => true) held k 3 (([x0, x1, x2].drop 0).take (Try.prog.cellsOf 3)) = _ at g0
  rw [c1] at g0
  change DataW.trod enc Try.prog w base (fun _ => true) held k 3 [x0] = _ at g0
  change DataW.trod enc Try.prog w base (fun _ => true) held k 3 (([x0, x1, x2].drop 1).take (Try.prog.cellsOf 3)) = _ at g1
  rw [c1] at g1
  change DataW.trod enc Try.prog w base (fun _ => true) held k 3 [x1] = _ at g1
  change DataW.trod enc Try.prog w base (fun _ => true) held k 3 (([x0, x1, x2].drop 2).take (Try.prog.cellsOf 3)) = _ at g2
  rw [c1] at g2
  change DataW.trod enc Try.prog w base (fun _ => true) held k 3 [x2] = _ at g2
  rw [List.getElem?_eq_getElem (by rw [hxl]; decide)] at g0 g1 g2
  obtain ⟨a0, e0, _⟩ := DataW.trod_int Try.underlying3 g0
  obtain ⟨a1, e1, _⟩ := DataW.trod_int Try.underlying3 g1
  obtain ⟨a2, e2, _⟩ := DataW.trod_int Try.underlying3 g2
  simp only [List.cons.injEq, and_true] at e0 e1 e2
  exact ⟨(a0, a1, a2), by rw [e0, e1, e2]⟩
set_option maxRecDepth 100000 in
theorem trod_rawops {n : Nat} {v : Value} {y : DataW H × List MemPlace} (h : DataW.trod enc Try.prog w base (fun _ => true) held n 40 [v] = some y) : ∃ (a : Option Addr) (len cap : Nat) (z : Nat → Int × Int × Int), v = .slice a len cap ∧ SlR w a len cap z := by
  rcases DataW.trod_slice Try.underlying40 h with ⟨hcs, _⟩ | ⟨a, len, cap, elems, rest, m, hm, hcs, hx, hb, hlc, hcm, hel, hc, _⟩
  · simp at hcs; subst hcs
    exact ⟨none, 0, 0, fun _ => (0, 0, 0), rfl, ⟨Nat.le_refl _, fun _ => rfl, by decide, fun h => by omega⟩⟩
  · simp only [List.cons.injEq, and_true] at hcs; subst hcs
    have c3' : Try.prog.cellsOf 89 = 3 := by kernel_rfl
    rw [c3'] at hc
    have each : ∀ i, ∃ c : Int × Int × Int, i < len → ∀ j, j < 3 → w.cell? ((a.add (i * 3)).add j) = ([.int .i64 c.1, .int .i64 c.2.1, .int .i64 c.2.2] : List Value)[j]? := fun i => by
      by_cases hi : i < len
      · have h1 := hc i hi
        rw [List.getElem?_eq_getElem (by omega)] at h1
        cases hcs : w.cells? base (a.add (i * 3)) 3 with
        | none => rw [hcs] at h1; simp at h1
        | some cs =>
          rw [hcs] at h1
          obtain ⟨c, rfl⟩ := trod_rawop h1
          obtain ⟨_, hlen, hcell⟩ := World.cells?_some hcs
          exact ⟨c, fun _ j hj => hcell j hj⟩
      · exact ⟨(0, 0, 0), fun h => absurd h hi⟩
    refine ⟨some a, len, cap, fun i => Classical.choose (each i), rfl, ⟨hlc, (fun h => by cases h), hcm, fun hpos => ?_⟩⟩
    obtain ⟨b, off, spot⟩ := a
    have h0 := Classical.choose_spec (each 0) hpos 0 (by omega)
    rw [show ([.int .i64 (Classical.choose (each 0)).1, .int .i64 (Classical.choose (each 0)).2.1, .int .i64 (Classical.choose (each 0)).2.2] : List Value)[0]? = some (.int .i64 (Classical.choose (each 0)).1) from rfl] at h0
    have hs : spot = none := by simpa [Addr.add] using World.cell?_spot h0
    subst hs
    have hlt := cell_lt h0
    refine ⟨b, off, rfl, by simpa [Addr.add] using hlt, fun t ht => ?_⟩
    have hj : ∀ j u, j < 3 → ([.int .i64 (Classical.choose (each t)).1, .int .i64 (Classical.choose (each t)).2.1, .int .i64 (Classical.choose (each t)).2.2] : List Value)[j]? = some u → w.cell? ⟨b, off + (t * 3 + j), none⟩ = some u := fun j u hj hu => by
      have h1 := Classical.choose_spec (each t) ht j hj
      rw [add_add, hu] at h1
      rw [← h1]
      congr 1
      unfold Addr.add; split
      · rename_i e; simp [e]
      · rfl
    exact ⟨hj 0 _ (by decide) rfl, hj 1 _ (by decide) rfl, hj 2 _ (by decide) rfl⟩
set_option maxRecDepth 100000 in
theorem slRawConfig_of {cs : Array Value} {d : DataW H} {ps : List MemPlace} (h : DataW.Trod enc Try.prog w base (fun _ => true) held 42 (.agg cs) d ps) : ∃ (xp xq xg xs xf xd xr : Int) (ra : Option Addr) (rl rc : Nat) (z : Nat → Int × Int × Int), cs = #[.int .i64 xp, .int .i64 xq, .int .i64 xg, .int .i64 xs, .int .i64 xf, .int .i64 xd, .int .i64 xr, .slice ra rl rc] ∧ SlR w ra rl rc z := by
  obtain ⟨fuel, hf⟩ := h
  change DataW.trod enc Try.prog w base (fun _ => true) held fuel 42 cs.toList = _ at hf
  obtain ⟨cl, rfl⟩ : ∃ cl : List Value, cs = cl.toArray := ⟨cs.toList, by simp⟩
  change DataW.trod enc Try.prog w base (fun _ => true) held fuel 42 cl = _ at hf
  obtain ⟨xs, k, hk, hxy, hl, hxl, hfd⟩ := DataW.trod_struct Try.underlying42 hf
  have hl8 : cl.length = 8 := by rw [hl]; kernel_rfl
  have g0 := hfd 0 _ rfl
  have g1 := hfd 1 _ rfl
  have g2 := hfd 2 _ rfl
  have g3 := hfd 3 _ rfl
  have g4 := hfd 4 _ rfl
  have g5 := hfd 5 _ rfl
  have g6 := hfd 6 _ rfl
  have g7 := hfd 7 _ rfl
  obtain ⟨x0, x1, x2, x3, x4, x5, x6, x7, rfl⟩ := len8 hl8
  clear hl hl8
  have c1 : Try.prog.cellsOf 3 = 1 := by kernel_rfl
  have c2 : Try.prog.cellsOf 40 = 1 := by kernel_rfl
  change DataW.trod enc Try.prog w base (fun _ => true) held k 3 (([x0, x1, x2, x3, x4, x5, x6, x7].drop 0).take (Try.prog.cellsOf 3)) = _ at g0
  rw [c1] at g0
  change DataW.trod enc Try.prog w base (fun _ => true) held k 3 [x0] = _ at g0
  rw [List.getElem?_eq_getElem (by rw [hxl]; decide)] at g0
  change DataW.trod enc Try.prog w base (fun _ => true) held k 3 (([x0, x1, x2, x3, x4, x5, x6, x7].drop 1).take (Try.prog.cellsOf 3)) = _ at g1
  rw [c1] at g1
  change DataW.trod enc Try.prog w base (fun _ => true) held k 3 [x1] = _ at g1
  rw [List.getElem?_eq_getElem (by rw [hxl]; decide)] at g1
  change DataW.trod enc Try.prog w base (fun _ => true) held k 3 (([x0, x1, x2, x3, x4, x5, x6, x7].drop 2).take (Try.prog.cellsOf 3)) = _ at g2
  rw [c1] at g2
  change DataW.trod enc Try.prog w base (fun _ => true) held k 3 [x2] = _ at g2
  rw [List.getElem?_eq_getElem (by rw [hxl]; decide)] at g2
  change DataW.trod enc Try.prog w base (fun _ => true) held k 3 (([x0, x1, x2, x3, x4, x5, x6, x7].drop 3).take (Try.prog.cellsOf 3)) = _ at g3
  rw [c1] at g3
  change DataW.trod enc Try.prog w base (fun _ => true) held k 3 [x3] = _ at g3
  rw [List.getElem?_eq_getElem (by rw [hxl]; decide)] at g3
  change DataW.trod enc Try.prog w base (fun _ => true) held k 3 (([x0, x1, x2, x3, x4, x5, x6, x7].drop 4).take (Try.prog.cellsOf 3)) = _ at g4
  rw [c1] at g4
  change DataW.trod enc Try.prog w base (fun _ => true) held k 3 [x4] = _ at g4
  rw [List.getElem?_eq_getElem (by rw [hxl]; decide)] at g4
  change DataW.trod enc Try.prog w base (fun _ => true) held k 3 (([x0, x1, x2, x3, x4, x5, x6, x7].drop 5).take (Try.prog.cellsOf 3)) = _ at g5
  rw [c1] at g5
  change DataW.trod enc Try.prog w base (fun _ => true) held k 3 [x5] = _ at g5
  rw [List.getElem?_eq_getElem (by rw [hxl]; decide)] at g5
  change DataW.trod enc Try.prog w base (fun _ => true) held k 3 (([x0, x1, x2, x3, x4, x5, x6, x7].drop 6).take (Try.prog.cellsOf 3)) = _ at g6
  rw [c1] at g6
  change DataW.trod enc Try.prog w base (fun _ => true) held k 3 [x6] = _ at g6
  rw [List.getElem?_eq_getElem (by rw [hxl]; decide)] at g6
  change DataW.trod enc Try.prog w base (fun _ => true) held k 40 (([x0, x1, x2, x3, x4, x5, x6, x7].drop 7).take (Try.prog.cellsOf 40)) = _ at g7
  rw [c2] at g7
  change DataW.trod enc Try.prog w base (fun _ => true) held k 40 [x7] = _ at g7
  rw [List.getElem?_eq_getElem (by rw [hxl]; decide)] at g7
  obtain ⟨a0, e0, _⟩ := DataW.trod_int Try.underlying3 g0
  obtain ⟨a1, e1, _⟩ := DataW.trod_int Try.underlying3 g1
  obtain ⟨a2, e2, _⟩ := DataW.trod_int Try.underlying3 g2
  obtain ⟨a3, e3, _⟩ := DataW.trod_int Try.underlying3 g3
  obtain ⟨a4, e4, _⟩ := DataW.trod_int Try.underlying3 g4
  obtain ⟨a5, e5, _⟩ := DataW.trod_int Try.underlying3 g5
  obtain ⟨a6, e6, _⟩ := DataW.trod_int Try.underlying3 g6
  obtain ⟨ra, rl, rc, z, rfl, hz⟩ := trod_rawops g7
  simp only [List.cons.injEq, and_true] at e0 e1 e2 e3 e4 e5 e6
  exact ⟨a0, a1, a2, a3, a4, a5, a6, ra, rl, rc, z, by rw [e0, e1, e2, e3, e4, e5, e6], hz⟩
end
end Go.Proofs.Ytckodnogjedmnaa.Lo
