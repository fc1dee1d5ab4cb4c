/- Acts of chapter 18 that came in. Written by wip/genslac.py. -/
import Derived.Test.YtckodnogjedmnaaSlCfg
namespace Go.Proofs.Ytckodnogjedmnaa.Lo
open Go.RowKit Dt Go.ChangeShapes Go.WideShapes Go.Deep Go.Proofs.Ytckodnogjedmnaa.Jt Go.Proofs.Ytckodnogjedmnaa.Cfg
set_option linter.unusedVariables false
set_option linter.unusedSimpArgs false
/-- what, slot, frame, n, m; an input -/
abbrev A8 := Int × Int × Int × Int × Int × Int × Int × Int
def a8 (z : A8) : List Value := [.int .i64 z.1, .int .i64 z.2.1, .int .i64 z.2.2.1, .int .i64 z.2.2.2.1, .int .i64 z.2.2.2.2.1, .int .i64 z.2.2.2.2.2.1, .int .i64 z.2.2.2.2.2.2.1, .int .i64 z.2.2.2.2.2.2.2]
structure SlAc (w : World) (a : Option Addr) (len cap : Nat) (z : Nat → A8) : Prop where
  le : len ≤ cap
  nil : a = none → cap = 0
  max : cap ≤ maxLen
  cells : 0 < len → ∃ b off, a = some ⟨b, off, none⟩ ∧ b < w.heap.size ∧ ∀ t, t < len → ∀ j v, (a8 (z t))[j]? = some v → w.cell? ⟨b, off + (t * 8 + j), none⟩ = some v
section
variable {H : Type} {enc : TypeId × Value → H} {w : World} {base : Nat} {held : Bool}
theorem trod_act {n : Nat} {cs : List Value} {y : DataW H × List MemPlace} (h : DataW.trod enc Try.prog w base (fun _ => true) held n 60 cs = some y) : ∃ z : A8, cs = a8 z := by
  obtain ⟨xs, k, hk, hxy, hl, hxl, hfd⟩ := DataW.trod_struct Try.underlying60 h
  have hl8 : cs.length = 8 := by rw [hl]; kernel_rfl
  have g0 := hfd 0 _ rfl
  have g1 := hfd 1 _ rfl
  have g2 := hfd 2 _ rfl
  have g3 := hfd 3 _ rfl
  have g4 := hfd 4 _ rfl
  have g5 := hfd 5 _ rfl
  obtain ⟨x0, x1, x2, x3, x4, x5, x6, x7, rfl⟩ := len8 hl8
  clear hl hl8
  have c1 : Try.prog.cellsOf 3 = 1 := by kernel_rfl
  have c3 : Try.prog.cellsOf 58 = 3 := by kernel_rfl
  change DataW.trod enc Try.prog w base (fun _ => true) held k 3 (([x0, x1, x2, x3, x4, x5, x6, x7].drop 0).take (Try.prog.cellsOf 3)) = _ at g0
  rw [c1] at g0
  change DataW.trod enc Try.prog w base (fun _ => true) held k 3 [x0] = _ at g0
  change DataW.trod enc Try.prog w base (fun _ => true) held k 3 (([x0, x1, x2, x3, x4, x5, x6, x7].drop 1).take (Try.prog.cellsOf 3)) = _ at g1
  rw [c1] at g1
  change DataW.trod enc Try.prog w base (fun _ => true) held k 3 [x1] = _ at g1
  change DataW.trod enc Try.prog w base (fun _ => true) held k 3 (([x0, x1, x2, x3, x4, x5, x6, x7].drop 2).take (Try.prog.cellsOf 3)) = _ at g2
  rw [c1] at g2
  change DataW.trod enc Try.prog w base (fun _ => true) held k 3 [x2] = _ at g2
  change DataW.trod enc Try.prog w base (fun _ => true) held k 3 (([x0, x1, x2, x3, x4, x5, x6, x7].drop 3).take (Try.prog.cellsOf 3)) = _ at g3
  rw [c1] at g3
  change DataW.trod enc Try.prog w base (fun _ => true) held k 3 [x3] = _ at g3
  change DataW.trod enc Try.prog w base (fun _ => true) held k 3 (([x0, x1, x2, x3, x4, x5, x6, x7].drop 4).take (Try.prog.cellsOf 3)) = _ at g4
  rw [c1] at g4
  change DataW.trod enc Try.prog w base (fun _ => true) held k 3 [x4] = _ at g4
  change DataW.trod enc Try.prog w base (fun _ => true) held k 58 (([x0, x1, x2, x3, x4, x5, x6, x7].drop 5).take (Try.prog.cellsOf 58)) = _ at g5
  rw [c3] at g5
  change DataW.trod enc Try.prog w base (fun _ => true) held k 58 [x5, x6, x7] = _ at g5
  rw [List.getElem?_eq_getElem (by rw [hxl]; decide)] at g0 g1 g2 g3 g4 g5
  obtain ⟨a0, e0, _⟩ := DataW.trod_int Try.underlying3 g0
  obtain ⟨a1, e1, _⟩ := DataW.trod_int Try.underlying3 g1
  obtain ⟨a2, e2, _⟩ := DataW.trod_int Try.underlying3 g2
  obtain ⟨a3, e3, _⟩ := DataW.trod_int Try.underlying3 g3
  obtain ⟨a4, e4, _⟩ := DataW.trod_int Try.underlying3 g4
  obtain ⟨a5, a6, a7, e5⟩ := trod_input g5
  simp only [List.cons.injEq, and_true] at e0 e1 e2 e3 e4 e5
  exact ⟨(a0, a1, a2, a3, a4, a5, a6, a7), by rw [e0, e1, e2, e3, e4, e5.1, e5.2.1, e5.2.2]; rfl⟩
set_option maxRecDepth 100000 in
theorem slAct_of {ts : List TypeId} {ds : List (DataW H)} {ps : List MemPlace} (hs : (DataW.weightsEach Try.prog ts ds).all (· ≤ reachBytes) = true) {j : Nat} {a : Option Addr} {len cap : Nat} {d : DataW H}
    (ht : ts[j]? = some 54) (hd : ds[j]? = some d) (h : DataW.Trod enc Try.prog w base (fun _ => true) held 54 (.slice a len cap) d ps) : ∃ z, SlAc w a len cap z := by
  obtain ⟨fuel, h⟩ := h
  change DataW.trod enc Try.prog w base (fun _ => true) held fuel 54 [.slice a len cap] = _ at h
  rcases DataW.trod_slice Try.underlying54 h with ⟨hcs, _⟩ | ⟨a, len, cap, elems, rest, m, hm, hcs, hx, hb, hlc, hcm, hel, hc, _⟩
  · simp at hcs
    obtain ⟨rfl, rfl, rfl⟩ := hcs
    exact ⟨fun _ => (0, 0, 0, 0, 0, 0, 0, 0), ⟨Nat.le_refl _, fun _ => rfl, by decide, fun h => by omega⟩⟩
  · simp only [List.cons.injEq, and_true] at hcs
    cases hcs
    have c8' : Try.prog.cellsOf 60 = 8 := by kernel_rfl
    rw [c8'] at hc
    have each : ∀ i, ∃ c : A8, i < len → ∀ j, j < 8 → w.cell? ((a.add (i * 8)).add j) = (a8 c)[j]? := fun i => by
      by_cases hi : i < len
      · have h1 := hc i hi
        rw [List.getElem?_eq_getElem (by omega)] at h1
        cases hcs : w.cells? base (a.add (i * 8)) 8 with
        | none => rw [hcs] at h1; simp at h1
        | some cs =>
          rw [hcs] at h1
          obtain ⟨c, rfl⟩ := trod_act h1
          obtain ⟨_, hlen, hcell⟩ := World.cells?_some hcs
          exact ⟨c, fun _ j hj => hcell j hj⟩
      · exact ⟨(0, 0, 0, 0, 0, 0, 0, 0), fun h => absurd h hi⟩
    refine ⟨fun i => Classical.choose (each i), ⟨hlc, (fun h => by cases h), hcm, fun hpos => ?_⟩⟩
    obtain ⟨b, off, spot⟩ := a
    have h0 := Classical.choose_spec (each 0) hpos 0 (by omega)
    rw [show (a8 (Classical.choose (each 0)))[0]? = some (.int .i64 (Classical.choose (each 0)).1) from rfl] at h0
    have hs : spot = none := by simpa [Addr.add] using World.cell?_spot h0
    subst hs
    have hlt := cell_lt h0
    refine ⟨b, off, rfl, by simpa [Addr.add] using hlt, fun t ht j u hu => ?_⟩
    have hj : j < 8 := by
      have := (List.getElem?_eq_some_iff.1 hu).1
      simpa [a8] using this
    have h1 := Classical.choose_spec (each t) ht j hj
    rw [add_add, hu] at h1
    rw [← h1]
    congr 1
    unfold Addr.add; split
    · rename_i e; simp [e]
    · rfl
end
theorem SlAc.fr {w w' : World} {a : Option Addr} {len cap : Nat} {z : Nat → A8} (h : SlAc w a len cap z) (hb : ∀ b, b < w.heap.size → w'.heap[b]? = w.heap[b]?) (hs : w.heap.size ≤ w'.heap.size) : SlAc w' a len cap z :=
  ⟨h.le, h.nil, h.max, fun hp => by
    obtain ⟨b, off, e, hlt, hc⟩ := h.cells hp
    exact ⟨b, off, e, by omega, fun t ht j v hv => by rw [World.cell?_of_block (w := w) (hb b hlt)]; exact hc t ht j v hv⟩⟩
/-- an act's cells -/
theorem SlAc.get {w : World} {a : Option Addr} {len cap : Nat} {z : Nat → A8} (h : SlAc w a len cap z) {i : Nat} (hi : i < len) : ∃ b off, a = some ⟨b, off, none⟩ ∧ b < w.heap.size ∧ w.cell? ⟨b, off + i * 8, none⟩ = some (.int .i64 (z i).1) ∧ w.cell? ⟨b, off + i * 8 + 1, none⟩ = some (.int .i64 (z i).2.1) ∧ w.cell? ⟨b, off + i * 8 + 2, none⟩ = some (.int .i64 (z i).2.2.1) ∧ w.cell? ⟨b, off + i * 8 + 3, none⟩ = some (.int .i64 (z i).2.2.2.1) ∧ w.cell? ⟨b, off + i * 8 + 4, none⟩ = some (.int .i64 (z i).2.2.2.2.1) ∧ w.cell? ⟨b, off + i * 8 + 5, none⟩ = some (.int .i64 (z i).2.2.2.2.2.1) ∧ w.cell? ⟨b, off + i * 8 + 6, none⟩ = some (.int .i64 (z i).2.2.2.2.2.2.1) ∧ w.cell? ⟨b, off + i * 8 + 7, none⟩ = some (.int .i64 (z i).2.2.2.2.2.2.2) := by
  obtain ⟨b, off, e, hlt, hc⟩ := h.cells (by omega)
  have k := fun j v hv => hc i hi j v hv
  refine ⟨b, off, e, hlt, ?_⟩
  exact ⟨k 0 _ rfl, k 1 _ rfl, k 2 _ rfl, k 3 _ rfl, k 4 _ rfl, k 5 _ rfl, k 6 _ rfl, k 7 _ rfl⟩
end Go.Proofs.Ytckodnogjedmnaa.Lo
