/- Acts of chapter 24 that came in. -/
import Derived.Test.YtkjjikjilmngdaaLs
import Derived.Test.YtkjjikjilmngdaaSlBy
import Derived.Test.YtkjjikjilmngdaaSl
namespace Go.Proofs.Ytkjjikjilmngdaa.Nt
open Go.RowKit Dt Go.ChangeShapes Go.WideShapes Go.Deep
set_option linter.unusedVariables false
set_option linter.unusedSimpArgs false
/-- an act: what, a number, a tick; a fate; bytes -/
structure NA where
  what : Int
  n : Int
  tick : Int
  drop : Bool
  copies : Int
  delay : Int
  a : Option Addr
  l : Nat
  c : Nat
  bs : List Nat
def NA.cs (z : NA) : List Value := [.int .i64 z.what, .int .i64 z.n, .int .i64 z.tick, .bool z.drop, .int .i64 z.copies, .int .i64 z.delay, .slice z.a z.l z.c]
def na0 : NA := ⟨0, 0, 0, false, 0, 0, none, 0, 0, []⟩
structure SlNA (w : World) (a : Option Addr) (len cap : Nat) (z : Nat → NA) : Prop where
  le : len ≤ cap
  nil : a = none → cap = 0
  max : cap ≤ maxLen
  cells : 0 < len → ∃ b off, a = some ⟨b, off, none⟩ ∧ b < w.heap.size ∧ ∀ t, t < len → (∀ j v, (z t).cs[j]? = some v → w.cell? ⟨b, off + (t * 7 + j), none⟩ = some v) ∧ ByIn w (z t).a (z t).l (z t).c (z t).bs
theorem len7 {cs : List Value} (h : cs.length = 7) : ∃ a b c d e f g, cs = [a, b, c, d, e, f, g] := by
  match cs, h with
  | [a, b, c, d, e, f, g], _ => exact ⟨a, b, c, d, e, f, g, rfl⟩
section
variable {H : Type} {enc : TypeId × Value → H} {w : World} {base : Nat} {held : Bool}
set_option maxRecDepth 100000 in
theorem trod_na {n : Nat} {cs : List Value} {y : DataW H × List MemPlace} (h : DataW.trod enc Try.prog w base (fun _ => true) held n 84 cs = some y) (hw : (DataW.weights Try.prog 84 y.1).all (· ≤ reachBytes) = true) : ∃ z : NA, cs = z.cs ∧ ByIn w z.a z.l z.c z.bs := by
  obtain ⟨xs, k, hk, hxy, hl, hxl, hfd⟩ := DataW.trod_struct Try.underlying84 h
  have hl7 : cs.length = 7 := by rw [hl]; kernel_rfl
  have g0 := hfd 0 _ rfl
  have g1 := hfd 1 _ rfl
  have g2 := hfd 2 _ rfl
  have g3 := hfd 3 _ rfl
  have g4 := hfd 4 _ rfl
  have g5 := hfd 5 _ rfl
  have g6 := hfd 6 _ rfl
  obtain ⟨x0, x1, x2, x3, x4, x5, x6, rfl⟩ := len7 hl7
  clear hl hl7
  have c1 : Try.prog.cellsOf 3 = 1 := by kernel_rfl
  have c2 : Try.prog.cellsOf 4 = 1 := by kernel_rfl
  have c3 : Try.prog.cellsOf 73 = 1 := by kernel_rfl
  change DataW.trod enc Try.prog w base (fun _ => true) held k 3 (([x0, x1, x2, x3, x4, x5, x6].drop 0).take (Try.prog.cellsOf 3)) = _ at g0
  rw [c1] at g0
  change DataW.trod enc Try.prog w base (fun _ => true) held k 3 [x0] = _ at g0
  change DataW.trod enc Try.prog w base (fun _ => true) held k 3 (([x0, x1, x2, x3, x4, x5, x6].drop 1).take (Try.prog.cellsOf 3)) = _ at g1
  rw [c1] at g1
  change DataW.trod enc Try.prog w base (fun _ => true) held k 3 [x1] = _ at g1
  change DataW.trod enc Try.prog w base (fun _ => true) held k 3 (([x0, x1, x2, x3, x4, x5, x6].drop 2).take (Try.prog.cellsOf 3)) = _ at g2
  rw [c1] at g2
  change DataW.trod enc Try.prog w base (fun _ => true) held k 3 [x2] = _ at g2
  change DataW.trod enc Try.prog w base (fun _ => true) held k 3 (([x0, x1, x2, x3, x4, x5, x6].drop 4).take (Try.prog.cellsOf 3)) = _ at g4
  rw [c1] at g4
  change DataW.trod enc Try.prog w base (fun _ => true) held k 3 [x4] = _ at g4
  change DataW.trod enc Try.prog w base (fun _ => true) held k 3 (([x0, x1, x2, x3, x4, x5, x6].drop 5).take (Try.prog.cellsOf 3)) = _ at g5
  rw [c1] at g5
  change DataW.trod enc Try.prog w base (fun _ => true) held k 3 [x5] = _ at g5
  change DataW.trod enc Try.prog w base (fun _ => true) held k 4 (([x0, x1, x2, x3, x4, x5, x6].drop 3).take (Try.prog.cellsOf 4)) = _ at g3
  rw [c2] at g3
  change DataW.trod enc Try.prog w base (fun _ => true) held k 4 [x3] = _ at g3
  change DataW.trod enc Try.prog w base (fun _ => true) held k 73 (([x0, x1, x2, x3, x4, x5, x6].drop 6).take (Try.prog.cellsOf 73)) = _ at g6
  rw [c3] at g6
  change DataW.trod enc Try.prog w base (fun _ => true) held k 73 [x6] = _ at g6
  have hxl7 : xs.length = 7 := by rw [hxl]; rfl
  obtain ⟨y0, y1, y2, y3, y4, y5, y6, rfl⟩ : ∃ a b c d e f g, xs = [a, b, c, d, e, f, g] := by
    match xs, hxl7 with
    | [a, b, c, d, e, f, g], _ => exact ⟨a, b, c, d, e, f, g, rfl⟩
  simp only [List.getElem?_cons_zero, List.getElem?_cons_succ] at g0 g1 g2 g3 g4 g5 g6
  have hw6 : (DataW.weights Try.prog 73 y6.1).all (· ≤ reachBytes) = true := by
    rw [hxy] at hw
    unfold DataW.weights at hw
    rw [Try.underlying84] at hw
    simp only [List.map_cons, List.map_nil, DataW.weightsEach, List.all_append, Bool.and_eq_true] at hw
    exact hw.2.2.2.2.2.2.1
  obtain ⟨a0, e0, _⟩ := DataW.trod_int Try.underlying3 g0
  obtain ⟨a1, e1, _⟩ := DataW.trod_int Try.underlying3 g1
  obtain ⟨a2, e2, _⟩ := DataW.trod_int Try.underlying3 g2
  obtain ⟨a3, e3, _⟩ := DataW.trod_bool Try.underlying4 g3
  obtain ⟨a4, e4, _⟩ := DataW.trod_int Try.underlying3 g4
  obtain ⟨a5, e5, _⟩ := DataW.trod_int Try.underlying3 g5
  obtain ⟨ba, bl, bc, bs, e6, hby⟩ := trod_by g6 hw6
  simp only [List.cons.injEq, and_true] at e0 e1 e2 e3 e4 e5 e6
  exact ⟨⟨a0, a1, a2, a3, a4, a5, ba, bl, bc, bs⟩, by rw [e0, e1, e2, e3, e4, e5, e6]; rfl, hby⟩
theorem weights_at : ∀ {ts : List TypeId} {ds : List (DataW H)}, (DataW.weightsEach Try.prog ts ds).all (· ≤ reachBytes) = true → ∀ {j : Nat} {t : TypeId} {d : DataW H}, ts[j]? = some t → ds[j]? = some d → (DataW.weights Try.prog t d).all (· ≤ reachBytes) = true
  | [], ds, _, j, t, d, ht, _ => by simp at ht
  | t0 :: ts, [], _, j, t, d, _, hd => by simp at hd
  | t0 :: ts, d0 :: ds, h, 0, t, d, ht, hd => by
    unfold DataW.weightsEach at h
    rw [List.all_append, Bool.and_eq_true] at h
    simp at ht hd; subst ht hd; exact h.1
  | t0 :: ts, d0 :: ds, h, j + 1, t, d, ht, hd => by
    unfold DataW.weightsEach at h
    rw [List.all_append, Bool.and_eq_true] at h
    exact weights_at h.2 (by simpa using ht) (by simpa using hd)
theorem weights_all {e : TypeId} : ∀ {ds : List (DataW H)}, (DataW.weightsAll Try.prog e ds).all (· ≤ reachBytes) = true → ∀ d ∈ ds, (DataW.weights Try.prog e d).all (· ≤ reachBytes) = true
  | [], _, d, hd => by simp at hd
  | d0 :: ds, h, d, hd => by
    unfold DataW.weightsAll at h
    rw [List.all_append, Bool.and_eq_true] at h
    rcases List.mem_cons.1 hd with rfl | hd
    · exact h.1
    · exact weights_all h.2 d hd
set_option maxRecDepth 100000 in
theorem slAct_of {ts : List TypeId} {ds : List (DataW H)} {ps : List MemPlace} (hs : (DataW.weightsEach Try.prog ts ds).all (· ≤ reachBytes) = true) {j : Nat} {a : Option Addr} {len cap : Nat} {d : DataW H}
    (ht : ts[j]? = some 81) (hd : ds[j]? = some d) (h : DataW.Trod enc Try.prog w base (fun _ => true) held 81 (.slice a len cap) d ps) : ∃ z, SlNA w a len cap z := by
  have hw := weights_at hs ht hd
  obtain ⟨fuel, h⟩ := h
  change DataW.trod enc Try.prog w base (fun _ => true) held fuel 81 [.slice a len cap] = _ at h
  rcases DataW.trod_slice Try.underlying81 h with ⟨hcs, _⟩ | ⟨a, len, cap, elems, rest, m, hm, hcs, hx, hb, hlc, hcm, hel, hc, _⟩
  · simp at hcs
    obtain ⟨rfl, rfl, rfl⟩ := hcs
    exact ⟨fun _ => na0, ⟨Nat.le_refl _, fun _ => rfl, by decide, fun h => by omega⟩⟩
  · simp only [List.cons.injEq, and_true] at hcs
    cases hcs
    have hwe : ∀ i (hi : i < elems.length), (DataW.weights Try.prog 84 (elems[i]).1).all (· ≤ reachBytes) = true := fun i hi => by
      have hd : d = .slice (elems.map (·.1)) (rest.map (·.1)) := (Prod.mk.inj hx).1
      rw [hd] at hw
      unfold DataW.weights at hw
      rw [Try.underlying81] at hw
      simp only [List.all_cons, List.all_append, Bool.and_eq_true] at hw
      exact weights_all hw.2.1 _ (List.mem_map_of_mem (List.getElem_mem hi))
    have c7' : Try.prog.cellsOf 84 = 7 := by kernel_rfl
    rw [c7'] at hc
    have each : ∀ i, ∃ c : NA, i < len → (∀ j, j < 7 → w.cell? ((a.add (i * 7)).add j) = c.cs[j]?) ∧ ByIn w c.a c.l c.c c.bs := fun i => by
      by_cases hi : i < len
      · have h1 := hc i hi
        rw [List.getElem?_eq_getElem (by omega)] at h1
        cases hcs : w.cells? base (a.add (i * 7)) 7 with
        | none => rw [hcs] at h1; simp at h1
        | some cs =>
          rw [hcs] at h1
          obtain ⟨c, rfl, hby⟩ := trod_na h1 (hwe i (by omega))
          obtain ⟨_, hlen, hcell⟩ := World.cells?_some hcs
          exact ⟨c, fun _ => ⟨fun j hj => hcell j hj, hby⟩⟩
      · exact ⟨na0, fun h => absurd h hi⟩
    refine ⟨fun i => Classical.choose (each i), ⟨hlc, (fun h => by cases h), hcm, fun hpos => ?_⟩⟩
    obtain ⟨b, off, spot⟩ := a
    have h0 := (Classical.choose_spec (each 0) hpos).1 0 (by omega)
    rw [show (Classical.choose (each 0)).cs[0]? = some (.int .i64 (Classical.choose (each 0)).what) from rfl] at h0
    have hs : spot = none := by simpa [Addr.add] using World.cell?_spot h0
    subst hs
    have hlt := Dt.cell_lt h0
    refine ⟨b, off, rfl, by simpa [Addr.add] using hlt, fun t ht => ⟨fun j u hu => ?_, (Classical.choose_spec (each t) ht).2⟩⟩
    have hj : j < 7 := by
      have := (List.getElem?_eq_some_iff.1 hu).1
      simpa [NA.cs] using this
    have h1 := (Classical.choose_spec (each t) ht).1 j hj
    have e1 : (⟨b, off + (t * 7 + j), none⟩ : Addr) = ((⟨b, off, none⟩ : Addr).add (t * 7)).add j := by rw [Dt.Addr.add_mid', Dt.Addr.add_mid', Nat.add_assoc]
    rw [e1, h1]; exact hu
end
/-- an act's cells -/
theorem SlNA.get {w : World} {a : Option Addr} {len cap : Nat} {z : Nat → NA} (h : SlNA w a len cap z) {i : Nat} (hi : i < len) : ∃ b off, a = some ⟨b, off, none⟩ ∧ b < w.heap.size ∧ (∀ j v, (z i).cs[j]? = some v → w.cell? ⟨b, off + i * 7 + j, none⟩ = some v) ∧ ByIn w (z i).a (z i).l (z i).c (z i).bs := by
  obtain ⟨b, off, e, hlt, hc⟩ := h.cells (by omega)
  obtain ⟨k1, k2⟩ := hc i hi
  exact ⟨b, off, e, hlt, fun j v hv => by rw [Nat.add_assoc]; exact k1 j v hv, k2⟩
end Go.Proofs.Ytkjjikjilmngdaa.Nt
