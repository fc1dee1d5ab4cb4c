/- Slices that came in, as the walks want them: what holds of the first 'len' elements. -/
import Derived.Test.YtkjjikjilmngdaaFr
import Derived.ProofKit
import Derived.Deep.Grids
import Derived.SizedLaws
import Derived.Laws.Cover2
namespace Dt
open Go Go.RowKit Go.Deep

/-- the shape of a slice; 'C b off': what holds of its array, where there is an element -/
structure SlG (w : World) (a : Option Addr) (len cap : Nat) (C : Nat → Nat → Prop) : Prop where
  le : len ≤ cap
  nil : a = none → cap = 0
  reach : cap ≤ 140737488351232
  cells : 0 < len → ∃ b off, a = some ⟨b, off, none⟩ ∧ b < w.heap.size ∧ C b off
/-- a slice of integers -/
def SlI (k : IntKind) (w : World) (a : Option Addr) (len cap : Nat) (f : Nat → Int) : Prop :=
  SlG w a len cap (fun b off => ∀ i, i < len → w.cell? ⟨b, off + i, none⟩ = some (.int k (f i))) ∧ ∀ i, i < len → (Lit.int k (f i)).wf = true
def SlB (w : World) (a : Option Addr) (len cap : Nat) (f : Nat → Bool) : Prop :=
  SlG w a len cap (fun b off => ∀ i, i < len → w.cell? ⟨b, off + i, none⟩ = some (.bool (f i)))
def SlF (w : World) (a : Option Addr) (len cap : Nat) (f : Nat → Nat) : Prop :=
  SlG w a len cap (fun b off => ∀ i, i < len → w.cell? ⟨b, off + i, none⟩ = some (.float .f64 (f i))) ∧ ∀ i, i < len → (Lit.float .f64 (f i)).wf = true

section
variable {H : Type} {enc : TypeId × Value → H} {P : Program} {w : World} {base : Nat} {held : Bool}

theorem cell_lt {p : Addr} {v : Value} (h : w.cell? p = some v) : p.block < w.heap.size := by
  rcases Nat.lt_or_ge p.block w.heap.size with h' | h'
  · exact h'
  · simp [World.cell?, Array.getElem?_eq_none h'] at h

theorem row_reach {ts : List TypeId} {ds : List (DataW H)} {ps : List MemPlace} (hs : (DataW.weightsEach P ts ds).all (· ≤ reachBytes) = true) {j : Nat} {t e : TypeId} {a : Option Addr} {len cap : Nat} {d : DataW H} (hb : 1 ≤ P.bytesOf e)
    (ht : ts[j]? = some t) (hd : ds[j]? = some d) (hu : P.underlying t = some (.slice e)) (h : DataW.Trod enc P w base (fun _ => true) held t (.slice a len cap) d ps) :
    len ≤ cap ∧ (a = none → cap = 0) ∧ cap ≤ 140737488351232 ∧ cap * P.bytesOf e ≤ 140737488351232 := by
  obtain ⟨fuel, hf⟩ := h
  rcases open_slice hu hf with ⟨hcs, _⟩ | ⟨x, l, c, m, n, D, Pl, hcs, hb', hl, hm, hmm, hx, _⟩
  · simp [Value.cells] at hcs
    obtain ⟨rfl, rfl, rfl⟩ := hcs
    exact ⟨Nat.le_refl _, fun _ => rfl, by decide, by simp⟩
  · simp [Value.cells] at hcs
    obtain ⟨rfl, rfl, rfl⟩ := hcs
    simp only [Prod.mk.injEq] at hx
    obtain ⟨rfl, rfl⟩ := hx
    have hr := sized_slice hs ht hd hu
    have e1 : reachBytes = 140737488351232 := by decide
    simp only [if_true] at hmm
    subst hmm
    have e2 : len + (m - len) = m := by omega
    simp only [List.length_map, List.length_range, e1, e2] at hr
    refine ⟨hl, (fun h => by cases h), ?_, hr⟩
    have : m * 1 ≤ m * P.bytesOf e := Nat.mul_le_mul_left _ hb
    omega

/-- one-cell elements -/
theorem row1_of {t e : TypeId} {a : Option Addr} {len cap : Nat} {d : DataW H} {ps : List MemPlace} (ht : P.underlying t = some (.slice e)) (hc : P.cellsOf e = 1)
    (h : DataW.Trod enc P w base (fun _ => true) held t (.slice a len cap) d ps) : ∃ (V : Nat → Value) (m : Nat) (D : Nat → DataW H) (Pl : Nat → List MemPlace),
      (0 < len → ∃ b off, a = some ⟨b, off, none⟩ ∧ b < w.heap.size ∧ ∀ i, i < len → w.cell? ⟨b, off + i, none⟩ = some (V i)) ∧ ∀ i, i < len → DataW.trod enc P w base (fun _ => true) held m e [V i] = some (D i, Pl i) := by
  obtain ⟨fuel, hf⟩ := h
  rcases open_slice1 ht hc hf with ⟨hcs, _⟩ | ⟨x, l, c, m, n, V, D, Pl, hcs, hb, hl, hm, hmm, _, hx⟩
  · simp [Value.cells] at hcs
    obtain ⟨rfl, rfl, rfl⟩ := hcs
    exact ⟨fun _ => undef, 0, fun _ => .nil, fun _ => [], fun h => by omega, fun i hi => by omega⟩
  · simp [Value.cells] at hcs
    obtain ⟨rfl, rfl, rfl⟩ := hcs
    simp only [if_true] at hmm
    subst hmm
    refine ⟨V, n, D, Pl, fun hpos => ?_, fun i hi => (hx i (by omega)).2⟩
    obtain ⟨b, off, spot⟩ := x
    have h0 := (hx 0 (by omega)).1
    have hs : spot = none := by simpa [Addr.add] using World.cell?_spot h0
    subst hs
    refine ⟨b, off, rfl, cell_lt h0, fun i hi => ?_⟩
    have h1 := (hx i (by omega)).1
    rcases Nat.eq_zero_or_pos i with h2 | h2
    · subst h2; simpa [Addr.add] using h1
    · have h3 : i ≠ 0 := by omega
      simpa [Addr.add, h3] using h1

theorem slI_of {ts : List TypeId} {ds : List (DataW H)} {ps : List MemPlace} (hs : (DataW.weightsEach P ts ds).all (· ≤ reachBytes) = true) {j : Nat} {t e : TypeId} {k : IntKind} {a : Option Addr} {len cap : Nat} {d : DataW H} (hb : 1 ≤ P.bytesOf e)
    (ht : ts[j]? = some t) (hd : ds[j]? = some d) (hu : P.underlying t = some (.slice e)) (he : P.underlying e = some (.int k)) (hc : P.cellsOf e = 1) (h : DataW.Trod enc P w base (fun _ => true) held t (.slice a len cap) d ps) :
    ∃ f, SlI k w a len cap f := by
  obtain ⟨r1, r2, r3, _⟩ := row_reach hs hb ht hd hu h
  obtain ⟨V, m, D, Pl, hV, hx⟩ := row1_of hu hc h
  have hi : ∀ i, ∃ n, i < len → V i = .int k n ∧ (Lit.int k n).wf = true := fun i => by
    by_cases hi : i < len
    · obtain ⟨n, h1, _, h2⟩ := DataW.trod_int he (hx i hi)
      exact ⟨n, fun _ => ⟨by simpa using h1, h2⟩⟩
    · exact ⟨0, fun h => absurd h hi⟩
  refine ⟨fun i => Classical.choose (hi i), ⟨r1, r2, r3, fun hpos => ?_⟩, fun i h => (Classical.choose_spec (hi i) h).2⟩
  obtain ⟨b, off, ha, hlt, hcell⟩ := hV hpos
  exact ⟨b, off, ha, hlt, fun i h => by rw [hcell i h, (Classical.choose_spec (hi i) h).1]⟩

theorem slB_of {ts : List TypeId} {ds : List (DataW H)} {ps : List MemPlace} (hs : (DataW.weightsEach P ts ds).all (· ≤ reachBytes) = true) {j : Nat} {t e : TypeId} {a : Option Addr} {len cap : Nat} {d : DataW H} (hb : 1 ≤ P.bytesOf e)
    (ht : ts[j]? = some t) (hd : ds[j]? = some d) (hu : P.underlying t = some (.slice e)) (he : P.underlying e = some .bool) (hc : P.cellsOf e = 1) (h : DataW.Trod enc P w base (fun _ => true) held t (.slice a len cap) d ps) :
    ∃ f, SlB w a len cap f := by
  obtain ⟨r1, r2, r3, _⟩ := row_reach hs hb ht hd hu h
  obtain ⟨V, m, D, Pl, hV, hx⟩ := row1_of hu hc h
  have hi : ∀ i, ∃ n, i < len → V i = .bool n := fun i => by
    by_cases hi : i < len
    · obtain ⟨n, h1, _⟩ := DataW.trod_bool he (hx i hi)
      exact ⟨n, fun _ => by simpa using h1⟩
    · exact ⟨false, fun h => absurd h hi⟩
  refine ⟨fun i => Classical.choose (hi i), ⟨r1, r2, r3, fun hpos => ?_⟩⟩
  obtain ⟨b, off, ha, hlt, hcell⟩ := hV hpos
  exact ⟨b, off, ha, hlt, fun i h => by rw [hcell i h, Classical.choose_spec (hi i) h]⟩

theorem trod_float {spare : Nat → Bool} {t : TypeId} {k : FloatKind} {fuel : Nat} {cs : List Value} {x : DataW H × List MemPlace} (ht : P.underlying t = some (.float k)) (h : DataW.trod enc P w base spare held fuel t cs = some x) : ∃ n, cs = [.float k n] ∧ (Lit.float k n).wf = true := by
  cases fuel with
  | zero => simp [DataW.trod] at h
  | succ n =>
    unfold DataW.trod at h
    rw [ht] at h
    split at h <;> simp_all

theorem slF_of {ts : List TypeId} {ds : List (DataW H)} {ps : List MemPlace} (hs : (DataW.weightsEach P ts ds).all (· ≤ reachBytes) = true) {j : Nat} {t e : TypeId} {a : Option Addr} {len cap : Nat} {d : DataW H} (hb : 1 ≤ P.bytesOf e)
    (ht : ts[j]? = some t) (hd : ds[j]? = some d) (hu : P.underlying t = some (.slice e)) (he : P.underlying e = some (.float .f64)) (hc : P.cellsOf e = 1) (h : DataW.Trod enc P w base (fun _ => true) held t (.slice a len cap) d ps) :
    ∃ f, SlF w a len cap f := by
  obtain ⟨r1, r2, r3, _⟩ := row_reach hs hb ht hd hu h
  obtain ⟨V, m, D, Pl, hV, hx⟩ := row1_of hu hc h
  have hi : ∀ i, ∃ n, i < len → V i = .float .f64 n ∧ (Lit.float .f64 n).wf = true := fun i => by
    by_cases hi : i < len
    · obtain ⟨n, h1, h2⟩ := trod_float he (hx i hi)
      exact ⟨n, fun _ => ⟨by simpa using h1, h2⟩⟩
    · exact ⟨0, fun h => absurd h hi⟩
  refine ⟨fun i => Classical.choose (hi i), ⟨r1, r2, r3, fun hpos => ?_⟩, fun i h => (Classical.choose_spec (hi i) h).2⟩
  obtain ⟨b, off, ha, hlt, hcell⟩ := hV hpos
  exact ⟨b, off, ha, hlt, fun i h => by rw [hcell i h, (Classical.choose_spec (hi i) h).1]⟩
end

/-- what was there reads as before: a slice carried over a world that only has grown -/
theorem SlI.of_below {k : IntKind} {w w' : World} {a : Option Addr} {len cap : Nat} {f : Nat → Int} (h : SlI k w a len cap f) (hb : Below w.heap.size w w') : SlI k w' a len cap f :=
  ⟨⟨h.1.le, h.1.nil, h.1.reach, fun hp => by
    obtain ⟨b, off, e, lt, hc⟩ := h.1.cells hp
    exact ⟨b, off, e, Nat.lt_of_lt_of_le lt hb.size, fun i hi => (hb.cell (p := ⟨b, off + i, none⟩) lt).trans (hc i hi)⟩⟩, h.2⟩
end Dt
