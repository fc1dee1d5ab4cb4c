/- Slices of structs whose fields are one cell each. -/
import Derived.Test.YtckodnogjedmnaaSl
import Derived.ChangeSame
namespace Dt
open Go Go.RowKit Go.Deep Go.ChangeShapes Go.WideShapes

section
variable {H : Type} {enc : TypeId × Value → H} {P : Program} {w : World} {base : Nat} {held : Bool}

/-- the fields lie one behind the other, a cell each -/
def Flat (P : Program) (fs : Array Field) : Prop := ∀ (j : Nat) (f : Field), fs[j]? = some f → f.offset = j ∧ P.cellsOf f.type = 1

theorem rows_of {ts : List TypeId} {ds : List (DataW H)} {ps : List MemPlace} (hs : (DataW.weightsEach P ts ds).all (· ≤ reachBytes) = true) {j : Nat} {t e : TypeId} {fs : Array Field} {a : Option Addr} {len cap : Nat} {d : DataW H} (hb : 1 ≤ P.bytesOf e)
    (ht : ts[j]? = some t) (hd : ds[j]? = some d) (hu : P.underlying t = some (.slice e)) (he : P.underlying e = some (.struct fs)) (hc : P.cellsOf e = fs.size) (hfl : Flat P fs) (hnz : fs.size ≠ 0) (h : DataW.Trod enc P w base (fun _ => true) held t (.slice a len cap) d ps) :
    ∃ V : Nat → Nat → Value, SlG w a len cap (fun b off => ∀ i, i < len → ∀ k, k < fs.size → w.cell? ⟨b, off + (i * fs.size + k), none⟩ = some (V i k)) ∧
      ∀ i, i < len → ∀ (k : Nat) (f : Field), fs[k]? = some f → ∃ n y, DataW.trod enc P w base (fun _ => true) held n f.type [V i k] = some y := by
  obtain ⟨r1, r2, r3, _⟩ := row_reach hs hb ht hd hu h
  obtain ⟨fuel, hf⟩ := h
  rcases open_slice hu hf with ⟨hcs, _⟩ | ⟨x, l, c, m, n, D, Pl, hcs, hb', hl, hm, hmm, _, hx⟩
  · simp [Value.cells] at hcs
    obtain ⟨rfl, rfl, rfl⟩ := hcs
    exact ⟨fun _ _ => undef, ⟨r1, r2, r3, fun h => by omega⟩, fun i hi => by omega⟩
  · simp [Value.cells] at hcs
    obtain ⟨rfl, rfl, rfl⟩ := hcs
    simp only [if_true] at hmm
    subst hmm
    have each : ∀ i, i < len → ∃ cs : List Value, cs.length = fs.size ∧ (∀ k, k < fs.size → w.cell? ((x.add (i * fs.size)).add k) = cs[k]?) ∧ ∀ (k : Nat) (f : Field), fs[k]? = some f → ∃ n y, DataW.trod enc P w base (fun _ => true) held n f.type ((cs[k]?).toList) = some y := by
      intro i hi
      obtain ⟨cs', h1, h2⟩ := hx i (by omega)
      rw [hc] at h1
      obtain ⟨_, hlen, hcell⟩ := World.cells?_some h1
      obtain ⟨xs, k, hk, hxy, _, hxl, hfd⟩ := DataW.trod_struct he h2
      refine ⟨cs', hlen, hcell, fun k f hkf => ?_⟩
      have hks : k < fs.size := (Array.getElem?_eq_some_iff.1 hkf).1
      obtain ⟨o, c⟩ := hfl k f hkf
      have g := hfd k f hkf
      rw [o, c] at g
      have e1 : (cs'.drop k).take 1 = (cs'[k]?).toList := by
        have hkl : k < cs'.length := by rw [hlen]; exact hks
        rw [List.drop_eq_getElem_cons hkl, List.getElem?_eq_getElem hkl]
        rfl
      rw [e1, List.getElem?_eq_getElem (show k < xs.length by omega)] at g
      exact ⟨_, _, g⟩
    have pick : ∀ i, ∃ cs : List Value, i < len → cs.length = fs.size ∧ (∀ k, k < fs.size → w.cell? ((x.add (i * fs.size)).add k) = cs[k]?) ∧ ∀ (k : Nat) (f : Field), fs[k]? = some f → ∃ n y, DataW.trod enc P w base (fun _ => true) held n f.type ((cs[k]?).toList) = some y := by
      intro i
      by_cases hi : i < len
      · obtain ⟨cs, h⟩ := each i hi; exact ⟨cs, fun _ => h⟩
      · exact ⟨[], fun h => absurd h hi⟩
    obtain ⟨b, off, spot⟩ := x
    refine ⟨fun i k => (Classical.choose (pick i)).getD k undef, ⟨r1, r2, r3, fun hpos => ?_⟩, fun i hi k f hkf => ?_⟩
    · have hz := hnz
      · obtain ⟨hl1, hl2, hl3⟩ := Classical.choose_spec (pick 0) hpos
        have h0 := hl2 0 (by omega)
        rw [List.getElem?_eq_getElem (by omega)] at h0
        have hs : spot = none := by simpa [Addr.add] using World.cell?_spot h0
        subst hs
        have hlt := cell_lt h0
        refine ⟨b, off, rfl, by simpa [Addr.add] using hlt, fun i hi k hk => ?_⟩
        obtain ⟨m1, m2, m3⟩ := Classical.choose_spec (pick i) hi
        have h1 := m2 k hk
        rw [add_add] at h1
        rw [List.getElem?_eq_getElem (by omega)] at h1
        dsimp only
        rw [List.getD_eq_getElem?_getD, List.getElem?_eq_getElem (by omega), Option.getD_some, ← h1]
        congr 1
        unfold Addr.add; split
        · rename_i e; simp [e]
        · rfl
    · obtain ⟨hl1, hl2, hl3⟩ := Classical.choose_spec (pick i) hi
      obtain ⟨n, y, h⟩ := hl3 k f hkf
      have hks : k < fs.size := (Array.getElem?_eq_some_iff.1 hkf).1
      refine ⟨n, y, ?_⟩
      rw [List.getElem?_eq_getElem (by omega)] at h
      dsimp only
      rw [List.getD_eq_getElem?_getD, List.getElem?_eq_getElem (by omega), Option.getD_some]
      simpa using h
end
end Dt
