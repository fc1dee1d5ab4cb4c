/- Rows of bools within a block; whole rows stored. -/
import Derived.Test.YtkjjikjilmngdaaFr
import Derived.Deep.MidRow
namespace Dt
open Go Go.RowKit
set_option linter.unusedVariables false

theorem Blk.ext {w : World} {b : Nat} {vs us : Array Value} {T : TypeId} (h : Blk w b vs T) (hs : vs.size = us.size) (e : ∀ i, i < vs.size → vs[i]? = us[i]?) : Blk w b us T := by
  have : vs = us := by
    apply Array.ext_getElem?
    intro i
    rcases Nat.lt_or_ge i vs.size with hi | hi
    · exact e i hi
    · rw [Array.getElem?_eq_none hi, Array.getElem?_eq_none (by omega)]
  exact this ▸ h

/-- bools, n of them -/
def bools (n : Nat) (f : Nat → Bool) : Array Value := ((List.range n).map fun k => Value.bool (f k)).toArray
theorem bools_size (n : Nat) (f : Nat → Bool) : (bools n f).size = n := by simp [bools]
theorem bools_get {n i : Nat} (f : Nat → Bool) (h : i < n) : (bools n f)[i]? = some (.bool (f i)) := by simp [bools, h]
theorem bools_set {n i : Nat} (f : Nat → Bool) (x : Bool) : (bools n f).setIfInBounds i (.bool x) = bools n (fun k => if k = i then x else f k) := by
  apply Array.ext_getElem?
  intro j
  rw [Array.getElem?_setIfInBounds]
  by_cases h : i = j
  · subst h
    rw [if_pos rfl, bools_size]
    by_cases hi : i < n
    · rw [if_pos hi, bools_get _ hi, if_pos rfl]
    · rw [if_neg hi, Array.getElem?_eq_none (by rw [bools_size]; omega)]
  · rw [if_neg h]
    by_cases hj : j < n
    · rw [bools_get _ hj, bools_get _ hj, if_neg (by omega)]
    · rw [Array.getElem?_eq_none (by rw [bools_size]; omega), Array.getElem?_eq_none (by rw [bools_size]; omega)]
theorem bools_congr {n : Nat} {f g : Nat → Bool} (h : ∀ i, i < n → f i = g i) : bools n f = bools n g := by
  unfold bools; congr 1
  exact List.map_congr_left fun a ha => by rw [h a (by simpa using ha)]

theorem Blk.setCells {T : TypeId} {b : Nat} : ∀ (xs : List Value) (o : Nat) (w : World) (vs : Array Value), Blk w b vs T →
    ∃ us : Array Value, Blk (w.setCells b o xs) b us T ∧ us.size = vs.size ∧ ∀ i, i < vs.size → us[i]? = if o ≤ i ∧ i < o + xs.length then xs[i - o]? else vs[i]?
  | [], o, w, vs, h => ⟨vs, h, rfl, fun i _ => by rw [if_neg (by simp)]⟩
  | x :: r, o, w, vs, h => by
    obtain ⟨us, h1, h2, h3⟩ := Blk.setCells r (o + 1) _ _ (h.set o x)
    refine ⟨us, h1, by rw [h2]; simp, fun i hi => ?_⟩
    rw [h3 i (by simpa using hi)]
    by_cases c : o + 1 ≤ i ∧ i < o + 1 + r.length
    · rw [if_pos c, if_pos (by simp; omega)]
      obtain ⟨k, rfl⟩ : ∃ k, i = o + 1 + k := ⟨i - (o + 1), by omega⟩
      have e1 : o + 1 + k - (o + 1) = k := by omega
      have e2 : o + 1 + k - o = k + 1 := by omega
      rw [e1, e2]; rfl
    · rw [if_neg c, Array.getElem?_setIfInBounds]
      by_cases e : o = i
      · subst e
        rw [if_pos rfl, if_pos hi, if_pos (by simp), Nat.sub_self]; rfl
      · rw [if_neg e, if_neg (by simp; omega)]
theorem Fr.setCells {S : List Nat} {a : World} {b : Nat} (hb : b ∈ S ∨ a.heap.size ≤ b) : ∀ (xs : List Value) (o : Nat) (w : World), Fr S a w → Fr S a (w.setCells b o xs)
  | [], _, _, h => h
  | x :: r, o, w, h => Fr.setCells hb r (o + 1) _ (h.setCell (p := ⟨b, o, none⟩) hb x)
theorem Blk.setCells_other {T : TypeId} {b b' : Nat} {vs : Array Value} (hb : b ≠ b') : ∀ (xs : List Value) (o : Nat) (w : World), Blk w b vs T → Blk (w.setCells b' o xs) b vs T
  | [], _, _, h => h
  | x :: r, o, w, h => Blk.setCells_other hb r (o + 1) _ (h.other (a := ⟨b', o, none⟩) hb x)
theorem Blk.there {w : World} {b : Nat} {vs : Array Value} {T : TypeId} (h : Blk w b vs T) (o n : Nat) (hn : o + n ≤ vs.size) : w.there b o n := fun j hj =>
  ⟨by rw [h.cell (v := vs[o + j]'(by omega)) (by simp)]; rfl, h.free _⟩
end Dt
