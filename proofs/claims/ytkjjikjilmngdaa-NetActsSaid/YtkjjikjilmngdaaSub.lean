/- Cells in the midst of a block. -/
import Derived.Test.YtkjjikjilmngdaaFr
namespace Dt
open Go Go.RowKit
set_option linter.unusedVariables false
set_option linter.unusedSimpArgs false

/-- from o on the cells xs stand -/
def Sub (vs : Array Value) (o : Nat) (xs : List Value) : Prop := ∀ i x, xs[i]? = some x → vs[o + i]? = some x
/-- alike but for n cells from o on -/
def Out (vs us : Array Value) (o n : Nat) : Prop := us.size = vs.size ∧ ∀ i, (i < o ∨ o + n ≤ i) → us[i]? = vs[i]?
section
variable {vs us ts : Array Value} {o n m p i : Nat} {xs ys : List Value} {v : Value}
theorem Sub.at (h : Sub vs o xs) (e : xs[i]? = some v) : vs[o + i]? = some v := h i v e
theorem Sub.size (h : Sub vs o xs) (hn : 0 < xs.length) : o + xs.length ≤ vs.size := by
  have := (Array.getElem?_eq_some_iff.1 (h (xs.length - 1) _ (List.getElem?_eq_getElem (by omega)))).1
  omega
theorem Sub.set (h : Sub vs o xs) (hi : i < xs.length) (v : Value) : Sub (vs.setIfInBounds (o + i) v) o (xs.set i v) := fun j x hx => by
  have hs := h.size (by omega)
  rw [Array.getElem?_setIfInBounds]
  by_cases e : i = j
  · subst e
    rw [if_pos rfl, if_pos (by omega)]
    rw [List.getElem?_set_self (by omega)] at hx
    exact hx
  · rw [if_neg (by omega)]
    rw [List.getElem?_set_ne e] at hx
    exact h j x hx
theorem Sub.other (h : Sub vs o xs) (hi : i < o ∨ o + xs.length ≤ i) (v : Value) : Sub (vs.setIfInBounds i v) o xs := fun j x hx => by
  have := (List.getElem?_eq_some_iff.1 hx).1
  rw [Array.getElem?_setIfInBounds, if_neg (by omega)]
  exact h j x hx
theorem Sub.out (h : Sub vs o xs) (ho : Out vs us p n) (hd : o + xs.length ≤ p ∨ p + n ≤ o) : Sub us o xs := fun j x hx => by
  have := (List.getElem?_eq_some_iff.1 hx).1
  rw [ho.2 _ (by omega)]
  exact h j x hx
theorem Sub.tail (h : Sub vs o (xs ++ ys)) : Sub vs (o + xs.length) ys := fun j x hx => by
  have := h (xs.length + j) x (by rw [List.getElem?_append_right (by omega)]; simpa using hx)
  rwa [show o + xs.length + j = o + (xs.length + j) by omega]
theorem Sub.head (h : Sub vs o (xs ++ ys)) : Sub vs o xs := fun j x hx => h j x (by
  have := (List.getElem?_eq_some_iff.1 hx).1
  rw [List.getElem?_append_left this]; exact hx)
theorem Sub.append (h : Sub vs o xs) (k : Sub vs (o + xs.length) ys) : Sub vs o (xs ++ ys) := fun j x hx => by
  rcases Nat.lt_or_ge j xs.length with h1 | h1
  · rw [List.getElem?_append_left h1] at hx; exact h j x hx
  · rw [List.getElem?_append_right h1] at hx
    have := k _ x hx
    rwa [show o + xs.length + (j - xs.length) = o + j by omega] at this
theorem Sub.whole (vs : Array Value) : Sub vs 0 vs.toList := fun j x hx => by simpa using hx
theorem Sub.list {l : List Value} : Sub l.toArray 0 l := fun j x hx => by simpa using hx
theorem Out.refl (vs : Array Value) (o n : Nat) : Out vs vs o n := ⟨rfl, fun _ _ => rfl⟩
theorem Out.set (h : Out vs us o n) (hi : i < n) (v : Value) : Out vs (us.setIfInBounds (o + i) v) o n :=
  ⟨by simpa using h.1, fun j hj => by rw [Array.getElem?_setIfInBounds, if_neg (by omega)]; exact h.2 j hj⟩
theorem Out.trans (h : Out vs us o n) (k : Out us ts o n) : Out vs ts o n := ⟨k.1.trans h.1, fun j hj => (k.2 j hj).trans (h.2 j hj)⟩
theorem Out.wider (h : Out vs us o n) (h1 : p ≤ o) (h2 : o + n ≤ p + m) : Out vs us p m := ⟨h.1, fun j hj => h.2 j (by omega)⟩
end
end Dt
