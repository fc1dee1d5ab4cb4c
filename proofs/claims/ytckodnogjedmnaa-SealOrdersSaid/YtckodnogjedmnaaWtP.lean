/- how many wait: plain sums. -/
import Derived.Test.YtckodnogjedmnaaLu
namespace Go.Proofs.Ytckodnogjedmnaa.Lo
open Go.RowKit Dt Go.Proofs.Ytckodnogjedmnaa.Jt
set_option linter.unusedVariables false
set_option linter.unusedSimpArgs false
theorem sum_strike {α : Type} [DecidableEq α] (f : α → Nat) (p : α → Bool) {a : α} : ∀ {l : List α}, l.Nodup → a ∈ l → p a = true → (l.map fun x => if p x then f x else 0).sum = (l.map fun x => if p x && !decide (x = a) then f x else 0).sum + f a
  | [], _, h, _ => by simp at h
  | b :: l, hn, h, hp => by
    rw [List.nodup_cons] at hn
    by_cases e : b = a
    · subst e
      have h2 : (l.map fun x => if p x then f x else 0) = l.map fun x => if p x && !decide (x = b) then f x else 0 := List.map_congr_left fun x hx => by
        have : x ≠ b := fun e => hn.1 (e ▸ hx)
        simp [this]
      simp [hp, h2]; omega
    · have h3 : a ∈ l := by
        rcases List.mem_cons.1 h with h4 | h4
        · exact absurd h4.symm e
        · exact h4
      have := sum_strike f p hn.2 h3 hp
      simp [e] at this ⊢
      omega
/-- how many cells of a row are real -/
def realsN (R : Row) (p : Nat) : Nat := (List.range p).countP fun t => (R t).1
theorem realsN_succ (R : Row) (p : Nat) : realsN R (p + 1) = realsN R p + if (R p).1 then 1 else 0 := by
  unfold realsN; rw [List.range_succ, List.countP_append]; simp [List.countP_cons]
def rowN (tk : Int → Option (Nat × Row)) (p : Nat) (x : Int) : Nat := match tk x with | some r => realsN r.2 p | none => 0
/-- of the frames L + i, i of l, that left tells -/
def waitL (tk : Int → Option (Nat × Row)) (L p : Nat) (l : List Nat) (left : Int → Bool) : Nat := (l.map fun (i : Nat) => if left ((L : Int) + (i : Int)) then rowN tk p ((L : Int) + (i : Int)) else 0).sum
theorem waitL_strike {tk : Int → Option (Nat × Row)} {L p : Nat} {l : List Nat} (hn : l.Nodup) {left : Int → Bool} {i : Nat} (hi : i ∈ l) (h : left ((L : Int) + i) = true) : waitL tk L p l left = waitL tk L p l (fun z => left z && !decide (z = (L : Int) + i)) + rowN tk p ((L : Int) + i) := by
  have h3 := sum_strike (fun i : Nat => rowN tk p ((L : Int) + i)) (fun i : Nat => left ((L : Int) + i)) (a := i) (l := l) hn hi h
  unfold waitL
  rw [h3]
  congr 2
  refine List.map_congr_left fun j _ => ?_
  by_cases q : j = i
  · subst q; simp
  · have q' : ¬ ((L : Int) + j = L + i) := by omega
    simp only [q, q', decide_false, Bool.not_false, Bool.and_true]
theorem countP_le' (f : Nat → Bool) : ∀ n, (List.range n).countP f ≤ n := fun n => by
  have := List.countP_le_length (p := f) (l := List.range n); simpa using this
theorem rowN_le (tk : Int → Option (Nat × Row)) (p : Nat) (x : Int) : rowN tk p x ≤ p := by
  unfold rowN; split
  · exact countP_le' _ _
  · omega
theorem waitL_le (tk : Int → Option (Nat × Row)) (L p : Nat) (left : Int → Bool) : ∀ l : List Nat, waitL tk L p l left ≤ l.length * p
  | [] => by simp [waitL]
  | a :: l => by
    have h1 := waitL_le tk L p left l
    have h2 := rowN_le tk p ((L : Int) + a)
    unfold waitL at *
    rw [List.map_cons, List.sum_cons, List.length_cons, Nat.succ_mul]
    split <;> omega
theorem sum_zero {α : Type} (l : List α) : (l.map fun _ => 0).sum = 0 := by induction l <;> simp_all
theorem waitL_none {tk : Int → Option (Nat × Row)} {L p : Nat} {l : List Nat} {left : Int → Bool} (h : ∀ x, left x = false) : waitL tk L p l left = 0 := by
  have e : (l.map fun (i : Nat) => if left ((L : Int) + (i : Int)) then rowN tk p ((L : Int) + (i : Int)) else 0) = l.map fun _ => 0 := List.map_congr_left fun j _ => by simp [h]
  unfold waitL; rw [e]; exact sum_zero l
theorem waitL_all {tk : Int → Option (Nat × Row)} {L p : Nat} {l : List Nat} {left : Int → Bool} (h : ∀ x, left x = false → tk x = none) : waitL tk L p l left = waitL tk L p l (fun _ => true) := by
  unfold waitL
  congr 1
  refine List.map_congr_left fun j _ => ?_
  cases e : left ((L : Int) + j) with
  | true => rfl
  | false => simp [rowN, h _ e]
/-- what waits -/
def waitN (tk : Int → Option (Nat × Row)) (L p : Nat) : Nat := waitL tk L p (List.range 64) (fun _ => true)
end Go.Proofs.Ytckodnogjedmnaa.Lo
