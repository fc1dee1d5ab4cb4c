/- chapter 16: what is remembered of many sends. -/
import Derived.Test.YtkjjikjilmngdaaLk6
namespace Go.Proofs.Ytkjjikjilmngdaa.Lk
open Go.RowKit Dt Go.Proofs.Ytkjjikjilmngdaa.Wn Go.Proofs.Ytkjjikjilmngdaa.Sq Go.Proofs.Ytkjjikjilmngdaa.Mt
set_option linter.unusedVariables false

/-- the last 32 of n numbers, each sent at its tick -/
def qn (n : Nat) : List (Nat × Nat) := ((List.range n).map fun j => (j, j)).drop (n - 32)
theorem qn_len (n : Nat) : (qn n).length = min n 32 := by simp [qn]; omega
theorem clp_nat {n : Nat} (h : n ≤ 1000000) : clp (n : Int) = n := by unfold clp; omega
theorem qn_next {n : Nat} (h : n ≤ 1000000) : keep32 (qn n ++ [(n, clp (n : Int))]) = qn (n + 1) := by
  rw [clp_nat h]
  unfold keep32 qn
  rw [List.range_succ, List.map_append]
  have h1 : ((List.range n).map fun j => (j, j)).length = n := by simp
  have e : ((List.range n).map fun j => (j, j)).drop (n - 32) ++ [(n, n)] = (((List.range n).map fun j => (j, j)) ++ [(n, n)]).drop (n - 32) := by
    rw [List.drop_append_of_le_length (by omega)]
  rw [e, List.drop_drop]
  congr 1
  simp only [List.length_drop, List.length_append, h1, List.length_singleton]
  omega
theorem qn_get {n i : Nat} (h : i < min n 32) : (qn n)[i]? = some (n - min n 32 + i, n - min n 32 + i) := by
  unfold qn
  rw [List.getElem?_drop, List.getElem?_map, List.getElem?_range (by omega)]
  simp only [Option.map_some]
  congr 2 <;> omega
theorem qn_mem {n : Nat} {x : Nat × Nat} (h : x ∈ qn n) : x.1 < n ∧ x.2 = x.1 ∧ n - 32 ≤ x.1 := by
  obtain ⟨i, hi⟩ := List.getElem?_of_mem h
  have hl := (List.getElem?_eq_some_iff.1 hi).1
  rw [qn_len] at hl
  rw [qn_get hl] at hi
  have h1 : min n 32 ≤ n := Nat.min_le_left _ _
  have h2 : min n 32 ≤ 32 := Nat.min_le_right _ _
  obtain ⟨m, hm⟩ : ∃ m, min n 32 = m := ⟨_, rfl⟩
  rw [hm] at hi h1 h2 hl
  have e := Option.some.inj hi
  subst e
  show n - m + i < n ∧ n - m + i = n - m + i ∧ n - 32 ≤ n - m + i
  omega
theorem far_small {x k : Nat} (hx : x < 1000) (hk : k < 1000) : far (x : Int) k = (x : Int) - k := by unfold far; split <;> omega
theorem cov_one {x k : Nat} (hx : x < 1000) (hk : k < 1000) : covS (k : Int) (fun _ => false) (x : Int) = decide (x = k) := by
  unfold covS
  rw [far_small hx hk]
  simp only [Bool.and_false, Bool.or_false]
  rcases Nat.decEq x k with h | h
  · rw [decide_eq_false h, decide_eq_false (by omega)]
  · rw [decide_eq_true h, decide_eq_true (by omega)]
theorem length_filter_ne (l : List (Nat × Nat)) (k : Nat) (hn : (l.map (·.1)).Nodup) : (l.filter fun x => !decide (x.1 = k)).length = if k ∈ l.map (·.1) then l.length - 1 else l.length := by
  induction l with
  | nil => simp
  | cons x l ih =>
    simp only [List.map_cons, List.nodup_cons] at hn
    have := ih hn.2
    by_cases h : x.1 = k
    · subst h
      rw [List.filter_cons_of_neg (by simp), this, if_neg hn.1]
      simp
    · rw [List.filter_cons_of_pos (by simp [h])]
      simp only [List.length_cons, this, List.map_cons, List.mem_cons]
      by_cases h2 : k ∈ l.map (·.1)
      · rw [if_pos h2, if_pos (.inr h2)]
        have : 0 < l.length := by cases l with
          | nil => simp at h2
          | cons _ _ => simp
        omega
      · rw [if_neg h2, if_neg (by simp only [not_or]; exact ⟨fun e => h e.symm, h2⟩)]
theorem qn_nodup (n : Nat) : ((qn n).map (·.1)).Nodup := by
  unfold qn
  rw [List.map_drop, List.map_map]
  refine List.Nodup.sublist (List.drop_sublist _ _) ?_
  have : ((fun x : Nat × Nat => x.1) ∘ fun j : Nat => (j, j)) = id := rfl
  rw [this, List.map_id]
  exact List.nodup_range
theorem qn_has {n k : Nat} : k ∈ (qn n).map (·.1) ↔ n - 32 ≤ k ∧ k < n := by
  constructor
  · intro h
    obtain ⟨x, hx, rfl⟩ := List.mem_map.1 h
    have := qn_mem hx
    omega
  · rintro ⟨h1, h2⟩
    have h3 := qn_get (n := n) (i := k - (n - min n 32)) (by omega)
    refine List.mem_map.2 ⟨_, List.mem_of_getElem? h3, ?_⟩
    simp only; omega
theorem left_one {n k : Nat} (hn : n ≤ 900) (hk : k < n) : (leftL (k : Int) (fun _ => false) (qn n)).length = if n - min n 32 ≤ k then min n 32 - 1 else min n 32 := by
  unfold leftL
  have e : (qn n).filter (fun x => !covS (k : Int) (fun _ => false) (x.1 : Int)) = (qn n).filter fun x => !decide (x.1 = k) := by
    refine List.filter_congr fun x hx => ?_
    have := qn_mem hx
    rw [cov_one (by omega) (by omega)]
  rw [e, length_filter_ne _ _ (qn_nodup n), qn_len]
  by_cases h : n - min n 32 ≤ k
  · rw [if_pos (qn_has.2 ⟨by omega, hk⟩), if_pos h]
  · rw [if_neg (fun h2 => h (by have := qn_has.1 h2; omega)), if_neg h]
end Go.Proofs.Ytkjjikjilmngdaa.Lk
