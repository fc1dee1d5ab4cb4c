/- chapter 22: all rows of a run: the plain law. -/
import Derived.Test.YtckodnogjedmnaaJt4
import Derived.Test.YtckodnogjedmnaaApp2
namespace Go.Proofs.Ytckodnogjedmnaa.Jt
open Go.RowKit Dt Go.Proofs.Ytckodnogjedmnaa.Hd
set_option linter.unusedVariables false
set_option linter.unusedSimpArgs false

theorem erase_facts {R : List Nat} {i : Nat} (h : i < R.length) (hn : R.Nodup) :
    (∀ x, x ∈ R ↔ x = R[i] ∨ x ∈ R.eraseIdx i) ∧ R[i] ∉ R.eraseIdx i ∧ (R.eraseIdx i).Nodup ∧ (R.eraseIdx i).length + 1 = R.length := by
  have e1 : R = R.take i ++ R[i] :: R.drop (i + 1) := by rw [← List.drop_eq_getElem_cons h, List.take_append_drop]
  have e2 : R.eraseIdx i = R.take i ++ R.drop (i + 1) := List.eraseIdx_eq_take_drop_succ R i
  refine ⟨fun x => ?_, ?_, hn.sublist (List.eraseIdx_sublist R i), by rw [List.length_eraseIdx_of_lt h]; omega⟩
  · rw [e2]
    constructor
    · intro hx
      rw [e1] at hx
      simp only [List.mem_append, List.mem_cons] at hx
      simp only [List.mem_append]
      rcases hx with hx | hx | hx
      · exact .inr (.inl hx)
      · exact .inl hx
      · exact .inr (.inr hx)
    · rintro (hx | hx)
      · rw [hx]; exact List.getElem_mem _
      · simp only [List.mem_append] at hx
        rcases hx with hx | hx
        · exact List.mem_of_mem_take hx
        · exact List.mem_of_mem_drop hx
  · rw [e2]
    generalize R[i] = k at *
    rw [e1] at hn
    simp only [List.mem_append]
    obtain ⟨_, h2, h3⟩ := List.nodup_append.1 hn
    rintro (hx | hx)
    · exact h3 k hx k (by simp) rfl
    · exact (List.nodup_cons.1 h2).1 hx
/-- which rows are there: n in all, so many went out, L has not come -/
def gOf (n out : Nat) (L : List Nat) (x : Int) : Option (Nat → C4) := if (out : Int) ≤ x ∧ x < n ∧ x.toNat ∉ L then some (oneR x) else none
theorem gOf_start {n : Nat} (x : Int) : (none : Option (Nat → C4)) = gOf n 0 (List.range n) x := by
  unfold gOf
  rw [if_neg]
  intro ⟨h1, h2, h3⟩
  exact h3 (List.mem_range.2 (by omega))
theorem gOf_put {n out f : Nat} {L L' : List Nat} (h : ∀ x, x ∈ L ↔ x = f ∨ x ∈ L') (hf : f ∉ L') (h1 : out ≤ f) (h2 : f < n) (y : Int) : (if y = f then some (oneR f) else gOf n out L y) = gOf n out L' y := by
  unfold gOf
  by_cases e : y = f
  · subst e
    rw [if_pos rfl, if_pos ⟨by omega, by omega, by simpa using hf⟩]
  · rw [if_neg e]
    by_cases c : (out : Int) ≤ y ∧ y < n
    · have hn : y.toNat ∈ L ↔ y.toNat ∈ L' := by rw [h y.toNat]; constructor
                                                 · rintro (h | h)
                                                   · omega
                                                   · exact h
                                                 · exact .inr
      by_cases d : y.toNat ∈ L'
      · rw [if_neg (fun h => h.2.2 (hn.2 d)), if_neg (fun h => h.2.2 d)]
      · rw [if_pos ⟨c.1, c.2, fun h => d (hn.1 h)⟩, if_pos ⟨c.1, c.2, d⟩]
    · rw [if_neg (fun h => c ⟨h.1, h.2.1⟩), if_neg (fun h => c ⟨h.1, h.2.1⟩)]
theorem gOf_next {n out : Nat} {L : List Nat} (y : Int) : (if y = out then none else gOf n out L y) = gOf n (out + 1) L y := by
  unfold gOf
  by_cases e : y = out
  · rw [if_pos e, if_neg (by omega)]
  · rw [if_neg e]
    by_cases c : (out : Int) ≤ y ∧ y < n ∧ y.toNat ∉ L
    · rw [if_pos c, if_pos ⟨by omega, c.2⟩]
    · rw [if_neg c, if_neg (fun h => c ⟨by omega, h.2⟩)]
theorem gOf_some {n out : Nat} {L : List Nat} {R : Nat → C4} (h : gOf n out L out = some R) : out < n ∧ out ∉ L ∧ R = oneR out := by
  unfold gOf at h
  split at h
  · rename_i c
    injection h with h
    exact ⟨by omega, by simpa using c.2.2, h.symm⟩
  · cases h
theorem gOf_none {n out : Nat} {L : List Nat} (h : gOf n out L out = none) (hn : out < n) : out ∈ L := by
  unfold gOf at h
  split at h
  · cases h
  · rename_i c
    false_or_by_contra
    rename_i c2
    exact c ⟨by omega, by omega, by simpa using c2⟩
theorem gOf_wait {n out f : Nat} {L : List Nat} (h : f ∈ L) : gOf n out L f = none := by
  unfold gOf
  rw [if_neg]
  intro ⟨_, _, h3⟩
  exact h3 (by simpa using h)
theorem MapW.pos {P : Program} {k : TypeId} {w : World} {b c : Nat} {f : Int → Option Value} (h : MapW P k w b c f) (hk : P.underlying k = some (.int .i64)) {x : Int} (hx : inK x) (hf : (f x).isSome = true) : 0 < c := by
  obtain ⟨D, h1, h2, h3⟩ := h.ex
  have := Maps.size_del (k := .int .i64 x) (h1.tidy (Maps.int_keyed hk))
  rw [(h3 x hx).1, hf, h2] at this
  simp at this
  omega
theorem HasJ.pos {w : World} {lo B M p a c : Nat} {g : Int → Option (Nat → C4)} (h : HasJ w lo B M p a c g) {x : Int} (hx : inK x) {R : Nat → C4} (hg : g x = some R) : 0 < c := by
  obtain ⟨f, hm, hr⟩ := h.map
  have h1 := hr x hx
  rw [hg] at h1
  obtain ⟨v, hv, -⟩ := h1
  exact MapW.pos hm intTy hx (by rw [hv]; rfl)
def numsN (L : List Nat) : List Value := L.map fun (k : Nat) => .int .i64 (k : Int)
theorem numsN_one (L : List Nat) : ∀ u ∈ numsN L, u.oneCell' = true := by
  intro u hu
  simp only [numsN, List.mem_map] at hu
  obtain ⟨k, _, rfl⟩ := hu; rfl
theorem numsN_get {L : List Nat} {j : Nat} (h : j < L.length) : (numsN L)[j]? = some (.int .i64 ((L[j] : Nat) : Int)) := by simp [numsN, h]
theorem numsN_len (L : List Nat) : (numsN L).length = L.length := by simp [numsN]
theorem numsN_erase (L : List Nat) (k : Nat) : (numsN L).take k ++ (numsN L).drop (k + 1) = numsN (L.eraseIdx k) := by
  rw [List.eraseIdx_eq_take_drop_succ]; simp [numsN]
theorem numsN_range (k : Nat) : numsN (List.range (k + 1)) = numsN (List.range k) ++ [.int .i64 (k : Int)] := by
  rw [List.range_succ]; simp [numsN]
theorem info3 : (Try.prog.info? 3).map (fun i => (i.zero, i.size, i.bytes)) = some (some (.int .i64 0), 1, 8) := by kernel_rfl
def lenOf : Value → Nat | .slice _ n _ => n | _ => 0
end Go.Proofs.Ytckodnogjedmnaa.Jt
