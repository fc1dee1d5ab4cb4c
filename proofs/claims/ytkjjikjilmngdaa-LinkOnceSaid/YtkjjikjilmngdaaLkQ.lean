/- chapter 16: windows of few numbers; what an answer tells. -/
import Derived.Test.YtkjjikjilmngdaaLkP
namespace Go.Proofs.Ytkjjikjilmngdaa.Wn
open Go.RowKit Dt Go.Proofs.Ytkjjikjilmngdaa.Sq
set_option linter.unusedVariables false

/-- the window has noted just the numbers in L (all below 60) -/
structure WIn (L : List Nat) (s : WS) : Prop where
  nil : L = [] → s = s0
  big : L ≠ [] → s.any = true ∧ ∃ M ∈ L, (∀ k ∈ L, k ≤ M) ∧ s.last = (M : Int) ∧ ∀ i, i < 64 → (s.f i = true ↔ ∃ k ∈ L, k + i + 1 = M)

theorem WIn.note {L : List Nat} {s : WS} (h : WIn L s) {k : Nat} (hk : k < 60) (hL : ∀ x ∈ L, x < 60) (hn : k ∉ L) : (noteS s (k : Int)).1 = 1 ∧ WIn (L ++ [k]) (noteS s (k : Int)).2 := by
  by_cases hnil : L = []
  · have hs := h.nil hnil
    subst hnil; subst hs
    have e : noteS s0 (k : Int) = (1, ⟨true, (k : Int) % 65536, fun _ => false⟩) := by simp [noteS, s0]
    rw [e]
    refine ⟨rfl, fun hh => by simp at hh, fun _ => ⟨rfl, k, by simp, by simp, by simp only; omega, fun i _ => ?_⟩⟩
    simp; intro h; omega
  · obtain ⟨ha, M, hM, hmax, hl, hf⟩ := h.big hnil
    have hM60 := hL M hM
    have hne : k ≠ M := fun e => hn (e ▸ hM)
    have hfar : far ((k : Int) % 65536) s.last = (k : Int) - M := by rw [hl]; unfold far; split <;> omega
    unfold noteS
    rw [if_neg (by simp [ha]), hfar]
    by_cases hgt : M < k
    · rw [if_pos (by omega)]
      refine ⟨rfl, fun hh => by simp at hh, fun _ => ⟨rfl, k, by simp, ?_, by simp only; omega, fun i hi => ?_⟩⟩
      · intro x hx
        simp at hx
        rcases hx with hx | hx
        · have := hmax x hx; omega
        · omega
      · simp only [Bool.or_eq_true, decide_eq_true_eq, Bool.and_eq_true, List.mem_append, List.mem_singleton]
        have e3 : ((k : Int) - M).toNat = k - M := by omega
        rw [e3]
        constructor
        · rintro (h1 | ⟨h1, h2⟩)
          · exact ⟨M, .inl hM, by omega⟩
          · obtain ⟨x, hx, h3⟩ := (hf _ (by omega)).1 h2
            exact ⟨x, .inl hx, by omega⟩
        · rintro ⟨x, hx, h3⟩
          rcases hx with hx | hx
          · by_cases hxM : x = M
            · left; omega
            · right
              have := hmax x hx
              refine ⟨by omega, (hf _ (by omega)).2 ⟨x, hx, by omega⟩⟩
          · omega
    · have hlt : k < M := by omega
      rw [if_neg (by omega), if_neg (by omega), if_neg (by omega)]
      have e1 : (-((k : Int) - M) - 1).toNat = M - k - 1 := by omega
      rw [e1]
      have hnf : ¬ s.f (M - k - 1) = true := by
        intro h1
        obtain ⟨x, hx, h3⟩ := (hf _ (by omega)).1 h1
        have : x = k := by omega
        exact hn (this ▸ hx)
      rw [if_neg hnf]
      refine ⟨rfl, fun hh => by simp at hh, fun _ => ⟨rfl, M, by simp [hM], ?_, hl, fun i hi => ?_⟩⟩
      · intro x hx
        simp at hx
        rcases hx with hx | hx
        · exact hmax x hx
        · omega
      · simp only [Bool.or_eq_true, decide_eq_true_eq, List.mem_append, List.mem_singleton]
        constructor
        · rintro (h1 | h1)
          · exact ⟨k, .inr rfl, by omega⟩
          · obtain ⟨x, hx, h3⟩ := (hf _ hi).1 h1
            exact ⟨x, .inl hx, h3⟩
        · rintro ⟨x, hx, h3⟩
          rcases hx with hx | hx
          · exact .inr ((hf _ hi).2 ⟨x, hx, h3⟩)
          · left; omega
theorem WIn.twice {L : List Nat} {s : WS} (h : WIn L s) {k : Nat} (hL : ∀ x ∈ L, x < 60) (hn : k ∈ L) : noteS s (k : Int) = (2, s) := by
  have hnil : L ≠ [] := fun e => by rw [e] at hn; simp at hn
  obtain ⟨ha, M, hM, hmax, hl, hf⟩ := h.big hnil
  have hM60 := hL M hM
  have hkM := hmax k hn
  have hfar : far ((k : Int) % 65536) s.last = (k : Int) - M := by rw [hl]; unfold far; split <;> omega
  unfold noteS
  rw [if_neg (by simp [ha]), hfar, if_neg (by omega), if_neg (by omega)]
  by_cases e : k = M
  · rw [if_pos (by omega)]
  · rw [if_neg (by omega)]
    have e1 : (-((k : Int) - M) - 1).toNat = M - k - 1 := by omega
    rw [e1, if_pos ((hf _ (by omega)).2 ⟨k, hn, by omega⟩)]
theorem WIn.cov {L : List Nat} {s : WS} (h : WIn L s) (hne : L ≠ []) {k : Nat} (hk : k < 60) (hL : ∀ x ∈ L, x < 60) : covS s.last s.f (k : Int) = decide (k ∈ L) := by
  obtain ⟨ha, M, hM, hmax, hl, hf⟩ := h.big hne
  have hM60 := hL M hM
  have hfar : far (k : Int) s.last = (k : Int) - M := by rw [hl]; unfold far; split <;> omega
  unfold covS
  rw [hfar]
  by_cases hkL : k ∈ L
  · rw [decide_eq_true hkL]
    have hkM := hmax k hkL
    by_cases e : k = M
    · rw [decide_eq_true (by omega)]; rfl
    · have e1 : (-((k : Int) - M) - 1).toNat = M - k - 1 := by omega
      rw [decide_eq_false (by omega), decide_eq_true (by omega), e1, (hf _ (by omega)).2 ⟨k, hkL, by omega⟩]; rfl
  · rw [decide_eq_false hkL, decide_eq_false (by intro h; exact hkL ((show k = M by omega) ▸ hM))]
    by_cases hr : -64 ≤ (k : Int) - M ∧ (k : Int) - M < 0
    · have e1 : (-((k : Int) - M) - 1).toNat = M - k - 1 := by omega
      have : s.f (M - k - 1) = false := by
        cases hc : s.f (M - k - 1)
        · rfl
        · obtain ⟨x, hx, h3⟩ := (hf _ (by omega)).1 hc
          exact absurd ((show x = k by omega) ▸ hx) hkL
      rw [e1, this]; simp
    · rw [decide_eq_false hr]; rfl
theorem WIn.zero : WIn [] s0 := ⟨fun _ => rfl, fun h => absurd rfl h⟩
end Go.Proofs.Ytkjjikjilmngdaa.Wn
namespace Go.Proofs.Ytkjjikjilmngdaa.Lk
open Go.RowKit Dt Go.Proofs.Ytkjjikjilmngdaa.Wn Go.Proofs.Ytkjjikjilmngdaa.Sq
theorem qn_small {k : Nat} (h : k ≤ 32) : qn k = (List.range k).map fun j => (j, j) := by
  unfold qn; rw [show k - 32 = 0 by omega]; rfl
theorem map_fst (l : List Nat) : (l.map fun j => (j, j)).map (·.1) = l := by
  rw [List.map_map]; exact List.map_id l
/-- those that are not among some -/
def lack (L : List Nat) (k : Nat) : List Nat := (List.range k).filter fun x => !decide (x ∈ L)
theorem lack_succ (L : List Nat) (k : Nat) : lack L (k + 1) = if k ∈ L then lack L k else lack L k ++ [k] := by
  unfold lack; rw [List.range_succ, List.filter_append]; by_cases h : k ∈ L <;> simp [h]
theorem lack_nil (k : Nat) : lack [] k = List.range k := by unfold lack; simp
theorem left_L {L : List Nat} {s : WS} (h : WIn L s) (hne : L ≠ []) {k : Nat} (hk : k ≤ 30) (hL : ∀ x ∈ L, x < k) : (leftL s.last s.f (qn k)).map (·.1) = lack L k := by
  rw [qn_small (by omega)]
  unfold leftL lack
  rw [List.filter_map, map_fst]
  refine List.filter_congr fun x hx => ?_
  have hxk := List.mem_range.1 hx
  show (!covS s.last s.f (x : Int)) = _
  rw [h.cov hne (by omega) (fun y hy => by have := hL y hy; omega)]
end Go.Proofs.Ytkjjikjilmngdaa.Lk
