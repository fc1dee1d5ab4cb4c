import Derived.Test.YtidlpihffolelaaWin4
namespace Go.Proofs.Ytidlpihffolelaa.Wn
open Go.RowKit Dt Go.Proofs.Ytidlpihffolelaa.Sq
set_option linter.unusedVariables false

/-- the window has noted just the numbers base + k, k in L (all below 60) -/
structure WInv (base : Int) (L : List Nat) (s : WS) : Prop where
  nil : L = [] → s = s0
  big : L ≠ [] → s.any = true ∧ ∃ M ∈ L, (∀ k ∈ L, k ≤ M) ∧ s.last = (base + M) % 65536 ∧ ∀ i, i < 64 → (s.f i = true ↔ ∃ k ∈ L, k + i + 1 = M)

theorem WInv.note {base : Int} {L : List Nat} {s : WS} (h : WInv base L s) {k : Nat} (hk : k < 60) (hL : ∀ x ∈ L, x < 60) (hn : k ∉ L) : (noteS s (base + k)).1 = 1 ∧ WInv base (L ++ [k]) (noteS s (base + k)).2 := by
  by_cases hnil : L = []
  · have hs := h.nil hnil
    subst hnil; subst hs
    have e : noteS s0 (base + k) = (1, ⟨true, (base + k) % 65536, fun _ => false⟩) := by simp [noteS, s0]
    rw [e]
    refine ⟨rfl, fun hh => by simp at hh, fun _ => ⟨rfl, k, by simp, by simp, rfl, fun i _ => ?_⟩⟩
    simp; intro h; omega
  · obtain ⟨ha, M, hM, hmax, hl, hf⟩ := h.big hnil
    have hM60 := hL M hM
    have hne : k ≠ M := fun e => hn (e ▸ hM)
    have hfar : far ((base + k) % 65536) s.last = (k : Int) - M := by rw [hl]; unfold far; split <;> omega
    unfold noteS
    rw [if_neg (by simp [ha]), hfar]
    by_cases hgt : M < k
    · rw [if_pos (by omega)]
      refine ⟨rfl, fun hh => by simp at hh, fun _ => ⟨rfl, k, by simp, ?_, rfl, fun i hi => ?_⟩⟩
      · intro x hx
        simp at hx
        rcases hx with hx | hx
        · have := hmax x hx; omega
        · omega
      · simp only [Bool.or_eq_true, decide_eq_true_eq, Bool.and_eq_true, List.mem_append, List.mem_singleton]
        have e3 : ((k : Int) - M).toNat = k - M := by omega
        rw [e3]
        constructor
        · rintro (h1 | ⟨h1, h2⟩)
          · exact ⟨M, .inl hM, by omega⟩
          · obtain ⟨x, hx, h3⟩ := (hf _ (by omega)).1 h2
            exact ⟨x, .inl hx, by omega⟩
        · rintro ⟨x, hx, h3⟩
          rcases hx with hx | hx
          · by_cases hxM : x = M
            · left; omega
            · right
              have := hmax x hx
              refine ⟨by omega, (hf _ (by omega)).2 ⟨x, hx, by omega⟩⟩
          · omega
    · have hlt : k < M := by omega
      rw [if_neg (by omega), if_neg (by omega), if_neg (by omega)]
      have e1 : (-((k : Int) - M) - 1).toNat = M - k - 1 := by omega
      rw [e1]
      have hnf : ¬ s.f (M - k - 1) = true := by
        intro h1
        obtain ⟨x, hx, h3⟩ := (hf _ (by omega)).1 h1
        have : x = k := by omega
        exact hn (this ▸ hx)
      rw [if_neg hnf]
      refine ⟨rfl, fun hh => by simp at hh, fun _ => ⟨rfl, M, by simp [hM], ?_, hl, fun i hi => ?_⟩⟩
      · intro x hx
        simp at hx
        rcases hx with hx | hx
        · exact hmax x hx
        · omega
      · simp only [Bool.or_eq_true, decide_eq_true_eq, List.mem_append, List.mem_singleton]
        constructor
        · rintro (h1 | h1)
          · exact ⟨k, .inr rfl, by omega⟩
          · obtain ⟨x, hx, h3⟩ := (hf _ hi).1 h1
            exact ⟨x, .inl hx, h3⟩
        · rintro ⟨x, hx, h3⟩
          rcases hx with hx | hx
          · exact .inr ((hf _ hi).2 ⟨x, hx, h3⟩)
          · left; omega

theorem WInv.same {base : Int} {L L' : List Nat} {s s' : WS} (h : WInv base L s) (h' : WInv base L' s') (e : ∀ k, k ∈ L ↔ k ∈ L') : s.any = s'.any ∧ s.last = s'.last ∧ ∀ i, i < 64 → s.f i = s'.f i := by
  by_cases hnil : L = []
  · have hnil' : L' = [] := by
      cases L' with
      | nil => rfl
      | cons x l => have := (e x).2 (by simp); rw [hnil] at this; simp at this
    rw [h.nil hnil, h'.nil hnil']
    exact ⟨rfl, rfl, fun _ _ => rfl⟩
  · have hnil' : L' ≠ [] := by
      intro hh
      cases L with
      | nil => exact hnil rfl
      | cons x l => have := (e x).1 (by simp); rw [hh] at this; simp at this
    obtain ⟨ha, M, hM, hmax, hl, hf⟩ := h.big hnil
    obtain ⟨ha', M', hM', hmax', hl', hf'⟩ := h'.big hnil'
    have eM : M = M' := Nat.le_antisymm (hmax' M ((e M).1 hM)) (hmax M' ((e M').2 hM'))
    subst eM
    refine ⟨by rw [ha, ha'], by rw [hl, hl'], fun i hi => ?_⟩
    rw [Bool.eq_iff_iff, hf i hi, hf' i hi]
    constructor
    · rintro ⟨k, hk, h1⟩; exact ⟨k, (e k).1 hk, h1⟩
    · rintro ⟨k, hk, h1⟩; exact ⟨k, (e k).2 hk, h1⟩
theorem winv_0 (base : Int) : WInv base [] s0 := ⟨fun _ => rfl, fun h => absurd rfl h⟩

theorem erase_facts {R : List Nat} {i : Nat} (h : i < R.length) (hn : R.Nodup) :
    (∀ x, x ∈ R ↔ x = R[i] ∨ x ∈ R.eraseIdx i) ∧ R[i] ∉ R.eraseIdx i ∧ (R.eraseIdx i).Nodup ∧ (R.eraseIdx i).length + 1 = R.length := by
  have e1 : R = R.take i ++ R[i] :: R.drop (i + 1) := by rw [← List.drop_eq_getElem_cons h, List.take_append_drop]
  have e2 : R.eraseIdx i = R.take i ++ R.drop (i + 1) := List.eraseIdx_eq_take_drop_succ R i
  refine ⟨fun x => ?_, ?_, hn.sublist (List.eraseIdx_sublist R i), by rw [List.length_eraseIdx_of_lt h]; omega⟩
  · rw [e2]
    constructor
    · intro hx
      rw [e1] at hx
      simp only [List.mem_append, List.mem_cons] at hx
      simp only [List.mem_append]
      rcases hx with hx | hx | hx
      · exact .inr (.inl hx)
      · exact .inl hx
      · exact .inr (.inr hx)
    · rintro (hx | hx)
      · rw [hx]; exact List.getElem_mem _
      · simp only [List.mem_append] at hx
        rcases hx with hx | hx
        · exact List.mem_of_mem_take hx
        · exact List.mem_of_mem_drop hx
  · rw [e2]
    generalize R[i] = k at *
    rw [e1] at hn
    simp only [List.mem_append]
    obtain ⟨_, h2, h3⟩ := List.nodup_append.1 hn
    rintro (hx | hx)
    · exact h3 k hx k (by simp) rfl
    · exact (List.nodup_cons.1 h2).1 hx
end Go.Proofs.Ytidlpihffolelaa.Wn
