/- The view's plain laws: what is sooner, orders. -/
import Derived.Test.YtiniaphleogkiaaFpO
import Derived.Test.YtiniaphleogkiaaFp5
namespace Dt
open Ieee
set_option linter.unusedVariables false
set_option linter.unusedSimpArgs false

instance (x : Nat) : Decidable (num x) := Nat.decLe _ _
def nanB (x : Nat) : Bool := double.order x x != some .eq
theorem nanB_eq (x : Nat) : nanB x = !decide (num x) := by
  unfold nanB
  by_cases h : num x
  · rw [order_self.2 h, decide_eq_true h]; rfl
  · rw [decide_eq_false h]
    unfold num at h
    rw [order_nan_l (by omega)]; rfl
/-- is a drawn ahead of b? -/
def soonB (a b : Nat) : Bool :=
  if nanB a then !nanB b
  else if (double.order a 0 == some .eq) && (double.order b 0 == some .eq) then !ng a && ng b
  else double.order a b == some .gt
/-- a depth's rank: the greater, the sooner -/
def rk (x : Nat) : Int := if num x then (if sv x = 0 then (if ng x then 0 else 1) else 2 * sv x) else 2 * (mg infR : Int) + 10
theorem sv_le {x : Nat} (h : num x) : -(mg infR : Int) ≤ sv x ∧ sv x ≤ mg infR := by
  have : mg (rg x) ≤ mg infR := mg_mono h
  unfold sv; split <;> omega
theorem num_zero : num 0 := by unfold num; decide
theorem sv_zero : sv 0 = 0 := by
  have h : rg 0 = 0 := by decide
  unfold sv; rw [h, mg_zero]; simp
theorem eq_zero_B {x : Nat} (h : num x) : (double.order x 0 == some .eq) = decide (sv x = 0) := by
  have o := order_num h num_zero
  rw [o, sv_zero]
  rcases Int.lt_trichotomy (sv x) 0 with h | h | h
  · rw [Int.compare_eq_lt.2 h, decide_eq_false (by omega)]; rfl
  · rw [Int.compare_eq_eq.2 h, decide_eq_true h]; rfl
  · rw [Int.compare_eq_gt.2 h, decide_eq_false (by omega)]; rfl
theorem eq_zero_nan {x : Nat} (h : ¬ num x) : (double.order x 0 == some .eq) = false := by
  unfold num at h
  rw [order_nan_l (by omega)]; rfl
theorem soonB_rk (a b : Nat) : soonB a b = decide (rk b < rk a) := by
  have hp : 0 < mg infR := mg_pos (by decide)
  unfold soonB
  rw [nanB_eq, nanB_eq]
  by_cases ha : num a
  · rw [decide_eq_true ha]
    have la := sv_le ha
    by_cases hb : num b
    · have lb := sv_le hb
      rw [eq_zero_B ha, eq_zero_B hb]
      unfold rk
      rw [if_pos ha, if_pos hb]
      by_cases za : sv a = 0 <;> by_cases zb : sv b = 0
      · rw [if_pos za, if_pos zb, decide_eq_true za, decide_eq_true zb]
        cases ng a <;> cases ng b <;> simp
      all_goals
        have o := order_num ha hb
        rw [o]
        simp only [za, zb, decide_true, decide_false, Bool.not_true, Bool.not_false, Bool.and_false, Bool.false_and, if_true, if_false, Bool.false_eq_true, reduceIte]
        rcases Int.lt_trichotomy (sv a) (sv b) with h | h | h
        · rw [Int.compare_eq_lt.2 (by omega)]
          rw [decide_eq_false (by first | omega | (split <;> omega))]; rfl
        · first
            | (exfalso; omega)
            | (rw [Int.compare_eq_eq.2 (by omega), decide_eq_false (by omega)]; rfl)
        · rw [Int.compare_eq_gt.2 (by omega)]
          rw [decide_eq_true (by first | omega | (split <;> omega))]; rfl
    · rw [eq_zero_nan hb]
      unfold rk
      rw [if_pos ha, if_neg hb]
      have hb' := hb
      unfold num at hb'
      have o : double.order a b = none := order_nan_r (by omega) a
      have hk : ¬ (2 * (mg infR : Int) + 10 < if sv a = 0 then if ng a = true then 0 else 1 else 2 * sv a) := by
        split
        · split <;> omega
        · omega
      rw [o, decide_eq_false hk]
      simp [hb]
  · rw [decide_eq_false ha]
    unfold rk
    rw [if_neg ha]
    by_cases hb : num b
    · have lb := sv_le hb
      have hk : (if sv b = 0 then if ng b = true then (0 : Int) else 1 else 2 * sv b) < 2 * (mg infR : Int) + 10 := by
        split
        · split <;> omega
        · omega
      rw [if_pos hb, decide_eq_true hb, decide_eq_true hk]; rfl
    · rw [if_neg hb, decide_eq_false hb, decide_eq_false (by omega)]; rfl
/-- of one rank: both no numbers, or the same word -/
theorem rk_alike {a b : Nat} (ha : a < 18446744073709551616) (hb : b < 18446744073709551616) (h : rk a = rk b) : (¬ num a ∧ ¬ num b) ∨ a = b := by
  have hp : 0 < mg infR := mg_pos (by decide)
  unfold rk at h
  by_cases na : num a <;> by_cases nb : num b
  · refine .inr ?_
    have la := sv_le na
    have lb := sv_le nb
    rw [if_pos na, if_pos nb] at h
    have hs : sv a = sv b ∧ ng a = ng b := by
      by_cases za : sv a = 0 <;> by_cases zb : sv b = 0
      · rw [if_pos za, if_pos zb] at h
        refine ⟨by omega, ?_⟩
        cases h1 : ng a <;> cases h2 : ng b <;> simp [h1, h2] at h <;> rfl
      · rw [if_pos za, if_neg zb] at h
        exfalso; split at h <;> omega
      · rw [if_neg za, if_pos zb] at h
        exfalso; split at h <;> omega
      · rw [if_neg za, if_neg zb] at h
        have e : sv a = sv b := by omega
        refine ⟨e, ?_⟩
        unfold sv at e za zb
        have m1 : (0 : Int) ≤ mg (rg a) := by omega
        have m2 : (0 : Int) ≤ mg (rg b) := by omega
        cases h1 : ng a <;> cases h2 : ng b <;> simp [h1, h2] at e za zb <;> first | rfl | (exfalso; omega)
    have e2 : mg (rg a) = mg (rg b) := by
      obtain ⟨e, e'⟩ := hs
      unfold sv at e
      rw [e'] at e
      split at e <;> omega
    rw [← wd_self ha, ← wd_self hb, hs.2, mg_inj e2]
  · have la := sv_le na
    rw [if_pos na, if_neg nb] at h
    exfalso
    split at h
    · split at h <;> omega
    · omega
  · have lb := sv_le nb
    rw [if_neg na, if_pos nb] at h
    exfalso
    split at h
    · split at h <;> omega
    · omega
  · exact .inl ⟨na, nb⟩

/-- place i stands ahead of place j -/
def bef (r : Nat → Int) (i j : Nat) : Prop := r j < r i ∨ (r i = r j ∧ i < j)
/-- X is the order of n places -/
structure OrdF (r : Nat → Int) (n : Nat) (X : Nat → Nat) : Prop where
  lt : ∀ t, t < n → X t < n
  onto : ∀ v, v < n → ∃ t, t < n ∧ X t = v
  srt : ∀ s t, s < t → t < n → bef r (X s) (X t)
theorem OrdF.unique {r : Nat → Int} {n : Nat} {X Y : Nat → Nat} (hx : OrdF r n X) (hy : OrdF r n Y) : ∀ t, t < n → X t = Y t := by
  intro t
  induction t using Nat.strongRecOn with
  | _ t ih =>
    intro ht
    obtain ⟨u, hu, eu⟩ := hy.onto (X t) (hx.lt t ht)
    obtain ⟨v, hv, ev⟩ := hx.onto (Y t) (hy.lt t ht)
    have asy : ∀ a b, bef r a b → bef r b a → False := fun a b h1 h2 => by unfold bef at h1 h2; omega
    rcases Nat.lt_trichotomy u t with h1 | h1 | h1
    · have := ih u h1 hu
      have h2 := hx.srt u t h1 ht
      rw [this, eu] at h2
      exact (asy _ _ h2 h2).elim
    · rw [← eu, h1]
    · rcases Nat.lt_trichotomy v t with h3 | h3 | h3
      · have := ih v h3 hv
        have h2 := hy.srt v t h3 ht
        rw [← this, ev] at h2
        exact (asy _ _ h2 h2).elim
      · rw [← ev, h3]
      · have g1 := hy.srt t u h1 hu
        have g2 := hx.srt t v h3 hv
        rw [eu] at g1
        rw [ev] at g2
        exact (asy _ _ g1 g2).elim
/-- i comes in behind j of those that are in order -/
def insF (P : Nat → Nat) (i j t : Nat) : Nat := if t < j then P t else if t = j then i else if t ≤ i then P (t - 1) else t
theorem OrdF.ins {r : Nat → Int} {i j : Nat} {P : Nat → Nat} (h : OrdF r i P) (hj : j ≤ i) (h1 : ∀ t, j ≤ t → t < i → r (P t) < r i) (h2 : 0 < j → r i ≤ r (P (j - 1))) : OrdF r (i + 1) (insF P i j) := by
  have hlow : ∀ t, t < j → bef r (P t) i := fun t ht => by
    have hP := h.lt t (by omega)
    have h3 := h2 (by omega)
    rcases Nat.lt_or_eq_of_le (show t ≤ j - 1 by omega) with h4 | h4
    · have := h.srt t (j - 1) h4 (by omega)
      unfold bef at this ⊢; omega
    · subst h4; unfold bef; omega
  refine ⟨fun t ht => ?_, fun v hv => ?_, fun s t hst ht => ?_⟩
  · unfold insF
    split
    · have := h.lt t (by omega); omega
    · split
      · omega
      · split
        · have := h.lt (t - 1) (by omega); omega
        · omega
  · rcases Nat.lt_or_eq_of_le (show v ≤ i by omega) with h3 | h3
    · obtain ⟨t, ht, e⟩ := h.onto v h3
      by_cases htj : t < j
      · exact ⟨t, by omega, by unfold insF; rw [if_pos htj]; exact e⟩
      · exact ⟨t + 1, by omega, by unfold insF; rw [if_neg (by omega), if_neg (by omega), if_pos (by omega)]; exact e⟩
    · exact ⟨j, by omega, by unfold insF; rw [if_neg (by omega), if_pos rfl]; exact h3.symm⟩
  · unfold insF
    by_cases a : s < j
    · rw [if_pos a]
      by_cases b : t < j
      · rw [if_pos b]; exact h.srt s t hst (by omega)
      · rw [if_neg b]
        by_cases c : t = j
        · rw [if_pos c]; exact hlow s a
        · rw [if_neg c, if_pos (by omega)]; exact h.srt s (t - 1) (by omega) (by omega)
    · rw [if_neg a]
      by_cases b : s = j
      · rw [if_pos b, if_neg (by omega), if_neg (by omega), if_pos (by omega)]
        exact .inl (h1 (t - 1) (by omega) (by omega))
      · rw [if_neg b, if_pos (by omega), if_neg (by omega), if_neg (by omega), if_pos (by omega)]
        exact h.srt (s - 1) (t - 1) (by omega) (by omega)
theorem OrdF.zero (r : Nat → Int) (X : Nat → Nat) : OrdF r 0 X := ⟨fun t h => by omega, fun v h => by omega, fun s t _ h => by omega⟩
theorem OrdF.congr {r : Nat → Int} {n : Nat} {X Y : Nat → Nat} (h : OrdF r n X) (e : ∀ t, t < n → Y t = X t) : OrdF r n Y := by
  refine ⟨fun t ht => by rw [e t ht]; exact h.lt t ht, fun v hv => ?_, fun s t hs ht => by rw [e s (by omega), e t ht]; exact h.srt s t hs ht⟩
  obtain ⟨t, ht, he⟩ := h.onto v hv
  exact ⟨t, ht, by rw [e t ht]; exact he⟩
end Dt
