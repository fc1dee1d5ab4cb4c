/- Stable merging in place: the plain laws (rotations, the halves of a symmetric merge). -/
import Derived.Test.YtkjjikjilmngdaaFr
namespace Dt
set_option linter.unusedVariables false
set_option linter.unusedSimpArgs false

/-- ahead: of a lesser key, or of the same and from a lower place -/
def bf (k : Nat → Int) (i j : Nat) : Prop := k i < k j ∨ (k i = k j ∧ i < j)
/-- in order from a to b -/
def SrtF (k : Nat → Int) (P : Nat → Nat) (a b : Nat) : Prop := ∀ s t, a ≤ s → s < t → t < b → bf k (P s) (P t)
/-- what lies ahead of m is from lower places -/
def LowF (P : Nat → Nat) (a m b : Nat) : Prop := ∀ s t, a ≤ s → s < m → m ≤ t → t < b → P s < P t
/-- Q is P with the places from a to b exchanged among themselves -/
def Shf (a b : Nat) (P Q : Nat → Nat) : Prop := ∃ σ τ : Nat → Nat, (∀ t, Q t = P (σ t)) ∧ (∀ t, σ (τ t) = t) ∧ (∀ t, τ (σ t) = t) ∧ (∀ t, a ≤ t → t < b → a ≤ σ t ∧ σ t < b) ∧ (∀ t, (t < a ∨ b ≤ t) → σ t = t)
section
variable {k : Nat → Int} {P Q R : Nat → Nat} {a b m s e t : Nat}
theorem bf_trans {i j l : Nat} (h1 : bf k i j) (h2 : bf k j l) : bf k i l := by unfold bf at *; omega
theorem Shf.refl (a b : Nat) (P : Nat → Nat) : Shf a b P P := ⟨fun t => t, fun t => t, fun _ => rfl, fun _ => rfl, fun _ => rfl, fun t h1 h2 => ⟨h1, h2⟩, fun _ _ => rfl⟩
theorem Shf.trans (h : Shf a b P Q) (g : Shf a b Q R) : Shf a b P R := by
  obtain ⟨σ, τ, h1, h2, h3, h4, h5⟩ := h
  obtain ⟨σ', τ', g1, g2, g3, g4, g5⟩ := g
  refine ⟨fun t => σ (σ' t), fun t => τ' (τ t), fun t => by rw [g1, h1], fun t => by simp only [g2, h2], fun t => by simp only [h3, g3], fun t ha hb => ?_, fun t ht => by simp only [g5 t ht, h5 t ht]⟩
  have := g4 t ha hb
  exact h4 _ this.1 this.2
theorem Shf.mono {a' b' : Nat} (h : Shf a b P Q) (h1 : a' ≤ a) (h2 : b ≤ b') : Shf a' b' P Q := by
  obtain ⟨σ, τ, e1, e2, e3, e4, e5⟩ := h
  refine ⟨σ, τ, e1, e2, e3, fun t ha hb => ?_, fun t ht => e5 t (by omega)⟩
  by_cases c : a ≤ t ∧ t < b
  · have := e4 t c.1 c.2; omega
  · rw [e5 t (by omega)]; omega
theorem Shf.out (h : Shf a b P Q) (ht : t < a ∨ b ≤ t) : Q t = P t := by
  obtain ⟨σ, τ, e1, e2, e3, e4, e5⟩ := h
  rw [e1, e5 t ht]
theorem Shf.at (h : Shf a b P Q) (h1 : a ≤ t) (h2 : t < b) : ∃ s, a ≤ s ∧ s < b ∧ Q t = P s := by
  obtain ⟨σ, τ, e1, e2, e3, e4, e5⟩ := h
  exact ⟨σ t, (e4 t h1 h2).1, (e4 t h1 h2).2, e1 t⟩
theorem Shf.back (h : Shf a b P Q) (h1 : a ≤ t) (h2 : t < b) : ∃ s, a ≤ s ∧ s < b ∧ Q s = P t := by
  obtain ⟨σ, τ, e1, e2, e3, e4, e5⟩ := h
  have key : a ≤ τ t ∧ τ t < b := by
    by_cases c : a ≤ τ t ∧ τ t < b
    · exact c
    · have := e5 (τ t) (by omega)
      rw [e2] at this; omega
  exact ⟨τ t, key.1, key.2, by rw [e1, e2]⟩
theorem Shf.congr {Q' : Nat → Nat} (h : Shf a b P Q) (e : ∀ t, Q' t = Q t) : Shf a b P Q' := by
  obtain ⟨σ, τ, e1, r⟩ := h
  exact ⟨σ, τ, fun t => by rw [e, e1], r⟩
theorem SrtF.congr (h : SrtF k P a b) (e : ∀ t, a ≤ t → t < b → Q t = P t) : SrtF k Q a b := fun s t h1 h2 h3 => by
  rw [e s h1 (by omega), e t (by omega) h3]; exact h s t h1 h2 h3
theorem SrtF.mono {a' b' : Nat} (h : SrtF k P a b) (h1 : a ≤ a') (h2 : b' ≤ b) : SrtF k P a' b' := fun s t g1 g2 g3 => h s t (by omega) g2 (by omega)
theorem SrtF.one (k : Nat → Int) (P : Nat → Nat) (h : b ≤ a + 1) : SrtF k P a b := fun s t h1 h2 h3 => by omega
theorem SrtF.le (h : SrtF k P a b) (h1 : a ≤ s) (h2 : s ≤ t) (h3 : t < b) : k (P s) ≤ k (P t) := by
  rcases Nat.lt_or_eq_of_le h2 with h4 | h4
  · have := h s t h1 h4 h3; unfold bf at this; omega
  · subst h4; exact Int.le_refl _

/-- the pieces from a to m and from m to b changed about -/
def rotF {α : Type} (X : Nat → α) (a m b t : Nat) : α := if t < a ∨ b ≤ t then X t else if t < a + (b - m) then X (t + (m - a)) else X (t - (b - m))
/-- n from a on and n from b on changed about -/
def swF {α : Type} (X : Nat → α) (a b n t : Nat) : α := if a ≤ t ∧ t < a + n then X (t - a + b) else if b ≤ t ∧ t < b + n then X (t - b + a) else X t
theorem rotF_none {α : Type} (X : Nat → α) (h : a = m ∨ m = b) (h1 : a ≤ m) (h2 : m ≤ b) (t : Nat) : rotF X a m b t = X t := by
  unfold rotF
  rcases h with rfl | rfl
  · split
    · rfl
    · rw [if_pos (by omega)]; congr 1; omega
  · split
    · rfl
    · rw [if_neg (by omega)]; congr 1; omega
theorem rotF_comp {α β : Type} (F : α → β) (X : Nat → α) (t : Nat) : rotF (fun t => F (X t)) a m b t = F (rotF X a m b t) := by
  unfold rotF; repeat' split
  all_goals rfl
theorem rotF_congr {α : Type} {X Y : Nat → α} (h : ∀ t, X t = Y t) (t : Nat) : rotF X a m b t = rotF Y a m b t := by
  unfold rotF; simp only [h]
/-- rotate's round, the left piece longer -/
theorem rot_left {α : Type} (X : Nat → α) {m i j : Nat} (hi : i ≤ m) (hj : 0 < j) (h : j < i) (t : Nat) : rotF (swF X (m - i) m j) (m - (i - j)) m (m + j) t = rotF X (m - i) m (m + j) t := by
  unfold rotF swF
  repeat' split
  all_goals first | (exfalso; omega) | (congr 1 <;> omega)
/-- rotate's round, the right piece longer -/
theorem rot_right {α : Type} (X : Nat → α) {m i j : Nat} (hi : i ≤ m) (hi0 : 0 < i) (h : i < j) (t : Nat) : rotF (swF X (m - i) (m + j - i) i) (m - i) m (m + (j - i)) t = rotF X (m - i) m (m + j) t := by
  unfold rotF swF
  repeat' split
  all_goals first | (exfalso; omega) | (congr 1 <;> omega)
/-- rotate's end -/
theorem rot_end {α : Type} (X : Nat → α) {m i : Nat} (hi : i ≤ m) (t : Nat) : swF X (m - i) m i t = rotF X (m - i) m (m + i) t := by
  unfold rotF swF
  repeat' split
  all_goals first | (exfalso; omega) | (congr 1 <;> omega)
theorem swF_zero {α : Type} (X : Nat → α) (a b t : Nat) : swF X a b 0 t = X t := by unfold swF; rw [if_neg (by omega), if_neg (by omega)]
/-- one more is changed about -/
theorem swF_step {α : Type} (X : Nat → α) {a b i : Nat} (h : a + i < b) (t : Nat) : swF X a b (i + 1) t = if t = a + i then X (b + i) else if t = b + i then X (a + i) else swF X a b i t := by
  unfold swF
  repeat' split
  all_goals first | (exfalso; omega) | (congr 1 <;> omega)
/-- one comes down from m, step by step -/
theorem rot_down {α : Type} (X : Nat → α) {m q : Nat} (h : q + 1 ≤ m) (t : Nat) : rotF X q m (m + 1) t = if t = q then X m else if t = q + 1 then X q else rotF X (q + 1) m (m + 1) t := by
  unfold rotF
  repeat' split
  all_goals first | (exfalso; omega) | (congr 1 <;> omega)
/-- one goes up from a, step by step -/
theorem rot_up {α : Type} (X : Nat → α) {a q : Nat} (h : a + 1 ≤ q) (t : Nat) : rotF X a (a + 1) (q + 1) t = if t = q then X a else if t = q - 1 then X q else rotF X a (a + 1) q t := by
  unfold rotF
  repeat' split
  all_goals first | (exfalso; omega) | (congr 1 <;> omega)
theorem rot_shf (P : Nat → Nat) (h1 : a ≤ m) (h2 : m ≤ b) : Shf a b P (rotF P a m b) := by
  refine ⟨fun t => rotF (fun t => t) a m b t, fun t => rotF (fun t => t) a (a + (b - m)) b t, fun t => ?_, fun t => ?_, fun t => ?_, fun t h1 h2 => ?_, fun t ht => ?_⟩
  all_goals unfold rotF
  all_goals (try dsimp only)
  · repeat' split
    all_goals first | rfl | (exfalso; omega)
  · repeat' split
    all_goals omega
  · repeat' split
    all_goals omega
  · repeat' split
    all_goals omega
  · rw [if_pos ht]
/-- the halves of a symmetric merge: what it takes to the left is ahead of what it leaves -/
structure Cut (k : Nat → Int) (P : Nat → Nat) (a m b mid s : Nat) : Prop where
  h1 : a ≤ s
  h2 : s ≤ m
  h3 : s ≤ mid
  h4 : mid + m ≤ b + s
  lo : a < s → mid + m < b + s → k (P (s - 1)) ≤ k (P (mid + m - s))
  hi : s < m → s < mid → k (P (mid + m - s - 1)) < k (P s)
theorem Cut.halves {mid : Nat} (h : Cut k P a m b mid s) (hA : SrtF k P a m) (hB : SrtF k P m b) (hL : LowF P a m b) (ham : a ≤ m) (hmb : m ≤ b) (hmid : a ≤ mid) (hmid2 : mid ≤ b) :
    let Q := rotF P s m (mid + m - s)
    SrtF k Q a s ∧ SrtF k Q s mid ∧ LowF Q a s mid ∧ SrtF k Q mid (mid + m - s) ∧ SrtF k Q (mid + m - s) b ∧ LowF Q mid (mid + m - s) b ∧ (∀ u v, a ≤ u → u < mid → mid ≤ v → v < b → bf k (Q u) (Q v)) := by
  obtain ⟨h1, h2, h3, h4, lo, hi⟩ := h
  intro Q
  have q1 : ∀ t, a ≤ t → t < s → Q t = P t := fun t g1 g2 => by
    show rotF P s m (mid + m - s) t = _
    unfold rotF; rw [if_pos (by omega)]
  have q2 : ∀ t, s ≤ t → t < mid → Q t = P (t + (m - s)) := fun t g1 g2 => by
    show rotF P s m (mid + m - s) t = _
    unfold rotF; rw [if_neg (by omega), if_pos (by omega)]
  have q3 : ∀ t, mid ≤ t → t < mid + m - s → Q t = P (t - (mid - s)) := fun t g1 g2 => by
    show rotF P s m (mid + m - s) t = _
    unfold rotF; rw [if_neg (by omega), if_neg (by omega)]; congr 1; omega
  have q4 : ∀ t, mid + m - s ≤ t → Q t = P t := fun t g1 => by
    show rotF P s m (mid + m - s) t = _
    unfold rotF; rw [if_pos (by omega)]
  refine ⟨fun u v g1 g2 g3 => ?_, fun u v g1 g2 g3 => ?_, fun u v g1 g2 g3 g4 => ?_, fun u v g1 g2 g3 => ?_, fun u v g1 g2 g3 => ?_, fun u v g1 g2 g3 g4 => ?_, fun u v g1 g2 g3 g4 => ?_⟩
  · rw [q1 u g1 (by omega), q1 v (by omega) g3]; exact hA u v g1 g2 (by omega)
  · rw [q2 u g1 (by omega), q2 v (by omega) g3]; exact hB _ _ (by omega) (by omega) (by omega)
  · rw [q1 u g1 g2, q2 v g3 g4]; exact hL _ _ (by omega) (by omega) (by omega) (by omega)
  · rw [q3 u g1 (by omega), q3 v (by omega) g3]; exact hA _ _ (by omega) (by omega) (by omega)
  · rw [q4 u g1, q4 v (by omega)]; exact hB _ _ (by omega) (by omega) (by omega)
  · rw [q3 u g1 g2, q4 v g3]; exact hL _ _ (by omega) (by omega) (by omega) (by omega)
  · by_cases c1 : u < s
    · rw [q1 u g1 c1]
      by_cases c2 : v < mid + m - s
      · rw [q3 v g3 c2]; exact hA _ _ (by omega) (by omega) (by omega)
      · rw [q4 v (by omega)]
        have l1 := hL u v g1 (by omega) (by omega) g4
        have l2 := lo (by omega) (by omega)
        have l3 := hA.le (s := u) (t := s - 1) g1 (by omega) (by omega)
        have l4 := hB.le (s := mid + m - s) (t := v) (by omega) (by omega) g4
        unfold bf; omega
    · rw [q2 u (by omega) g2]
      by_cases c2 : v < mid + m - s
      · rw [q3 v g3 c2]
        have l2 := hi (by omega) (by omega)
        have l3 := hB.le (s := u + (m - s)) (t := mid + m - s - 1) (by omega) (by omega) (by omega)
        have l4 := hA.le (s := s) (t := v - (mid - s)) (by omega) (by omega) (by omega)
        unfold bf; omega
      · rw [q4 v (by omega)]; exact hB _ _ (by omega) (by omega) (by omega)
/-- two halves, each in order, the left one ahead of the right one -/
theorem srt_join {mid : Nat} (hX : ∀ u v, a ≤ u → u < mid → mid ≤ v → v < b → bf k (Q u) (Q v)) (hs : Shf a mid Q R) (hs2 : ∀ t, mid ≤ t → R t = Q t) (hS : SrtF k R a mid) (hT : SrtF k R mid b) : SrtF k R a b := fun u v h1 h2 h3 => by
  by_cases c1 : v < mid
  · exact hS u v h1 h2 c1
  · by_cases c2 : u < mid
    · obtain ⟨u', g1, g2, e⟩ := hs.at h1 c2
      rw [e, hs2 v (by omega)]
      exact hX u' v g1 g2 (by omega) h3
    · exact hT u v (by omega) h2 h3
/-- the same where both halves were exchanged among themselves -/
theorem srt_join2 {mid : Nat} (hX : ∀ u v, a ≤ u → u < mid → mid ≤ v → v < b → bf k (Q u) (Q v)) (hs : Shf a mid Q R) {R' : Nat → Nat} (hs' : Shf mid b R R') (hS : SrtF k R a mid) (hT : SrtF k R' mid b) : SrtF k R' a b := fun u v h1 h2 h3 => by
  by_cases c1 : v < mid
  · rw [hs'.out (by omega), hs'.out (by omega)]
    exact hS u v h1 h2 c1
  · by_cases c2 : u < mid
    · obtain ⟨u', g1, g2, e⟩ := hs.at h1 c2
      obtain ⟨v', g3, g4, e'⟩ := hs'.at (show mid ≤ v by omega) h3
      rw [hs'.out (by omega), e, e', hs.out (by omega)]
      exact hX u' v' g1 g2 g3 g4
    · exact hT u v (by omega) h2 h3
theorem sym_fin {mid s : Nat} {P Q2 : Nat → Nat} (hs1 : a ≤ s) (hs2 : s ≤ m) (he : m ≤ e) (he2 : e ≤ b) (hm1 : a ≤ mid) (hm2 : mid ≤ b) (hQ : ∀ t, Q t = rotF P s m e t) (hX : ∀ u v, a ≤ u → u < mid → mid ≤ v → v < b → bf k (Q u) (Q v)) (h1 : Shf a mid Q R) (h2 : Shf mid b R Q2) (hS : SrtF k R a mid) (hT : SrtF k Q2 mid b) : Shf a b P Q2 ∧ SrtF k Q2 a b :=
  ⟨((((rot_shf P hs2 he).mono hs1 he2).congr hQ).trans (h1.mono (Nat.le_refl _) hm2)).trans (h2.mono hm1 (Nat.le_refl _)), srt_join2 hX h1 h2 hS hT⟩
/-- one comes in among those in order: from the end -/
theorem srt_ins (hA : SrtF k P a m) (hL : LowF P a m (m + 1)) (h1 : a ≤ s) (h2 : s ≤ m) (lo : a < s → k (P (s - 1)) ≤ k (P m)) (hi : s < m → k (P m) < k (P s)) : SrtF k (rotF P s m (m + 1)) a (m + 1) := fun u v g1 g2 g3 => by
  have key : ∀ t, rotF P s m (m + 1) t = if t < s then P t else if t = s then P m else if t ≤ m then P (t - 1) else P t := fun t => by
    unfold rotF
    repeat' split
    all_goals first | (exfalso; omega) | (congr 1 <;> omega)
  rw [key, key]
  by_cases c1 : v < s
  · rw [if_pos (by omega), if_pos c1]; exact hA u v g1 g2 (by omega)
  · rw [if_neg c1]
    by_cases c2 : v = s
    · rw [if_pos c2, if_pos (by omega)]
      have l1 := hA.le (s := u) (t := s - 1) g1 (by omega) (by omega)
      have l2 := lo (by omega)
      have l3 := hL u m g1 (by omega) (Nat.le_refl _) (by omega)
      unfold bf; omega
    · rw [if_neg c2, if_pos (show v ≤ m by omega)]
      by_cases c3 : u < s
      · rw [if_pos c3]; exact hA _ _ g1 (by omega) (by omega)
      · rw [if_neg c3]
        by_cases c4 : u = s
        · rw [if_pos c4]
          have l1 := hA.le (s := s) (t := v - 1) (by omega) (by omega) (by omega)
          have l2 := hi (by omega)
          unfold bf; omega
        · rw [if_neg c4, if_pos (show u ≤ m by omega)]; exact hA _ _ (by omega) (by omega) (by omega)
/-- one comes in among those in order: from the beginning -/
theorem srt_ins0 (hB : SrtF k P (a + 1) b) (hL : LowF P a (a + 1) b) (h1 : a + 1 ≤ s) (h2 : s ≤ b) (lo : a + 1 < s → k (P (s - 1)) < k (P a)) (hi : s < b → k (P a) ≤ k (P s)) : SrtF k (rotF P a (a + 1) s) a b := fun u v g1 g2 g3 => by
  have key : ∀ t, a ≤ t → rotF P a (a + 1) s t = if t + 1 < s then P (t + 1) else if t + 1 = s then P a else P t := fun t ht => by
    unfold rotF
    repeat' split
    all_goals first | (exfalso; omega) | (congr 1 <;> omega)
  rw [key u g1, key v (by omega)]
  by_cases c1 : v + 1 < s
  · rw [if_pos (by omega), if_pos c1]; exact hB _ _ (by omega) (by omega) (by omega)
  · rw [if_neg c1]
    by_cases c2 : v + 1 = s
    · rw [if_pos c2, if_pos (by omega)]
      have l1 := hB.le (s := u + 1) (t := s - 1) (by omega) (by omega) (by omega)
      have l2 := lo (by omega)
      unfold bf; omega
    · rw [if_neg c2]
      by_cases c3 : u + 1 < s
      · rw [if_pos c3]; exact hB _ _ (by omega) (by omega) (by omega)
      · rw [if_neg c3]
        by_cases c4 : u + 1 = s
        · rw [if_pos c4]
          have l1 := hB.le (s := s) (t := v) (by omega) (by omega) (by omega)
          have l2 := hi (by omega)
          have l3 := hL a v (Nat.le_refl _) (by omega) (by omega) g3
          unfold bf; omega
        · rw [if_neg c4]; exact hB _ _ (by omega) (by omega) (by omega)
end
end Dt
