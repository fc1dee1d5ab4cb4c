/- chapter 24: what is sent comes: plain laws. -/
import Derived.Test.YtkjjikjilmngdaaNtP
namespace Dt
set_option linter.unusedVariables false
set_option linter.unusedSimpArgs false

/-- a byte of a number -/
def bytN (n : Int) : Nat := (n % 256).toNat
/-- the i-th flight, how often it goes, its fate -/
def xK (dl : Nat → Nat) (i : Nat) : Fg := ⟨i + 1 + dl i, (i : Nat), (i : Nat) + 1, [bytN (i : Nat)]⟩
def cK (dr : Nat → Bool) (cp : Nat → Nat) (i : Nat) : Nat := if dr i then 0 else 1 + cp i
def faK (dr : Nat → Bool) (cp dl : Nat → Nat) (i : Nat) : Fa := ⟨dr i, (cp i : Nat), (dl i : Nat)⟩
def FLK (dr : Nat → Bool) (cp dl : Nat → Nat) : Nat → List Fg
  | 0 => []
  | n + 1 => FLK dr cp dl n ++ List.replicate (cK dr cp n) (xK dl n)
def wK (dr : Nat → Bool) (cp : Nat → Nat) : Nat → Nat
  | 0 => 0
  | n + 1 => wK dr cp n + cK dr cp n
section
variable {dr : Nat → Bool} {cp dl : Nat → Nat}
theorem FLK_len : ∀ n, (FLK dr cp dl n).length = wK dr cp n
  | 0 => rfl
  | n + 1 => by unfold FLK wK; rw [List.length_append, List.length_replicate, FLK_len n]
theorem wK_le (h : ∀ i, cp i ≤ 2) : ∀ n, wK dr cp n ≤ 3 * n
  | 0 => Nat.le_refl _
  | n + 1 => by
    have h1 := wK_le h n
    have h2 := h n
    unfold wK cK
    split <;> omega
theorem FLK_mem : ∀ {n x}, x ∈ FLK dr cp dl n → ∃ i, i < n ∧ x = xK dl i
  | 0, x, h => by simp [FLK] at h
  | n + 1, x, h => by
    unfold FLK at h
    rcases List.mem_append.1 h with h | h
    · obtain ⟨i, hi, e⟩ := FLK_mem h; exact ⟨i, by omega, e⟩
    · exact ⟨n, by omega, List.eq_of_mem_replicate h⟩
theorem FLK_pair : ∀ n, (FLK dr cp dl n).Pairwise (fun x y => x.src ≤ y.src)
  | 0 => List.Pairwise.nil
  | n + 1 => by
    unfold FLK
    rw [List.pairwise_append]
    refine ⟨FLK_pair n, ?_, fun x hx y hy => ?_⟩
    · rw [List.pairwise_replicate]; exact .inr (Int.le_refl _)
    · obtain ⟨i, hi, rfl⟩ := FLK_mem hx
      rw [List.eq_of_mem_replicate hy]
      show ((i : Nat) : Int) ≤ ((n : Nat) : Int); omega
theorem FLK_count (i : Nat) : ∀ n, (FLK dr cp dl n).countP (fun x => decide (x.src = ((i : Nat) : Int))) = if i < n then cK dr cp i else 0
  | 0 => rfl
  | n + 1 => by
    unfold FLK
    rw [List.countP_append, FLK_count i n, List.countP_replicate]
    have e : (decide ((xK dl n).src = ((i : Nat) : Int))) = decide (n = i) := by
      show decide (((n : Nat) : Int) = ((i : Nat) : Int)) = _
      by_cases c : n = i
      · subst c; simp
      · rw [decide_eq_false c, decide_eq_false (by omega)]
    rw [e]
    by_cases c : n = i
    · subst c; simp
    · rw [decide_eq_false c]
      by_cases c2 : i < n
      · simp [c2, show i < n + 1 by omega]
      · simp [c2, show ¬ i < n + 1 by omega]
/-- so many pushes, where there is room -/
theorem pushS_free : ∀ n x (s : NetV), s.fl.length + n ≤ 256 → pushS n x s = { s with fl := s.fl ++ List.replicate n x }
  | 0, x, s, _ => by simp [pushS]
  | n + 1, x, s, h => by
    show pushS n x (if 256 ≤ s.fl.length then _ else _) = _
    rw [if_neg (by omega), pushS_free n x _ (by simp; omega)]
    simp [List.replicate_succ]
/-- behind the first n sends of k -/
structure KS (dr : Nat → Bool) (cp dl : Nat → Nat) (s : NetV) (k n : Nat) : Prop where
  fa : s.fa = ((List.range k).map (faK dr cp dl)).drop n
  fl : s.fl = FLK dr cp dl n
  lost : s.lost ≤ n
theorem KS.send {s : NetV} {k n : Nat} (h : KS dr cp dl s k n) (hn : n < k) (hk : k ≤ 60) (hc : ∀ i, cp i ≤ 2) (hd : ∀ i, dl i ≤ 20) : KS dr cp dl (sendS s (n : Nat) ((n : Nat) + 1) [bytN (n : Nat)] (n : Nat)) k (n + 1) := by
  obtain ⟨fa, fl, lost⟩ := s
  obtain ⟨h1, h2, h3⟩ := h
  simp only at h1 h2 h3
  have hdrop : ((List.range k).map (faK dr cp dl)).drop n = faK dr cp dl n :: ((List.range k).map (faK dr cp dl)).drop (n + 1) := by
    rw [List.drop_eq_getElem_cons (by simpa using hn)]
    simp
  rw [hdrop] at h1
  subst h1
  have hw := FLK_len (dr := dr) (cp := cp) (dl := dl) n
  have hw2 := wK_le (dr := dr) hc n
  unfold sendS
  dsimp only [List.headD_cons, List.tail_cons]
  cases hdr : dr n with
  | true =>
    have e : (faK dr cp dl n).drop = true := hdr
    rw [if_pos e]
    refine ⟨rfl, ?_, by show lost + 1 ≤ n + 1; omega⟩
    show fl = FLK dr cp dl n ++ List.replicate (cK dr cp n) (xK dl n)
    rw [h2]; unfold cK; rw [hdr]; simp
  | false =>
    have e : ¬ (faK dr cp dl n).drop = true := by rw [show (faK dr cp dl n).drop = dr n from rfl, hdr]; decide
    rw [if_neg e]
    have e1 : copiesN (faK dr cp dl n).copies = 1 + cp n := by
      have := hc n
      show copiesN ((cp n : Nat) : Int) = _
      unfold copiesN; omega
    have e2 : clpI ((n : Nat) : Int) + 1 + delayN (faK dr cp dl n).delay = n + 1 + dl n := by
      have := hd n
      show clpI ((n : Nat) : Int) + 1 + delayN ((dl n : Nat) : Int) = _
      unfold clpI delayN; omega
    rw [e1, e2, pushS_free _ _ _ (by have := hc n; show fl.length + _ ≤ _; rw [h2]; omega)]
    refine ⟨rfl, ?_, by show lost ≤ n + 1; omega⟩
    show fl ++ _ = FLK dr cp dl n ++ List.replicate (cK dr cp n) (xK dl n)
    rw [h2]; unfold cK; rw [hdr]; rfl
/-- ahead of the t-th delivery -/
structure DS (L : List Fg) (s : NetV) (t : Nat) : Prop where
  fl : s.fl = L.filter fun x => decide (t ≤ x.due)
def outK (L : List Fg) (t : Nat) : List Fg := L.filter fun x => decide (x.due = t)
theorem DS.deliver {L : List Fg} {s : NetV} {t : Nat} (h : DS L s t) (ht : t ≤ 1000000) : (deliverS s (t : Nat)).1 = outK L t ∧ DS L (deliverS s (t : Nat)).2 (t + 1) := by
  have ec : clpI ((t : Nat) : Int) = t := by unfold clpI; omega
  have e1 : dueNow s (t : Nat) = outK L t := by
    unfold dueNow outK
    rw [h.fl, ec, List.filter_filter]
    congr 1; funext x
    by_cases c : x.due = t
    · simp [c]
    · by_cases c2 : t ≤ x.due
      · have : ¬ x.due ≤ t := by omega
        simp [c, c2, this]
      · simp [c, c2]
  have e2 : dueLater s (t : Nat) = L.filter fun x => decide (t + 1 ≤ x.due) := by
    unfold dueLater
    rw [h.fl, ec, List.filter_filter]
    congr 1; funext x
    by_cases c : t + 1 ≤ x.due
    · have h1 : t ≤ x.due := by omega
      have h2 : ¬ x.due ≤ t := by omega
      simp [c, h1, h2]
    · have h2 : x.due ≤ t := by omega
      simp [c, h2]
  refine ⟨?_, ⟨e2⟩⟩
  show sortG (dueNow s (t : Nat)) = _
  rw [e1]
  refine sortG_self (fun u v huv hv => ?_)
  have a := List.getElem?_eq_getElem (show u < (outK L t).length by omega)
  have b := List.getElem?_eq_getElem hv
  rw [dueAt_at a, dueAt_at b]
  have hmem : ∀ x ∈ outK L t, x.due = t := fun x hx => by unfold outK at hx; simpa using (List.mem_filter.1 hx).2
  rw [hmem _ (List.mem_of_getElem? a), hmem _ (List.mem_of_getElem? b)]; exact Int.le_refl _
/-- how many came of i ahead of t -/
def camK (L : List Fg) (t i : Nat) : Nat := (L.filter fun x => decide (x.due < t)).countP fun x => decide (x.src = ((i : Nat) : Int))
theorem camK_step (L : List Fg) (t i : Nat) : camK L (t + 1) i = camK L t i + (outK L t).countP fun x => decide (x.src = ((i : Nat) : Int)) := by
  unfold camK outK
  induction L with
  | nil => rfl
  | cons x L ih =>
    rcases Nat.lt_trichotomy x.due t with c | c | c
    · have h1 : x.due < t + 1 := by omega
      have h2 : ¬ x.due = t := by omega
      simp only [List.filter_cons, c, h1, h2, decide_true, decide_false, if_true, Bool.false_eq_true, if_false, List.countP_cons]
      omega
    · have h1 : x.due < t + 1 := by omega
      have h2 : ¬ x.due < t := by omega
      simp only [List.filter_cons, c, h1, h2, decide_true, decide_false, if_true, Bool.false_eq_true, if_false, List.countP_cons]
      simp only [Nat.lt_irrefl, decide_false, Bool.false_eq_true, if_false, Nat.lt_succ_self, decide_true, if_true, List.countP_cons]
      omega
    · have h1 : ¬ x.due < t + 1 := by omega
      have h2 : ¬ x.due < t := by omega
      have h3 : ¬ x.due = t := by omega
      simp only [List.filter_cons, h1, h2, h3, decide_false, Bool.false_eq_true, if_false]
      exact ih
theorem camK_zero (L : List Fg) (i : Nat) : camK L 0 i = 0 := by unfold camK; simp
theorem camK_end {L : List Fg} {t : Nat} (h : ∀ x ∈ L, x.due < t) (i : Nat) : camK L t i = L.countP fun x => decide (x.src = ((i : Nat) : Int)) := by
  unfold camK
  rw [List.filter_eq_self.2 (fun x hx => by simpa using h x hx)]
theorem DS.none {L : List Fg} {s : NetV} {t : Nat} (h : DS L s t) (hl : ∀ x ∈ L, x.due < t) : s.fl = [] := by
  rw [h.fl, List.filter_eq_nil_iff]
  intro x hx
  have := hl x hx
  simp; omega
/-- within one delivery: how many came -/
def camJ (L : List Fg) (t j i : Nat) : Nat := camK L t i + ((outK L t).take j).countP fun x => decide (x.src = ((i : Nat) : Int))
theorem camJ_zero (L : List Fg) (t i : Nat) : camJ L t 0 i = camK L t i := by unfold camJ; simp
theorem camJ_end (L : List Fg) (t i : Nat) : camJ L t (outK L t).length i = camK L (t + 1) i := by unfold camJ; rw [List.take_length, camK_step]
theorem camJ_step {L : List Fg} {t j : Nat} {x : Fg} (h : (outK L t)[j]? = some x) (i : Nat) : camJ L t (j + 1) i = camJ L t j i + if x.src = ((i : Nat) : Int) then 1 else 0 := by
  unfold camJ
  rw [List.take_add_one, h, List.countP_append]
  by_cases c : x.src = ((i : Nat) : Int) <;> simp [c] <;> omega
theorem camJ_le (L : List Fg) (t j i : Nat) : camJ L t j i ≤ 2 * L.length := by
  unfold camJ camK outK
  have h1 := List.countP_le_length (p := fun x : Fg => decide (x.src = ((i : Nat) : Int))) (l := L.filter fun x => decide (x.due < t))
  have h2 := List.countP_le_length (p := fun x : Fg => decide (x.src = ((i : Nat) : Int))) (l := (L.filter fun x => decide (x.due = t)).take j)
  have h3 := List.length_filter_le (fun x : Fg => decide (x.due < t)) L
  have h4 := List.length_filter_le (fun x : Fg => decide (x.due = t)) L
  have h5 : ((L.filter fun x : Fg => decide (x.due = t)).take j).length ≤ (L.filter fun x : Fg => decide (x.due = t)).length := by rw [List.length_take]; omega
  omega
end
end Dt
