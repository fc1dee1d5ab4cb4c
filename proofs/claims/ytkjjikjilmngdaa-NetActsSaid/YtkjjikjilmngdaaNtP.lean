/- chapter 24: plain laws: what is under way, what comes, in which order. -/
import Derived.Test.YtkjjikjilmngdaaSmg
namespace Dt
set_option linter.unusedVariables false
set_option linter.unusedSimpArgs false

/-- X is the stable order of n places -/
structure OrdB (k : Nat → Int) (n : Nat) (X : Nat → Nat) : Prop where
  lt : ∀ t, t < n → X t < n
  onto : ∀ v, v < n → ∃ t, t < n ∧ X t = v
  srt : ∀ s t, s < t → t < n → bf k (X s) (X t)
theorem OrdB.unique {k : Nat → Int} {n : Nat} {X Y : Nat → Nat} (hx : OrdB k n X) (hy : OrdB k n Y) : ∀ t, t < n → X t = Y t := by
  intro t
  induction t using Nat.strongRecOn with
  | _ t ih =>
    intro ht
    obtain ⟨u, hu, eu⟩ := hy.onto (X t) (hx.lt t ht)
    obtain ⟨v, hv, ev⟩ := hx.onto (Y t) (hy.lt t ht)
    have asy : ∀ a b, bf k a b → bf k b a → False := fun a b h1 h2 => by unfold bf at h1 h2; omega
    rcases Nat.lt_trichotomy u t with h1 | h1 | h1
    · have := ih u h1 hu
      have h2 := hx.srt u t h1 ht
      rw [this, eu] at h2
      exact (asy _ _ h2 h2).elim
    · rw [← eu, h1]
    · rcases Nat.lt_trichotomy v t with h3 | h3 | h3
      · have := ih v h3 hv
        have h2 := hy.srt v t h3 ht
        rw [← this, ev] at h2
        exact (asy _ _ h2 h2).elim
      · rw [← ev, h3]
      · have g1 := hy.srt t u h1 hu
        have g2 := hx.srt t v h3 hv
        rw [eu] at g1
        rw [ev] at g2
        exact (asy _ _ g1 g2).elim
theorem OrdB.of_shf {k : Nat → Int} {n : Nat} {Q : Nat → Nat} (h : Shf 0 n (fun t => t) Q) (hs : SrtF k Q 0 n) : OrdB k n Q :=
  ⟨fun t ht => by obtain ⟨s, -, h2, e⟩ := h.at (Nat.zero_le _) ht; rw [e]; exact h2, fun v hv => by obtain ⟨s, -, h2, e⟩ := h.back (Nat.zero_le _) hv; exact ⟨s, h2, e⟩, fun s t h1 h2 => hs s t (Nat.zero_le _) h1 h2⟩
/-- place i comes in ahead of place j of those in order -/
def insB (P : Nat → Nat) (i j t : Nat) : Nat := if t < j then P t else if t = j then i else P (t - 1)
theorem OrdB.ins {k : Nat → Int} {i j : Nat} {P : Nat → Nat} (h : OrdB k i P) (hj : j ≤ i) (h1 : ∀ t, j ≤ t → t < i → k i < k (P t)) (h2 : ∀ t, t < j → k (P t) ≤ k i) : OrdB k (i + 1) (insB P i j) := by
  have hlow : ∀ t, t < j → bf k (P t) i := fun t ht => by
    have hP := h.lt t (by omega)
    have := h2 t ht
    unfold bf; omega
  refine ⟨fun t ht => ?_, fun v hv => ?_, fun s t hst ht => ?_⟩
  · unfold insB
    split
    · have := h.lt t (by omega); omega
    · split
      · omega
      · have := h.lt (t - 1) (by omega); omega
  · rcases Nat.lt_or_eq_of_le (show v ≤ i by omega) with h3 | h3
    · obtain ⟨t, ht, e⟩ := h.onto v h3
      by_cases htj : t < j
      · exact ⟨t, by omega, by unfold insB; rw [if_pos htj]; exact e⟩
      · exact ⟨t + 1, by omega, by unfold insB; rw [if_neg (by omega), if_neg (by omega)]; exact e⟩
    · exact ⟨j, by omega, by unfold insB; rw [if_neg (by omega), if_pos rfl]; exact h3.symm⟩
  · unfold insB
    by_cases a : s < j
    · rw [if_pos a]
      by_cases b : t < j
      · rw [if_pos b]; exact h.srt s t hst (by omega)
      · rw [if_neg b]
        by_cases c : t = j
        · rw [if_pos c]; exact hlow s a
        · rw [if_neg c]; exact h.srt s (t - 1) (by omega) (by omega)
    · rw [if_neg a]
      by_cases b : s = j
      · rw [if_pos b, if_neg (by omega), if_neg (by omega)]
        exact .inl (h1 (t - 1) (by omega) (by omega))
      · rw [if_neg b, if_neg (by omega), if_neg (by omega)]
        exact h.srt (s - 1) (t - 1) (by omega) (by omega)
theorem OrdB.congr {k k' : Nat → Int} {n : Nat} {X : Nat → Nat} (h : OrdB k n X) (e : ∀ t, t < n → k' t = k t) : OrdB k' n X :=
  ⟨h.lt, h.onto, fun s t h1 h2 => by have := h.srt s t h1 h2; unfold bf at this ⊢; rw [e _ (h.lt s (by omega)), e _ (h.lt t h2)]; exact this⟩

/-- a flight: when it is due, from whom, to whom, its bytes -/
structure Fg where
  due : Nat
  src : Int
  dst : Int
  bs : List Nat
instance : Inhabited Fg := ⟨⟨0, 0, 0, []⟩⟩
/-- one more comes in, behind all that are not later -/
def insG (o : List Fg) (x : Fg) : List Fg := o.filter (fun y => decide (y.due ≤ x.due)) ++ x :: o.filter (fun y => decide (x.due < y.due))
/-- in order: who is due sooner first, of those due at once who was sent first -/
def sortG (l : List Fg) : List Fg := l.foldl insG []
theorem sortG_snoc (l : List Fg) (x : Fg) : sortG (l ++ [x]) = insG (sortG l) x := by unfold sortG; rw [List.foldl_append]; rfl
/-- where the first j are not later and the others are -/
theorem insG_at {o : List Fg} {x : Fg} {j : Nat} (h1 : ∀ t, t < j → ∀ y, o[t]? = some y → y.due ≤ x.due) (h2 : ∀ t, j ≤ t → ∀ y, o[t]? = some y → x.due < y.due) : insG o x = o.take j ++ x :: o.drop j := by
  have e : o = o.take j ++ o.drop j := (List.take_append_drop j o).symm
  have f1 : ∀ y ∈ o.take j, y.due ≤ x.due := fun y hy => by
    obtain ⟨t, ht⟩ := List.getElem?_of_mem hy
    rw [List.getElem?_take] at ht
    split at ht
    · rename_i c; exact h1 t c y ht
    · cases ht
  have f2 : ∀ y ∈ o.drop j, x.due < y.due := fun y hy => by
    obtain ⟨t, ht⟩ := List.getElem?_of_mem hy
    rw [List.getElem?_drop] at ht
    exact h2 (j + t) (by omega) y ht
  have g1 : o.filter (fun y => decide (y.due ≤ x.due)) = o.take j := by
    conv => lhs; rw [e]
    rw [List.filter_append, List.filter_eq_self.2 (fun y hy => by simpa using f1 y hy), List.filter_eq_nil_iff.2 (fun y hy => by have := f2 y hy; simp; omega), List.append_nil]
  have g2 : o.filter (fun y => decide (x.due < y.due)) = o.drop j := by
    conv => lhs; rw [e]
    rw [List.filter_append, List.filter_eq_nil_iff.2 (fun y hy => by have := f1 y hy; simp; omega), List.filter_eq_self.2 (fun y hy => by simpa using f2 y hy), List.nil_append]
  unfold insG
  rw [g1, g2]
/-- the list that an order tells -/
def byOrd (l : List Fg) (X : Nat → Nat) : List Fg := (List.range l.length).map fun t => l.getD (X t) default
theorem byOrd_get {l : List Fg} {X : Nat → Nat} {t : Nat} (ht : t < l.length) (hX : X t < l.length) : (byOrd l X)[t]? = l[X t]? := by
  unfold byOrd
  rw [List.getElem?_map, List.getElem?_range ht]
  simp [List.getD, List.getElem?_eq_getElem hX]
theorem byOrd_len (l : List Fg) (X : Nat → Nat) : (byOrd l X).length = l.length := by unfold byOrd; simp
def dueAt (l : List Fg) (t : Nat) : Int := (l.getD t default).due
/-- those in order: how many are not later than x -/
theorem split_at (k : Nat → Int) (d : Int) (X : Nat → Nat) : ∀ n, (∀ s t, s < t → t < n → k (X s) ≤ k (X t)) → ∃ j, j ≤ n ∧ (∀ t, t < j → k (X t) ≤ d) ∧ ∀ t, j ≤ t → t < n → d < k (X t)
  | 0, _ => ⟨0, Nat.le_refl _, fun t h => by omega, fun t h1 h2 => by omega⟩
  | n + 1, h => by
    obtain ⟨j, h1, h2, h3⟩ := split_at k d X n (fun s t g1 g2 => h s t g1 (by omega))
    by_cases c : k (X n) ≤ d
    · refine ⟨n + 1, Nat.le_refl _, fun t ht => ?_, fun t g1 g2 => by omega⟩
      rcases Nat.lt_or_eq_of_le (show t ≤ n by omega) with g | g
      · have := h t n g (by omega); omega
      · rw [g]; exact c
    · refine ⟨j, by omega, h2, fun t g1 g2 => ?_⟩
      rcases Nat.lt_or_eq_of_le (show t ≤ n by omega) with g | g
      · exact h3 t g1 g
      · rw [g]; omega
theorem sortG_ord : ∀ n (l : List Fg), l.length = n → ∃ X, OrdB (dueAt l) l.length X ∧ sortG l = byOrd l X := by
  intro n
  induction n with
  | zero =>
    intro l hl
    have := List.eq_nil_of_length_eq_zero hl
    subst this
    exact ⟨fun t => t, ⟨fun t h => by simp at h, fun v h => by simp at h, fun s t _ h => by simp at h⟩, rfl⟩
  | succ n ih =>
    intro l hl
    obtain ⟨r, x, rfl⟩ : ∃ r x, l = r ++ [x] := by
      have hne : l ≠ [] := by rintro rfl; simp at hl
      exact ⟨l.dropLast, l.getLast hne, (List.dropLast_concat_getLast hne).symm⟩
    have hr : r.length = n := by simp at hl; exact hl
    obtain ⟨X, hX, e⟩ := ih r hr
    have k1 : ∀ t, t < r.length → dueAt (r ++ [x]) t = dueAt r t := fun t ht => by unfold dueAt; simp [List.getD, List.getElem?_append_left ht]
    have k2 : dueAt (r ++ [x]) r.length = x.due := by unfold dueAt; simp [List.getD]
    obtain ⟨j, j1, j2, j3⟩ := split_at (dueAt r) x.due X r.length (fun s t g1 g2 => by have := hX.srt s t g1 g2; unfold bf at this; omega)
    have hO := (hX.congr k1).ins j1 (fun t g1 g2 => by rw [k2, k1 _ (hX.lt t g2)]; exact j3 t g1 g2) (fun t g => by rw [k2, k1 _ (hX.lt t (by omega))]; exact j2 t g)
    have hgd : ∀ t y, t < r.length → (byOrd r X)[t]? = some y → (y.due : Int) = dueAt r (X t) := fun t y ht hy => by
      rw [byOrd_get ht (hX.lt t ht)] at hy
      unfold dueAt; simp [List.getD, hy]
    refine ⟨insB X r.length j, by rw [List.length_append]; exact hO, ?_⟩
    rw [sortG_snoc, e, insG_at (j := j) (fun t ht y hy => by
      have := hgd t y (by omega) hy; have := j2 t ht; omega) (fun t ht y hy => by
      have hlt : t < r.length := by have := (List.getElem?_eq_some_iff.1 hy).1; rwa [byOrd_len] at this
      have := hgd t y hlt hy; have := j3 t ht hlt; omega)]
    apply List.ext_getElem?
    intro t
    have hLl : ((byOrd r X).take j ++ x :: (byOrd r X).drop j).length = r.length + 1 := by simp [byOrd_len]; omega
    rcases Nat.lt_or_ge t (r.length + 1) with ht | ht
    · have hI : insB X r.length j t < (r ++ [x]).length := by rw [List.length_append]; exact hO.lt t ht
      rw [byOrd_get (l := r ++ [x]) (by rw [List.length_append]; exact ht) hI]
      unfold insB
      have hT : ((byOrd r X).take j).length = j := by rw [List.length_take, byOrd_len]; omega
      by_cases c1 : t < j
      · rw [if_pos c1, List.getElem?_append_left (by omega), List.getElem?_take_of_lt c1, byOrd_get (by omega) (hX.lt t (by omega)), List.getElem?_append_left (hX.lt t (by omega))]
      · rw [if_neg c1, List.getElem?_append_right (by omega), hT]
        by_cases c2 : t = j
        · subst c2; rw [if_pos rfl, Nat.sub_self]; simp
        · rw [if_neg c2, show t - j = (t - j - 1) + 1 by omega, List.getElem?_cons_succ, List.getElem?_drop, show j + (t - j - 1) = t - 1 by omega, byOrd_get (by omega) (hX.lt _ (by omega)), List.getElem?_append_left (hX.lt _ (by omega))]
    · rw [List.getElem?_eq_none (by omega), List.getElem?_eq_none (by rw [byOrd_len, List.length_append]; exact ht)]
/-- whatever stable order is found: it tells that list -/
theorem sortG_eq {l : List Fg} {Q : Nat → Nat} (h : OrdB (dueAt l) l.length Q) : sortG l = byOrd l Q := by
  obtain ⟨X, hX, e⟩ := sortG_ord _ l rfl
  rw [e]
  unfold byOrd
  exact List.map_congr_left fun t ht => by rw [hX.unique h t (List.mem_range.1 ht)]
theorem dueAt_at {l : List Fg} {t : Nat} {x : Fg} (h : l[t]? = some x) : dueAt l t = x.due := by unfold dueAt; simp [List.getD, h]
theorem sortG_len (l : List Fg) : (sortG l).length = l.length := by
  obtain ⟨X, hX, e⟩ := sortG_ord _ l rfl
  rw [e, byOrd_len]
/-- what is in order stays -/
theorem sortG_self {l : List Fg} (h : ∀ s t : Nat, s < t → t < l.length → dueAt l s ≤ dueAt l t) : sortG l = l := by
  rw [sortG_eq (Q := fun t => t) ⟨fun t h => h, fun v h => ⟨v, h, rfl⟩, fun s t h1 h2 => by have := h s t h1 h2; unfold bf; omega⟩]
  apply List.ext_getElem?
  intro t
  rcases Nat.lt_or_ge t l.length with ht | ht
  · rw [byOrd_get ht ht]
  · rw [List.getElem?_eq_none (by rw [byOrd_len]; exact ht), List.getElem?_eq_none ht]
theorem sortG_mem {l : List Fg} {x : Fg} : x ∈ sortG l ↔ x ∈ l := by
  have h : ∀ l r : List Fg, x ∈ l.foldl insG r ↔ x ∈ l ∨ x ∈ r := by
    intro l
    induction l with
    | nil => intro r; simp
    | cons y l ih =>
      intro r
      rw [List.foldl_cons, ih]
      have : x ∈ insG r y ↔ x = y ∨ x ∈ r := by
        unfold insG
        simp only [List.mem_append, List.mem_filter, List.mem_cons, decide_eq_true_eq]
        constructor
        · rintro (⟨h, _⟩ | h | ⟨h, _⟩)
          · exact .inr h
          · exact .inl h
          · exact .inr h
        · rintro (h | h)
          · exact .inr (.inl h)
          · rcases Nat.lt_or_ge y.due x.due with c | c
            · exact .inr (.inr ⟨h, c⟩)
            · exact .inl ⟨h, c⟩
      rw [this, List.mem_cons]
      constructor
      · rintro (h | h | h)
        · exact .inl (.inr h)
        · exact .inl (.inl h)
        · exact .inr h
      · rintro ((h | h) | h)
        · exact .inr (.inl h)
        · exact .inl h
        · exact .inr (.inr h)
  unfold sortG
  rw [h]; simp

/-- a fate -/
structure Fa where
  drop : Bool
  copies : Int
  delay : Int
/-- all that is under way: fates, flights, how many were lost -/
structure NetV where
  fa : List Fa
  fl : List Fg
  lost : Nat
def clpI (t : Int) : Nat := (max 0 (min t 1000000)).toNat
theorem clpI_le (t : Int) : clpI t ≤ 1000000 := by unfold clpI; omega
def delayN (d : Int) : Nat := (max 0 (min d 20)).toNat
def copiesN (c : Int) : Nat := 1 + (max 0 (min c 2)).toNat
def fa0 : Fa := ⟨false, 0, 0⟩
/-- so many are sent -/
def pushS : Nat → Fg → NetV → NetV
  | 0, _, s => s
  | n + 1, x, s => pushS n x (if 256 ≤ s.fl.length then { s with lost := s.lost + 1 } else { s with fl := s.fl ++ [x] })
def sendS (s : NetV) (src dst : Int) (bs : List Nat) (tick : Int) : NetV :=
  let f := s.fa.headD fa0
  let s' : NetV := { s with fa := s.fa.tail }
  if f.drop then { s' with lost := s'.lost + 1 } else pushS (copiesN f.copies) ⟨clpI tick + 1 + delayN f.delay, src, dst, bs⟩ s'
def fatesS (s : NetV) (l : List Fa) : NetV := { s with fa := s.fa ++ l.take (1000 - s.fa.length) }
def dueNow (s : NetV) (tick : Int) : List Fg := s.fl.filter fun x => decide (x.due ≤ clpI tick)
def dueLater (s : NetV) (tick : Int) : List Fg := s.fl.filter fun x => !decide (x.due ≤ clpI tick)
def deliverS (s : NetV) (tick : Int) : List Fg × NetV := (sortG (dueNow s tick), { s with fl := dueLater s tick })
theorem pushS_lost : ∀ n x (s : NetV), (pushS n x s).lost ≤ s.lost + n
  | 0, x, s => Nat.le_refl _
  | n + 1, x, s => by
    show (pushS n x _).lost ≤ _
    refine Nat.le_trans (pushS_lost n x _) ?_
    split
    · show s.lost + 1 + n ≤ _; omega
    · show s.lost + n ≤ _; omega
theorem copiesN_le (c : Int) : 1 ≤ copiesN c ∧ copiesN c ≤ 3 := by unfold copiesN; omega
theorem pushS_snoc : ∀ n x (s : NetV), pushS (n + 1) x s = (let s' := pushS n x s; if 256 ≤ s'.fl.length then { s' with lost := s'.lost + 1 } else { s' with fl := s'.fl ++ [x] })
  | 0, x, s => rfl
  | n + 1, x, s => by
    show pushS (n + 1) x _ = _
    rw [pushS_snoc n]; rfl
end Dt
