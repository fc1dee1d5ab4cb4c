/- chapter 22: how many rows there may be; rows apart from some blocks. -/
import Derived.Test.YtckodnogjedmnaaJt6
namespace Dt
open Go Go.RowKit Go.WideShapes
set_option linter.unusedVariables false
set_option linter.unusedSimpArgs false

/-- keys that are numbers within n places -/
theorem keys_le {H : Type} (a : Int) : ∀ (n : Nat) (es : List (Lit × DataW H)), es.Pairwise (fun p q => p.1 ≠ q.1) → (∀ p ∈ es, ∃ x : Int, p.1 = .int .i64 x ∧ a ≤ x ∧ x < a + n) → es.length ≤ n
  | 0, es, _, h => by
    cases es with
    | nil => simp
    | cons p r => obtain ⟨x, -, h1, h2⟩ := h p (by simp); omega
  | n + 1, es, hp, h => by
    have h1 := Maps.length_strike (k := .int .i64 (a + n)) es hp
    have h2 := keys_le a n (es.filter fun p => !p.1.sameKey (.int .i64 (a + n))) (hp.filter _) (fun p hpm => by
      obtain ⟨hm, hne⟩ := List.mem_filter.1 hpm
      obtain ⟨x, e, h3, h4⟩ := h p hm
      refine ⟨x, e, h3, ?_⟩
      rcases Int.lt_or_eq_of_le (show x ≤ a + n by omega) with h5 | h5
      · exact h5
      · rw [e, h5] at hne
        rw [WideAt.sameKey_self (show WideAt.IsKeyLit (.int .i64 (a + n)) from trivial)] at hne
        simp at hne)
    split at h1 <;> omega
section
variable {P : Program} {k : TypeId} {w : World} {b c : Nat} {f : Int → Option Value}
theorem MapW.count_le (h : MapW P k w b c f) (hk : P.underlying k = some (.int .i64)) (a : Int) (n : Nat) (hr : ∀ x, inK x → (f x).isSome = true → a ≤ x ∧ x < a + n) : c ≤ n := by
  obtain ⟨D, h1, h2, h3⟩ := h.ex
  have ht := h1.tidy (Maps.int_keyed hk)
  obtain ⟨es, clock, hb, F, hs, rfl⟩ := h1
  have hkeys := Maps.fit_keys F
  obtain ⟨es', e', hp⟩ := ht
  injection e' with e'
  rw [← h2]
  show (_ : List _).length ≤ n
  refine keys_le a n _ (by rw [e']; exact hp) (fun p hpm => ?_)
  have hpm' : p ∈ es.toList.map (Go.WideElems.rg P k RV) := (sorted_perm _).mem_iff.1 hpm
  obtain ⟨v, hv⟩ := hkeys p hpm'
  have hv2 : mapKey P k v = some p.1 := by
    rw [← hv]; simp [keyOf, hk]
  obtain ⟨x, hx, hwf⟩ : ∃ x : Int, p.1 = .int .i64 x ∧ inK x := by
    unfold mapKey at hv2
    rw [hk] at hv2
    cases v <;> simp at hv2
    obtain ⟨⟨h4, h5⟩, h6⟩ := hv2
    exact ⟨_, h6.symm, h5⟩
  have hh : (f x).isSome = true := by
    rw [← (h3 x hwf).1, Maps.has_eq]
    refine List.any_eq_true.2 ⟨p, hpm, ?_⟩
    rw [hx]
    exact WideAt.sameKey_self (show WideAt.IsKeyLit (.int .i64 x) from trivial)
  obtain ⟨h7, h8⟩ := hr x hwf hh
  exact ⟨x, hx, h7, h8⟩
end
/-- a slice value that reads as n cells, in a block that is none of some -/
def RA (w : World) (av : List Nat) (v : Value) (n : Nat) (R : Nat → C4) : Prop := ∃ a cap, v = .slice a n cap ∧ n ≤ cap ∧ cap ≤ maxLen ∧ (a = none → cap = 0) ∧ (0 < n → ∃ b off, a = some ⟨b, off, none⟩ ∧ b ∉ av ∧ b < w.heap.size ∧ ∀ t j u, t < n → j < 4 → (c4 (R t))[j]? = some u → w.cell? ⟨b, off + (t * 4 + j), none⟩ = some u)
theorem RA.fr {S : List Nat} {w w' : World} {av : List Nat} {n : Nat} {v : Value} {R : Nat → C4} (h : RA w av v n R) (hF : Fr S w w') (hS : ∀ x ∈ S, x ∈ av) : RA w' av v n R := by
  obtain ⟨a, cap, e, h0, h1, h2, h3⟩ := h
  refine ⟨a, cap, e, h0, h1, h2, fun hn => ?_⟩
  obtain ⟨b, off, e2, hb, hl, h4⟩ := h3 hn
  exact ⟨b, off, e2, hb, Nat.lt_of_lt_of_le hl hF.size, fun t j u ht hj hu => (hF.cell (p := ⟨b, off + (t * 4 + j), none⟩) hl (fun hx => hb (hS b hx))).trans (h4 t j u ht hj hu)⟩
theorem RA.rs {w : World} {av : List Nat} {n : Nat} {v : Value} {R : Nat → C4} (h : RA w av v n R) : RS w 0 v n R := by
  obtain ⟨a, cap, e, h0, h1, h2, h3⟩ := h
  refine ⟨a, cap, e, h0, h1, h2, fun hn => ?_⟩
  obtain ⟨b, off, e2, hb, hl, h4⟩ := h3 hn
  exact ⟨b, off, e2, Nat.zero_le _, hl, h4⟩
/-- what came in lies apart from what was made -/
theorem RA.came {w w' : World} {av : List Nat} {n : Nat} {v : Value} {R : Nat → C4} (h : RS w 0 v n R) (hF : Fr [] w w') (hav : ∀ x ∈ av, w.heap.size ≤ x) : RA w' av v n R := by
  obtain ⟨a, cap, e, h0, h1, h2, h3⟩ := h
  refine ⟨a, cap, e, h0, h1, h2, fun hn => ?_⟩
  obtain ⟨b, off, e2, hb, hl, h4⟩ := h3 hn
  exact ⟨b, off, e2, (fun hx => by have := hav b hx; omega), Nat.lt_of_lt_of_le hl hF.size, fun t j u ht hj hu => (hF.cell (p := ⟨b, off + (t * 4 + j), none⟩) hl (by simp)).trans (h4 t j u ht hj hu)⟩
theorem RA.made {w : World} {base : Nat} {av : List Nat} {n : Nat} {v : Value} {R : Nat → C4} (h : RS w base v n R) (hav : ∀ x ∈ av, x < base) : RA w av v n R := by
  obtain ⟨a, cap, e, h0, h1, h2, h3⟩ := h
  refine ⟨a, cap, e, h0, h1, h2, fun hn => ?_⟩
  obtain ⟨b, off, e2, hb, hl, h4⟩ := h3 hn
  exact ⟨b, off, e2, (fun hx => by have := hav b hx; omega), hl, h4⟩
theorem RA.nil (w : World) (av : List Nat) (R : Nat → C4) : RA w av (.slice none 0 0) 0 R := ⟨none, 0, rfl, Nat.le_refl _, by decide, fun _ => rfl, fun h => by omega⟩
/-- a row that is there, or none, apart from some blocks -/
def RowA (w : World) (av : List Nat) (p : Nat) : Option (Nat → C4) → Option Value → Prop
  | none, o => o = none
  | some R, o => ∃ v, o = some v ∧ RA w av v p R
theorem RowA.fr {S : List Nat} {w w' : World} {av : List Nat} {p : Nat} {r : Option (Nat → C4)} {o : Option Value} (h : RowA w av p r o) (hF : Fr S w w') (hS : ∀ x ∈ S, x ∈ av) : RowA w' av p r o := by
  cases r with
  | none => exact h
  | some R => obtain ⟨v, e, hv⟩ := h; exact ⟨v, e, hv.fr hF hS⟩
theorem RowA.some_iff {w : World} {av : List Nat} {p : Nat} {r : Option (Nat → C4)} {o : Option Value} (h : RowA w av p r o) : o.isSome = r.isSome := by
  cases r with
  | none => rw [show o = none from h]; rfl
  | some R => obtain ⟨v, e, hv⟩ := h; rw [e]; rfl
end Dt
