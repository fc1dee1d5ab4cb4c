/- rows of flights put together; the first elements of what is owned. -/
import Derived.Test.YtkjjikjilmngdaaNtX
namespace Dt
open Go Go.RowKit
set_option linter.unusedVariables false
/-- the first elements of what is owned -/
theorem own_to {w : World} {base n cap j sz : Nat} {e : TypeId} {a : Option Addr} {xs : List Value} (h : w.ownsRow base e sz (.slice a n cap) n xs) (h3 : ∀ u ∈ xs, u.oneCell' = true) (hj : j ≤ n) : Src w (sliced a 0 j cap sz) sz j (xs.take (j * sz)) := by
  rcases h.2 with ⟨hv, h0⟩ | ⟨g, cap', cur, hv, hb, hg, hc, hm, hs, ht⟩
  · have : a = none ∧ n = 0 ∧ cap = 0 := by simpa using hv
    obtain ⟨rfl, rfl, rfl⟩ := this
    have : j = 0 := by omega
    subst this
    rw [Nat.zero_mul, List.take_zero]
    exact Src.nil w sz none 0 (fun _ => rfl)
  · have : a = some ⟨g, 0, none⟩ ∧ cap = cap' := by simpa using hv
    obtain ⟨rfl, rfl⟩ := this
    have h4 := own_piece (lo := 0) (hi := j) h (Nat.zero_le _) hj h3 (if cap = 0 then ⟨g, 0, none⟩ else ⟨g, 0 * sz, none⟩) (fun _ => by split <;> first | omega | simp) cap
    have e1 : sliced (some ⟨g, 0, none⟩) 0 j cap sz = .slice (some (if cap = 0 then ⟨g, 0, none⟩ else ⟨g, 0 * sz, none⟩)) (j - 0) cap := by
      unfold sliced
      by_cases c : cap = 0
      · rw [if_pos c, if_pos c]; rfl
      · rw [if_neg c, if_neg c]; simp [Addr.add_mid']
    rw [e1]
    simpa using h4
end Dt
namespace Go.Proofs.Ytkjjikjilmngdaa.Nt
open Go.RowKit Dt Go.Proofs.Ytkjjikjilmngdaa.Hd
theorem infDgR : (Try.prog.info? 96).map (fun i => (i.zero, i.size, i.bytes)) = some (some (.agg #[.int .i64 0, .int .i64 0, .slice none 0 0, .int .i64 0, .int .i64 0]), 5, 56) := by kernel_rfl
theorem FlOk.app {w : World} {V V' : List FgV} {l l' : List Fg} (h : FlOk w V l) (h' : FlOk w V' l') : FlOk w (V ++ V') (l ++ l') := by
  refine ⟨by simp [h.1, h'.1], fun t u y h1 h2 => ?_⟩
  rcases Nat.lt_or_ge t V.length with ht | ht
  · rw [List.getElem?_append_left ht] at h1
    rw [List.getElem?_append_left (by rw [← h.1]; exact ht)] at h2
    exact h.2 t u y h1 h2
  · rw [List.getElem?_append_right ht] at h1
    rw [List.getElem?_append_right (by rw [← h.1]; exact ht), ← h.1] at h2
    exact h'.2 _ u y h1 h2
theorem FlOk.take {w : World} {V : List FgV} {l : List Fg} (h : FlOk w V l) (k : Nat) : FlOk w (V.take k) (l.take k) := by
  refine ⟨by rw [List.length_take, List.length_take, h.1], fun t u y h1 h2 => ?_⟩
  rw [List.getElem?_take] at h1 h2
  split at h1
  · rename_i c; rw [if_pos c] at h2; exact h.2 t u y h1 h2
  · cases h1
theorem FlOk.drop {w : World} {V : List FgV} {l : List Fg} (h : FlOk w V l) (k : Nat) : FlOk w (V.drop k) (l.drop k) := by
  refine ⟨by rw [List.length_drop, List.length_drop, h.1], fun t u y h1 h2 => ?_⟩
  rw [List.getElem?_drop] at h1 h2
  exact h.2 _ u y h1 h2
/-- one is put in -/
theorem FlOk.put {w : World} {V : List RgV} {l : List Fg} {v : RgV} {x : Fg} (h : FlOk w (V.map RgV.v) l) (hx : FgOk w v.v x) (k : Nat) : FlOk w ((V.take k ++ v :: V.drop k).map RgV.v) (l.take k ++ x :: l.drop k) := by
  rw [List.map_append, List.map_cons, List.map_take, List.map_drop]
  have h1 : FlOk w [v.v] [x] := (FlOk.nil w).snoc hx
  exact (h.take k).app (h1.app (h.drop k))
theorem NosOk.snoc {V : List RgV} {no : Nat} (h : NosOk V no) (v : FgV) : NosOk (V ++ [⟨v, no⟩]) (no + 1) := by
  refine ⟨List.pairwise_append.2 ⟨h.1, List.pairwise_singleton _ _, fun x hx y hy => ?_⟩, fun x hx => ?_⟩
  · simp at hy; subst hy; exact h.2 x hx
  · rcases List.mem_append.1 hx with hx | hx
    · have := h.2 x hx; omega
    · simp at hx; subst hx; show (no : Int) < _; omega
theorem rgC_take (V : List RgV) (k : Nat) : (rgC V).take (k * 5) = rgC (V.take k) := by
  rcases Nat.lt_or_ge k V.length with hk | hk
  · have h : rgC V = rgC (V.take k) ++ rgC (V.drop k) := by rw [← rgC_app, List.take_append_drop]
    rw [h, List.take_append_of_le_length (by rw [rgC_len, List.length_take]; omega), List.take_of_length_le (by rw [rgC_len, List.length_take]; omega)]
  · rw [List.take_of_length_le (by rw [rgC_len]; omega), List.take_of_length_le hk]
theorem rgC_drop (V : List RgV) (k : Nat) : (rgC V).drop (k * 5) = rgC (V.drop k) := by
  rcases Nat.lt_or_ge k V.length with hk | hk
  · have h : rgC V = rgC (V.take k) ++ rgC (V.drop k) := by rw [← rgC_app, List.take_append_drop]
    conv => lhs; rw [h]
    rw [List.drop_append_of_le_length (by rw [rgC_len, List.length_take]; omega), List.drop_of_length_le (by rw [rgC_len, List.length_take]; omega), List.nil_append]
  · rw [List.drop_of_length_le (by rw [rgC_len]; omega), List.drop_of_length_le hk]; rfl
end Go.Proofs.Ytkjjikjilmngdaa.Nt
