/- pieces of a slice of the call's own; a slice operation told ahead. -/
import Derived.Test.YtckodnogjedmnaaApp
import Derived.Laws.Slices
namespace Dt
open Go Go.RowKit
set_option linter.unusedVariables false
set_option linter.unusedSimpArgs false
theorem exec_slice {P : Program} {o : Oper} {a : Act} {t : TypeId} {x : Operand} {lo hi : Option Operand} {x' : Value} {lo' hi' : Option Value} {v : Value} (ho : o.op = .slice t x lo hi none) (e1 : a.eval x = x') (e2 : lo.map a.eval = lo') (e3 : hi.map a.eval = hi') (h : ∀ w, (Instr.sliceAt t x' lo' hi' none).run P w = .ok v w) (w : World) : (execOp a.eval o).run P w = .ok (.value v) w := by
  subst e1 e2 e3
  unfold execOp
  simp only [ho, Sem.run_bind, Option.map_none, h w]
  rfl
theorem own_lo {w : World} {base n cap j : Nat} {e : TypeId} {a : Option Addr} {xs : List Value} (h : w.ownsRow base e 1 (.slice a n cap) n xs) (h3 : ∀ u ∈ xs, u.oneCell' = true) (hj : j ≤ n) : Src w (sliced a 0 j cap 1) 1 j (xs.take j) := by
  rcases h.2 with ⟨hv, h0⟩ | ⟨g, cap', cur, hv, hb, hg, hc, hm, hs, ht⟩
  · have : a = none ∧ n = 0 ∧ cap = 0 := by simpa using hv
    obtain ⟨rfl, rfl, rfl⟩ := this
    have : j = 0 := by omega
    subst this
    exact Src.nil w 1 none 0 (fun _ => rfl)
  · have : a = some ⟨g, 0, none⟩ ∧ cap = cap' := by simpa using hv
    obtain ⟨rfl, rfl⟩ := this
    have h4 := own_piece (lo := 0) (hi := j) h (Nat.zero_le _) hj h3 (if cap = 0 then ⟨g, 0, none⟩ else ⟨g, 0 * 1, none⟩) (fun _ => by split <;> rfl) cap
    have e1 : sliced (some ⟨g, 0, none⟩) 0 j cap 1 = .slice (some (if cap = 0 then ⟨g, 0, none⟩ else ⟨g, 0 * 1, none⟩)) (j - 0) cap := by
      unfold sliced
      by_cases c : cap = 0
      · rw [if_pos c, if_pos c]; rfl
      · rw [if_neg c, if_neg c]; rfl
    rw [e1]
    simpa using h4
theorem own_hi {w : World} {base n cap j : Nat} {e : TypeId} {a : Option Addr} {xs : List Value} (h : w.ownsRow base e 1 (.slice a n cap) n xs) (h3 : ∀ u ∈ xs, u.oneCell' = true) (hj : j ≤ n) : Src w (sliced a j n cap 1) 1 (n - j) (xs.drop j) := by
  have hl : xs.length = n * 1 := h.1
  rcases h.2 with ⟨hv, h0⟩ | ⟨g, cap', cur, hv, hb, hg, hc, hm, hs, ht⟩
  · have : a = none ∧ n = 0 ∧ cap = 0 := by simpa using hv
    obtain ⟨rfl, rfl, rfl⟩ := this
    have : j = 0 := by omega
    subst this
    have : xs = [] := List.eq_nil_of_length_eq_zero (by simpa using hl)
    subst this
    exact Src.nil w 1 none 0 (fun _ => rfl)
  · have : a = some ⟨g, 0, none⟩ ∧ cap = cap' := by simpa using hv
    obtain ⟨rfl, rfl⟩ := this
    have h4 := own_piece (lo := j) (hi := n) h hj (Nat.le_refl _) h3 (if cap = j then ⟨g, 0, none⟩ else ⟨g, j * 1, none⟩) (fun h => by rw [if_neg (by omega)]) (cap - j)
    have e1 : sliced (some ⟨g, 0, none⟩) j n cap 1 = .slice (some (if cap = j then ⟨g, 0, none⟩ else ⟨g, j * 1, none⟩)) (n - j) (cap - j) := by
      unfold sliced
      by_cases c : cap = j
      · rw [if_pos c, if_pos c]
      · rw [if_neg c, if_neg c]
        simp [Addr.add_mid']
    rw [e1]
    have e2 : (xs.drop (j * 1)).take ((n - j) * 1) = xs.drop j := by
      rw [Nat.mul_one, Nat.mul_one, List.take_of_length_le (by rw [List.length_drop]; omega)]
    rw [e2] at h4
    exact h4
end Dt
