/- what is owned, by the types of the blocks; pieces of it. -/
import Derived.Test.YtkjjikjilmngdaaApp
import Derived.Laws.Slices
namespace Dt
open Go Go.RowKit
set_option linter.unusedVariables false
set_option linter.unusedSimpArgs false

theorem own_blk {w : World} {base g b : Nat} {v : Value} {n e sz : Nat} {xs : List Value} {cs : Array Value} {t : TypeId} (h : w.ownsRow base e sz v n xs) (hb : Blk w b cs t) (ht : e ≠ t) : ∀ g, v.ownBlock = some g → g ≠ b := by
  intro g hg hgb
  subst hgb
  rcases h.2 with ⟨rfl, _⟩ | ⟨g', cap, cur, rfl, hb', hh, _⟩
  · simp [Value.ownBlock] at hg
  · simp [Value.ownBlock] at hg
    subst hg
    unfold Blk at hb
    rw [hb] at hh
    simp at hh
    exact ht hh.2.symm
theorem own_own {w : World} {base base' : Nat} {v v' : Value} {n n' e e' sz sz' : Nat} {xs xs' : List Value} (h : w.ownsRow base e sz v n xs) (h' : w.ownsRow base' e' sz' v' n' xs') (ht : e ≠ e') : ∀ g, v.ownBlock = some g → v'.ownBlock ≠ some g := by
  intro g hg hg'
  rcases h'.2 with ⟨rfl, _⟩ | ⟨g', cap, cur, rfl, hb', hh, _⟩
  · simp [Value.ownBlock] at hg'
  · simp [Value.ownBlock] at hg'
    subst hg'
    exact own_blk (g := 0) h (show Blk w g' cur e' from hh) ht g' hg rfl
theorem blk_blk {w : World} {b b' : Nat} {cs cs' : Array Value} {t t' : TypeId} (h : Blk w b cs t) (h' : Blk w b' cs' t') (ht : t ≠ t') : b ≠ b' := by
  rintro rfl
  unfold Blk at h h'
  rw [h] at h'
  simp at h'
  exact ht h'.2

theorem own_notin {w : World} {base b : Nat} {v : Value} {n e sz : Nat} {xs : List Value} {cs : Array Value} {t : TypeId} (h : w.ownsRow base e sz v n xs) (hb : Blk w b cs t) (ht : t ≠ e) : b ∉ v.ownBlock.toList := fun hx => by
  simp only [Option.mem_toList] at hx
  exact own_blk (g := 0) h hb (Ne.symm ht) b hx rfl
theorem Src.fr {S : List Nat} {w w' : World} {sv : Value} {sz m : Nat} {news : List Value} (h : Src w sv sz m news) (hF : Fr S w w') (hlt : ∀ b, sv.ownBlock = some b → 0 < news.length → b < w.heap.size) (hS : ∀ b, sv.ownBlock = some b → b ∉ S) : Src w' sv sz m news := by
  obtain ⟨⟨a, c, rfl, hn, hc⟩, hl, h1⟩ := h
  refine ⟨⟨a, c, rfl, hn, fun ad had j u hu => ?_⟩, hl, h1⟩
  subst had
  have hp : 0 < news.length := by have := (List.getElem?_eq_some_iff.1 hu).1; omega
  have hb : (ad.add j).block = ad.block := by unfold Addr.add; split <;> simp_all
  rw [hF.cell (p := ad.add j) (by rw [hb]; exact hlt ad.block rfl hp) (by rw [hb]; exact hS ad.block rfl)]
  exact hc ad rfl j u hu
/-- the elements of what is owned, from j on -/
theorem own_from {w : World} {base n cap j sz : Nat} {e : TypeId} {a : Option Addr} {xs : List Value} (h : w.ownsRow base e sz (.slice a n cap) n xs) (h3 : ∀ u ∈ xs, u.oneCell' = true) (hj : j ≤ n) (hsz : 0 < sz) : Src w (sliced a j n cap sz) sz (n - j) (xs.drop (j * sz)) := by
  have hl : xs.length = n * sz := h.1
  rcases h.2 with ⟨hv, h0⟩ | ⟨g, cap', cur, hv, hb, hg, hc, hm, hs, ht⟩
  · have : a = none ∧ n = 0 ∧ cap = 0 := by simpa using hv
    obtain ⟨rfl, rfl, rfl⟩ := this
    have : j = 0 := by omega
    subst this
    have : xs = [] := List.eq_nil_of_length_eq_zero (by simpa using hl)
    subst this
    rw [Nat.zero_mul]
    exact Src.nil w sz none 0 (fun _ => rfl)
  · have : a = some ⟨g, 0, none⟩ ∧ cap = cap' := by simpa using hv
    obtain ⟨rfl, rfl⟩ := this
    have h4 := own_piece (lo := j) (hi := n) h hj (Nat.le_refl _) h3 (if cap = j then ⟨g, 0, none⟩ else ⟨g, j * sz, none⟩) (fun h => by rw [if_neg (by omega)]) (cap - j)
    have e1 : sliced (some ⟨g, 0, none⟩) j n cap sz = .slice (some (if cap = j then ⟨g, 0, none⟩ else ⟨g, j * sz, none⟩)) (n - j) (cap - j) := by
      unfold sliced
      by_cases c : cap = j
      · rw [if_pos c, if_pos c]
      · rw [if_neg c, if_neg c]
        simp [Addr.add_mid']
    rw [e1]
    have e2 : (xs.drop (j * sz)).take ((n - j) * sz) = xs.drop (j * sz) := by
      rw [List.take_of_length_le]
      rw [List.length_drop, Nat.sub_mul]; omega
    rw [e2] at h4
    exact h4
theorem exec_slc {P : Program} {o : Oper} {a : Act} {t : TypeId} {x : Operand} {lo hi : Option Operand} {x' : Value} {lo' hi' : Option Value} {v : Value} (ho : o.op = .slice t x lo hi none) (e1 : a.eval x = x') (e2 : lo.map a.eval = lo') (e3 : hi.map a.eval = hi') (h : ∀ w, (Instr.sliceAt t x' lo' hi' none).run P w = .ok v w) (w : World) : (execOp a.eval o).run P w = .ok (.value v) w := by
  subst e1 e2 e3
  unfold execOp
  simp only [ho, Sem.run_bind, Option.map_none, h w]
  rfl
theorem sliced_block {a : Option Addr} {l h m s n c b : Nat} (hb : (sliced a l h m s).ownBlock = some b) : (Value.slice a n c).ownBlock = some b := by
  cases a with
  | none => unfold sliced at hb; simp [Value.ownBlock] at hb
  | some ad =>
    unfold sliced at hb
    split at hb
    · simpa [Value.ownBlock] using hb
    · have e : (ad.add (l * s)).block = ad.block := by unfold Addr.add; split <;> simp_all
      simp [Value.ownBlock, e] at hb ⊢
      exact hb
theorem own_val {w : World} {base n sz : Nat} {e : TypeId} {v : Value} {xs : List Value} (h : w.ownsRow base e sz v n xs) : ∃ a cap, v = .slice a n cap ∧ n ≤ cap ∧ cap ≤ maxLen := by
  obtain ⟨a, cap, e, h1, h2, _⟩ := own_any h
  exact ⟨a, cap, e, h1, h2⟩
end Dt
