/- Rows of cells (four values an element). -/
import Derived.Test.YtckodnogjedmnaaApp
import Derived.Test.YtckodnogjedmnaaArr
namespace Dt
open Go Go.RowKit
set_option linter.unusedVariables false
set_option linter.unusedSimpArgs false

/-- a cell of a row: is it real, its buttons, its stick -/
abbrev C4 := Bool × Int × Int × Int
def c0 : C4 := (false, 0, 0, 0)
def c4 (c : C4) : List Value := [.bool c.1, .int .i64 c.2.1, .int .i64 c.2.2.1, .int .i64 c.2.2.2]
/-- the cells of n of them -/
def rc (R : Nat → C4) (n : Nat) : List Value := (List.range n).flatMap fun t => c4 (R t)
theorem rc_succ (R : Nat → C4) (n : Nat) : rc R (n + 1) = rc R n ++ c4 (R n) := by unfold rc; rw [List.range_succ, List.flatMap_append]; simp
theorem rc_len (R : Nat → C4) : ∀ n, (rc R n).length = n * 4
  | 0 => rfl
  | n + 1 => by rw [rc_succ, List.length_append, rc_len R n]; simp [c4]; omega
theorem rc_get (R : Nat → C4) {j : Nat} (hj : j < 4) : ∀ {n t : Nat}, t < n → (rc R n)[t * 4 + j]? = (c4 (R t))[j]?
  | 0, _, h => by omega
  | n + 1, t, h => by
    rw [rc_succ]
    rcases Nat.lt_or_ge t n with h1 | h1
    · rw [List.getElem?_append_left (by rw [rc_len]; omega)]; exact rc_get R hj h1
    · have : t = n := by omega
      subst this
      rw [List.getElem?_append_right (by rw [rc_len]; omega), rc_len]
      congr 1; omega
theorem rc_one (R : Nat → C4) (n : Nat) : ∀ u ∈ rc R n, u.oneCell' = true := fun u hu => by
  unfold rc at hu
  obtain ⟨t, -, h⟩ := List.mem_flatMap.1 hu
  unfold c4 at h
  simp at h
  rcases h with rfl | rfl | rfl | rfl <;> rfl
theorem rc_congr {R Q : Nat → C4} {n : Nat} (h : ∀ t, t < n → R t = Q t) : rc R n = rc Q n := by
  unfold rc
  rw [List.flatMap_def, List.flatMap_def]
  congr 1
  exact List.map_congr_left fun t ht => by rw [h t (List.mem_range.1 ht)]
/-- block g holds n cells, whole -/
def RB (w : World) (T g : Nat) (R : Nat → C4) (n : Nat) : Prop := Blk w g (rc R n).toArray T
theorem RB.cell {w : World} {T g n t j : Nat} {R : Nat → C4} {v : Value} (h : RB w T g R n) (ht : t < n) (hj : j < 4) (hv : (c4 (R t))[j]? = some v) : w.cell? ⟨g, t * 4 + j, none⟩ = some v :=
  Blk.cell h (by simpa using (rc_get R hj ht).trans hv)
theorem RB.set {w : World} {T g n i : Nat} {R : Nat → C4} (h : RB w T g R n) (hi : i < n) (c : C4) : RB (w.setCells g (i * 4) (c4 c)) T g (fun t => if t = i then c else R t) n := by
  obtain ⟨us, h1, h2, h3⟩ := Blk.setCells (c4 c) (i * 4) w _ h
  refine h1.ext (by rw [h2]; simp [rc_len]) (fun k hk => ?_)
  have hs : us.size = n * 4 := by rw [h2]; simp [rc_len]
  rw [h3 k (by simp [rc_len]; omega)]
  obtain ⟨t, j, hj, rfl⟩ : ∃ t j, j < 4 ∧ k = t * 4 + j := ⟨k / 4, k % 4, by omega, by omega⟩
  have ht : t < n := by omega
  have e1 : ((rc (fun t => if t = i then c else R t) n).toArray)[t * 4 + j]? = (c4 (if t = i then c else R t))[j]? := by
    simpa using rc_get (fun t => if t = i then c else R t) hj ht
  rw [e1]
  by_cases e : t = i
  · subst e
    rw [if_pos (by simp [c4]; omega), if_pos rfl]; congr 1; omega
  · rw [if_neg (by simp [c4]; omega), if_neg e]
    simpa using rc_get R hj ht
theorem RB.congr {w : World} {T g n : Nat} {R Q : Nat → C4} (h : RB w T g R n) (e : ∀ t, t < n → Q t = R t) : RB w T g Q n := by
  unfold RB; rw [rc_congr e]; exact h
theorem RB.fr {S : List Nat} {w w' : World} {T g n : Nat} {R : Nat → C4} (h : RB w T g R n) (hF : Fr S w w') (hg : g ∉ S) : RB w' T g R n := hF.blk h hg
theorem RB.new (w : World) (T n : Nat) : RB (w.alloc (.cells (madeCells #[.bool false, .int .i64 0, .int .i64 0, .int .i64 0] (n * 4)) T)) T w.heap.size (fun _ => c0) n := by
  refine (Blk.new w _ T).ext ?_ (fun k hk => ?_)
  · simp [madeCells, rc_len]
  · rw [size_madeCells] at hk
    obtain ⟨t, j, hj, rfl⟩ : ∃ t j, j < 4 ∧ k = t * 4 + j := ⟨k / 4, k % 4, by omega, by omega⟩
    have e1 : ((rc (fun _ => c0) n).toArray)[t * 4 + j]? = (c4 c0)[j]? := by
      simpa using rc_get (fun _ => c0) hj (show t < n by omega)
    rw [e1]
    unfold madeCells
    have e2 : (t * 4 + j) % 4 = j := by omega
    rw [Array.getElem?_map, Array.getElem?_range, if_pos hk]
    simp only [Option.map_some, List.size_toArray, List.length_cons, List.length_nil, e2]
    rcases j with _ | _ | _ | _ | j
    · rfl
    · rfl
    · rfl
    · rfl
    · omega
/-- a slice value that reads as n cells, in a block from base on (the block may be longer) -/
def RS (w : World) (base : Nat) (v : Value) (n : Nat) (R : Nat → C4) : Prop := ∃ a cap, v = .slice a n cap ∧ n ≤ cap ∧ cap ≤ maxLen ∧ (a = none → cap = 0) ∧ (0 < n → ∃ b off, a = some ⟨b, off, none⟩ ∧ base ≤ b ∧ b < w.heap.size ∧ ∀ t j u, t < n → j < 4 → (c4 (R t))[j]? = some u → w.cell? ⟨b, off + (t * 4 + j), none⟩ = some u)
theorem RS.fr {S : List Nat} {w w' : World} {base n : Nat} {v : Value} {R : Nat → C4} (h : RS w base v n R) (hF : Fr S w w') (hS : ∀ x ∈ S, x < base) : RS w' base v n R := by
  obtain ⟨a, cap, e, h0, h1, h2, h3⟩ := h
  refine ⟨a, cap, e, h0, h1, h2, fun hn => ?_⟩
  obtain ⟨b, off, e2, hb, hl, h4⟩ := h3 hn
  have hbS : b ∉ S := fun hx => by have := hS b hx; omega
  exact ⟨b, off, e2, hb, Nat.lt_of_lt_of_le hl hF.size, fun t j u ht hj hu => (hF.cell (p := ⟨b, off + (t * 4 + j), none⟩) hl hbS).trans (h4 t j u ht hj hu)⟩
theorem RS.weaken {w : World} {base base' n : Nat} {v : Value} {R : Nat → C4} (h : RS w base v n R) (hb : base' ≤ base) : RS w base' v n R := by
  obtain ⟨a, cap, e, h0, h1, h2, h3⟩ := h
  refine ⟨a, cap, e, h0, h1, h2, fun hn => ?_⟩
  obtain ⟨b, off, e2, hb2, hl, h4⟩ := h3 hn
  exact ⟨b, off, e2, by omega, hl, h4⟩
theorem RS.congr {w : World} {base n : Nat} {v : Value} {R Q : Nat → C4} (h : RS w base v n R) (e : ∀ t, t < n → Q t = R t) : RS w base v n Q := by
  obtain ⟨a, cap, e1, h0, h1, h2, h3⟩ := h
  refine ⟨a, cap, e1, h0, h1, h2, fun hn => ?_⟩
  obtain ⟨b, off, e2, hb2, hl, h4⟩ := h3 hn
  exact ⟨b, off, e2, hb2, hl, fun t j u ht hj hu => h4 t j u ht hj (by rw [← e t ht]; exact hu)⟩
theorem RS.nil (w : World) (base : Nat) (R : Nat → C4) : RS w base (.slice none 0 0) 0 R := ⟨none, 0, rfl, Nat.le_refl _, by decide, fun _ => rfl, fun h => by omega⟩
theorem RS.of_rb {w : World} {T g n base : Nat} {R : Nat → C4} (h : RB w T g R n) (hb : base ≤ g) {cap : Nat} (hc : n ≤ cap) (hm : cap ≤ maxLen) : RS w base (.slice (some ⟨g, 0, none⟩) n cap) n R :=
  ⟨_, cap, rfl, hc, hm, (fun h => by cases h), fun _ => ⟨g, 0, rfl, hb, Blk.lt h, fun t j u ht hj hu => by rw [Nat.zero_add]; exact h.cell ht hj hu⟩⟩
theorem RS.of_own {w : World} {base n : Nat} {e : TypeId} {v : Value} {R : Nat → C4} (h : w.ownsRow base e 4 v n (rc R n)) : RS w base v n R := by
  rcases h.2 with ⟨rfl, rfl⟩ | ⟨g, cap, cur, rfl, hb, hg, h1, h2, _⟩
  · exact RS.nil w base R
  · refine ⟨_, cap, rfl, h1, h2, (fun h => by cases h), fun hn => ⟨g, 0, rfl, hb, lt_of_block hg, fun t j u ht hj hu => ?_⟩⟩
    rw [Nat.zero_add, h.cellAt _ (by omega)]
    exact (rc_get R hj ht).trans hu
theorem RS.src {w : World} {base n : Nat} {v : Value} {R : Nat → C4} (h : RS w base v n R) : Src w v 4 n (rc R n) := by
  obtain ⟨a, cap, rfl, h0, h1, h2, h3⟩ := h
  refine ⟨⟨a, cap, rfl, fun e => ?_, fun ad had k u hu => ?_⟩, rc_len R n, rc_one R n⟩
  · have := h2 e; omega
  · have hk : k < n * 4 := by have := (List.getElem?_eq_some_iff.1 hu).1; rw [rc_len] at this; exact this
    obtain ⟨b, off, rfl, hb, hl, h4⟩ := h3 (by omega)
    cases had
    obtain ⟨t, j, hj, rfl⟩ : ∃ t j, j < 4 ∧ k = t * 4 + j := ⟨k / 4, k % 4, by omega, by omega⟩
    rw [Addr.add_mid']
    exact h4 t j u (by omega) hj (by rw [← rc_get R hj (show t < n by omega)]; exact hu)
theorem RS.lt {w : World} {base n : Nat} {v : Value} {R : Nat → C4} (h : RS w base v n R) : n ≤ maxLen := by
  obtain ⟨a, cap, rfl, h0, h1, h2, h3⟩ := h; omega
end Dt
