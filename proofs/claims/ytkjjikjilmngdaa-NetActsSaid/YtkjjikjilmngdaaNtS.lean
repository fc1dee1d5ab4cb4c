/- chapter 24: the reference's net in memory. -/
import Derived.Test.YtkjjikjilmngdaaNtK
import Derived.Test.YtkjjikjilmngdaaSlNa
namespace Go.Proofs.Ytkjjikjilmngdaa.Nt
open Go.RowKit Dt Go.Proofs.Ytkjjikjilmngdaa.Hd
set_option linter.unusedVariables false
set_option linter.unusedSimpArgs false

/-- fates, at any place of a block -/
def FaS (w : World) (base : Nat) (v : Value) (l : List Fa) : Prop :=
  ∃ a c, v = .slice a l.length c ∧ l.length ≤ c ∧ c ≤ maxLen ∧ (a = none → c = 0) ∧
    ∀ ad, a = some ad → ∃ g o cur, ad = ⟨g, o, none⟩ ∧ base ≤ g ∧ Blk w g cur 98 ∧ ∀ j u, (faC l)[j]? = some u → cur[o + j]? = some u
section
variable {w w' : World} {base : Nat} {v : Value} {l : List Fa}
theorem FaS.src (h : FaS w base v l) : Src w v 3 l.length (faC l) := by
  obtain ⟨a, c, rfl, h1, h2, h3, h4⟩ := h
  refine ⟨⟨a, c, rfl, fun e => ⟨by have := h3 e; omega, h3 e⟩, fun ad had j u hu => ?_⟩, faC_len l, faC_one l⟩
  obtain ⟨g, o, cur, rfl, hb, hB, hc⟩ := h4 ad had
  rw [Dt.Addr.add_mid']
  exact Blk.cell hB (hc j u hu)
theorem FaS.fr {S : List Nat} (h : FaS w base v l) (hF : Fr S w w') (hS : ∀ g, v.ownBlock = some g → g ∉ S) : FaS w' base v l := by
  obtain ⟨a, c, rfl, h1, h2, h3, h4⟩ := h
  refine ⟨a, c, rfl, h1, h2, h3, fun ad had => ?_⟩
  obtain ⟨g, o, cur, rfl, hb, hB, hc⟩ := h4 ad had
  exact ⟨g, o, cur, rfl, hb, hF.blk hB (hS g (by rw [had]; rfl)), hc⟩
theorem FaS.blk {g : Nat} (h : FaS w base v l) (hg : v.ownBlock = some g) : base ≤ g ∧ ∃ cur, Blk w g cur 98 := by
  obtain ⟨a, c, rfl, h1, h2, h3, h4⟩ := h
  cases a with
  | none => simp [Value.ownBlock] at hg
  | some ad =>
    obtain ⟨g', o, cur, rfl, hb, hB, hc⟩ := h4 ad rfl
    simp [Value.ownBlock] at hg
    subst hg
    exact ⟨hb, cur, hB⟩
theorem FaS.val (h : FaS w base v l) : ∃ a c, v = .slice a l.length c ∧ l.length ≤ c ∧ c ≤ maxLen := by
  obtain ⟨a, c, rfl, h1, h2, -⟩ := h; exact ⟨a, c, rfl, h1, h2⟩
theorem FaS.nil (w : World) (base : Nat) : FaS w base (.slice none 0 0) [] := ⟨none, 0, rfl, Nat.le_refl _, by decide, fun _ => rfl, fun ad h => by cases h⟩
/-- the first of what is the call's own -/
theorem FaS.of_take {n k : Nat} (h : w.ownsRow base 98 3 v n (faC l)) (hl : l.length = n) (hk : k ≤ n) : ∃ a c, v = .slice a n c ∧ n ≤ c ∧ c ≤ maxLen ∧ FaS w base (sliced a 0 k c 3) (l.take k) := by
  have hkl : (l.take k).length = k := by rw [List.length_take]; omega
  rcases h.2 with ⟨rfl, h0⟩ | ⟨g, cap, cur, rfl, hb, hg, hc, hm, hs, ht⟩
  · subst h0
    obtain rfl : k = 0 := by omega
    exact ⟨none, 0, rfl, Nat.le_refl _, by decide, by rw [List.take_zero]; exact FaS.nil w base⟩
  · refine ⟨_, cap, rfl, hc, hm, some ⟨g, 0, none⟩, cap, ?_, by omega, hm, fun h => (by cases h), fun ad had => ?_⟩
    · unfold sliced
      rw [hkl]
      split <;> simp [Dt.Addr.add_mid']
    · cases had
      refine ⟨g, 0, cur, rfl, hb, hg, fun j u hu => ?_⟩
      have e : faC (l.take k) = (faC l).take (k * 3) := by rw [faC_take]
      rw [e, ← ht, List.take_take, List.getElem?_take] at hu
      split at hu
      · rw [Nat.zero_add]; simpa using hu
      · cases hu
/-- all but the first -/
theorem FaS.tail {f : Fa} {a : Option Addr} {n c : Nat} (h : FaS w base (.slice a n c) (f :: l)) : n = l.length + 1 ∧ FaS w base (sliced a 1 n c 3) l ∧ ∃ g o, a = some ⟨g, o, none⟩ ∧ w.cell? ⟨g, o, none⟩ = some (.bool f.drop) ∧ w.cell? ⟨g, o + 1, none⟩ = some (.int .i64 f.copies) ∧ w.cell? ⟨g, o + 2, none⟩ = some (.int .i64 f.delay) := by
  obtain ⟨a', c', e, h1, h2, h3, h4⟩ := h
  simp only [Value.slice.injEq, List.length_cons] at e h1
  obtain ⟨rfl, rfl, rfl⟩ := e
  cases a with
  | none => have := h3 rfl; omega
  | some ad =>
    obtain ⟨g, o, cur, rfl, hb, hB, hc⟩ := h4 ad rfl
    have hcs : ∀ j u, (faC l)[j]? = some u → cur[o + 3 + j]? = some u := fun j u hu => by
      have := hc (3 + j) u (by rw [faC_cons, List.getElem?_append_right (by simp)]; simpa using hu)
      rw [← Nat.add_assoc] at this; exact this
    refine ⟨rfl, ?_, g, o, rfl, ?_, ?_, ?_⟩
    · unfold sliced
      by_cases hc1 : c = 1
      · rw [if_pos hc1]
        have hl0 : l = [] := List.eq_nil_of_length_eq_zero (by omega)
        subst hl0
        exact ⟨_, _, rfl, by simp, by omega, fun h => (by cases h), fun ad had => by cases had; exact ⟨g, o, cur, rfl, hb, hB, fun j u hu => by simp [faC] at hu⟩⟩
      · rw [if_neg hc1]
        refine ⟨some ⟨g, o + 3, none⟩, c - 1, ?_, by omega, by omega, fun h => (by cases h), fun ad had => ?_⟩
        · simp [Dt.Addr.add_mid']
        · cases had; exact ⟨g, o + 3, cur, rfl, hb, hB, hcs⟩
    · have := hc 0 (.bool f.drop) (by rw [faC_cons]; rfl); exact Blk.cell hB (by simpa using this)
    · have := hc 1 (.int .i64 f.copies) (by rw [faC_cons]; rfl); exact Blk.cell hB this
    · have := hc 2 (.int .i64 f.delay) (by rw [faC_cons]; rfl); exact Blk.cell hB this
end
/-- a datagram of the reference's -/
structure RgV where
  v : FgV
  no : Int
def RgV.cs (r : RgV) : List Value := [.int .i64 r.v.src, .int .i64 r.v.dst, .slice r.v.a r.v.l r.v.c, .int .i64 r.v.due, .int .i64 r.no]
def rgC (V : List RgV) : List Value := V.flatMap RgV.cs
theorem rgC_len : ∀ V : List RgV, (rgC V).length = V.length * 5
  | [] => rfl
  | x :: V => by have := rgC_len V; simp [rgC, RgV.cs] at *; omega
theorem rgC_one (V : List RgV) : ∀ u ∈ rgC V, u.oneCell' = true := fun u hu => by
  unfold rgC at hu
  obtain ⟨x, -, h⟩ := List.mem_flatMap.1 hu
  simp [RgV.cs] at h
  rcases h with rfl | rfl | rfl | rfl | rfl <;> rfl
theorem rgC_app (V U : List RgV) : rgC (V ++ U) = rgC V ++ rgC U := by simp [rgC]
theorem rgC_get : ∀ {V : List RgV} {t j : Nat} {x : RgV}, V[t]? = some x → j < 5 → (rgC V)[t * 5 + j]? = x.cs[j]?
  | [], t, j, x, h, _ => by simp at h
  | y :: V, 0, j, x, h, hj => by
    simp at h; subst h
    show (y.cs ++ rgC V)[0 * 5 + j]? = _
    rw [List.getElem?_append_left (by simp [RgV.cs]; omega)]; congr 1; omega
  | y :: V, t + 1, j, x, h, hj => by
    have := rgC_get (V := V) (t := t) (x := x) (by simpa using h) hj
    show (y.cs ++ rgC V)[(t + 1) * 5 + j]? = _
    rw [List.getElem?_append_right (by simp [RgV.cs]; omega), ← this]
    congr 1; simp [RgV.cs]; omega
/-- the numbers grow -/
def NosOk (V : List RgV) (no : Nat) : Prop := V.Pairwise (fun x y => x.no < y.no) ∧ ∀ x ∈ V, x.no < no
/-- block b holds a net of the reference's; so many numbers are given -/
structure RNS (w : World) (vs : Array Value) (base : Nat) (fv dv : Value) (s : NetV) (no : Nat) : Prop where
  hd : vs = #[fv, dv, .int .i64 (s.lost : Int), .int .i64 (no : Int)]
  fo : FaS w base fv s.fa
  do' : ∃ V, w.ownsRow base 96 5 dv s.fl.length (rgC V) ∧ FlOk w (V.map RgV.v) s.fl ∧ NosOk V no
  fb : s.fa.length ≤ 1000
  xb : s.fl.length ≤ 256
  lb : s.lost ≤ 4000000000000000000
structure HasR (W : World) (K : List Nat) (w : World) (b : Nat) (s : NetV) (no : Nat) : Prop where
  ex : ∃ vs fv dv, Blk w b vs 93 ∧ RNS w vs W.heap.size fv dv s no ∧ (∀ g, fv.ownBlock = some g → g ∉ K) ∧ (∀ g, dv.ownBlock = some g → g ∉ K)
  hb : b ∉ K
  hb2 : W.heap.size ≤ b
  hK : ∀ g ∈ K, g < w.heap.size
  fr : Fr [] W w
theorem HasR.fr0 {W w w' : World} {K : List Nat} {b no : Nat} {s : NetV} (h : HasR W K w b s no) (hF : Fr [] w w') : HasR W K w' b s no ∧ Kp K w w' := by
  obtain ⟨⟨vs, fv, dv, h1, ⟨a1, a2, ⟨V, a3, a4, a5⟩, a6, a7, a8⟩, h3, h4⟩, hb, hb2, hK, hf⟩ := h
  exact ⟨⟨⟨vs, fv, dv, hF.blk h1 (by simp), ⟨a1, a2.fr hF (by simp), ⟨V, own_keep a3 hF (by simp), a4.fr hF (NoU8.nil _), a5⟩, a6, a7, a8⟩, h3, h4⟩, hb, hb2, fun g hg => Nat.lt_of_lt_of_le (hK g hg) hF.size, hf.trans hF (by simp)⟩, Kp.of_fr hF hK (by simp) (NoU8.nil _)⟩
end Go.Proofs.Ytkjjikjilmngdaa.Nt
