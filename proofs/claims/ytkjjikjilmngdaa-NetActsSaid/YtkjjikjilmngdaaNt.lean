/- chapter 24: what is under way: rows of flights, how they are compared. -/
import Derived.Test.YtkjjikjilmngdaaArr
import Derived.Test.YtkjjikjilmngdaaApp
import Derived.Test.YtkjjikjilmngdaaSmg
import Derived.Test.YtkjjikjilmngdaaHand
import Derived.Deep.QuietTactic
import Derived.Deep.MidRow
import Derived.BigQuiet
import Derived.Deep.Cut
import Derived.Deep.CutBlock
import Derived.StillTailTactics
import Derived.IntWalk
import Derived.OwnWalk
namespace Go.Proofs.Ytkjjikjilmngdaa.Nt
open Go.RowKit Dt Go.Proofs.Ytkjjikjilmngdaa.Hd
set_option linter.unusedVariables false
set_option linter.unusedSimpArgs false

/-- a flight: when it is due, from whom, to whom, its bytes' slice -/
structure FgV where
  due : Int
  src : Int
  dst : Int
  a : Option Addr
  l : Nat
  c : Nat
def FgV.cs (x : FgV) : List Value := [.int .i64 x.due, .int .i64 x.src, .int .i64 x.dst, .slice x.a x.l x.c]
def FgV.v (x : FgV) : Value := .agg #[.int .i64 x.due, .int .i64 x.src, .int .i64 x.dst, .slice x.a x.l x.c]
theorem FgV.one (x : FgV) : ∀ u ∈ x.cs, u.oneCell' = true := fun u hu => by
  simp [FgV.cs] at hu
  rcases hu with rfl | rfl | rfl | rfl <;> rfl
/-- block g holds n flights, and may be longer -/
def FR (w : World) (g : Nat) (X : Nat → FgV) (n : Nat) : Prop := ∃ cur, Blk w g cur 115 ∧ n * 4 ≤ cur.size ∧ ∀ t j, t < n → j < 4 → cur[t * 4 + j]? = (X t).cs[j]?
section
variable {w w' : World} {g n t j i : Nat} {X Y : Nat → FgV} {v : Value}
theorem FR.cell (h : FR w g X n) (ht : t < n) (hv : (X t).cs[j]? = some v) : w.cell? ⟨g, t * 4 + j, none⟩ = some v := by
  obtain ⟨cur, hb, hs, hc⟩ := h
  have hj : j < 4 := by have := (List.getElem?_eq_some_iff.1 hv).1; simpa [FgV.cs] using this
  exact hb.cell ((hc t j ht hj).trans hv)
theorem FR.range (h : FR w g X n) (ht : t < n) : w.rangeAt g (t * 4) (X t).cs := fun j v hv => h.cell ht hv
theorem FR.free (h : FR w g X n) (j : Nat) : w.frozen? ⟨g, j, none⟩ = false := by
  obtain ⟨cur, hb, hs, hc⟩ := h; exact hb.free j
theorem FR.there (h : FR w g X n) (ht : t < n) : w.there g (t * 4) 4 := fun j hj => by
  refine ⟨?_, h.free _⟩
  obtain ⟨v, hv⟩ : ∃ v, (X t).cs[j]? = some v := ⟨_, List.getElem?_eq_getElem (by simpa [FgV.cs] using hj)⟩
  rw [h.cell ht hv]; rfl
theorem FR.lt (h : FR w g X n) : g < w.heap.size := by obtain ⟨cur, hb, _⟩ := h; exact hb.lt
theorem FR.fr {S : List Nat} (h : FR w g X n) (hF : Fr S w w') (hg : g ∉ S) : FR w' g X n := by
  obtain ⟨cur, hb, r⟩ := h; exact ⟨cur, hF.blk hb hg, r⟩
theorem FR.drew (h : FR w g X n) : FR w.drew g X n := h
theorem FR.congr (h : FR w g X n) (e : ∀ t, t < n → Y t = X t) : FR w g Y n := by
  obtain ⟨cur, hb, hs, hc⟩ := h; exact ⟨cur, hb, hs, fun t j ht hj => by rw [e t ht]; exact hc t j ht hj⟩
theorem FR.set (h : FR w g X n) (hi : i < n) (x : FgV) : FR (w.setCells g (i * 4) x.cs) g (fun t => if t = i then x else X t) n := by
  obtain ⟨cur, hb, hs, hc⟩ := h
  obtain ⟨us, h1, h2, h3⟩ := Blk.setCells x.cs (i * 4) w cur hb
  refine ⟨us, h1, by rw [h2]; exact hs, fun t j ht hj => ?_⟩
  rw [h3 _ (by omega)]
  have hl : x.cs.length = 4 := rfl
  rw [hl]
  dsimp only
  by_cases e : t = i
  · subst e
    rw [if_pos (by omega), if_pos rfl]; congr 1; omega
  · rw [if_neg (by omega), if_neg e]; exact hc t j ht hj
theorem FR.cells4 {x : FgV} (h : FR w g X n) (ht : t < n) (e : X t = x) : w.cell? ⟨g, t * 4, none⟩ = some (.int .i64 x.due) ∧ w.cell? ⟨g, t * 4 + 1, none⟩ = some (.int .i64 x.src) ∧ w.cell? ⟨g, t * 4 + 2, none⟩ = some (.int .i64 x.dst) ∧ w.cell? ⟨g, t * 4 + 3, none⟩ = some (.slice x.a x.l x.c) := by
  subst e
  have a0 := h.cell (j := 0) ht rfl
  rw [Nat.add_zero] at a0
  exact ⟨a0, h.cell (j := 1) ht rfl, h.cell (j := 2) ht rfl, h.cell (j := 3) ht rfl⟩
theorem FR.free4 (h : FR w g X n) (t : Nat) : w.frozen? ⟨g, t * 4, none⟩ = false ∧ w.frozen? ⟨g, t * 4 + 1, none⟩ = false ∧ w.frozen? ⟨g, t * 4 + 2, none⟩ = false ∧ w.frozen? ⟨g, t * 4 + 3, none⟩ = false := ⟨h.free _, h.free _, h.free _, h.free _⟩
theorem FR.fr_set (hF : Fr [g] w w') (i : Nat) (x : FgV) : Fr [g] w (w'.setCells g (i * 4) x.cs) := Fr.setCells (.inl (by simp)) x.cs (i * 4) w' hF
end

/-- how two are compared -/
def cmpD (a b : Int) : Int := if a < b then -1 else if b < a then 1 else 0
theorem cmpD_lt (a b : Int) : decide (cmpD a b < 0) = decide (a < b) := by
  unfold cmpD
  by_cases h : a < b
  · rw [if_pos h, decide_eq_true h]; rfl
  · rw [if_neg h, decide_eq_false h]
    split <;> rfl
theorem isNaN_any (x : Int) (w : World) : Calls Try.prog 77 #[.int .i64 x] w fun e w' => e = .returned (.bool false) ∧ w = w' := by
  go_enter Try.func77, Try.ntmps77
  go_wp2_with fail
  go_ret
  exact ⟨by simp, rfl⟩
theorem compare_any (x y : Int) (w : World) : Calls Try.prog 64 #[.int .i64 x, .int .i64 y] w fun e w' => e = .returned (.int .i64 (cmpD x y)) ∧ w = w' := by
  unfold cmpD
  by_cases h : x < y
  · rw [if_pos h]
    go_enter Try.func64, Try.ntmps64
    go_wp2_with (go_at_call 77; refine (isNaN_any _ _).mono ?_; rintro e w' ⟨rfl, rfl⟩)
    go_ret
    exact ⟨rfl, rfl⟩
  · rw [if_neg h]
    by_cases h2 : y < x
    · rw [if_pos h2]
      go_enter Try.func64, Try.ntmps64
      go_wp2_with (go_at_call 77; refine (isNaN_any _ _).mono ?_; rintro e w' ⟨rfl, rfl⟩)
      go_ret
      exact ⟨rfl, rfl⟩
    · rw [if_neg h2]
      go_enter Try.func64, Try.ntmps64
      go_wp2_with (go_at_call 77; refine (isNaN_any _ _).mono ?_; rintro e w' ⟨rfl, rfl⟩)
      go_ret
      exact ⟨rfl, rfl⟩
/-- the function that is handed on -/
def cmpF : Value := .func (.func 63) #[] #[]
theorem cmp_any (x y : FgV) (w : World) : Calls Try.prog 63 #[x.v, y.v] w fun e w' => e = .returned (.int .i64 (cmpD x.due y.due)) ∧ Fr [] w w' := by
  obtain ⟨due, src, dst, a, l, c⟩ := x
  obtain ⟨due2, src2, dst2, a2, l2, c2⟩ := y
  dsimp only [FgV.v]
  go_enter Try.func63, Try.ntmps63
  go_wp2_with fail
  refine (compare_any _ _ _).mono ?_; rintro e w' ⟨rfl, rfl⟩
  go_wp2_with fail
  go_ret
  exact ⟨rfl, ((Fr.refl [] w).alloc _).alloc _⟩
end Go.Proofs.Ytkjjikjilmngdaa.Nt
