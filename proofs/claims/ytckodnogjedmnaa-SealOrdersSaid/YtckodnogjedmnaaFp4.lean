/- Finite doubles by their values: the operations, rounded; exact where the value is one of a double. -/
import Derived.Test.YtckodnogjedmnaaFp3
import Derived.Laws.FloatArith
namespace Dt
open Ieee

/-- 'z' is a finite double of value 'v' (in units of 2^-1074) -/
structure Fl (z : Nat) (v : Int) : Prop where
  lt : z < 18446744073709551616
  fin : fin z
  sv : sv z = v

theorem sv_natAbs (z : Nat) : (sv z).natAbs = mg (rg z) := by unfold sv; split <;> simp
theorem Fl.mg {z : Nat} {v : Int} (h : Fl z v) : mg (rg z) = v.natAbs := by rw [← sv_natAbs, h.sv]
theorem Fl.ng_of_neg {z : Nat} {v : Int} (h : Fl z v) (hv : v < 0) : ng z = true := by
  have := h.sv; unfold Dt.sv at this
  cases hg : ng z
  · simp [hg] at this; omega
  · rfl
theorem Fl.ng_of_pos {z : Nat} {v : Int} (h : Fl z v) (hv : 0 < v) : ng z = false := by
  have := h.sv; unfold Dt.sv at this
  cases hg : ng z
  · rfl
  · simp [hg] at this; omega

/-- the rounded value of E / D, signed -/
def isS (E : Int) (D : Nat) (v : Int) : Prop := ∃ r, isRnd E.natAbs D r ∧ v = if E < 0 then -(Dt.mg r : Int) else Dt.mg r

/-- a value that a double has -/
def Rep (v : Int) : Prop := ∃ r, r < infR ∧ Dt.mg r = v.natAbs

theorem Fl.rep {z : Nat} {v : Int} (h : Fl z v) : Rep v := ⟨rg z, h.fin, h.mg⟩
theorem Rep.neg {v : Int} (h : Rep v) : Rep (-v) := by obtain ⟨r, a, b⟩ := h; exact ⟨r, a, by rw [b]; simp⟩
theorem Rep.zero : Rep 0 := ⟨0, by decide, by simp [mg_zero]⟩

theorem isS_exact (v : Int) (D : Nat) (hD : 0 < D) (hv : ∃ r, Dt.mg r = v.natAbs) : isS (v * D) D v := by
  obtain ⟨r, hr⟩ := hv
  refine ⟨r, ?_, ?_⟩
  · rw [Int.natAbs_mul, Int.natAbs_natCast, ← hr]; exact isRnd_exact D r hD
  · have hp : (0 : Int) < D := by omega
    by_cases h : v < 0
    · rw [if_pos (Int.mul_neg_of_neg_of_pos h hp)]; omega
    · rw [if_neg (by have := Int.mul_nonneg (Int.not_lt.1 h) (Int.le_of_lt hp); omega)]; omega

theorem isS.mono {E1 E2 v1 v2 : Int} {D1 D2 : Nat} (hD1 : 0 < D1) (hD2 : 0 < D2) (h1 : isS E1 D1 v1) (h2 : isS E2 D2 v2) (h : E1 * D2 ≤ E2 * D1) : v1 ≤ v2 := by
  obtain ⟨r1, a1, rfl⟩ := h1
  obtain ⟨r2, a2, rfl⟩ := h2
  have p1 : (0 : Int) < D1 := by omega
  have p2 : (0 : Int) < D2 := by omega
  by_cases c1 : E1 < 0
  · rw [if_pos c1]
    by_cases c2 : E2 < 0
    · rw [if_pos c2]
      have : E2.natAbs * D1 ≤ E1.natAbs * D2 := by
        have e1 : ((E2.natAbs * D1 : Nat) : Int) = -(E2 * D1) := by rw [Int.natCast_mul, ← Int.neg_mul]; congr 1; omega
        have e2 : ((E1.natAbs * D2 : Nat) : Int) = -(E1 * D2) := by rw [Int.natCast_mul, ← Int.neg_mul]; congr 1; omega
        omega
      have := mg_mono (a2.mono hD2 hD1 a1 this)
      omega
    · rw [if_neg c2]; omega
  · rw [if_neg c1]
    by_cases c2 : E2 < 0
    · exfalso
      have h3 := Int.mul_neg_of_neg_of_pos c2 p1
      have h4 := Int.mul_nonneg (Int.not_lt.1 c1) (Int.le_of_lt p2)
      omega
    · rw [if_neg c2]
      have : E1.natAbs * D2 ≤ E2.natAbs * D1 := by
        have e1 : ((E2.natAbs * D1 : Nat) : Int) = E2 * D1 := by rw [Int.natCast_mul]; congr 1; omega
        have e2 : ((E1.natAbs * D2 : Nat) : Int) = E1 * D2 := by rw [Int.natCast_mul]; congr 1; omega
        omega
      have := mg_mono (a1.mono hD1 hD2 a2 this)
      omega

theorem isS.unique {E v1 v2 : Int} {D : Nat} (hD : 0 < D) (h1 : isS E D v1) (h2 : isS E D v2) : v1 = v2 :=
  Int.le_antisymm (h1.mono hD hD h2 (Int.le_refl _)) (h2.mono hD hD h1 (Int.le_refl _))
theorem isS.le_of {E v c : Int} {D : Nat} (hD : 0 < D) (h : isS E D v) (hc : Rep c) (hle : E ≤ c * D) : v ≤ c := by
  obtain ⟨r, _, hr⟩ := hc
  exact h.mono hD hD (isS_exact c D hD ⟨r, hr⟩) (Int.mul_le_mul_of_nonneg_right hle (by omega))
theorem isS.ge_of {E v c : Int} {D : Nat} (hD : 0 < D) (h : isS E D v) (hc : Rep c) (hle : c * D ≤ E) : c ≤ v := by
  obtain ⟨r, _, hr⟩ := hc
  exact (isS_exact c D hD ⟨r, hr⟩).mono hD hD h (Int.mul_le_mul_of_nonneg_right hle (by omega))
theorem isS.neg {E v : Int} {D : Nat} (hD : 0 < D) (h : isS E D v) : isS (-E) D (-v) := by
  obtain ⟨r, a, rfl⟩ := h
  refine ⟨r, by rw [Int.natAbs_neg]; exact a, ?_⟩
  by_cases c : E < 0
  · rw [if_pos c, if_neg (by omega)]; omega
  · by_cases c' : E = 0
    · subst c'
      have : r = 0 := a.eq_of hD (by simp [mg_zero])
      subst this; simp [mg_zero]
    · rw [if_neg c, if_pos (by omega)]

/-- every number has a rounding -/
theorem isS_zero {D : Nat} (hD : 0 < D) : isS 0 D 0 := ⟨0, isRnd_zero hD, by simp [mg_zero]⟩

/-- from a rounded word to its value -/
theorem isW.fl {neg : Bool} {E : Int} {D z : Nat} {v : Int} (hD : 0 < D) (h : isW neg E.natAbs D z) (hs : isS E D v) (hneg : E ≠ 0 → neg = decide (E < 0)) (hv : v.natAbs < mg infR) : Fl z v := by
  obtain ⟨r, hr, rfl⟩ := h
  obtain ⟨r', hr', hv'⟩ := hs
  have e := hr.unique hD hr'
  subst e
  have hm : mg r = v.natAbs := by rw [hv']; split <;> simp
  have hlt : r < infR := by rw [← mg_lt_iff, hm]; exact hv
  rw [Nat.min_eq_left (Nat.le_of_lt hlt)]
  have h63 : r < 9223372036854775808 := Nat.lt_trans hlt infR_lt
  refine ⟨wd_lt h63, fin_wd hlt, ?_⟩
  rw [sv_wd h63, hv']
  by_cases h0 : E = 0
  · subst h0
    have : r = 0 := hr.eq_of hD (by simp [mg_zero])
    subst this; simp [mg_zero]
  · rw [hneg h0]; simp

theorem fadd {x y : Nat} {X Y V : Int} (hx : Fl x X) (hy : Fl y Y) (h : isS (X + Y) 1 V) (hv : V.natAbs < mg infR) : ∃ z, double.add x y = some z ∧ Fl z V := by
  obtain ⟨z, h1, h2⟩ := sum_fin hx.fin hy.fin
  rw [hx.sv, hy.sv] at h2
  exact ⟨z, h1, h2.fl (by decide) h (fun h0 => by rw [if_neg h0]) hv⟩
theorem fsub {x y : Nat} {X Y V : Int} (hx : Fl x X) (hy : Fl y Y) (h : isS (X - Y) 1 V) (hv : V.natAbs < mg infR) : ∃ z, double.sub x y = some z ∧ Fl z V := by
  obtain ⟨z, h1, h2⟩ := diff_fin hx.fin hy.fin
  rw [hx.sv, hy.sv] at h2
  exact ⟨z, h1, h2.fl (by decide) h (fun h0 => by rw [if_neg h0]) hv⟩

theorem sgn_mul {x y : Nat} {X Y : Int} (hx : Fl x X) (hy : Fl y Y) (h0 : X * Y ≠ 0) : (ng x ^^ ng y) = decide (X * Y < 0) := by
  have hX : X ≠ 0 := fun h => h0 (by rw [h]; simp)
  have hY : Y ≠ 0 := fun h => h0 (by rw [h]; simp)
  rcases Int.lt_or_gt_of_ne hX with a | a <;> rcases Int.lt_or_gt_of_ne hY with b | b
  · rw [hx.ng_of_neg a, hy.ng_of_neg b]; have := Int.mul_pos_of_neg_of_neg a b; simp; omega
  · rw [hx.ng_of_neg a, hy.ng_of_pos b]; have := Int.mul_neg_of_neg_of_pos a b; simp; omega
  · rw [hx.ng_of_pos a, hy.ng_of_neg b]; have := Int.mul_neg_of_pos_of_neg a b; simp; omega
  · rw [hx.ng_of_pos a, hy.ng_of_pos b]; have := Int.mul_pos a b; simp; omega

theorem fmul {x y : Nat} {X Y V : Int} (hx : Fl x X) (hy : Fl y Y) (h : isS (X * Y) S V) (hv : V.natAbs < mg infR) : ∃ z, double.mul x y = some z ∧ Fl z V := by
  obtain ⟨z, h1, h2⟩ := prod_fin hx.fin hy.fin
  rw [hx.mg, hy.mg, ← Int.natAbs_mul] at h2
  exact ⟨z, h1, isW.fl (D := S) S_pos h2 h (fun h0 => sgn_mul hx hy h0) hv⟩

/-- a quotient: Y > 0 -/
theorem fdiv {x y : Nat} {X V : Int} {Y : Nat} (hx : Fl x X) (hy : Fl y Y) (hY : 0 < Y) (h : isS (X * S) Y V) (hv : V.natAbs < mg infR) : ∃ z, double.div x y = some z ∧ Fl z V := by
  have hm : mg (rg y) = Y := by rw [hy.mg]; simp
  obtain ⟨z, h1, h2⟩ := quo_fin hx.fin hy.fin (by omega)
  rw [hx.mg, hm] at h2
  have e : X.natAbs * S = (X * (S : Int)).natAbs := by rw [Int.natAbs_mul, Int.natAbs_natCast]
  rw [e] at h2
  refine ⟨z, h1, isW.fl (D := Y) hY h2 h (fun h0 => ?_) hv⟩
  have hS : (0 : Int) < S := by have := S_pos; omega
  have hX : X ≠ 0 := fun h => h0 (by rw [h]; simp)
  rw [hy.ng_of_pos (by omega)]
  rcases Int.lt_or_gt_of_ne hX with a | a
  · rw [hx.ng_of_neg a]; have := Int.mul_neg_of_neg_of_pos a hS; simp; omega
  · rw [hx.ng_of_pos a]; have := Int.mul_pos a hS; simp; omega

/-- a float of a whole number -/
theorem fint {n V : Int} (h : isS (n * S) 1 V) (hv : V.natAbs < mg infR) : Fl (Go.floatOfInt .f64 n) V := by
  have h2 : isW (decide (n < 0)) (n.natAbs * S) 1 (Go.floatOfInt .f64 n) := by
    show isW (decide (n < 0)) (n.natAbs * S) 1 (double.write (.number (n < 0) n.natAbs 0))
    obtain ⟨c, hc, hS⟩ := S_eq
    exact write_isW _ _ _ (a := 0) (b := c) (by decide) (by rw [hS, Nat.pow_zero, Nat.mul_one]) (by omega)
  have e : n.natAbs * S = (n * (S : Int)).natAbs := by rw [Int.natAbs_mul, Int.natAbs_natCast]
  rw [e] at h2
  refine isW.fl (D := 1) (by decide) h2 h (fun h0 => ?_) hv
  have hS : (0 : Int) < S := by have := S_pos; omega
  have hX : n ≠ 0 := fun h => h0 (by rw [h]; simp)
  rcases Int.lt_or_gt_of_ne hX with a | a
  · have := Int.mul_neg_of_neg_of_pos a hS; simp; omega
  · have := Int.mul_pos a hS; simp; omega

theorem forder {x y : Nat} {X Y : Int} (hx : Fl x X) (hy : Fl y Y) : double.order x y = some (compare X Y) := by
  rw [order_fin hx.fin hy.fin, hx.sv, hy.sv]

/-- m * 2^k is the value of a double -/
theorem rep_pow {m k : Nat} (hm : m ≤ 2 * B) (hk : k ≤ 2044) : Rep ((m * 2 ^ k : Nat) : Int) := by
  rcases Nat.eq_zero_or_pos m with h0 | hpos
  · subst h0; simpa using Rep.zero
  by_cases hB : m = 2 * B
  · subst hB
    refine ⟨(k + 1 + 1) * B + 0, ?_, ?_⟩
    · unfold infR B; omega
    · rw [mg_big B_pos, Int.natAbs_natCast, Nat.pow_succ, Nat.add_zero, Nat.mul_comm 2 B, Nat.mul_assoc, Nat.mul_comm 2]
  have hm0 : m ≠ 0 := by omega
  have he1 : 2 ^ m.log2 ≤ m := Nat.log2_self_le hm0
  have he2 : m < 2 ^ (m.log2 + 1) := Nat.lt_log2_self
  generalize m.log2 = e at *
  have he : e ≤ 52 := by
    have h0 : 2 * B = 2 ^ 53 := by decide
    have h1 : 2 ^ e < 2 ^ 53 := Nat.lt_of_le_of_lt he1 (by omega)
    have := (Nat.pow_lt_pow_iff_right (by decide : 1 < 2)).1 h1
    omega
  by_cases hc : 52 - e ≤ k
  · obtain ⟨i, rfl⟩ : ∃ i, k = 52 - e + i := ⟨k - (52 - e), by omega⟩
    have h1 : 2 ^ e * 2 ^ (52 - e) ≤ m * 2 ^ (52 - e) := Nat.mul_le_mul_right _ he1
    have h2 : m * 2 ^ (52 - e) < 2 ^ (e + 1) * 2 ^ (52 - e) := (Nat.mul_lt_mul_right (Nat.two_pow_pos _)).2 he2
    rw [← Nat.pow_add] at h1 h2
    have e1 : e + (52 - e) = 52 := by omega
    have e2 : e + 1 + (52 - e) = 53 := by omega
    rw [e1, ← eq_B] at h1
    rw [e2] at h2
    have e3 : (2 : Nat) ^ 53 = 2 * B := by decide
    rw [e3] at h2
    refine ⟨(i + 1) * B + (m * 2 ^ (52 - e) - B), ?_, ?_⟩
    · have : (i + 1) * B ≤ 2045 * B := Nat.mul_le_mul_right _ (by omega)
      have e5 : infR = 2047 * B := by decide
      omega
    · have e6 : B + (m * 2 ^ (52 - e) - B) = m * 2 ^ (52 - e) := by omega
      rw [mg_big (by omega), Int.natAbs_natCast, Nat.pow_add, ← Nat.mul_assoc, e6]
  · have h2 : m * 2 ^ k < 2 ^ (e + 1) * 2 ^ k := (Nat.mul_lt_mul_right (Nat.two_pow_pos _)).2 he2
    rw [← Nat.pow_add] at h2
    have h3 : 2 ^ (e + 1 + k) ≤ B := by rw [eq_B]; exact Nat.pow_le_pow_right (by decide) (by omega)
    have h4 : m * 2 ^ k < B := by omega
    refine ⟨m * 2 ^ k, ?_, ?_⟩
    · have e5 : infR = 2047 * B := by decide
      omega
    · rw [mg_small h4, Int.natAbs_natCast]
theorem Rep.lt {v : Int} (h : Rep v) : v.natAbs < mg infR := by obtain ⟨r, a, b⟩ := h; rw [← b]; exact mg_strict a

/-- exact sums, differences .. -/
theorem fadd_exact {x y : Nat} {X Y : Int} (hx : Fl x X) (hy : Fl y Y) (h : Rep (X + Y)) : ∃ z, double.add x y = some z ∧ Fl z (X + Y) := by
  obtain ⟨r, a, b⟩ := h
  have := isS_exact (X + Y) 1 (by decide) ⟨r, b⟩
  rw [Int.natCast_one, Int.mul_one] at this
  exact fadd hx hy this (Rep.lt ⟨r, a, b⟩)
theorem fsub_exact {x y : Nat} {X Y : Int} (hx : Fl x X) (hy : Fl y Y) (h : Rep (X - Y)) : ∃ z, double.sub x y = some z ∧ Fl z (X - Y) := by
  obtain ⟨r, a, b⟩ := h
  have := isS_exact (X - Y) 1 (by decide) ⟨r, b⟩
  rw [Int.natCast_one, Int.mul_one] at this
  exact fsub hx hy this (Rep.lt ⟨r, a, b⟩)
theorem fmul_exact {x y : Nat} {X Y V : Int} (hx : Fl x X) (hy : Fl y Y) (hV : X * Y = V * S) (h : Rep V) : ∃ z, double.mul x y = some z ∧ Fl z V := by
  obtain ⟨r, a, b⟩ := h
  have := isS_exact V S S_pos ⟨r, b⟩
  rw [← hV] at this
  exact fmul hx hy this (Rep.lt ⟨r, a, b⟩)
theorem fdiv_exact {x y : Nat} {X V : Int} {Y : Nat} (hx : Fl x X) (hy : Fl y Y) (hY : 0 < Y) (hV : X * S = V * Y) (h : Rep V) : ∃ z, double.div x y = some z ∧ Fl z V := by
  obtain ⟨r, a, b⟩ := h
  have := isS_exact V Y hY ⟨r, b⟩
  rw [← hV] at this
  exact fdiv hx hy hY this (Rep.lt ⟨r, a, b⟩)
theorem rep_int {n : Int} (h1 : -9007199254740992 ≤ n) (h2 : n ≤ 9007199254740992) : Rep (n * S) := by
  obtain ⟨c, hc, hS⟩ := S_eq
  rw [hS]
  rcases Int.lt_or_le n 0 with h | h
  · have : n * ((2 ^ c : Nat) : Int) = -((n.natAbs * 2 ^ c : Nat) : Int) := by
      rw [Int.natCast_mul, ← Int.neg_mul]; congr 1; omega
    rw [this]
    exact (rep_pow (by unfold B; omega) (by omega)).neg
  · have : n * ((2 ^ c : Nat) : Int) = ((n.natAbs * 2 ^ c : Nat) : Int) := by
      rw [Int.natCast_mul]; congr 1; omega
    rw [this]
    exact rep_pow (by unfold B; omega) (by omega)
theorem fint_exact {n : Int} (h1 : -9007199254740992 ≤ n) (h2 : n ≤ 9007199254740992) : Fl (Go.floatOfInt .f64 n) (n * S) := by
  obtain ⟨r, a, b⟩ := rep_int h1 h2
  have := isS_exact (n * S) 1 (by decide) ⟨r, b⟩
  rw [Int.natCast_one, Int.mul_one] at this
  exact fint this (Rep.lt ⟨r, a, b⟩)
end Dt
