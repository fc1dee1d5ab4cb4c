/- The order of all doubles: an infinity is the number beyond all, a NaN has none. -/
import Derived.Test.YtkjjikjilmngdaaFp4
namespace Dt
open Ieee
set_option linter.unusedVariables false
set_option linter.unusedSimpArgs false

/-- no NaN -/
def num (x : Nat) : Prop := rg x ≤ infR
theorem read_inf {x : Nat} (h : rg x = infR) : double.read x = .infinity (ng x) := by
  unfold Format.read
  rw [sw_eq, binade_eq, infR_eq]
  show (if rg x < B then _ else if rg x < infR then _ else if rg x = infR then Datum.infinity (ng x) else _) = _
  rw [if_neg (by rw [h]; decide), if_neg (by omega), if_pos h]
theorem read_nan {x : Nat} (h : infR < rg x) : ∃ s t, double.read x = .nan s t := by
  refine ⟨ng x, rg x - infR, ?_⟩
  unfold Format.read
  rw [sw_eq, binade_eq, infR_eq]
  have hB : B < infR := by decide
  show (if rg x < B then _ else if rg x < infR then _ else if rg x = infR then _ else Datum.nan (ng x) (rg x - infR)) = _
  rw [if_neg (by omega), if_neg (by omega), if_neg (by omega)]
theorem order_nan_l {x : Nat} (h : infR < rg x) (y : Nat) : double.order x y = none := by
  obtain ⟨s, t, e⟩ := read_nan h
  unfold Format.order
  rw [e]; cases double.read y <;> rfl
theorem order_nan_r {x : Nat} (h : infR < rg x) (y : Nat) : double.order y x = none := by
  obtain ⟨s, t, e⟩ := read_nan h
  unfold Format.order
  rw [e]; cases double.read y <;> rfl
theorem sv_abs_lt {x : Nat} (h : fin x) : (sv x).natAbs < mg infR := by rw [sv_natAbs']; exact mg_strict h
where sv_natAbs' {z : Nat} : (sv z).natAbs = mg (rg z) := by unfold sv; split <;> simp
theorem sv_inf {x : Nat} (h : rg x = infR) : sv x = if ng x then -(mg infR : Int) else mg infR := by unfold sv; rw [h]
theorem order_num {x y : Nat} (hx : num x) (hy : num y) : double.order x y = some (compare (sv x) (sv y)) := by
  unfold num at hx hy
  have hp : 0 < mg infR := mg_pos (by decide)
  by_cases h1 : fin x
  · by_cases h2 : fin y
    · exact order_fin h1 h2
    · unfold fin at h2
      have h2' : rg y = infR := by omega
      obtain ⟨m, p, hr, hm⟩ := read_fin h1
      have hb := sv_abs_lt h1
      unfold Format.order
      rw [hr, read_inf h2', sv_inf h2']
      cases ng y
      · show some Ordering.lt = _
        rw [Int.compare_eq_lt.2]; simp; omega
      · show some Ordering.gt = _
        rw [Int.compare_eq_gt.2]; simp; omega
  · unfold fin at h1
    have h1' : rg x = infR := by omega
    by_cases h2 : fin y
    · obtain ⟨m, p, hr, hm⟩ := read_fin h2
      have hb := sv_abs_lt h2
      unfold Format.order
      rw [hr, read_inf h1', sv_inf h1']
      cases ng x
      · show some Ordering.gt = _
        rw [Int.compare_eq_gt.2]; simp; omega
      · show some Ordering.lt = _
        rw [Int.compare_eq_lt.2]; simp; omega
    · unfold fin at h2
      have h2' : rg y = infR := by omega
      unfold Format.order
      rw [read_inf h1', read_inf h2', sv_inf h1', sv_inf h2']
      cases ng x <;> cases ng y
      · show some (compare 0 0) = _
        rw [Int.compare_eq_eq.2 rfl]; rfl
      · show some (compare 1 0) = _
        rw [Int.compare_eq_gt.2 (by simp; omega)]; rfl
      · show some (compare 0 1) = _
        rw [Int.compare_eq_lt.2 (by simp; omega)]; rfl
      · show some (compare 1 1) = _
        rw [Int.compare_eq_eq.2 rfl]; rfl
theorem order_num_lt {x y : Nat} (hx : num x) (hy : num y) : double.order x y = some .lt ↔ sv x < sv y := by
  rw [order_num hx hy]; simp [Int.compare_eq_lt]
theorem order_num_gt {x y : Nat} (hx : num x) (hy : num y) : double.order x y = some .gt ↔ sv y < sv x := by
  rw [order_num hx hy]; simp [Int.compare_eq_gt]
theorem order_num_eq {x y : Nat} (hx : num x) (hy : num y) : double.order x y = some .eq ↔ sv x = sv y := by
  rw [order_num hx hy]; simp [Int.compare_eq_eq]
theorem order_self {x : Nat} : double.order x x = some .eq ↔ num x := by
  by_cases h : num x
  · rw [order_num_eq h h]; exact ⟨fun _ => h, fun _ => rfl⟩
  · unfold num at h
    rw [order_nan_l (by omega)]
    exact ⟨fun h => by simp at h, fun h' => absurd h' h⟩
end Dt
