import Derived.Test.YtiniaphleogkiaaVw6
import Derived.Test.YtiniaphleogkiaaVw9
namespace Dt
open Ieee
set_option linter.unusedVariables false
set_option linter.unusedSimpArgs false
theorem num_isW {neg : Bool} {N D z : Nat} (h : isW neg N D z) : num z ∧ z < 18446744073709551616 := by
  obtain ⟨r, -, rfl⟩ := h
  have hr : min r infR ≤ infR := Nat.min_le_right _ _
  have hl : min r infR < 9223372036854775808 := Nat.lt_of_le_of_lt hr infR_lt
  exact ⟨by unfold num; rw [rg_wd hl]; exact hr, wd_lt hl⟩
theorem sub_some {x y : Nat} (hx : fin x) (hy : fin y) : ∃ z, double.sub x y = some z ∧ num z := by
  obtain ⟨z, e, h⟩ := diff_fin hx hy
  exact ⟨z, e, (num_isW h).1⟩
theorem mul_some {x y : Nat} (hx : num x) (hy : fin y) (h0 : sv y ≠ 0) : ∃ z, double.mul x y = some z ∧ num z := by
  by_cases h : fin x
  · obtain ⟨z, e, h⟩ := prod_fin h hy
    exact ⟨z, e, (num_isW h).1⟩
  · have hi : rg x = infR := by unfold num at hx; unfold fin at h; omega
    obtain ⟨m, p, hr, hm⟩ := read_fin hy
    have hm0 : m ≠ 0 := fun e => by
      subst e
      rw [Nat.zero_mul] at hm
      apply h0
      unfold sv
      rw [← hm]; simp
    refine ⟨wd (ng x ^^ ng y) infR, ?_, ?_⟩
    · unfold Format.mul
      rw [read_inf hi, hr]
      unfold Datum.product
      dsimp only
      rw [if_neg hm0]
      show some (double.write (.infinity (ng x ^^ ng y))) = _
      unfold Format.write
      dsimp only
      rw [word_eq, infR_eq]
    · unfold num; rw [rg_wd infR_lt]; exact Nat.le_refl _
theorem add_some {x y : Nat} (hx : fin x) (hy : num y) : ∃ z, double.add x y = some z := by
  by_cases h : fin y
  · obtain ⟨z, e, h⟩ := sum_fin hx h
    exact ⟨z, e⟩
  · have hi : rg y = infR := by unfold num at hy; unfold fin at h; omega
    obtain ⟨m, p, hr, hm⟩ := read_fin hx
    unfold Format.add
    rw [read_inf hi, hr]
    exact ⟨_, rfl⟩
end Dt
namespace Go.Proofs.Ytiniaphleogkiaa.Vw
open Go.RowKit Dt Go.Proofs.Ytiniaphleogkiaa.Hd Go.Proofs.Ytiniaphleogkiaa.Ma Ieee
set_option linter.unusedVariables false
set_option linter.unusedSimpArgs false

theorem max_word : Fl 9218868437227405311 (mg (infR - 1) : Int) ∧ Fl 18442240474082181119 (-(mg (infR - 1) : Int)) := ⟨⟨by decide, by unfold fin; decide, rfl⟩, ⟨by decide, by unfold fin; decide, rfl⟩⟩
theorem rodd_eq (x : Nat) (hx : x < 18446744073709551616) : ((FloatKind.f64.format.order x x != some .eq) || ((FloatKind.f64.format.order x 9218868437227405311 == some .gt) || (FloatKind.f64.format.order x 18442240474082181119 == some .lt))) = oddB x := by
  obtain ⟨f1, f2⟩ := max_word
  have hlt : mg (infR - 1) < mg infR := mg_strict (by decide)
  have hp : 0 < mg infR := mg_pos (by decide)
  unfold oddB infB
  cases c : (FloatKind.f64.format.order x x != some .eq)
  · have hn := num_of c
    have hnr : num (rg x) := by
      unfold num rg
      rw [Nat.mod_mod]; exact hn
    have o1 : FloatKind.f64.format.order x 9218868437227405311 = some (compare (sv x) _) := order_num hn (Nat.le_of_lt f1.fin)
    have o2 : FloatKind.f64.format.order x 18442240474082181119 = some (compare (sv x) _) := order_num hn (Nat.le_of_lt f2.fin)
    have o3 : FloatKind.f64.format.order (rg x) 9218868437227405311 = some (compare (sv (rg x)) _) := order_num hnr (Nat.le_of_lt f1.fin)
    rw [f1.sv] at o1 o3
    rw [f2.sv] at o2
    have hs : sv (rg x) = (mg (rg x) : Int) := by
      unfold sv
      have h1 : ng (rg x) = false := by
        unfold ng rg
        rw [Nat.div_eq_of_lt (Nat.mod_lt _ (by decide))]; rfl
      have h2 : rg (rg x) = rg x := by unfold rg; rw [Nat.mod_mod]
      rw [h1, h2]; simp
    rw [hs] at o3
    rw [o1, o2, o3]
    have hc : mg (rg x) ≤ mg (infR - 1) ∨ mg (infR - 1) < mg (rg x) := by omega
    have hsv : sv x = if ng x then -(mg (rg x) : Int) else mg (rg x) := rfl
    rcases hc with hc | hc
    · have e3 : (some (compare (mg (rg x) : Int) (mg (infR - 1) : Int)) == some Ordering.gt) = false := by
        rcases Nat.lt_or_eq_of_le hc with h | h
        · rw [Int.compare_eq_lt.2 (by omega)]; rfl
        · rw [Int.compare_eq_eq.2 (by omega)]; rfl
      have e1 : (some (compare (sv x) (mg (infR - 1) : Int)) == some Ordering.gt) = false := by
        have : sv x ≤ (mg (infR - 1) : Int) := by rw [hsv]; split <;> omega
        rcases Int.lt_or_eq_of_le this with h | h
        · rw [Int.compare_eq_lt.2 h]; rfl
        · rw [Int.compare_eq_eq.2 h]; rfl
      have e2 : (some (compare (sv x) (-(mg (infR - 1) : Int))) == some Ordering.lt) = false := by
        have : -(mg (infR - 1) : Int) ≤ sv x := by rw [hsv]; split <;> omega
        rcases Int.lt_or_eq_of_le this with h | h
        · rw [Int.compare_eq_gt.2 h]; rfl
        · rw [Int.compare_eq_eq.2 h.symm]; rfl
      rw [e1, e2, e3]; rfl
    · have e3 : (some (compare (mg (rg x) : Int) (mg (infR - 1) : Int)) == some Ordering.gt) = true := by
        rw [Int.compare_eq_gt.2 (by omega)]; rfl
      rw [e3]
      cases hg : ng x
      · rw [hg] at hsv
        have e1 : (some (compare (sv x) (mg (infR - 1) : Int)) == some Ordering.gt) = true := by
          rw [Int.compare_eq_gt.2 (by rw [hsv]; simp; omega)]; rfl
        rw [e1]; rfl
      · rw [hg] at hsv
        have e2 : (some (compare (sv x) (-(mg (infR - 1) : Int))) == some Ordering.lt) = true := by
          rw [Int.compare_eq_lt.2 (by rw [hsv]; simp; omega)]; rfl
        rw [e2]; simp
  · rfl
theorem rodd_any (x : Nat) (hx : x < 18446744073709551616) (w : World) : Calls Try.prog 50 #[.float .f64 x] w fun e w' => e = .returned (.bool (oddB x)) ∧ w = w' := by
  rw [← rodd_eq x hx]
  cases c1 : (FloatKind.f64.format.order x x != some .eq) <;> cases c2 : (FloatKind.f64.format.order x 9218868437227405311 == some .gt) <;> cases c3 : (FloatKind.f64.format.order x 18442240474082181119 == some .lt)
  all_goals
    go_enter Try.func50, Try.ntmps50
    go_wp2_with fail
    go_ret
    exact ⟨rfl, rfl⟩
theorem rbtw_first {a b t : Nat} (h : (FloatKind.f64.format.order t t != some .eq) = true ∨ (FloatKind.f64.format.order t t != some .eq) = false ∧ (FloatKind.f64.format.order t 0 == some .lt || FloatKind.f64.format.order t 0 == some .eq) = true) (w : World) :
    Calls Try.prog 36 #[.float .f64 a, .float .f64 b, .float .f64 t] w fun e w' => e = .returned (.float .f64 a) ∧ w = w' := by
  rcases h with h1 | ⟨h1, h2⟩
  all_goals
    go_enter Try.func36, Try.ntmps36
    go_wp2_with fail
    go_ret
    exact ⟨rfl, rfl⟩
theorem rbtw_last {a b t : Nat} (h1 : (FloatKind.f64.format.order t t != some .eq) = false) (h2 : (FloatKind.f64.format.order t 0 == some .lt || FloatKind.f64.format.order t 0 == some .eq) = false) (h3 : (FloatKind.f64.format.order t 4607182418800017408 == some .gt || FloatKind.f64.format.order t 4607182418800017408 == some .eq) = true) (w : World) :
    Calls Try.prog 36 #[.float .f64 a, .float .f64 b, .float .f64 t] w fun e w' => e = .returned (.float .f64 b) ∧ w = w' := by
  go_enter Try.func36, Try.ntmps36
  go_wp2_with fail
  go_ret
  exact ⟨rfl, rfl⟩
theorem rbtw_odd {a b t : Nat} {g : Bool} (ha : a < 18446744073709551616) (hb : b < 18446744073709551616) (h1 : (FloatKind.f64.format.order t t != some .eq) = false) (h2 : (FloatKind.f64.format.order t 0 == some .lt || FloatKind.f64.format.order t 0 == some .eq) = false) (h3 : (FloatKind.f64.format.order t 4607182418800017408 == some .gt || FloatKind.f64.format.order t 4607182418800017408 == some .eq) = false)
    (h4 : oddB a = true ∨ oddB a = false ∧ oddB b = true) (h5 : (FloatKind.f64.format.order t 4602678819172646912 == some .lt) = g) (w : World) :
    Calls Try.prog 36 #[.float .f64 a, .float .f64 b, .float .f64 t] w fun e w' => e = .returned (.float .f64 (if g then a else b)) ∧ w = w' := by
  rcases h4 with h4 | ⟨h4, h6⟩
  · cases g
    · go_enter Try.func36, Try.ntmps36
      go_wp2_with fail
      refine (rodd_any _ ha _).mono ?_; rintro e w' ⟨rfl, rfl⟩
      rw [h4]
      go_wp2_with fail
      refine (rodd_any _ ha _).mono ?_; rintro e w' ⟨rfl, rfl⟩
      rw [h4]
      go_wp2_with fail
      go_ret
      exact ⟨rfl, rfl⟩
    · go_enter Try.func36, Try.ntmps36
      go_wp2_with fail
      refine (rodd_any _ ha _).mono ?_; rintro e w' ⟨rfl, rfl⟩
      rw [h4]
      go_wp2_with fail
      go_ret
      exact ⟨rfl, rfl⟩
  · cases g
    · go_enter Try.func36, Try.ntmps36
      go_wp2_with fail
      refine (rodd_any _ ha _).mono ?_; rintro e w' ⟨rfl, rfl⟩
      rw [h4]
      go_wp2_with fail
      refine (rodd_any _ hb _).mono ?_; rintro e w' ⟨rfl, rfl⟩
      rw [h6]
      go_wp2_with fail
      refine (rodd_any _ ha _).mono ?_; rintro e w' ⟨rfl, rfl⟩
      rw [h4]
      go_wp2_with fail
      refine (rodd_any _ hb _).mono ?_; rintro e w' ⟨rfl, rfl⟩
      rw [h6]
      go_wp2_with fail
      go_ret
      exact ⟨rfl, rfl⟩
    · go_enter Try.func36, Try.ntmps36
      go_wp2_with fail
      refine (rodd_any _ ha _).mono ?_; rintro e w' ⟨rfl, rfl⟩
      rw [h4]
      go_wp2_with fail
      refine (rodd_any _ hb _).mono ?_; rintro e w' ⟨rfl, rfl⟩
      rw [h6]
      go_wp2_with fail
      go_ret
      exact ⟨rfl, rfl⟩
theorem rbtw_mid {a b t m q z : Nat} (ha : a < 18446744073709551616) (hb : b < 18446744073709551616) (h1 : (FloatKind.f64.format.order t t != some .eq) = false) (h2 : (FloatKind.f64.format.order t 0 == some .lt || FloatKind.f64.format.order t 0 == some .eq) = false) (h3 : (FloatKind.f64.format.order t 4607182418800017408 == some .gt || FloatKind.f64.format.order t 4607182418800017408 == some .eq) = false)
    (h4 : oddB a = false) (h5 : oddB b = false) (e1 : double.sub b a = some m) (e2 : double.mul m t = some q) (e3 : double.add a q = some z) (w : World) :
    Calls Try.prog 36 #[.float .f64 a, .float .f64 b, .float .f64 t] w fun e w' => e = .returned (.float .f64 z) ∧ w = w' := by
  have q1 : ∀ w : World, (binOp .sub 22 (.float .f64 b) (.float .f64 a)).run Try.prog w = .ok (.float .f64 m) w := run_fl .sub _ e1
  have q2 : ∀ w : World, (binOp .mul 22 (.float .f64 m) (.float .f64 t)).run Try.prog w = .ok (.float .f64 q) w := run_fl .mul _ e2
  have q3 : ∀ w : World, (binOp .add 22 (.float .f64 a) (.float .f64 q)).run Try.prog w = .ok (.float .f64 z) w := run_fl .add _ e3
  go_enter Try.func36, Try.ntmps36
  go_wp2_with fail
  refine (rodd_any _ ha _).mono ?_; rintro e w' ⟨rfl, rfl⟩
  rw [h4]
  go_wp2_with fail
  refine (rodd_any _ hb _).mono ?_; rintro e w' ⟨rfl, rfl⟩
  rw [h5]
  go_wp2_with fail
  refine (rodd_any _ ha _).mono ?_; rintro e w' ⟨rfl, rfl⟩
  rw [h4]
  go_wp2_with fail
  refine (rodd_any _ hb _).mono ?_; rintro e w' ⟨rfl, rfl⟩
  rw [h5]
  go_wp2_with fail
  go_ret
  exact ⟨rfl, rfl⟩
/-- what is between is told alike -/
theorem btw_both {a b t : Nat} (ha : a < 18446744073709551616) (hb : b < 18446744073709551616) (ht : t < 18446744073709551616) : ∃ z, (∀ w, Calls Try.prog 31 #[.float .f64 a, .float .f64 b, .float .f64 t] w fun e w' => e = .returned (.float .f64 z) ∧ w = w') ∧
    (∀ w, Calls Try.prog 36 #[.float .f64 a, .float .f64 b, .float .f64 t] w fun e w' => e = .returned (.float .f64 z) ∧ w = w') := by
  cases h1 : (FloatKind.f64.format.order t t != some .eq) with
  | true => exact ⟨a, btw_first (.inl h1), rbtw_first (.inl h1)⟩
  | false =>
    cases h2 : (FloatKind.f64.format.order t 0 == some .lt || FloatKind.f64.format.order t 0 == some .eq) with
    | true => exact ⟨a, btw_first (.inr ⟨h1, h2⟩), rbtw_first (.inr ⟨h1, h2⟩)⟩
    | false =>
      cases h3 : (FloatKind.f64.format.order t 4607182418800017408 == some .gt || FloatKind.f64.format.order t 4607182418800017408 == some .eq) with
      | true => exact ⟨b, btw_last h1 h2 h3, rbtw_last h1 h2 h3⟩
      | false =>
        cases h4 : oddB a with
        | true => exact ⟨_, btw_odd ha hb h1 h2 h3 (.inl h4) rfl, rbtw_odd ha hb h1 h2 h3 (.inl h4) rfl⟩
        | false =>
          cases h5 : oddB b with
          | true => exact ⟨_, btw_odd ha hb h1 h2 h3 (.inr ⟨h4, h5⟩) rfl, rbtw_odd ha hb h1 h2 h3 (.inr ⟨h4, h5⟩) rfl⟩
          | false =>
            have fa := odd_fin ha h4
            have fb := odd_fin hb h5
            obtain ⟨T, ft, t0, t1⟩ := share_fin ht h1 h2 h3
            obtain ⟨m, e1, hm⟩ := sub_some fb.fin fa.fin
            obtain ⟨q, e2, hq⟩ := mul_some hm ft.fin (by rw [ft.sv]; omega)
            obtain ⟨z, e3⟩ := add_some fa.fin hq
            exact ⟨z, btw_mid ha hb h1 h2 h3 h4 h5 e1 e2 e3, rbtw_mid ha hb h1 h2 h3 h4 h5 e1 e2 e3⟩
end Go.Proofs.Ytiniaphleogkiaa.Vw
