import Derived.Test.YtiniaphleogkiaaVw5
import Derived.Test.YtiniaphleogkiaaSt3
namespace Go.Proofs.Ytiniaphleogkiaa.Vw
open Go.RowKit Dt Go.Proofs.Ytiniaphleogkiaa.Hd Go.Proofs.Ytiniaphleogkiaa.Ma Ieee
open Go.Proofs.Ytiniaphleogkiaa.Sk (leq_fl geq_fl gt_fl lt_fl eq_fl)
set_option linter.unusedVariables false
set_option linter.unusedSimpArgs false

/-- a share that is within 0 and 1 -/
theorem share_fin {t : Nat} (ht : t < 18446744073709551616) (h1 : (FloatKind.f64.format.order t t != some .eq) = false) (h2 : (FloatKind.f64.format.order t 0 == some .lt || FloatKind.f64.format.order t 0 == some .eq) = false) (h3 : (FloatKind.f64.format.order t 4607182418800017408 == some .gt || FloatKind.f64.format.order t 4607182418800017408 == some .eq) = false) :
    ∃ T : Int, Fl t T ∧ 0 < T ∧ T < S := by
  have hn : num t := by
    by_cases h : num t
    · exact h
    · have := nanB_eq t
      rw [decide_eq_false h] at this
      unfold nanB at this
      change (FloatKind.f64.format.order t t != some .eq) = true at this
      rw [h1] at this; cases this
  have o2 : FloatKind.f64.format.order t 0 = some (compare (sv t) (sv 0)) := order_num hn num_zero
  have o3 : FloatKind.f64.format.order t 4607182418800017408 = some (compare (sv t) (sv 4607182418800017408)) := order_num hn (Nat.le_of_lt fl_one'.fin)
  rw [o2, sv_zero] at h2
  rw [o3, fl_one'.sv] at h3
  have a : 0 < sv t := by
    rcases Int.lt_trichotomy (sv t) 0 with h | h | h
    · rw [Int.compare_eq_lt.2 h] at h2; cases h2
    · rw [Int.compare_eq_eq.2 h] at h2; cases h2
    · exact h
  have b : sv t < S := by
    rcases Int.lt_trichotomy (sv t) S with h | h | h
    · exact h
    · rw [Int.compare_eq_eq.2 h] at h3; cases h3
    · rw [Int.compare_eq_gt.2 h] at h3; cases h3
  refine ⟨sv t, ⟨ht, ?_, rfl⟩, a, b⟩
  unfold num at hn
  rcases Nat.lt_or_eq_of_le hn with h | h
  · exact h
  · exfalso
    have := sv_inf h
    have hl := fl_one'.rep.lt
    have hp : 0 < mg infR := mg_pos (by decide)
    cases hg : ng t
    · rw [hg] at this; simp at this; omega
    · rw [hg] at this; simp at this; omega
theorem odd_num {x : Nat} (hx : x < 18446744073709551616) (hn : num x) (h : oddB x = false) : Fl x (sv x) := by
  refine ⟨hx, ?_, rfl⟩
  unfold num at hn
  rcases Nat.lt_or_eq_of_le hn with h' | h'
  · exact h'
  · exfalso
    unfold oddB infB at h
    rw [h'] at h
    have e : (FloatKind.f64.format.order infR 9218868437227405311 == some .gt) = true := by kernel_rfl
    rw [e] at h
    simp at h
theorem num_of {x : Nat} (h : (FloatKind.f64.format.order x x != some .eq) = false) : num x := by
  by_cases h' : num x
  · exact h'
  · have := nanB_eq x
    rw [decide_eq_false h'] at this
    unfold nanB at this
    change (FloatKind.f64.format.order x x != some .eq) = true at this
    rw [h] at this; cases this
theorem odd_fin {x : Nat} (hx : x < 18446744073709551616) (h : oddB x = false) : Fl x (sv x) := by
  have h1 : (FloatKind.f64.format.order x x != some .eq) = false := by
    unfold oddB at h
    cases c : (FloatKind.f64.format.order x x != some .eq)
    · rfl
    · rw [c] at h; simp at h
  exact odd_num hx (num_of h1) h
/-- between two that are the same -/
theorem btw_self {p t : Nat} (hp : p < 18446744073709551616) (ht : t < 18446744073709551616) : ∃ z, (∀ w, Calls Try.prog 31 #[.float .f64 p, .float .f64 p, .float .f64 t] w fun e w' => e = .returned (.float .f64 z) ∧ w = w') ∧
    ((FloatKind.f64.format.order p p != some .eq) = false → (FloatKind.f64.format.order z p == some .eq) = true) := by
  have hself : (FloatKind.f64.format.order p p != some .eq) = false → (FloatKind.f64.format.order p p == some .eq) = true := fun h => by
    cases c : (FloatKind.f64.format.order p p == some .eq)
    · rw [bne, c] at h; cases h
    · rfl
  cases h1 : (FloatKind.f64.format.order t t != some .eq) with
  | true => exact ⟨p, btw_first (.inl h1), hself⟩
  | false =>
    cases h2 : (FloatKind.f64.format.order t 0 == some .lt || FloatKind.f64.format.order t 0 == some .eq) with
    | true => exact ⟨p, btw_first (.inr ⟨h1, h2⟩), hself⟩
    | false =>
      cases h3 : (FloatKind.f64.format.order t 4607182418800017408 == some .gt || FloatKind.f64.format.order t 4607182418800017408 == some .eq) with
      | true => exact ⟨p, btw_last h1 h2 h3, hself⟩
      | false =>
        cases h4 : oddB p with
        | true =>
          have := fun w => btw_odd (g := (FloatKind.f64.format.order t 4602678819172646912 == some .lt)) hp hp h1 h2 h3 (.inl h4) rfl w
          refine ⟨p, fun w => ?_, hself⟩
          have h := this w
          split at h <;> exact h
        | false =>
          have fp := odd_fin hp h4
          obtain ⟨T, ft, t0, t1⟩ := share_fin ht h1 h2 h3
          obtain ⟨m, e1, fm⟩ := fsub_exact fp fp (by rw [Int.sub_self]; exact Rep.zero)
          rw [Int.sub_self] at fm
          obtain ⟨q, e2, fq⟩ := fmul_exact (V := 0) fm ft (by simp) Rep.zero
          obtain ⟨z, e3, fz⟩ := fadd_exact fp fq (by rw [Int.add_zero]; exact fp.rep)
          rw [Int.add_zero] at fz
          refine ⟨z, btw_mid hp hp h1 h2 h3 h4 h4 e1 e2 e3, fun _ => ?_⟩
          rw [eq_fl fz fp]; simp
set_option maxHeartbeats 1600000 in
theorem walk_vends (b0 b1 b2 : Int) (x0 x1 x2 : Nat) (W : World) (h0 : (Lit.int .i64 b0).wf = true) (h1 : (Lit.int .i64 b1).wf = true) (h2 : (Lit.int .i64 b2).wf = true) (h3 : (Lit.float .f64 x0).wf = true) (h4 : (Lit.float .f64 x1).wf = true) (h5 : (Lit.float .f64 x2).wf = true) :
    Calls Try.prog 14 #[.int .i64 b0, .int .i64 b1, .int .i64 b2, .float .f64 x0, .float .f64 x1, .float .f64 x2] W fun e w' => e = .returned (.bool true) ∧ Below W.heap.size W w' := by
  have hx := wf64 h3
  have hy := wf64 h4
  have hz := wf64 h5
  clear h0 h1 h2 h3 h4 h5
  go_enter Try.func14, Try.ntmps14
  go_wp2_with fail
  refine (float_any _ _ hx _).mono ?_; rintro e w' ⟨p, hp, rfl, rfl⟩
  go_wp2_with fail
  refine (float_any _ _ hy _).mono ?_; rintro e w' ⟨q, hq, rfl, rfl⟩
  go_wp2_with fail
  refine (float_any _ _ hz _).mono ?_; rintro e w' ⟨t, ht, rfl, rfl⟩
  go_wp2_with fail
  refine (vknown_any _).mono ?_; rintro e w1 ⟨rfl, hF⟩
  have a1 := btw_first (a := p) (b := q) (t := 0) (.inr ⟨by kernel_rfl, by kernel_rfl⟩)
  have a2 := btw_last (a := p) (b := q) (t := 4607182418800017408) (by kernel_rfl) (by kernel_rfl) (by kernel_rfl)
  have a3 := btw_first (a := p) (b := q) (t := 9221120237041090561) (.inl (by kernel_rfl))
  obtain ⟨z, a4, hz⟩ := btw_self hp ht
  have l1 := alike_any p p
  have l2 := alike_any q q
  rw [show ((nanB p && nanB p) || decide (p = p)) = true by simp] at l1
  rw [show ((nanB q && nanB q) || decide (q = q)) = true by simp] at l2
  have A1 := Lib.hid a1; have A2 := Lib.hid a2; have A3 := Lib.hid a3; have A4 := Lib.hid a4; have L1 := Lib.hid l1; have L2 := Lib.hid l2; have HF := Lib.hid hF
  clear a1 a2 a3 a4 l1 l2 hF
  obtain ⟨n, hn⟩ : ∃ n, (FloatKind.f64.format.order p p != some .eq) = n := ⟨_, rfl⟩
  obtain ⟨o, ho⟩ : ∃ o, (FloatKind.f64.format.order z p == some .eq) = o := ⟨_, rfl⟩
  rw [hn, ho] at hz
  have hno : n = true ∨ (n = false ∧ o = true) := by cases n <;> simp_all
  clear hz
  rcases hno with rfl | ⟨rfl, rfl⟩
  all_goals
    first | (cases o) | skip
  all_goals
    go_wp2_with fail
    refine (A1.out _).mono ?_; rintro e w' ⟨rfl, rfl⟩
    go_wp2_with fail
    refine (L1.out _).mono ?_; rintro e w' ⟨rfl, rfl⟩
    go_wp2_with fail
    refine (A2.out _).mono ?_; rintro e w' ⟨rfl, rfl⟩
    go_wp2_with fail
    refine (L2.out _).mono ?_; rintro e w' ⟨rfl, rfl⟩
    go_wp2_with fail
    refine (mknan _).mono ?_; rintro e w' ⟨rfl, rfl⟩
    go_wp2_with fail
    refine (A3.out _).mono ?_; rintro e w' ⟨rfl, rfl⟩
    go_wp2_with fail
    refine (L1.out _).mono ?_; rintro e w' ⟨rfl, rfl⟩
    go_wp2_with fail
    refine (A4.out _).mono ?_; rintro e w' ⟨rfl, rfl⟩
    go_wp2_with fail
    go_ret
    exact ⟨rfl, HF.out.below (Nat.le_refl _) (by simp)⟩
end Go.Proofs.Ytiniaphleogkiaa.Vw
