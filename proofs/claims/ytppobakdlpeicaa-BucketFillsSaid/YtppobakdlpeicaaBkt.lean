import Derived.Test.YtppobakdlpeicaaMtS2
import Derived.Test.YtppobakdlpeicaaMth
import Derived.Test.YtppobakdlpeicaaBkP
namespace Go.Proofs.Ytppobakdlpeicaa.Bk
open Go.RowKit Dt Go.Proofs.Ytppobakdlpeicaa.Hd Go.Proofs.Ytppobakdlpeicaa.Mt Ieee
set_option linter.unusedVariables false
set_option linter.unusedSimpArgs false
attribute [local go_sem] run_store_float

def oddB (x : Nat) : Bool := (FloatKind.f64.format.order x x != some .eq) || Ma.infB x
theorem odd_any (x : Nat) (hx : x < 18446744073709551616) (w : World) : Calls Try.prog 29 #[.float .f64 x] w fun e w' => e = .returned (.bool (oddB x)) ∧ w = w' := by
  unfold oddB
  cases h1 : (FloatKind.f64.format.order x x != some .eq)
  · go_enter Try.func29, Try.ntmps29
    go_wp2_with fail
    refine (Ma.nan_any _ _).mono ?_; rintro e w' ⟨rfl, rfl⟩
    go_wp2_with fail
    refine (Ma.inf_any _ hx _).mono ?_; rintro e w' ⟨rfl, rfl⟩
    go_wp2_with fail
    go_ret
    exact ⟨rfl, rfl⟩
  · go_enter Try.func29, Try.ntmps29
    go_wp2_with fail
    refine (Ma.nan_any _ _).mono ?_; rintro e w' ⟨rfl, rfl⟩
    go_wp2_with fail
    go_ret
    exact ⟨rfl, rfl⟩
theorem odd_fin {x : Nat} {X : Int} (h : Fl x X) : oddB x = false := by
  have hmax : Fl 9218868437227405311 (mg (infR - 1) : Int) := ⟨by decide, by unfold fin; decide, rfl⟩
  have hb : X.natAbs ≤ mg (infR - 1) := by
    have h2 := h.rep
    obtain ⟨r, a, b⟩ := h2
    rw [← b]; exact mg_le_iff.2 (by omega)
  unfold oddB Ma.infB
  rw [not_gt h.abs hmax (by omega)]
  have o : FloatKind.f64.format.order x x = some (compare X X) := forder h h
  rw [o, Int.compare_eq_eq.2 rfl]; rfl

/-- a bucket at block b: rate, depth, level, the last tick -/
def HasB (w : World) (b : Nat) (r d l : Nat) (t : Int) : Prop := Blk w b #[.float .f64 r, .float .f64 d, .float .f64 l, .int .i64 t] 53
theorem HasB.fr {S : List Nat} {w w' : World} {b : Nat} {t : Int} {r d l : Nat} (h : HasB w b r d l t) (hF : Fr S w w') (hb : b ∉ S) : HasB w' b r d l t := hF.blk h hb

theorem new_ok (r d : Nat) (w : World) (hr : r < 18446744073709551616) (hd : d < 18446744073709551616) (o1 : oddB r = false) (o2 : oddB d = false) (c1 : (FloatKind.f64.format.order r 0 == some .lt) = false) (c2 : (FloatKind.f64.format.order d 4607182418800017408 == some .lt) = false) (c3 : (FloatKind.f64.format.order d 4652007308841189376 == some .gt) = false) :
    Calls Try.prog 11 #[.float .f64 r, .float .f64 d] w fun e w' => e = .returned (.tuple #[.pointer (some ⟨w.heap.size, 0, none⟩), .int .i64 0]) ∧ HasB w' w.heap.size r d d 0 ∧ Fr [] w w' := by
  go_enter Try.func11, Try.ntmps11
  go_wp2_with fail
  refine (odd_any _ hr _).mono ?_; rintro e w' ⟨rfl, rfl⟩
  rw [o1]
  go_wp2_with fail
  refine (odd_any _ hd _).mono ?_; rintro e w' ⟨rfl, rfl⟩
  rw [o2]
  go_wp2_with fail
  go_ret2
  exact ⟨rfl, Blk.new _ _ _, (Fr.refl [] _).alloc _⟩
theorem new_no (r d : Nat) (w : World) (hr : r < 18446744073709551616) (hd : d < 18446744073709551616) (h : (oddB r || oddB d || (FloatKind.f64.format.order r 0 == some .lt) || (FloatKind.f64.format.order d 4607182418800017408 == some .lt) || (FloatKind.f64.format.order d 4652007308841189376 == some .gt)) = true) :
    Calls Try.prog 11 #[.float .f64 r, .float .f64 d] w fun e w' => e = .returned (.tuple #[.pointer none, .int .i64 1]) ∧ w = w' := by
  cases o1 : oddB r <;> cases o2 : oddB d <;> cases c1 : (FloatKind.f64.format.order r 0 == some .lt) <;> cases c2 : (FloatKind.f64.format.order d 4607182418800017408 == some .lt) <;> cases c3 : (FloatKind.f64.format.order d 4652007308841189376 == some .gt)
  all_goals first
    | (rw [o1, o2, c1, c2, c3] at h; exact absurd h (by decide))
    | (clear h
       go_enter Try.func11, Try.ntmps11
       go_wp2_with fail
       refine (odd_any _ hr _).mono ?_; rintro e w' ⟨rfl, rfl⟩
       rw [o1]
       go_wp2_with fail
       first
         | (go_ret2; exact ⟨rfl, rfl⟩)
         | (refine (odd_any _ hd _).mono ?_; rintro e w' ⟨rfl, rfl⟩
            rw [o2]
            go_wp2_with fail
            go_ret2
            exact ⟨rfl, rfl⟩))
theorem level_any {w : World} {b : Nat} {t : Int} {r d l : Nat} (hB : HasB w b r d l t) : Calls Try.prog 13 #[.pointer (some ⟨b, 0, none⟩)] w fun e w' => e = .returned (.float .f64 l) ∧ w = w' := by
  unfold HasB at hB
  have c1 := hB.cell (i := 2) rfl
  simp only [List.getElem_toArray, List.getElem_cons_zero, List.getElem_cons_succ] at c1
  go_enter Try.func13, Try.ntmps13
  go_wp2_with fail
  go_ret
  exact ⟨rfl, rfl⟩
/-- Take at a tick that is not newer -/
theorem take_old_no {w : World} {b : Nat} {t tick tt : Int} {r d l : Nat} (hB : HasB w b r d l t) (ht : (if 1000000 < tick then 1000000 else tick) = tt) (hle : decide (t < tt) = false) (hl : (FloatKind.f64.format.order l 4607182418800017408 == some .lt) = true) :
    Calls Try.prog 14 #[.pointer (some ⟨b, 0, none⟩), .int .i64 tick] w fun e w' => e = .returned (.bool false) ∧ HasB w' b r d l t ∧ Fr [b] w w' := by
  unfold HasB at *
  have c2 := hB.cell (i := 2) rfl
  have c3 := hB.cell (i := 3) rfl
  simp only [List.getElem_toArray, List.getElem_cons_zero, List.getElem_cons_succ] at c2 c3
  go_enter Try.func14, Try.ntmps14
  go_wp2_with fail
  go_ret
  exact ⟨rfl, hB, Fr.refl _ _⟩
theorem take_old_yes {w : World} {b : Nat} {t tick tt : Int} {r d l l' : Nat} (hB : HasB w b r d l t) (ht : (if 1000000 < tick then 1000000 else tick) = tt) (hle : decide (t < tt) = false) (hl : (FloatKind.f64.format.order l 4607182418800017408 == some .lt) = false) (e1 : double.sub l 4607182418800017408 = some l') :
    Calls Try.prog 14 #[.pointer (some ⟨b, 0, none⟩), .int .i64 tick] w fun e w' => e = .returned (.bool true) ∧ HasB w' b r d l' t ∧ Fr [b] w w' := by
  unfold HasB at *
  have c2 := hB.cell (i := 2) rfl
  have c3 := hB.cell (i := 3) rfl
  have f2 := hB.free 2
  simp only [List.getElem_toArray, List.getElem_cons_zero, List.getElem_cons_succ] at c2 c3
  have n1 : ∀ w : World, (binOp .sub 23 (.float .f64 l) (.float .f64 4607182418800017408)).run Try.prog w = .ok (.float .f64 l') w := run_fl .sub _ e1
  go_enter Try.func14, Try.ntmps14
  go_wp2_with fail
  go_ret
  exact ⟨rfl, hB.set 2 _, (Fr.refl _ _).setCell (.inl (by simp)) _⟩
set_option maxHeartbeats 800000 in
theorem take_new_no {w : World} {b : Nat} {t tick tt : Int} {r d l m s l' : Nat} (hB : HasB w b r d l t) (ht : (if 1000000 < tick then 1000000 else tick) = tt) (h0 : 0 ≤ t) (hle : t < tt) (h1 : tt ≤ 1000000)
    (e1 : double.mul r (Go.floatOfInt .f64 (tt - t)) = some m) (e2 : double.add l m = some s) (e3 : ∀ w, (Builtin.min_ #[23, 23] 23 #[.float .f64 d, .float .f64 s]).run Try.prog w = .ok (.float .f64 l') w)
    (hl : (FloatKind.f64.format.order l' 4607182418800017408 == some .lt) = true) :
    Calls Try.prog 14 #[.pointer (some ⟨b, 0, none⟩), .int .i64 tick] w fun e w' => e = .returned (.bool false) ∧ HasB w' b r d l' tt ∧ Fr [b] w w' := by
  unfold HasB at *
  have c0 := hB.cell (i := 0) rfl
  have c1 := hB.cell (i := 1) rfl
  have c2 := hB.cell (i := 2) rfl
  have c3 := hB.cell (i := 3) rfl
  have f2 := hB.free 2
  have f3 := hB.free 3
  simp only [List.getElem_toArray, List.getElem_cons_zero, List.getElem_cons_succ] at c0 c1 c2 c3
  obtain ⟨fp, hfp⟩ : ∃ fp, Go.floatOfInt .f64 (tt - t) = fp := ⟨_, rfl⟩
  rw [hfp] at e1
  have n0 : ∀ w, (convert 3 23 (.int .i64 (tt - t))).run Try.prog w = .ok (.float .f64 fp) w := fun w => by rw [← hfp]; exact run_convert_int_float w 3 23 .i64 .f64 (tt - t) (by rw [Try.underlying3]; rfl) Try.underlying23
  have n1 : ∀ w : World, (binOp .mul 23 (.float .f64 r) (.float .f64 fp)).run Try.prog w = .ok (.float .f64 m) w := run_fl .mul _ e1
  have n2 : ∀ w : World, (binOp .add 23 (.float .f64 l) (.float .f64 m)).run Try.prog w = .ok (.float .f64 s) w := run_fl .add _ e2
  clear hfp e1 e2
  go_enter Try.func14, Try.ntmps14
  go_wp2_with fail
  go_quiet (fail)
  go_wp2_with fail
  have hB1 := hB.drewN nq
  clear hB c0 c1 c2 c3 f2 f3
  have c1 := hB1.cell (i := 1) rfl
  have c2 := hB1.cell (i := 2) rfl
  simp only [List.getElem_toArray, List.getElem_cons_zero, List.getElem_cons_succ] at c1 c2
  have hF1 := (Fr.refl [b] w).drewN nq
  generalize w.drewN nq = w1 at *
  refine wp_region_still_tail 14 (by kernel_rfl) (by kernel_rfl) ?_
  simp only [List.take_succ_cons, List.take_zero, List.drop_succ_cons, List.drop_zero]
  repeat still_step
  refine wpStill_nil ?_
  change wpList _ _ _ _ _ w1.drew
  have hB4 := hB1.drew
  have hF4 := hF1.drew
  clear c1 c2 hB1 hF1
  generalize w1.drew = w2 at *
  have hB3 : Blk ((w2.setCell ⟨b, 2, none⟩ (.float .f64 l')).setCell ⟨b, 3, none⟩ (.int .i64 tt)) b #[.float .f64 r, .float .f64 d, .float .f64 l', .int .i64 tt] 53 := (hB4.set 2 _).set 3 _
  have hF3 := (hF4.setCell (p := ⟨b, 2, none⟩) (.inl (by simp)) (.float .f64 l')).setCell (p := ⟨b, 3, none⟩) (.inl (by simp)) (.int .i64 tt)
  have d2 := hB4.cell (i := 2) rfl
  have d3 := hB4.cell (i := 3) rfl
  have g2 := hB4.free 2
  have g3 := hB4.free 3
  simp only [List.getElem_toArray, List.getElem_cons_zero, List.getElem_cons_succ] at d2 d3
  clear hB4 hF4
  go_wp2_with fail
  go_ret
  exact ⟨rfl, hB3, hF3⟩
set_option maxHeartbeats 800000 in
theorem take_new_yes {w : World} {b : Nat} {t tick tt : Int} {r d l m s l' l2 : Nat} (hB : HasB w b r d l t) (ht : (if 1000000 < tick then 1000000 else tick) = tt) (h0 : 0 ≤ t) (hle : t < tt) (h1 : tt ≤ 1000000)
    (e1 : double.mul r (Go.floatOfInt .f64 (tt - t)) = some m) (e2 : double.add l m = some s) (e3 : ∀ w, (Builtin.min_ #[23, 23] 23 #[.float .f64 d, .float .f64 s]).run Try.prog w = .ok (.float .f64 l') w)
    (hl : (FloatKind.f64.format.order l' 4607182418800017408 == some .lt) = false) (e4 : double.sub l' 4607182418800017408 = some l2) :
    Calls Try.prog 14 #[.pointer (some ⟨b, 0, none⟩), .int .i64 tick] w fun e w' => e = .returned (.bool true) ∧ HasB w' b r d l2 tt ∧ Fr [b] w w' := by
  unfold HasB at *
  have c0 := hB.cell (i := 0) rfl
  have c1 := hB.cell (i := 1) rfl
  have c2 := hB.cell (i := 2) rfl
  have c3 := hB.cell (i := 3) rfl
  have f2 := hB.free 2
  have f3 := hB.free 3
  simp only [List.getElem_toArray, List.getElem_cons_zero, List.getElem_cons_succ] at c0 c1 c2 c3
  obtain ⟨fp, hfp⟩ : ∃ fp, Go.floatOfInt .f64 (tt - t) = fp := ⟨_, rfl⟩
  rw [hfp] at e1
  have n0 : ∀ w, (convert 3 23 (.int .i64 (tt - t))).run Try.prog w = .ok (.float .f64 fp) w := fun w => by rw [← hfp]; exact run_convert_int_float w 3 23 .i64 .f64 (tt - t) (by rw [Try.underlying3]; rfl) Try.underlying23
  have n1 : ∀ w : World, (binOp .mul 23 (.float .f64 r) (.float .f64 fp)).run Try.prog w = .ok (.float .f64 m) w := run_fl .mul _ e1
  have n2 : ∀ w : World, (binOp .add 23 (.float .f64 l) (.float .f64 m)).run Try.prog w = .ok (.float .f64 s) w := run_fl .add _ e2
  have n4 : ∀ w : World, (binOp .sub 23 (.float .f64 l') (.float .f64 4607182418800017408)).run Try.prog w = .ok (.float .f64 l2) w := run_fl .sub _ e4
  clear hfp e1 e2 e4
  go_enter Try.func14, Try.ntmps14
  go_wp2_with fail
  go_quiet (fail)
  go_wp2_with fail
  have hB1 := hB.drewN nq
  clear hB c0 c1 c2 c3 f2 f3
  have c1 := hB1.cell (i := 1) rfl
  have c2 := hB1.cell (i := 2) rfl
  simp only [List.getElem_toArray, List.getElem_cons_zero, List.getElem_cons_succ] at c1 c2
  have hF1 := (Fr.refl [b] w).drewN nq
  generalize w.drewN nq = w1 at *
  refine wp_region_still_tail 14 (by kernel_rfl) (by kernel_rfl) ?_
  simp only [List.take_succ_cons, List.take_zero, List.drop_succ_cons, List.drop_zero]
  repeat still_step
  refine wpStill_nil ?_
  change wpList _ _ _ _ _ w1.drew
  have hB4 := hB1.drew
  have hF4 := hF1.drew
  clear c1 c2 hB1 hF1
  generalize w1.drew = w2 at *
  have hB3 : Blk ((w2.setCell ⟨b, 2, none⟩ (.float .f64 l')).setCell ⟨b, 3, none⟩ (.int .i64 tt)) b #[.float .f64 r, .float .f64 d, .float .f64 l', .int .i64 tt] 53 := (hB4.set 2 _).set 3 _
  have hF3 := (hF4.setCell (p := ⟨b, 2, none⟩) (.inl (by simp)) (.float .f64 l')).setCell (p := ⟨b, 3, none⟩) (.inl (by simp)) (.int .i64 tt)
  have d2 := hB4.cell (i := 2) rfl
  have d3 := hB4.cell (i := 3) rfl
  have g2 := hB4.free 2
  have g3 := hB4.free 3
  simp only [List.getElem_toArray, List.getElem_cons_zero, List.getElem_cons_succ] at d2 d3
  clear hB4 hF4
  go_wp2_with fail
  go_ret
  exact ⟨rfl, hB3.set 2 _, hF3.setCell (.inl (by simp)) _⟩
end Go.Proofs.Ytppobakdlpeicaa.Bk
