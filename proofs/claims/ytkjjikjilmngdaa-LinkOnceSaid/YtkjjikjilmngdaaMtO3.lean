import Derived.Test.YtkjjikjilmngdaaMtO2
import Derived.Test.YtkjjikjilmngdaaFp6
import Derived.Deep.Cut
namespace Go.Proofs.Ytkjjikjilmngdaa.Mt
open Go.RowKit Dt Go.Proofs.Ytkjjikjilmngdaa.Hd Ieee
set_option linter.unusedVariables false
set_option linter.unusedSimpArgs false
attribute [local go_sem] run_negf run_store_float

theorem run_ceil {x m : Nat} {s : Bool} {p : Int} (hr : double.read x = .number s m p) (w : World) : (callFunc 72 #[.float .f64 x]).run Try.prog w = .ok (.value (.float .f64 (double.write ((double.read x).integral .up)))) w := by
  rw [run_callFunc_extern (e := Extern.MathFloor.toIntegral "math.archCeil" .up) Try.func72 (by kernel_rfl) (by kernel_rfl) (by kernel_rfl) (by kernel_rfl) _ _]
  have hd : FloatKind.f64.decode x = .number s m p := hr
  have he : Extern.MathFloor.toIntegral "math.archCeil" .up #[.float .f64 x] = pure (.float .f64 (double.write ((double.read x).integral .up))) := by
    show (match FloatKind.f64.decode x with
      | .nan s t => _
      | d => _) = _
    rw [hd, hr]
    rfl
  rw [he]
  rfl
theorem ceil_any {x z : Nat} {X : Int} (h : Fl x X) (hz : double.write ((double.read x).integral .up) = z) (w : World) : Calls Try.prog 58 #[.float .f64 x] w fun e w' => e = .returned (.float .f64 z) ∧ w = w' := by
  obtain ⟨m, p, hr, hm⟩ := read_fin h.fin
  have hc : ∀ w, (callFunc 72 #[.float .f64 x]).run Try.prog w = .ok (.value (.float .f64 z)) w := fun w => by rw [run_ceil hr w, hz]
  clear hr hm hz h
  go_enter Try.func58, Try.ntmps58
  go_wp2_with fail
  go_ret
  exact ⟨rfl, rfl⟩
set_option maxRecDepth 100000 in
theorem lead_walk {w : World} {b o : Nat} {T : TypeId} {vs : Array Value} {n : Int} {m j h t a q z s r : Nat} {p pp : Int} {R : Int} (h0 : Blk w b vs T) (hM : MtrS vs o n m j)
    (hp : (if 8 < p then 8 else p) = pp) (h1 : (1 : Int) ≤ pp)
    (e1 : double.div m 4611686018427387904 = some h) (e2 : double.mul 4611686018427387904 j = some t) (e3 : double.add h t = some a) (e4 : double.div a (Go.floatOfInt .f64 pp) = some q)
    (ez : ∀ w, Calls Try.prog 58 #[.float .f64 q] w fun e w' => e = .returned (.float .f64 z) ∧ w = w') (e5 : double.add z 4607182418800017408 = some s)
    (e6 : ∀ w, (Builtin.min_ #[28, 28] 28 #[.float .f64 s, .float .f64 4625196817309499392]).run Try.prog w = .ok (.float .f64 r) w) (e7 : floatToIntVal .f64 r .i64 = some R) :
    Calls Try.prog 47 #[.pointer (some ⟨b, o, none⟩), .int .i64 p] w fun e w' => e = .returned (.int .i64 R) ∧ ∃ k, w' = w.drewN k := by
  have q1 : ∀ w : World, (binOp .quo 28 (.float .f64 m) (.float .f64 4611686018427387904)).run Try.prog w = .ok (.float .f64 h) w := run_fl .quo _ e1
  have q2 : ∀ w : World, (binOp .mul 28 (.float .f64 4611686018427387904) (.float .f64 j)).run Try.prog w = .ok (.float .f64 t) w := run_fl .mul _ e2
  have q3 : ∀ w : World, (binOp .add 28 (.float .f64 h) (.float .f64 t)).run Try.prog w = .ok (.float .f64 a) w := run_fl .add _ e3
  obtain ⟨fp, hfp⟩ : ∃ fp, Go.floatOfInt .f64 pp = fp := ⟨_, rfl⟩
  rw [hfp] at e4
  have q4 : ∀ w : World, (binOp .quo 28 (.float .f64 a) (.float .f64 fp)).run Try.prog w = .ok (.float .f64 q) w := run_fl .quo _ e4
  have q5 : ∀ w : World, (binOp .add 28 (.float .f64 z) (.float .f64 4607182418800017408)).run Try.prog w = .ok (.float .f64 s) w := run_fl .add _ e5
  have q6 : ∀ w, (convert 3 28 (.int .i64 pp)).run Try.prog w = .ok (.float .f64 fp) w := fun w => by rw [← hfp]; exact run_convert_int_float w 3 28 .i64 .f64 pp (by rw [Try.underlying3]; rfl) Try.underlying28
  have q7 : ∀ w, (convert 28 3 (.float .f64 r)).run Try.prog w = .ok (.int .i64 R) w := fun w => run_convert_float_int w 28 3 .f64 .i64 r R (by rw [Try.underlying28]; rfl) Try.underlying3 e7
  have c1 := Blk.cell h0 (hM.at (i := 1) rfl)
  have c2 := Blk.cell h0 (hM.at (i := 2) rfl)
  have EZ := Lib.hid ez
  have h1' : decide (pp < 1) = false := by simp; omega
  have h1'' : (if 1 < pp then pp else 1) = pp := by split <;> omega
  clear e1 e2 e3 e4 e5 e7 hfp ez hM h0
  go_enter Try.func47, Try.ntmps47
  go_upto_region 2 with (fail)
  go_quiet (fail)
  go_wp2_with fail
  refine (EZ.out _).mono ?_; rintro e w' ⟨rfl, rfl⟩
  go_wp2_with fail
  go_ret
  exact ⟨rfl, _, rfl⟩
set_option maxRecDepth 100000 in
theorem lead_low {w : World} {b o : Nat} {T : TypeId} {vs : Array Value} {n : Int} {m j h t a q z s r : Nat} {p pp : Int} {R : Int} (h0 : Blk w b vs T) (hM : MtrS vs o n m j)
    (hp : p < 1) (hpp : pp = 1)
    (e1 : double.div m 4611686018427387904 = some h) (e2 : double.mul 4611686018427387904 j = some t) (e3 : double.add h t = some a) (e4 : double.div a (Go.floatOfInt .f64 pp) = some q)
    (ez : ∀ w, Calls Try.prog 58 #[.float .f64 q] w fun e w' => e = .returned (.float .f64 z) ∧ w = w') (e5 : double.add z 4607182418800017408 = some s)
    (e6 : ∀ w, (Builtin.min_ #[28, 28] 28 #[.float .f64 s, .float .f64 4625196817309499392]).run Try.prog w = .ok (.float .f64 r) w) (e7 : floatToIntVal .f64 r .i64 = some R) :
    Calls Try.prog 47 #[.pointer (some ⟨b, o, none⟩), .int .i64 p] w fun e w' => e = .returned (.int .i64 R) ∧ ∃ k, w' = w.drewN k := by
  have q1 : ∀ w : World, (binOp .quo 28 (.float .f64 m) (.float .f64 4611686018427387904)).run Try.prog w = .ok (.float .f64 h) w := run_fl .quo _ e1
  have q2 : ∀ w : World, (binOp .mul 28 (.float .f64 4611686018427387904) (.float .f64 j)).run Try.prog w = .ok (.float .f64 t) w := run_fl .mul _ e2
  have q3 : ∀ w : World, (binOp .add 28 (.float .f64 h) (.float .f64 t)).run Try.prog w = .ok (.float .f64 a) w := run_fl .add _ e3
  obtain ⟨fp, hfp⟩ : ∃ fp, Go.floatOfInt .f64 pp = fp := ⟨_, rfl⟩
  rw [hfp] at e4
  have q4 : ∀ w : World, (binOp .quo 28 (.float .f64 a) (.float .f64 fp)).run Try.prog w = .ok (.float .f64 q) w := run_fl .quo _ e4
  have q5 : ∀ w : World, (binOp .add 28 (.float .f64 z) (.float .f64 4607182418800017408)).run Try.prog w = .ok (.float .f64 s) w := run_fl .add _ e5
  have q6 : ∀ w, (convert 3 28 (.int .i64 pp)).run Try.prog w = .ok (.float .f64 fp) w := fun w => by rw [← hfp]; exact run_convert_int_float w 3 28 .i64 .f64 pp (by rw [Try.underlying3]; rfl) Try.underlying28
  have q7 : ∀ w, (convert 28 3 (.float .f64 r)).run Try.prog w = .ok (.int .i64 R) w := fun w => run_convert_float_int w 28 3 .f64 .i64 r R (by rw [Try.underlying28]; rfl) Try.underlying3 e7
  have c1 := Blk.cell h0 (hM.at (i := 1) rfl)
  have c2 := Blk.cell h0 (hM.at (i := 2) rfl)
  have EZ := Lib.hid ez
  have h1' : decide (p < 1) = true := by simp; omega
  have h1'' : (if 1 < p then p else 1) = 1 := by split <;> omega
  have h1''' : (if 8 < p then 8 else p) = p := by split <;> omega
  subst hpp
  clear e1 e2 e3 e4 e5 e7 hfp ez hM h0
  go_enter Try.func47, Try.ntmps47
  go_upto_region 2 with (fail)
  go_quiet (fail)
  go_wp2_with fail
  refine (EZ.out _).mono ?_; rintro e w' ⟨rfl, rfl⟩
  go_wp2_with fail
  go_ret
  exact ⟨rfl, _, rfl⟩
theorem min_fl {P : Program} {x y : Nat} {X Y : Int} (hx : Fl x X) (hy : Fl y Y) (ts : Array TypeId) (t : TypeId) : ∃ r, Fl r (min X Y) ∧ ∀ w, (Builtin.min_ ts t #[.float .f64 x, .float .f64 y]).run P w = .ok (.float .f64 r) w := by
  have o1 : FloatKind.f64.format.order x y = some (compare X Y) := forder hx hy
  rcases Int.lt_trichotomy X Y with h | h | h
  · have e : compare X Y = .lt := Int.compare_eq_lt.2 h
    rw [e] at o1
    refine ⟨x, by rw [Int.min_eq_left (by omega)]; exact hx, fun w => ?_⟩
    simp [Builtin.min_, Builtin.min2, o1]
  · have e : compare X Y = .eq := Int.compare_eq_eq.2 h
    rw [e] at o1
    refine ⟨if (FloatKind.f64.decode x).neg then x else y, ?_, fun w => ?_⟩
    · subst h; rw [Int.min_self]; split
      · exact hx
      · exact hy
    · simp [Builtin.min_, Builtin.min2, o1]
  · have e : compare X Y = .gt := Int.compare_eq_gt.2 h
    rw [e] at o1
    refine ⟨y, by rw [Int.min_eq_right (by omega)]; exact hy, fun w => ?_⟩
    simp [Builtin.min_, Builtin.min2, o1]
theorem cut_zero {neg : Bool} (n drop : Nat) : Toward.zero.cut neg n drop = n / 2 ^ drop := by
  unfold Toward.cut
  simp only [Bool.toNat_false, Nat.add_zero, Nat.shiftLeft_eq, Nat.one_mul]
  rcases Nat.le_total drop (n.log2 + 2) with h | h
  · rw [Nat.min_eq_left h]
  · rw [Nat.min_eq_right h]
    have h1 : n < 2 ^ (n.log2 + 2) := Nat.lt_of_lt_of_le Nat.lt_log2_self (Nat.pow_le_pow_right (by decide) (by omega))
    have h2 : n < 2 ^ drop := Nat.lt_of_lt_of_le h1 (Nat.pow_le_pow_right (by decide) h)
    rw [Nat.div_eq_of_lt h1, Nat.div_eq_of_lt h2]
theorem toint_fl {r : Nat} {K : Nat} (hr : Fl r ((K * S : Nat) : Int)) (h0 : 0 < K) (h1 : K ≤ 1000000) : floatToIntVal .f64 r .i64 = some (K : Int) := by
  obtain ⟨m, p, hrd, hm⟩ := read_fin hr.fin
  rw [hr.mg] at hm
  have hng : ng r = false := hr.ng_of_pos (by have := Nat.mul_pos h0 S_pos; omega)
  rw [hng] at hrd
  obtain ⟨c, hc, hS⟩ := S_eq
  have hmK : m * 2 ^ p = K * 2 ^ c := by rw [hm, Int.natAbs_natCast, hS]
  have hcut : (m <<< ((p : Int) - 1074).toNat) / 2 ^ (-((p : Int) - 1074)).toNat = K := by
    rw [Nat.shiftLeft_eq]
    rcases Nat.lt_or_ge p 1074 with hp | hp
    · have e1 : ((p : Int) - 1074).toNat = 0 := by omega
      have e2 : (-((p : Int) - 1074)).toNat = c - p := by omega
      rw [e1, e2, Nat.pow_zero, Nat.mul_one]
      have e3 : 2 ^ c = 2 ^ p * 2 ^ (c - p) := by rw [← Nat.pow_add]; congr 1; omega
      rw [e3, ← Nat.mul_assoc, Nat.mul_right_comm] at hmK
      have := Nat.eq_of_mul_eq_mul_right (Nat.two_pow_pos p) hmK
      rw [this]; exact Nat.mul_div_cancel _ (Nat.two_pow_pos _)
    · have e1 : ((p : Int) - 1074).toNat = p - c := by omega
      have e2 : (-((p : Int) - 1074)).toNat = 0 := by omega
      rw [e1, e2, Nat.pow_zero, Nat.div_one]
      have e3 : 2 ^ p = 2 ^ (p - c) * 2 ^ c := by rw [← Nat.pow_add]; congr 1; omega
      rw [e3, ← Nat.mul_assoc] at hmK
      exact Nat.eq_of_mul_eq_mul_right (Nat.two_pow_pos c) hmK
  have hd : (FloatKind.f64.decode r).toInt .zero = some (K : Int) := by
    show (double.read r).toInt .zero = _
    rw [hrd]
    unfold Datum.toInt Datum.integral
    dsimp only
    rw [cut_zero, hcut]
    unfold signed
    simp
  unfold floatToIntVal
  rw [hd]
  have hmin : IntKind.i64.min ≤ (K : Int) ∧ (K : Int) ≤ IntKind.i64.max := by
    have a1 : IntKind.i64.min = -9223372036854775808 := by decide
    have a2 : IntKind.i64.max = 9223372036854775807 := by decide
    rw [a1, a2]; omega
  show (if IntKind.i64.min ≤ (K : Int) ∧ (K : Int) ≤ IntKind.i64.max then some (K : Int) else none) = _
  rw [if_pos hmin]
/-- the way, the lead: exact numbers -/
noncomputable def wayK (M J : Int) : Int := rnd (rnd M 2 + rnd (2 * J) 1) 1
noncomputable def leadK (M J : Int) (p : Nat) : Int := min ((rnd (wayK M J) p + S - 1) / S + 1) 16
theorem fl_one : Fl 4607182418800017408 (1 * S) := by
  have h := fint_exact (n := 1) (by decide) (by decide)
  have e : Go.floatOfInt .f64 1 = 4607182418800017408 := by kernel_rfl
  rwa [e] at h
theorem fl_sixteen : Fl 4625196817309499392 (16 * S) := by
  have h := fint_exact (n := 16) (by decide) (by decide)
  have e : Go.floatOfInt .f64 16 = 4625196817309499392 := by kernel_rfl
  rwa [e] at h
theorem way_bd {M J : Int} (m0 : 0 ≤ M) (m1 : M ≤ 1000000 * S) (j0 : 0 ≤ J) (j1 : J ≤ 1000000 * S) : (0 ≤ rnd M 2 ∧ rnd M 2 ≤ 1000000 * S) ∧ (0 ≤ rnd (2 * J) 1 ∧ rnd (2 * J) 1 ≤ 2000000 * S) ∧ 0 ≤ wayK M J ∧ wayK M J ≤ 3000000 * S := by
  have r1 := rep_S (m := 1000000) (by omega)
  have r2 := rep_S (m := 2000000) (by omega)
  have r3 := rep_S (m := 3000000) (by omega)
  have a1 := rnd_nonneg (D := 2) (by decide) m0
  have a2 : rnd M 2 ≤ ((1000000 : Nat) : Int) * S := rnd_le (by decide) r1 (by omega)
  have b1 := rnd_nonneg (D := 1) (by decide) (show 0 ≤ 2 * J by omega)
  have b2 : rnd (2 * J) 1 ≤ ((2000000 : Nat) : Int) * S := rnd_le (by decide) r2 (by omega)
  have c1 : 0 ≤ wayK M J := rnd_nonneg (D := 1) (by decide) (by omega)
  have c2 : wayK M J ≤ ((3000000 : Nat) : Int) * S := rnd_le (by decide) r3 (by omega)
  exact ⟨⟨a1, by omega⟩, ⟨b1, by omega⟩, c1, by omega⟩
theorem ceil_div {Q K T : Int} (hT : 0 < T) (h0 : 0 ≤ Q) (k0 : 0 ≤ K) (h1 : Q ≤ K * T) (h2 : 0 < K → (K - 1) * T < Q) : (Q + T - 1) / T = K := by
  have a : K * T ≤ Q + T - 1 := by
    rcases Int.lt_or_eq_of_le k0 with h | h
    · have := h2 h; rw [Int.sub_mul, Int.one_mul] at this; omega
    · subst h; rw [Int.zero_mul]; omega
  have b : Q + T - 1 < (K + 1) * T := by rw [Int.add_mul, Int.one_mul]; omega
  exact Int.le_antisymm (Int.lt_add_one_iff.1 (Int.ediv_lt_of_lt_mul hT b)) (Int.le_ediv_of_mul_le hT a)
theorem lead_parts {m j : Nat} {M J : Int} {pp : Nat} (hm : Fl m M) (hj : Fl j J) (m0 : 0 ≤ M) (m1 : M ≤ 1000000 * S) (j0 : 0 ≤ J) (j1 : J ≤ 1000000 * S) (h1 : 1 ≤ pp) (hp8 : pp ≤ 8) :
    ∃ (h t a q z : Nat) (K : Int), double.div m 4611686018427387904 = some h ∧ double.mul 4611686018427387904 j = some t ∧ double.add h t = some a ∧ double.div a (Go.floatOfInt .f64 (pp : Int)) = some q ∧
      (∀ w, Calls Try.prog 58 #[.float .f64 q] w fun e w' => e = .returned (.float .f64 z) ∧ w = w') ∧ Fl z (K * S) ∧ 0 ≤ K ∧ K ≤ 3000000 ∧ leadK M J pp = min (K + 1) 16 := by
  obtain ⟨⟨a1, a2⟩, ⟨b1, b2⟩, c1, c2⟩ := way_bd m0 m1 j0 j1
  have r1 := rep_S (m := 1000000) (by omega)
  have r2 := rep_S (m := 2000000) (by omega)
  have r3 := rep_S (m := 3000000) (by omega)
  have hSp : (0 : Int) < S := by have := S_pos; omega
  obtain ⟨h, e1, f1⟩ := fdiv_nat (n := 2) (by decide) hm fl_two (rnd_rep_le (v := ((1000000 : Nat) : Int) * S) (by decide) r1 (by omega) (by omega))
  have k2 : isS (2 * S * J) S (rnd (2 * J) 1) := by
    have := rnd_is (2 * J * S) S_pos
    have e0 := rnd_scale (E := 2 * J) (D := 1) (by decide) S_pos
    rw [Nat.one_mul] at e0
    rw [e0] at this
    have e : 2 * (S : Int) * J = 2 * J * S := by rw [Int.mul_assoc, Int.mul_assoc, Int.mul_comm (S : Int) J]
    rw [e]; exact this
  obtain ⟨t, e2, f2⟩ := fmul fl_two hj k2 (rnd_rep_le (v := ((2000000 : Nat) : Int) * S) (by decide) r2 (by omega) (by omega)).lt
  obtain ⟨a, e3, f3⟩ := fadd f1 f2 (rnd_is _ (by decide)) (rnd_rep_le (v := ((3000000 : Nat) : Int) * S) (by decide) r3 (by omega) (by omega)).lt
  have fp := fint_exact (n := (pp : Int)) (by omega) (by omega)
  have q0 : 0 ≤ rnd (wayK M J) pp := rnd_nonneg (by omega) c1
  have hpm : ((3000000 : Nat) : Int) * S ≤ ((3000000 : Nat) : Int) * S * (pp : Int) := by
    have : 0 ≤ ((3000000 : Nat) : Int) * S := by omega
    have := Int.mul_le_mul_of_nonneg_left (show (1 : Int) ≤ (pp : Int) by omega) this
    rwa [Int.mul_one] at this
  have q1 : rnd (wayK M J) pp ≤ ((3000000 : Nat) : Int) * S := rnd_le (by omega) r3 (by omega)
  obtain ⟨q, e4, f4⟩ := fdiv_nat (n := pp) (by omega) f3 fp (rnd_rep_le (v := ((3000000 : Nat) : Int) * S) (by omega) r3 (by unfold wayK at *; omega) (by unfold wayK at *; rw [Int.neg_mul]; omega))
  have f4' : Fl q (rnd (wayK M J) pp) := f4
  obtain ⟨z, K, ez, fz, k0, k1, kx, ky⟩ := ceil_fl f4' q0 (by omega)
  have hKe : (rnd (wayK M J) pp + S - 1) / S = K := ceil_div hSp q0 k0 kx ky
  have hK3 : K ≤ 3000000 := by
    rcases Int.lt_or_eq_of_le k0 with h | h
    · have h3 := ky h
      have h4 : (K - 1) * (S : Int) < 3000000 * S := by omega
      have := Int.lt_of_mul_lt_mul_right h4 (by omega)
      omega
    · omega
  exact ⟨h, t, a, q, z, K, e1, e2, e3, e4, fun w => ceil_any f4' ez w, fz, k0, hK3, by unfold leadK; rw [hKe]⟩
theorem lead_any {w : World} {b o : Nat} {T : TypeId} {vs : Array Value} {n : Int} {m j : Nat} {M J p : Int} {pp : Nat} (h0 : Blk w b vs T) (hM : MtrS vs o n m j) (hm : Fl m M) (hj : Fl j J) (m0 : 0 ≤ M) (m1 : M ≤ 1000000 * S) (j0 : 0 ≤ J) (j1 : J ≤ 1000000 * S)
    (hp : (if 8 < p then 8 else p) = (pp : Int)) (h1 : 1 ≤ pp) :
    Calls Try.prog 47 #[.pointer (some ⟨b, o, none⟩), .int .i64 p] w fun e w' => e = .returned (.int .i64 (leadK M J pp)) ∧ ∃ k, w' = w.drewN k := by
  obtain ⟨⟨a1, a2⟩, ⟨b1, b2⟩, c1, c2⟩ := way_bd m0 m1 j0 j1
  have r1 := rep_S (m := 1000000) (by omega)
  have r2 := rep_S (m := 2000000) (by omega)
  have r3 := rep_S (m := 3000000) (by omega)
  have hSp : (0 : Int) < S := by have := S_pos; omega
  have hp8 : pp ≤ 8 := by split at hp <;> omega
  obtain ⟨h, e1, f1⟩ := fdiv_nat (n := 2) (by decide) hm fl_two (rnd_rep_le (v := ((1000000 : Nat) : Int) * S) (by decide) r1 (by omega) (by omega))
  have k2 : isS (2 * S * J) S (rnd (2 * J) 1) := by
    have := rnd_is (2 * J * S) S_pos
    have e0 := rnd_scale (E := 2 * J) (D := 1) (by decide) S_pos
    rw [Nat.one_mul] at e0
    rw [e0] at this
    have e : 2 * (S : Int) * J = 2 * J * S := by rw [Int.mul_assoc, Int.mul_assoc, Int.mul_comm (S : Int) J]
    rw [e]; exact this
  obtain ⟨t, e2, f2⟩ := fmul fl_two hj k2 (rnd_rep_le (v := ((2000000 : Nat) : Int) * S) (by decide) r2 (by omega) (by omega)).lt
  obtain ⟨a, e3, f3⟩ := fadd f1 f2 (rnd_is _ (by decide)) (rnd_rep_le (v := ((3000000 : Nat) : Int) * S) (by decide) r3 (by omega) (by omega)).lt
  have fp := fint_exact (n := (pp : Int)) (by omega) (by omega)
  have q0 : 0 ≤ rnd (wayK M J) pp := rnd_nonneg (by omega) c1
  have hpm : ((3000000 : Nat) : Int) * S ≤ ((3000000 : Nat) : Int) * S * (pp : Int) := by
    have : 0 ≤ ((3000000 : Nat) : Int) * S := by omega
    have := Int.mul_le_mul_of_nonneg_left (show (1 : Int) ≤ (pp : Int) by omega) this
    rwa [Int.mul_one] at this
  have q1 : rnd (wayK M J) pp ≤ ((3000000 : Nat) : Int) * S := rnd_le (by omega) r3 (by omega)
  obtain ⟨q, e4, f4⟩ := fdiv_nat (n := pp) (by omega) f3 fp (rnd_rep_le (v := ((3000000 : Nat) : Int) * S) (by omega) r3 (by unfold wayK at *; omega) (by unfold wayK at *; rw [Int.neg_mul]; omega))
  have f4' : Fl q (rnd (wayK M J) pp) := f4
  obtain ⟨z, K, ez, fz, k0, k1, kx, ky⟩ := ceil_fl f4' q0 (by omega)
  have hKe : (rnd (wayK M J) pp + S - 1) / S = K := ceil_div hSp q0 k0 kx ky
  have hK3 : K ≤ 3000000 := by
    rcases Int.lt_or_eq_of_le k0 with h | h
    · have h3 := ky h
      have h4 : (K - 1) * (S : Int) < 3000000 * S := by omega
      have := Int.lt_of_mul_lt_mul_right h4 (by omega)
      omega
    · omega
  have hrep : Rep (K * S + 1 * S) := by
    have := rep_S (m := (K + 1).toNat) (by omega)
    rw [Int.toNat_of_nonneg (by omega), Int.add_mul] at this
    exact this
  obtain ⟨s, e5, f5⟩ := fadd_exact fz fl_one hrep
  have f5' : Fl s ((K + 1) * S) := by rw [Int.add_mul]; exact f5
  obtain ⟨r, fr, er⟩ := min_fl (P := Try.prog) f5' fl_sixteen #[28, 28] 28
  have hrK : min ((K + 1) * (S : Int)) (16 * (S : Int)) = ((((min (K + 1) 16).toNat * S : Nat)) : Int) := by
    rw [Int.natCast_mul, Int.toNat_of_nonneg (by omega)]
    rcases Int.le_total (K + 1) 16 with h | h
    · rw [Int.min_eq_left h, Int.min_eq_left (Int.mul_le_mul_of_nonneg_right h (by omega))]
    · rw [Int.min_eq_right h, Int.min_eq_right (Int.mul_le_mul_of_nonneg_right h (by omega))]
  rw [hrK] at fr
  have e7 := toint_fl fr (by omega) (by omega)
  have hR : (((min (K + 1) 16).toNat : Nat) : Int) = leadK M J pp := by unfold leadK; rw [hKe]; omega
  rw [← hR]
  exact lead_walk h0 hM hp (by omega) e1 e2 e3 e4 (fun w => ceil_any f4' ez w) e5 er e7
theorem lead_low_any {w : World} {b o : Nat} {T : TypeId} {vs : Array Value} {n : Int} {m j : Nat} {M J p : Int} (h0 : Blk w b vs T) (hM : MtrS vs o n m j) (hm : Fl m M) (hj : Fl j J) (m0 : 0 ≤ M) (m1 : M ≤ 1000000 * S) (j0 : 0 ≤ J) (j1 : J ≤ 1000000 * S) (hp : p < 1) :
    Calls Try.prog 47 #[.pointer (some ⟨b, o, none⟩), .int .i64 p] w fun e w' => e = .returned (.int .i64 (leadK M J 1)) ∧ ∃ k, w' = w.drewN k := by
  obtain ⟨h, t, a, q, z, K, e1, e2, e3, e4, ez, fz, k0, hK3, hL⟩ := lead_parts (pp := 1) hm hj m0 m1 j0 j1 (by decide) (by decide)
  have hSp : (0 : Int) < S := by have := S_pos; omega
  have hrep : Rep (K * S + 1 * S) := by
    have := rep_S (m := (K + 1).toNat) (by omega)
    rw [Int.toNat_of_nonneg (by omega), Int.add_mul] at this
    exact this
  obtain ⟨s, e5, f5⟩ := fadd_exact fz fl_one hrep
  have f5' : Fl s ((K + 1) * S) := by rw [Int.add_mul]; exact f5
  obtain ⟨r, fr, er⟩ := min_fl (P := Try.prog) f5' fl_sixteen #[28, 28] 28
  have hrK : min ((K + 1) * (S : Int)) (16 * (S : Int)) = ((((min (K + 1) 16).toNat * S : Nat)) : Int) := by
    rw [Int.natCast_mul, Int.toNat_of_nonneg (by omega)]
    rcases Int.le_total (K + 1) 16 with h | h
    · rw [Int.min_eq_left h, Int.min_eq_left (Int.mul_le_mul_of_nonneg_right h (by omega))]
    · rw [Int.min_eq_right h, Int.min_eq_right (Int.mul_le_mul_of_nonneg_right h (by omega))]
  rw [hrK] at fr
  have e7 := toint_fl fr (by omega) (by omega)
  have hR : (((min (K + 1) 16).toNat : Nat) : Int) = leadK M J 1 := by rw [hL]; omega
  rw [← hR]
  exact lead_low h0 hM hp rfl e1 e2 e3 e4 ez e5 er e7
set_option maxRecDepth 100000 in
theorem rlead_walk {w : World} {b o : Nat} {T : TypeId} {vs : Array Value} {n : Int} {m j h t a q z : Nat} {p p1 pp K R : Int} {g : Bool} (h0 : Blk w b vs T) (hM : MtrS vs o n m j)
    (hp : (if p < 8 then p else 8) = p1) (hp2 : (if 1 < p1 then p1 else 1) = pp) (hpb : 1 ≤ pp ∧ pp ≤ 8)
    (e1 : double.div m 4611686018427387904 = some h) (e2 : double.mul 4611686018427387904 j = some t) (e3 : double.add h t = some a) (e4 : double.div a (Go.floatOfInt .f64 pp) = some q)
    (ez : ∀ w, Calls Try.prog 58 #[.float .f64 q] w fun e w' => e = .returned (.float .f64 z) ∧ w = w')
    (hg : (FloatKind.f64.format.order z 4625196817309499392 == some .gt || FloatKind.f64.format.order z 4625196817309499392 == some .eq) = g)
    (hR : g = true ∧ R = 16 ∨ g = false ∧ floatToIntVal .f64 z .i64 = some K ∧ 0 ≤ K ∧ K < 16 ∧ R = K + 1) :
    Calls Try.prog 25 #[.pointer (some ⟨b, o, none⟩), .int .i64 p] w fun e w' => e = .returned (.int .i64 R) ∧ w = w' := by
  have q1 : ∀ w : World, (binOp .quo 28 (.float .f64 m) (.float .f64 4611686018427387904)).run Try.prog w = .ok (.float .f64 h) w := run_fl .quo _ e1
  have q2 : ∀ w : World, (binOp .mul 28 (.float .f64 4611686018427387904) (.float .f64 j)).run Try.prog w = .ok (.float .f64 t) w := run_fl .mul _ e2
  have q3 : ∀ w : World, (binOp .add 28 (.float .f64 h) (.float .f64 t)).run Try.prog w = .ok (.float .f64 a) w := run_fl .add _ e3
  have q4 : ∀ w : World, (binOp .quo 28 (.float .f64 a) (.float .f64 (Go.floatOfInt .f64 pp))).run Try.prog w = .ok (.float .f64 q) w := run_fl .quo _ e4
  have c1 := Blk.cell h0 (hM.at (i := 1) rfl)
  have c2 := Blk.cell h0 (hM.at (i := 2) rfl)
  have EZ := Lib.hid ez
  clear e1 e2 e3 e4 ez hM h0
  rcases hR with ⟨rfl, rfl⟩ | ⟨rfl, e7, k0, k1, rfl⟩
  · go_enter Try.func25, Try.ntmps25
    go_wp2_with fail
    refine (EZ.out _).mono ?_; rintro e w' ⟨rfl, rfl⟩
    go_wp2_with fail
    go_ret
    exact ⟨rfl, rfl⟩
  · have q7 : ∀ w, (convert 28 3 (.float .f64 z)).run Try.prog w = .ok (.int .i64 K) w := fun w => run_convert_float_int w 28 3 .f64 .i64 z K (by rw [Try.underlying28]; rfl) Try.underlying3 e7
    have hmin : (if K + 1 < 16 then K + 1 else 16) = K + 1 := by split <;> omega
    go_enter Try.func25, Try.ntmps25
    go_wp2_with fail
    refine (EZ.out _).mono ?_; rintro e w' ⟨rfl, rfl⟩
    go_wp2_with fail
    go_ret
    exact ⟨rfl, rfl⟩
theorem rlead_any {w : World} {b o : Nat} {T : TypeId} {vs : Array Value} {n : Int} {m j : Nat} {M J p : Int} {pp : Nat} (h0 : Blk w b vs T) (hM : MtrS vs o n m j) (hm : Fl m M) (hj : Fl j J) (m0 : 0 ≤ M) (m1 : M ≤ 1000000 * S) (j0 : 0 ≤ J) (j1 : J ≤ 1000000 * S)
    (hp : max 1 (min p 8) = (pp : Int)) :
    Calls Try.prog 25 #[.pointer (some ⟨b, o, none⟩), .int .i64 p] w fun e w' => e = .returned (.int .i64 (leadK M J pp)) ∧ w = w' := by
  have hpb : 1 ≤ pp ∧ pp ≤ 8 := by omega
  obtain ⟨h, t, a, q, z, K, e1, e2, e3, e4, ez, fz, k0, hK3, hL⟩ := lead_parts (pp := pp) hm hj m0 m1 j0 j1 hpb.1 hpb.2
  have hSp : (0 : Int) < S := by have := S_pos; omega
  have og : FloatKind.f64.format.order z 4625196817309499392 = some (compare (K * S) (16 * S)) := forder fz fl_sixteen
  refine rlead_walk (p1 := min p 8) (pp := (pp : Int)) (K := K) (g := decide (16 ≤ K)) h0 hM (by split <;> omega) (by split <;> omega) (by omega) e1 e2 e3 e4 ez ?_ ?_
  · rw [og]
    rcases Int.lt_trichotomy K 16 with h | h | h
    · rw [Int.compare_eq_lt.2 (Int.mul_lt_mul_of_pos_right h hSp), decide_eq_false (by omega)]; rfl
    · rw [h, Int.compare_eq_eq.2 rfl, decide_eq_true (by omega)]; rfl
    · rw [Int.compare_eq_gt.2 (Int.mul_lt_mul_of_pos_right h hSp), decide_eq_true (by omega)]; rfl
  · rw [hL]
    by_cases h : 16 ≤ K
    · exact .inl ⟨decide_eq_true h, by omega⟩
    · refine .inr ⟨decide_eq_false h, ?_, k0, by omega, by omega⟩
      have := tointZ (r := z) (K := K.toNat) (by rw [Int.natCast_mul, Int.toNat_of_nonneg k0]; exact fz) (by omega)
      rwa [Int.toNat_of_nonneg k0] at this
theorem lead_all {w : World} {b o : Nat} {T : TypeId} {vs : Array Value} {n : Int} {m j : Nat} {M J p : Int} {pp : Nat} (h0 : Blk w b vs T) (hM : MtrS vs o n m j) (hm : Fl m M) (hj : Fl j J) (m0 : 0 ≤ M) (m1 : M ≤ 1000000 * S) (j0 : 0 ≤ J) (j1 : J ≤ 1000000 * S)
    (hp : max 1 (min p 8) = (pp : Int)) :
    Calls Try.prog 47 #[.pointer (some ⟨b, o, none⟩), .int .i64 p] w fun e w' => e = .returned (.int .i64 (leadK M J pp)) ∧ ∃ k, w' = w.drewN k := by
  by_cases h : p < 1
  · have : pp = 1 := by omega
    subst this
    exact lead_low_any h0 hM hm hj m0 m1 j0 j1 h
  · exact lead_any h0 hM hm hj m0 m1 j0 j1 (by split <;> omega) (by omega)
noncomputable def ldI (m j : Nat) (p : Int) : Int := leadK (sv m) (sv j) (max 1 (min p 8)).toNat
theorem lead_both {m j : Nat} (h : MOk m j) (p : Int) : 
      (∀ (w : World) (b o : Nat) (T : TypeId) (vs : Array Value) (n : Int), Blk w b vs T → MtrS vs o n m j → Calls Try.prog 47 #[.pointer (some ⟨b, o, none⟩), .int .i64 p] w fun e w' => e = .returned (.int .i64 (ldI m j p)) ∧ ∃ k, w' = w.drewN k) ∧
      (∀ (w : World) (b o : Nat) (T : TypeId) (vs : Array Value) (n : Int), Blk w b vs T → MtrS vs o n m j → Calls Try.prog 25 #[.pointer (some ⟨b, o, none⟩), .int .i64 p] w fun e w' => e = .returned (.int .i64 (ldI m j p)) ∧ w = w') := by
  obtain ⟨M, J, hm, hj, m0, m1, j0, j1⟩ := h
  have hp : max 1 (min p 8) = (((max 1 (min p 8)).toNat : Nat) : Int) := by omega
  unfold ldI
  rw [hm.sv, hj.sv]
  exact ⟨fun w b o T vs n hB hM => lead_all hB hM hm hj m0 m1 j0 j1 hp, fun w b o T vs n hB hM => rlead_any hB hM hm hj m0 m1 j0 j1 hp⟩
theorem ldI_pos {m j : Nat} (h : MOk m j) (p : Int) : 1 ≤ ldI m j p := by
  obtain ⟨M, J, hm, hj, m0, m1, j0, j1⟩ := h
  obtain ⟨-, -, c1, c2⟩ := way_bd m0 m1 j0 j1
  have hSp : (0 : Int) < S := by have := S_pos; omega
  unfold ldI
  rw [hm.sv, hj.sv]
  have q0 : 0 ≤ rnd (wayK M J) (max 1 (min p 8)).toNat := rnd_nonneg (by omega) c1
  have : 0 ≤ (rnd (wayK M J) (max 1 (min p 8)).toNat + S - 1) / S := Int.ediv_nonneg (by omega) (by omega)
  unfold leadK; omega
end Go.Proofs.Ytkjjikjilmngdaa.Mt
