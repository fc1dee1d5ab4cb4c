import Derived.Test.YtkjjikjilmngdaaMtO
import Derived.Test.YtkjjikjilmngdaaMtP
import Derived.Test.YtkjjikjilmngdaaFpO
import Derived.Test.YtkjjikjilmngdaaFpI
namespace Go.Proofs.Ytkjjikjilmngdaa.Mt
open Go.RowKit Dt Go.Proofs.Ytkjjikjilmngdaa.Hd Ieee
set_option linter.unusedVariables false
set_option linter.unusedSimpArgs false

theorem inB_of {x : Nat} {X : Int} (h : Fl x X) (h0 : 0 ≤ X) (h1 : X ≤ 1000000 * S) : inB x = true := by
  have f6 : Fl 4696837146684686336 (1000000 * S) := by
    have h := fint_exact (n := 1000000) (by decide) (by decide)
    have e : Go.floatOfInt .f64 1000000 = 4696837146684686336 := by kernel_rfl
    rwa [e] at h
  have o1 : FloatKind.f64.format.order x 0 = some (compare X 0) := forder h fl_zero
  have o2 : FloatKind.f64.format.order x 4696837146684686336 = some (compare X (1000000 * S)) := forder h f6
  unfold inB geB leB
  rw [o1, o2]
  rcases Int.lt_or_eq_of_le h0 with a | a <;> rcases Int.lt_or_eq_of_le h1 with b | b
  · rw [Int.compare_eq_gt.2 a, Int.compare_eq_lt.2 b]; rfl
  · rw [Int.compare_eq_gt.2 a, b, Int.compare_eq_eq.2 rfl]; rfl
  · rw [← a, Int.compare_eq_eq.2 rfl, Int.compare_eq_lt.2 (by rw [a]; exact b)]; rfl
  · rw [← a, Int.compare_eq_eq.2 rfl]
    rw [← a] at b
    rw [← b, Int.compare_eq_eq.2 rfl]; rfl
noncomputable def nextM (k : Nat) (X M : Int) : Int := if k = 0 then X else stepM X M
noncomputable def nextJ (k : Nat) (X M J : Int) : Int := if k = 0 then J else stepJ X M J
theorem next_bd {k : Nat} {X M J : Int} {H : Int} (rh : Rep H) (x0 : 0 ≤ X) (x1 : X ≤ H) (m0 : 0 ≤ M) (m1 : M ≤ H) (j0 : 0 ≤ J) (j1 : J ≤ H) : (0 ≤ nextM k X M ∧ nextM k X M ≤ H) ∧ 0 ≤ nextJ k X M J ∧ nextJ k X M J ≤ H := by
  unfold nextM nextJ
  by_cases h : k = 0
  · rw [if_pos h, if_pos h]; exact ⟨⟨x0, x1⟩, j0, j1⟩
  · rw [if_neg h, if_neg h]
    have d1 := dM_bd m0 m1 x0 x1 (by simpa using rh)
    exact ⟨stepM_bd m0 m1 x0 x1 Rep.zero rh, stepJ_bd (by omega) j0 j1 rh⟩
theorem rep_S {m : Nat} (hm : m ≤ 8000000) : Rep ((m : Int) * S) := by
  obtain ⟨c, hc, hS⟩ := S_eq
  have := rep_pow (m := m) (k := c) (by unfold B; omega) (by omega)
  rw [← hS, Int.natCast_mul] at this
  exact this
theorem negf' (x : Nat) (hx : x < 18446744073709551616) (h : ng x = true) : Go.Op.negFloat .f64 x = rg x := by
  have e : Go.Op.negFloat .f64 x = x ^^^ 2 ^ 63 := rfl
  have hq : x / 9223372036854775808 = 1 := by
    unfold ng at h
    have h2 : x / 9223372036854775808 % 2 = 1 := by simpa using h
    omega
  have hd : (x ^^^ 2 ^ 63) / 9223372036854775808 = 0 := by
    have : (9223372036854775808 : Nat) = 2 ^ 63 := by decide
    rw [this] at hq ⊢
    rw [Nat.xor_div_two_pow, Nat.div_self (by decide), hq]; rfl
  have hm : (x ^^^ 2 ^ 63) % 9223372036854775808 = x % 9223372036854775808 := by
    have : (9223372036854775808 : Nat) = 2 ^ 63 := by decide
    rw [this, Nat.xor_mod_two_pow, Nat.mod_self, Nat.xor_zero]
  rw [e]
  unfold rg
  omega
theorem rg_self {x : Nat} (hx : x < 18446744073709551616) (h : ng x = false) : rg x = x := by
  have h2 : x / 9223372036854775808 % 2 ≠ 1 := by
    unfold ng at h
    simpa using h
  unfold rg; omega
theorem _root_.Dt.Fl.unique {x y : Nat} {X : Int} (hx : Fl x X) (hy : Fl y X) (h : X ≠ 0) : x = y := by
  have e : ng x = ng y := by
    rcases Int.lt_or_lt_of_ne h with h | h
    · rw [hx.ng_of_neg h, hy.ng_of_neg h]
    · rw [hx.ng_of_pos h, hy.ng_of_pos h]
  have e2 : rg x = rg y := mg_inj (hx.mg.trans hy.mg.symm)
  rw [← wd_self hx.lt, ← wd_self hy.lt, e, e2]
theorem _root_.Dt.Fl.zero_cases {x : Nat} (h : Fl x 0) : rg x = 0 := by
  have := h.mg
  exact mg_eq_zero.1 (by simpa using this)
theorem sub_zero {x y z : Nat} {X : Int} (hx : Fl x X) (hy : Fl y X) (hn : ng x = false) (e : double.sub x y = some z) : z = 0 := by
  obtain ⟨z', e', hw⟩ := diff_fin hx.fin hy.fin
  rw [e] at e'
  cases e'
  rw [hx.sv, hy.sv] at hw
  simp [hn] at hw
  obtain ⟨r, hr, rfl⟩ := hw
  have : r = 0 := hr.unique (by decide) (isRnd_zero (by decide))
  subst this
  rfl
theorem run_negf (P : Program) (w : World) (b : Nat) : (Op.unary .neg (.float .f64 b)).run P w = .ok (.float .f64 (Op.negFloat .f64 b)) w := rfl
attribute [local go_sem] run_negf run_store_float
theorem norm_fl {x : Nat} {X : Int} (h : Fl x X) (h0 : 0 ≤ X) : ∃ y, double.add x 0 = some y ∧ (((FloatKind.f64.format.order y 0 == some .eq) = true ∧ rg x = 0) ∨ ((FloatKind.f64.format.order y 0 == some .eq) = false ∧ rg x = y)) := by
  obtain ⟨y, e, f⟩ := fadd_exact h fl_zero (by rw [Int.add_zero]; exact h.rep)
  rw [Int.add_zero] at f
  refine ⟨y, e, ?_⟩
  have o : FloatKind.f64.format.order y 0 = some (compare X 0) := forder f fl_zero
  rcases Int.lt_or_eq_of_le h0 with h1 | h1
  · refine .inr ⟨by rw [o, Int.compare_eq_gt.2 h1]; rfl, ?_⟩
    rw [rg_self h.lt (h.ng_of_pos h1)]
    exact h.unique f (by omega)
  · subst h1
    exact .inl ⟨by rw [o]; rfl, h.zero_cases⟩
theorem far_fl {d : Nat} {D : Int} (h : Fl d D) (hz : D = 0 → d = 0) : ((FloatKind.f64.format.order d 0 == some .lt) = true ∧ Op.negFloat .f64 d = rg d) ∨ ((FloatKind.f64.format.order d 0 == some .lt) = false ∧ rg d = d) := by
  have o : FloatKind.f64.format.order d 0 = some (compare D 0) := forder h fl_zero
  rcases Int.lt_trichotomy D 0 with h1 | h1 | h1
  · exact .inl ⟨by rw [o, Int.compare_eq_lt.2 h1]; rfl, negf' d h.lt (h.ng_of_neg h1)⟩
  · have := hz h1
    subst this
    exact .inr ⟨by rw [o, h1]; rfl, rfl⟩
  · exact .inr ⟨by rw [o, Int.compare_eq_gt.2 h1]; rfl, rg_self h.lt (h.ng_of_pos h1)⟩
set_option maxRecDepth 100000 in
theorem rnote_first {w : World} {b o : Nat} {T : TypeId} {vs : Array Value} {x y m j : Nat} (h0 : Blk w b vs T) (hM : MtrS vs o 0 m j) (h : inB x = true) (e0 : double.add x 0 = some y) (hy : ((FloatKind.f64.format.order y 0 == some .eq) = true ∧ rg x = 0) ∨ ((FloatKind.f64.format.order y 0 == some .eq) = false ∧ rg x = y)) :
    Calls Try.prog 55 #[.pointer (some ⟨b, o, none⟩), .float .f64 x] w fun e w' => e = .returned (.bool true) ∧ (∃ us, Blk w' b us T ∧ MtrS us o 1 (rg x) j ∧ Out vs us o 3) ∧ Fr [b] w w' := by
  obtain ⟨p1, p2⟩ := in_parts h
  clear h
  unfold geB at p1
  unfold leB at p2
  have q0 : ∀ w : World, (binOp .add 28 (.float .f64 x) (.float .f64 0)).run Try.prog w = .ok (.float .f64 y) w := run_fl .add _ e0
  clear e0
  have c0 := Blk.cell h0 (hM.at (i := 0) rfl)
  rw [Nat.add_zero] at c0
  have c1 := Blk.cell h0 (hM.at (i := 1) rfl)
  have f0 := Blk.free h0 (o)
  have f1 := Blk.free h0 (o + 1)
  rcases hy with ⟨h1, h2⟩ | ⟨h1, h2⟩
  all_goals
    go_enter Try.func55, Try.ntmps55
    go_wp2_with fail
    go_ret
    rw [h2]
    exact ⟨rfl, ⟨_, (h0.set o _).set (o + 1) _, (Sub.set hM (i := 0) (by simp) (.int .i64 1)).set (i := 1) (by simp) _, ((Out.refl vs o 3).set (i := 0) (by decide) _).set (i := 1) (by decide) _⟩, ((Fr.refl _ _).setCell (.inl (by simp)) _).setCell (.inl (by simp)) _⟩
set_option maxRecDepth 100000 in
set_option maxHeartbeats 3200000 in
theorem rnote_next {w : World} {b o n : Nat} {T : TypeId} {vs : Array Value} {x y m j d a c j' c' m' : Nat} (h0 : Blk w b vs T) (hM : MtrS vs o n m j) (h : inB x = true) (hn : 1 ≤ n) (hn2 : n ≤ 1000000)
    (e0 : double.add x 0 = some y) (hy : ((FloatKind.f64.format.order y 0 == some .eq) = true ∧ rg x = 0) ∨ ((FloatKind.f64.format.order y 0 == some .eq) = false ∧ rg x = y))
    (hd : ((FloatKind.f64.format.order d 0 == some .lt) = true ∧ Op.negFloat .f64 d = rg d) ∨ ((FloatKind.f64.format.order d 0 == some .lt) = false ∧ rg d = d))
    (e1 : double.sub (rg x) m = some d) (e2 : double.sub (rg d) j = some a) (e3 : double.div a 4616189618054758400 = some c) (e4 : double.add j c = some j') (e5 : double.div d 4620693217682128896 = some c') (e6 : double.add m c' = some m') :
    Calls Try.prog 55 #[.pointer (some ⟨b, o, none⟩), .float .f64 x] w fun e w' => e = .returned (.bool true) ∧ (∃ us, Blk w' b us T ∧ MtrS us o ((n : Int) + 1) m' j' ∧ Out vs us o 3) ∧ Fr [b] w w' := by
  obtain ⟨p1, p2⟩ := in_parts h
  clear h
  unfold geB at p1
  unfold leB at p2
  obtain ⟨rx, hrx⟩ : ∃ rx, rg x = rx := ⟨_, rfl⟩
  obtain ⟨rd, hrd⟩ : ∃ rd, rg d = rd := ⟨_, rfl⟩
  rw [hrx] at hy e1
  rw [hrd] at hd e2
  have q0 : ∀ w : World, (binOp .add 28 (.float .f64 x) (.float .f64 0)).run Try.prog w = .ok (.float .f64 y) w := run_fl .add _ e0
  have q1 : ∀ w : World, (binOp .sub 28 (.float .f64 rx) (.float .f64 m)).run Try.prog w = .ok (.float .f64 d) w := run_fl .sub _ e1
  have q2 : ∀ w : World, (binOp .sub 28 (.float .f64 rd) (.float .f64 j)).run Try.prog w = .ok (.float .f64 a) w := run_fl .sub _ e2
  have q3 : ∀ w : World, (binOp .quo 28 (.float .f64 a) (.float .f64 4616189618054758400)).run Try.prog w = .ok (.float .f64 c) w := run_fl .quo _ e3
  have q4 : ∀ w : World, (binOp .add 28 (.float .f64 j) (.float .f64 c)).run Try.prog w = .ok (.float .f64 j') w := run_fl .add _ e4
  have q5 : ∀ w : World, (binOp .quo 28 (.float .f64 d) (.float .f64 4620693217682128896)).run Try.prog w = .ok (.float .f64 c') w := run_fl .quo _ e5
  have q6 : ∀ w : World, (binOp .add 28 (.float .f64 m) (.float .f64 c')).run Try.prog w = .ok (.float .f64 m') w := run_fl .add _ e6
  clear e0 e1 e2 e3 e4 e5 e6 hrx hrd
  have c0 := Blk.cell h0 (hM.at (i := 0) rfl)
  rw [Nat.add_zero] at c0
  have c1 := Blk.cell h0 (hM.at (i := 1) rfl)
  have c2 := Blk.cell h0 (hM.at (i := 2) rfl)
  have f0 := Blk.free h0 (o)
  have f1 := Blk.free h0 (o + 1)
  have f2 := Blk.free h0 (o + 2)
  have hn3 : ((n : Int) + 1 == 1) = false := by simp; omega
  rcases hy with ⟨h1, rfl⟩ | ⟨h1, rfl⟩ <;> rcases hd with ⟨h2, h3⟩ | ⟨h2, rfl⟩
  all_goals
    go_enter Try.func55, Try.ntmps55
    go_wp2_with fail
    go_ret
    exact ⟨rfl, ⟨_, ((h0.set o _).set (o + 2) _).set (o + 1) _, ((Sub.set hM (i := 0) (by simp) (.int .i64 ((n : Int) + 1))).set (i := 2) (by simp) (.float .f64 j')).set (i := 1) (by simp) (.float .f64 m'), (((Out.refl vs o 3).set (i := 0) (by decide) _).set (i := 2) (by decide) _).set (i := 1) (by decide) _⟩, (((Fr.refl _ _).setCell (.inl (by simp)) _).setCell (.inl (by simp)) _).setCell (.inl (by simp)) _⟩
/-- a mean and a jitter as they may be -/
def MOk (m j : Nat) : Prop := ∃ M J : Int, Fl m M ∧ Fl j J ∧ 0 ≤ M ∧ M ≤ 1000000 * S ∧ 0 ≤ J ∧ J ≤ 1000000 * S
theorem mok_zero : MOk 0 0 := ⟨0, 0, fl_zero, fl_zero, by omega, by omega, by omega, by omega⟩
/-- the words behind one sample of x -/
noncomputable def nt (n m j s : Nat) : Nat × Nat :=
  let x := Go.floatOfInt .f64 (s : Int)
  if n = 0 then (rg x, j) else
    let d := (double.sub (rg x) m).getD 0
    let a := (double.sub (rg d) j).getD 0
    let c := (double.div a 4616189618054758400).getD 0
    let c' := (double.div d 4620693217682128896).getD 0
    ((double.add m c').getD 0, (double.add j c).getD 0)
theorem sample_fl {s : Nat} (hs : s ≤ 1000000) : Fl (Go.floatOfInt .f64 (s : Int)) ((s : Int) * S) ∧ 0 ≤ (s : Int) * S ∧ (s : Int) * S ≤ 1000000 * S :=
  ⟨fint_exact (by omega) (by omega), Int.mul_nonneg (by omega) (by omega), Int.mul_le_mul_of_nonneg_right (by omega) (by omega)⟩
theorem note_both {n m j s : Nat} (h : MOk m j) (hs : s ≤ 1000000) (hn : n ≤ 1000000) :
    MOk (nt n m j s).1 (nt n m j s).2 ∧
      (∀ (w : World) (b o : Nat) (T : TypeId) (vs : Array Value), Blk w b vs T → MtrS vs o n m j → Calls Try.prog 46 #[.pointer (some ⟨b, o, none⟩), .float .f64 (Go.floatOfInt .f64 (s : Int))] w fun e w' => e = .returned (.bool true) ∧ (∃ us, Blk w' b us T ∧ MtrS us o ((n : Int) + 1) (nt n m j s).1 (nt n m j s).2 ∧ Out vs us o 3) ∧ Fr [b] w w') ∧
      (∀ (w : World) (b o : Nat) (T : TypeId) (vs : Array Value), Blk w b vs T → MtrS vs o n m j → Calls Try.prog 55 #[.pointer (some ⟨b, o, none⟩), .float .f64 (Go.floatOfInt .f64 (s : Int))] w fun e w' => e = .returned (.bool true) ∧ (∃ us, Blk w' b us T ∧ MtrS us o ((n : Int) + 1) (nt n m j s).1 (nt n m j s).2 ∧ Out vs us o 3) ∧ Fr [b] w w') := by
  obtain ⟨M, J, hm, hj, m0, m1, j0, j1⟩ := h
  obtain ⟨fx, X0, X1⟩ := sample_fl hs
  have hin := inB_of fx X0 X1
  have hx := fx.lt
  unfold nt
  generalize Go.floatOfInt .f64 (s : Int) = x at *
  generalize (s : Int) * S = X at *
  obtain ⟨y, e0, hy⟩ := norm_fl fx X0
  have fr : Fl (rg x) X := by
    have := fx.abs
    rwa [show ((X.natAbs : Nat) : Int) = X by omega] at this
  rcases Nat.eq_zero_or_pos n with h0 | h0
  · subst h0
    exact ⟨⟨X, J, fr, hj, X0, X1, j0, j1⟩, fun w b o T vs hB hM => note_first hB hM hx hin, fun w b o T vs hB hM => rnote_first hB hM hin e0 hy⟩
  · have rh : Rep (1000000 * (S : Int)) := rep_S (m := 1000000) (by omega)
    obtain ⟨d, a, c, j', c', m', hd, e1, e2, e3, e4, e5, e6, fm, fj⟩ := note_fl fx hm hj rh X0 X1 m0 m1 j0 j1
    have hb := next_bd (k := 1) rh X0 X1 m0 m1 j0 j1
    unfold nextM nextJ at hb
    rw [if_neg (by decide), if_neg (by decide)] at hb
    obtain ⟨d', e', fd⟩ := fsub fr hm (rnd_is _ (by decide)) (rnd_rep_le (E := X - M) (D := 1) (by decide) rh (by omega) (by omega)).lt
    rw [e1] at e'
    cases e'
    have hz : rnd (X - M) 1 = 0 → d = 0 := fun h => by
      have hXM : X = M := by
        rcases Int.lt_trichotomy (X - M) 0 with h' | h' | h'
        · exfalso
          have := rnd_ge (D := 1) (E := -(X - M)) (v := 1) (by decide) (by have := rep_pow (m := 1) (k := 0) (by decide) (by decide); simpa using this) (by omega)
          rw [rnd_neg (by decide)] at this
          omega
        · omega
        · exfalso
          have := rnd_ge (D := 1) (E := X - M) (v := 1) (by decide) (by have := rep_pow (m := 1) (k := 0) (by decide) (by decide); simpa using this) (by omega)
          omega
      refine sub_zero fr (by rw [hXM]; exact hm) ?_ e1
      unfold ng rg
      have h2 : x % 9223372036854775808 / 9223372036854775808 = 0 := Nat.div_eq_of_lt (Nat.mod_lt _ (by decide))
      rw [h2]; rfl
    have hfar := far_fl fd hz
    have hne : ¬ n = 0 := by omega
    simp only [if_neg hne, e1, e2, e3, e4, e5, e6, Option.getD_some]
    refine ⟨⟨_, _, fm, fj, hb.1.1, hb.1.2, hb.2.1, hb.2.2⟩, fun w b o T vs hB hM => ?_, fun w b o T vs hB hM => ?_⟩
    · exact note_next hB hM hx hin h0 hn hd e1 e2 e3 e4 e5 e6
    · exact rnote_next hB hM hin h0 hn e0 hy hfar e1 e2 e3 e4 e5 e6
end Go.Proofs.Ytkjjikjilmngdaa.Mt
