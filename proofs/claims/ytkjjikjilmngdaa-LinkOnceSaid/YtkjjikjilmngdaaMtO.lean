/- A meter in the midst of a block. -/
import Derived.Test.YtkjjikjilmngdaaHand
import Derived.Test.YtkjjikjilmngdaaFp4
import Derived.Test.YtkjjikjilmngdaaSub
import Derived.Laws.BitsAllLaws
import Derived.Laws.FloatArith
import Derived.Deep.RegionWith
import Derived.Deep.QuietTactic
import Derived.BigQuiet
import Derived.StillTailTactics
import Derived.IntWalk
namespace Go.Proofs.Ytkjjikjilmngdaa.Mt
open Go.RowKit Dt Go.Proofs.Ytkjjikjilmngdaa.Hd Ieee
set_option linter.unusedVariables false
set_option linter.unusedSimpArgs false

theorem run_store_float (P : Program) (w : World) (a : Addr) (m : Mode) (k : FloatKind) (b : Nat) : (store a (.float k b) m).run P w = stored P w a (.float k b) m := run_store P w a _ m rfl
attribute [local go_sem] run_store_float
theorem run_bits (x : Nat) (w : World) : (callFunc 22 #[.float .f64 x]).run Try.prog w = .ok (.value (.int .u64 x)) w :=
  run_callFunc_extern (e := Extern.MathFloatBits.float64bits) Try.func22 (by kernel_rfl) (by kernel_rfl) (by kernel_rfl) (by kernel_rfl) _ _
theorem run_frombits (x : Nat) (w : World) : (callFunc 78 #[.int .u64 (x : Int)]).run Try.prog w = .ok (.value (.float .f64 x)) w :=
  run_callFunc_extern (e := Extern.MathFloatBits.float64frombits) Try.func78 (by kernel_rfl) (by kernel_rfl) (by kernel_rfl) (by kernel_rfl) _ _
theorem and_rg (x : Nat) : x &&& (18446744073709551615 - 9223372036854775808) = rg x := by
  have : 18446744073709551615 - 9223372036854775808 = 2 ^ 63 - 1 := by decide
  rw [this, Nat.and_two_pow_sub_one_eq_mod]; rfl
theorem abs_any (x : Nat) (hx : x < 18446744073709551616) (w : World) : Calls Try.prog 69 #[.float .f64 x] w fun e w' => e = .returned (.float .f64 (rg x)) ∧ w = w' := by
  have hb := run_bits x
  have hf := run_frombits (rg x)
  have ha : bits .andNot .u64 (x : Int) 9223372036854775808 = ((rg x : Nat) : Int) := by
    have h := u64_andNot_nat x 9223372036854775808 hx (by decide)
    rw [and_rg] at h
    exact h
  go_enter Try.func69, Try.ntmps69
  go_wp2_with fail
  go_ret
  exact ⟨rfl, rfl⟩

/-- a meter from o on -/
def MtrS (vs : Array Value) (o : Nat) (n : Int) (m j : Nat) : Prop := Sub vs o [.int .i64 n, .float .f64 m, .float .f64 j]
theorem MtrS.at {vs : Array Value} {o i : Nat} {n : Int} {m j : Nat} {v : Value} (h : MtrS vs o n m j) (e : [Value.int .i64 n, .float .f64 m, .float .f64 j][i]? = some v) : vs[o + i]? = some v := h i v e
def geB (x y : Nat) : Bool := FloatKind.f64.format.order x y == some .gt || FloatKind.f64.format.order x y == some .eq
def leB (x y : Nat) : Bool := FloatKind.f64.format.order x y == some .lt || FloatKind.f64.format.order x y == some .eq
theorem run_fl (op : BinOp) (t : TypeId) {x y r : Nat} (h : floatBits op .f64 x y = some r) (w : World) : (binOp op t (.float .f64 x) (.float .f64 y)).run Try.prog w = .ok (.float .f64 r) w := run_float_arith (P := Try.prog) w op t .f64 x y r h
def inB (x : Nat) : Bool := geB x 0 && leB x 4696837146684686336
theorem in_parts {x : Nat} (h : inB x = true) : geB x 0 = true ∧ leB x 4696837146684686336 = true := by unfold inB at h; simpa using h
theorem note_first {w : World} {b o : Nat} {T : TypeId} {vs : Array Value} {x m j : Nat} (h0 : Blk w b vs T) (hM : MtrS vs o 0 m j) (hx : x < 18446744073709551616) (h : inB x = true) :
    Calls Try.prog 46 #[.pointer (some ⟨b, o, none⟩), .float .f64 x] w fun e w' => e = .returned (.bool true) ∧ (∃ us, Blk w' b us T ∧ MtrS us o 1 (rg x) j ∧ Out vs us o 3) ∧ Fr [b] w w' := by
  obtain ⟨p1, p2⟩ := in_parts h
  clear h
  unfold geB at p1
  unfold leB at p2
  have c0 := Blk.cell h0 (hM.at (i := 0) rfl)
  rw [Nat.add_zero] at c0
  have c1 := Blk.cell h0 (hM.at (i := 1) rfl)
  have f0 := Blk.free h0 (o)
  have f1 := Blk.free h0 (o + 1)
  go_enter Try.func46, Try.ntmps46
  go_wp2_with fail
  refine (abs_any x hx _).mono ?_; rintro e w' ⟨rfl, rfl⟩
  go_wp2_with fail
  go_ret
  exact ⟨rfl, ⟨_, (h0.set o _).set (o + 1) _, (Sub.set hM (i := 0) (by simp) (.int .i64 1)).set (i := 1) (by simp) (.float .f64 (rg x)), ((Out.refl vs o 3).set (i := 0) (by decide) _).set (i := 1) (by decide) _⟩, ((Fr.refl _ w).setCell (.inl (by simp)) _).setCell (.inl (by simp)) _⟩
set_option maxHeartbeats 1600000 in
set_option maxRecDepth 100000 in
theorem note_next {w : World} {b o n : Nat} {T : TypeId} {vs : Array Value} {x m j d a c j' c' m' : Nat} (h0 : Blk w b vs T) (hM : MtrS vs o n m j) (hx : x < 18446744073709551616) (h : inB x = true) (hn : 1 ≤ n) (hn2 : n ≤ 1000000) (hd : d < 18446744073709551616)
    (e1 : double.sub (rg x) m = some d) (e2 : double.sub (rg d) j = some a) (e3 : double.div a 4616189618054758400 = some c) (e4 : double.add j c = some j') (e5 : double.div d 4620693217682128896 = some c') (e6 : double.add m c' = some m') :
    Calls Try.prog 46 #[.pointer (some ⟨b, o, none⟩), .float .f64 x] w fun e w' => e = .returned (.bool true) ∧ (∃ us, Blk w' b us T ∧ MtrS us o ((n : Int) + 1) m' j' ∧ Out vs us o 3) ∧ Fr [b] w w' := by
  obtain ⟨p1, p2⟩ := in_parts h
  clear h
  unfold geB at p1
  unfold leB at p2
  have q1 : ∀ w : World, (binOp .sub 28 (.float .f64 (rg x)) (.float .f64 m)).run Try.prog w = .ok (.float .f64 d) w := run_fl .sub _ e1
  have q2 : ∀ w : World, (binOp .sub 28 (.float .f64 (rg d)) (.float .f64 j)).run Try.prog w = .ok (.float .f64 a) w := run_fl .sub _ e2
  have q3 : ∀ w : World, (binOp .quo 28 (.float .f64 a) (.float .f64 4616189618054758400)).run Try.prog w = .ok (.float .f64 c) w := run_fl .quo _ e3
  have q4 : ∀ w : World, (binOp .add 28 (.float .f64 j) (.float .f64 c)).run Try.prog w = .ok (.float .f64 j') w := run_fl .add _ e4
  have q5 : ∀ w : World, (binOp .quo 28 (.float .f64 d) (.float .f64 4620693217682128896)).run Try.prog w = .ok (.float .f64 c') w := run_fl .quo _ e5
  have q6 : ∀ w : World, (binOp .add 28 (.float .f64 m) (.float .f64 c')).run Try.prog w = .ok (.float .f64 m') w := run_fl .add _ e6
  clear e1 e2 e3 e4 e5 e6
  have c0 := Blk.cell h0 (hM.at (i := 0) rfl)
  rw [Nat.add_zero] at c0
  have c1 := Blk.cell h0 (hM.at (i := 1) rfl)
  have c2 := Blk.cell h0 (hM.at (i := 2) rfl)
  have f0 := Blk.free h0 (o)
  have f1 := Blk.free h0 (o + 1)
  have f2 := Blk.free h0 (o + 2)
  have hn3 : ((n : Int) + 1 == 1) = false := by simp; omega
  go_enter Try.func46, Try.ntmps46
  go_wp2_with fail
  refine (abs_any x hx _).mono ?_; rintro e w' ⟨rfl, rfl⟩
  go_wp2_with fail
  have hM1 := h0.set o (.int .i64 ((n : Int) + 1))
  have hS1 := Sub.set hM (i := 0) (by simp) (.int .i64 ((n : Int) + 1))
  rw [Nat.add_zero] at hS1
  have hO1 := (Out.refl vs o 3).set (i := 0) (by decide) (.int .i64 ((n : Int) + 1))
  rw [Nat.add_zero] at hO1
  have hF1 := (Fr.refl [b] w).setCell (p := ⟨b, o, none⟩) (.inl (by simp)) (.int .i64 ((n : Int) + 1))
  clear hM c0 c1 c2 f0 f1 f2 h0
  generalize vs.setIfInBounds o (.int .i64 ((n : Int) + 1)) = us1 at *
  generalize w.setCell ⟨b, o, none⟩ (.int .i64 ((n : Int) + 1)) = w1 at *
  have c1 := Blk.cell hM1 (hS1.at (i := 1) rfl)
  have c2 := Blk.cell hM1 (hS1.at (i := 2) rfl)
  have f1 := hM1.free (o + 1)
  have f2 := hM1.free (o + 2)
  refine wp_region_still_tail 15 (by kernel_rfl) (by kernel_rfl) ?_
  simp only [List.take_succ_cons, List.take_zero, List.drop_succ_cons, List.drop_zero]
  repeat still_step
  refine wpStill_step (fun K hK => ?_)
  go_simp
  refine ⟨_, (abs_any d hd _).mono (fun e w' h => ⟨h.1, h.2.symm⟩), hK _ ?_⟩
  clear hK K
  repeat still_step
  refine wpStill_nil ?_
  change wpList _ _ _ _ _ w1.drew
  have hM2 := hM1.drew.set (o + 2) (.float .f64 j')
  have hS2 := Sub.set hS1 (i := 2) (by simp) (.float .f64 j')
  have hO2 := hO1.set (i := 2) (by decide) (.float .f64 j')
  have hF2 := hF1.drew.setCell (p := ⟨b, o + 2, none⟩) (.inl (by simp)) (.float .f64 j')
  have d2 := Blk.cell hM1.drew (hS1.at (i := 2) rfl)
  have g2 := hM1.drew.free (o + 2)
  have d1 := Blk.cell hM1.drew (hS1.at (i := 1) rfl)
  have g1 := hM1.drew.free (o + 1)
  clear c1 c2 f1 f2 hM1 hF1
  generalize w1.drew = w2 at *
  go_wp2_with fail
  go_ret
  exact ⟨rfl, ⟨_, hM2.set (o + 1) _, Sub.set hS2 (i := 1) (by simp) (.float .f64 m'), hO2.set (i := 1) (by decide) _⟩, hF2.setCell (p := ⟨b, o + 1, none⟩) (.inl (by simp)) _⟩
theorem mean_at {w : World} {b o : Nat} {T : TypeId} {vs : Array Value} {n : Int} {m j : Nat} (h0 : Blk w b vs T) (hM : MtrS vs o n m j) : Calls Try.prog 56 #[.pointer (some ⟨b, o, none⟩)] w fun e w' => e = .returned (.float .f64 m) ∧ w = w' := by
  have c1 := Blk.cell h0 (hM.at (i := 1) rfl)
  go_enter Try.func56, Try.ntmps56
  go_wp2_with fail
  go_ret
  exact ⟨rfl, rfl⟩
theorem jit_at {w : World} {b o : Nat} {T : TypeId} {vs : Array Value} {n : Int} {m j : Nat} (h0 : Blk w b vs T) (hM : MtrS vs o n m j) : Calls Try.prog 57 #[.pointer (some ⟨b, o, none⟩)] w fun e w' => e = .returned (.float .f64 j) ∧ w = w' := by
  have c1 := Blk.cell h0 (hM.at (i := 2) rfl)
  go_enter Try.func57, Try.ntmps57
  go_wp2_with fail
  go_ret
  exact ⟨rfl, rfl⟩
end Go.Proofs.Ytkjjikjilmngdaa.Mt
