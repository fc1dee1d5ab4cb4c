import Derived.Test.YtppobakdlpeicaaMtT
import Derived.Test.YtppobakdlpeicaaFp6
import Derived.Deep.QuietTactic
import Derived.BigQuiet
import Derived.IntWalk
import Derived.Deep.Cut
namespace Go.Proofs.Ytppobakdlpeicaa.Mt
open Go.RowKit Dt Go.Proofs.Ytppobakdlpeicaa.Hd Ieee
set_option linter.unusedVariables false
set_option linter.unusedSimpArgs false

theorem run_ceil {x m : Nat} {s : Bool} {p : Int} (hr : double.read x = .number s m p) (w : World) : (callFunc 36 #[.float .f64 x]).run Try.prog w = .ok (.value (.float .f64 (double.write ((double.read x).integral .up)))) w := by
  rw [run_callFunc_extern (e := Extern.MathFloor.toIntegral "math.archCeil" .up) Try.func36 (by kernel_rfl) (by kernel_rfl) (by kernel_rfl) (by kernel_rfl) _ _]
  have hd : FloatKind.f64.decode x = .number s m p := hr
  have he : Extern.MathFloor.toIntegral "math.archCeil" .up #[.float .f64 x] = pure (.float .f64 (double.write ((double.read x).integral .up))) := by
    show (match FloatKind.f64.decode x with
      | .nan s t => _
      | d => _) = _
    rw [hd, hr]
    rfl
  rw [he]
  rfl
theorem ceil_any {x z : Nat} {X : Int} (h : Fl x X) (hz : double.write ((double.read x).integral .up) = z) (w : World) : Calls Try.prog 32 #[.float .f64 x] w fun e w' => e = .returned (.float .f64 z) ∧ w = w' := by
  obtain ⟨m, p, hr, hm⟩ := read_fin h.fin
  have hc : ∀ w, (callFunc 36 #[.float .f64 x]).run Try.prog w = .ok (.value (.float .f64 z)) w := fun w => by rw [run_ceil hr w, hz]
  clear hr hm hz h
  go_enter Try.func32, Try.ntmps32
  go_wp2_with fail
  go_ret
  exact ⟨rfl, rfl⟩
/-- the walk of Lead, its floats by letters -/
theorem lead_walk {w : World} {b : Nat} {n : Int} {m j h t a q z s r : Nat} {p pp : Int} {R : Int} (hM : HasM w b n m j)
    (hp : (if 8 < p then 8 else p) = pp) (h1 : (1 : Int) ≤ pp)
    (e1 : double.div m 4611686018427387904 = some h) (e2 : double.mul 4611686018427387904 j = some t) (e3 : double.add h t = some a) (e4 : double.div a (Go.floatOfInt .f64 pp) = some q)
    (ez : ∀ w, Calls Try.prog 32 #[.float .f64 q] w fun e w' => e = .returned (.float .f64 z) ∧ w = w') (e5 : double.add z 4607182418800017408 = some s)
    (e6 : ∀ w, (Builtin.min_ #[23, 23] 23 #[.float .f64 s, .float .f64 4625196817309499392]).run Try.prog w = .ok (.float .f64 r) w) (e7 : floatToIntVal .f64 r .i64 = some R) :
    Calls Try.prog 24 #[.pointer (some ⟨b, 0, none⟩), .int .i64 p] w fun e w' => e = .returned (.int .i64 R) ∧ ∃ k, w' = w.drewN k := by
  unfold HasM at hM
  have q1 : ∀ w : World, (binOp .quo 23 (.float .f64 m) (.float .f64 4611686018427387904)).run Try.prog w = .ok (.float .f64 h) w := run_fl .quo 23 e1
  have q2 : ∀ w : World, (binOp .mul 23 (.float .f64 4611686018427387904) (.float .f64 j)).run Try.prog w = .ok (.float .f64 t) w := run_fl .mul 23 e2
  have q3 : ∀ w : World, (binOp .add 23 (.float .f64 h) (.float .f64 t)).run Try.prog w = .ok (.float .f64 a) w := run_fl .add 23 e3
  obtain ⟨fp, hfp⟩ : ∃ fp, Go.floatOfInt .f64 pp = fp := ⟨_, rfl⟩
  rw [hfp] at e4
  have q4 : ∀ w : World, (binOp .quo 23 (.float .f64 a) (.float .f64 fp)).run Try.prog w = .ok (.float .f64 q) w := run_fl .quo 23 e4
  have q5 : ∀ w : World, (binOp .add 23 (.float .f64 z) (.float .f64 4607182418800017408)).run Try.prog w = .ok (.float .f64 s) w := run_fl .add 23 e5
  have q6 : ∀ w, (convert 3 23 (.int .i64 pp)).run Try.prog w = .ok (.float .f64 fp) w := fun w => by rw [← hfp]; exact run_convert_int_float w 3 23 .i64 .f64 pp (by rw [Try.underlying3]; rfl) Try.underlying23
  have q7 : ∀ w, (convert 23 3 (.float .f64 r)).run Try.prog w = .ok (.int .i64 R) w := fun w => run_convert_float_int w 23 3 .f64 .i64 r R (by rw [Try.underlying23]; rfl) Try.underlying3 e7
  have c1 := hM.cell (i := 1) rfl
  have c2 := hM.cell (i := 2) rfl
  simp at c1 c2
  have EZ := Lib.hid ez
  have h1' : decide (pp < 1) = false := by simp; omega
  have h1'' : (if 1 < pp then pp else 1) = pp := by split <;> omega
  clear e1 e2 e3 e4 e5 e7 hfp ez hM
  go_enter Try.func24, Try.ntmps24
  go_upto_region 2 with (fail)
  go_quiet (fail)
  go_wp2_with fail
  refine (EZ.out _).mono ?_; rintro e w' ⟨rfl, rfl⟩
  go_wp2_with fail
  go_ret
  exact ⟨rfl, _, rfl⟩
end Go.Proofs.Ytppobakdlpeicaa.Mt
