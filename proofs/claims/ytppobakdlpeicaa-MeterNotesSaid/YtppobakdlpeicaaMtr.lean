import Derived.Test.YtppobakdlpeicaaHand
import Derived.Test.YtppobakdlpeicaaFp4
import Derived.Laws.BitsAllLaws
import Derived.Laws.FloatArith
import Derived.Deep.RegionWith
import Derived.Deep.QuietTactic
import Derived.BigQuiet
import Derived.StillTailTactics
import Derived.IntWalk
namespace Go.Proofs.Ytppobakdlpeicaa.Mt
open Go.RowKit Dt Go.Proofs.Ytppobakdlpeicaa.Hd Ieee
set_option linter.unusedVariables false
set_option linter.unusedSimpArgs false

theorem run_store_float (P : Program) (w : World) (a : Addr) (m : Mode) (k : FloatKind) (b : Nat) : (store a (.float k b) m).run P w = stored P w a (.float k b) m := run_store P w a _ m rfl
attribute [local go_sem] run_store_float
theorem run_bits (x : Nat) (w : World) : (callFunc 25 #[.float .f64 x]).run Try.prog w = .ok (.value (.int .u64 x)) w :=
  run_callFunc_extern (e := Extern.MathFloatBits.float64bits) Try.func25 (by kernel_rfl) (by kernel_rfl) (by kernel_rfl) (by kernel_rfl) _ _
theorem run_frombits (x : Nat) (w : World) : (callFunc 30 #[.int .u64 (x : Int)]).run Try.prog w = .ok (.value (.float .f64 x)) w :=
  run_callFunc_extern (e := Extern.MathFloatBits.float64frombits) Try.func30 (by kernel_rfl) (by kernel_rfl) (by kernel_rfl) (by kernel_rfl) _ _
theorem and_rg (x : Nat) : x &&& (18446744073709551615 - 9223372036854775808) = rg x := by
  have : 18446744073709551615 - 9223372036854775808 = 2 ^ 63 - 1 := by decide
  rw [this, Nat.and_two_pow_sub_one_eq_mod]; rfl
theorem abs_any (x : Nat) (hx : x < 18446744073709551616) (w : World) : Calls Try.prog 31 #[.float .f64 x] w fun e w' => e = .returned (.float .f64 (rg x)) ∧ w = w' := by
  have hb := run_bits x
  have hf := run_frombits (rg x)
  have ha : bits .andNot .u64 (x : Int) 9223372036854775808 = ((rg x : Nat) : Int) := by
    have h := u64_andNot_nat x 9223372036854775808 hx (by decide)
    rw [and_rg] at h
    exact h
  go_enter Try.func31, Try.ntmps31
  go_wp2_with fail
  go_ret
  exact ⟨rfl, rfl⟩

/-- a meter at block b: how many, the mean, the jitter -/
def HasM (w : World) (b : Nat) (n : Int) (m j : Nat) : Prop := Blk w b #[.int .i64 n, .float .f64 m, .float .f64 j] 38
def geB (x y : Nat) : Bool := FloatKind.f64.format.order x y == some .gt || FloatKind.f64.format.order x y == some .eq
def leB (x y : Nat) : Bool := FloatKind.f64.format.order x y == some .lt || FloatKind.f64.format.order x y == some .eq
theorem run_fl (op : BinOp) (t : TypeId) {x y r : Nat} (h : floatBits op .f64 x y = some r) (w : World) : (binOp op t (.float .f64 x) (.float .f64 y)).run Try.prog w = .ok (.float .f64 r) w := run_float_arith (P := Try.prog) w op t .f64 x y r h
def inB (x : Nat) : Bool := geB x 0 && leB x 4696837146684686336
theorem note_no {w : World} {b : Nat} {x : Nat} (h : inB x = false) :
    Calls Try.prog 19 #[.pointer (some ⟨b, 0, none⟩), .float .f64 x] w fun e w' => e = .returned (.bool false) ∧ w = w' := by
  unfold inB at h
  cases h1 : geB x 0 with
  | false =>
    clear h
    unfold geB at h1
    go_enter Try.func19, Try.ntmps19
    go_wp2_with fail
    go_ret
    exact ⟨rfl, rfl⟩
  | true =>
    rw [h1, Bool.true_and] at h
    unfold geB at h1
    unfold leB at h
    go_enter Try.func19, Try.ntmps19
    go_wp2_with fail
    go_ret
    exact ⟨rfl, rfl⟩
theorem in_parts {x : Nat} (h : inB x = true) : geB x 0 = true ∧ leB x 4696837146684686336 = true := by unfold inB at h; simpa using h
theorem note_first {w : World} {b : Nat} {x m j : Nat} (hM : HasM w b 0 m j) (hx : x < 18446744073709551616) (h : inB x = true) :
    Calls Try.prog 19 #[.pointer (some ⟨b, 0, none⟩), .float .f64 x] w fun e w' => e = .returned (.bool true) ∧ HasM w' b 1 (rg x) j ∧ Fr [b] w w' := by
  obtain ⟨p1, p2⟩ := in_parts h
  clear h
  unfold geB at p1
  unfold leB at p2
  unfold HasM at hM
  have c0 := hM.cell (i := 0) rfl
  have c1 := hM.cell (i := 1) rfl
  have f0 := hM.free 0
  have f1 := hM.free 1
  simp at c0 c1
  go_enter Try.func19, Try.ntmps19
  go_wp2_with fail
  refine (abs_any x hx _).mono ?_; rintro e w' ⟨rfl, rfl⟩
  go_wp2_with fail
  go_ret
  exact ⟨rfl, (hM.set 0 _).set 1 _, ((Fr.refl _ w).setCell (.inl (by simp)) _).setCell (.inl (by simp)) _⟩
set_option maxHeartbeats 800000 in
theorem note_next {w : World} {b n : Nat} {x m j d a c j' c' m' : Nat} (hM : HasM w b n m j) (hx : x < 18446744073709551616) (h : inB x = true) (hn : 1 ≤ n) (hn2 : n ≤ 1000000) (hd : d < 18446744073709551616)
    (e1 : double.sub (rg x) m = some d) (e2 : double.sub (rg d) j = some a) (e3 : double.div a 4616189618054758400 = some c) (e4 : double.add j c = some j') (e5 : double.div d 4620693217682128896 = some c') (e6 : double.add m c' = some m') :
    Calls Try.prog 19 #[.pointer (some ⟨b, 0, none⟩), .float .f64 x] w fun e w' => e = .returned (.bool true) ∧ HasM w' b ((n : Int) + 1) m' j' ∧ Fr [b] w w' := by
  obtain ⟨p1, p2⟩ := in_parts h
  clear h
  unfold geB at p1
  unfold leB at p2
  unfold HasM at hM
  have q1 : ∀ w : World, (binOp .sub 23 (.float .f64 (rg x)) (.float .f64 m)).run Try.prog w = .ok (.float .f64 d) w := run_fl .sub 23 e1
  have q2 : ∀ w : World, (binOp .sub 23 (.float .f64 (rg d)) (.float .f64 j)).run Try.prog w = .ok (.float .f64 a) w := run_fl .sub 23 e2
  have q3 : ∀ w : World, (binOp .quo 23 (.float .f64 a) (.float .f64 4616189618054758400)).run Try.prog w = .ok (.float .f64 c) w := run_fl .quo 23 e3
  have q4 : ∀ w : World, (binOp .add 23 (.float .f64 j) (.float .f64 c)).run Try.prog w = .ok (.float .f64 j') w := run_fl .add 23 e4
  have q5 : ∀ w : World, (binOp .quo 23 (.float .f64 d) (.float .f64 4620693217682128896)).run Try.prog w = .ok (.float .f64 c') w := run_fl .quo 23 e5
  have q6 : ∀ w : World, (binOp .add 23 (.float .f64 m) (.float .f64 c')).run Try.prog w = .ok (.float .f64 m') w := run_fl .add 23 e6
  clear e1 e2 e3 e4 e5 e6
  have c0 := hM.cell (i := 0) rfl
  have c1 := hM.cell (i := 1) rfl
  have c2 := hM.cell (i := 2) rfl
  have f0 := hM.free 0
  have f1 := hM.free 1
  have f2 := hM.free 2
  simp at c0 c1 c2
  have hn3 : ((n : Int) + 1 == 1) = false := by simp; omega
  go_enter Try.func19, Try.ntmps19
  go_wp2_with fail
  refine (abs_any x hx _).mono ?_; rintro e w' ⟨rfl, rfl⟩
  go_wp2_with fail
  have hM1 : Blk (w.setCell ⟨b, 0, none⟩ (.int .i64 ((n : Int) + 1))) b #[.int .i64 ((n : Int) + 1), .float .f64 m, .float .f64 j] 38 := hM.set 0 _
  have hF1 := (Fr.refl [b] w).setCell (p := ⟨b, 0, none⟩) (.inl (by simp)) (.int .i64 ((n : Int) + 1))
  clear hM c0 c1 c2 f0 f1 f2
  generalize w.setCell ⟨b, 0, none⟩ (.int .i64 ((n : Int) + 1)) = w1 at *
  have c1 := hM1.cell (i := 1) rfl
  have c2 := hM1.cell (i := 2) rfl
  have f1 := hM1.free 1
  have f2 := hM1.free 2
  simp at c1 c2
  refine wp_region_still_tail 15 (by kernel_rfl) (by kernel_rfl) ?_
  simp only [List.take_succ_cons, List.take_zero, List.drop_succ_cons, List.drop_zero]
  repeat still_step
  refine wpStill_step (fun K hK => ?_)
  go_simp
  refine ⟨_, (abs_any d hd _).mono (fun e w' h => ⟨h.1, h.2.symm⟩), hK _ ?_⟩
  clear hK K
  repeat still_step
  refine wpStill_nil ?_
  change wpList _ _ _ _ _ w1.drew
  have hM2 : Blk (w1.drew.setCell ⟨b, 2, none⟩ (.float .f64 j')) b #[.int .i64 ((n : Int) + 1), .float .f64 m, .float .f64 j'] 38 := hM1.drew.set 2 _
  have hF2 := hF1.drew.setCell (p := ⟨b, 2, none⟩) (.inl (by simp)) (.float .f64 j')
  have d2 := hM1.drew.cell (i := 2) rfl
  have g2 := hM1.drew.free 2
  have d1 := hM1.drew.cell (i := 1) rfl
  have g1 := hM1.drew.free 1
  simp only [List.getElem_toArray, List.getElem_cons_zero, List.getElem_cons_succ] at d1 d2
  clear c1 c2 f1 f2 hM1 hF1
  generalize w1.drew = w2 at *
  go_wp2_with fail
  go_ret
  exact ⟨rfl, hM2.set 1 _, hF2.setCell (p := ⟨b, 1, none⟩) (.inl (by simp)) _⟩

theorem mean_any {w : World} {b : Nat} {n : Int} {m j : Nat} (hM : HasM w b n m j) : Calls Try.prog 20 #[.pointer (some ⟨b, 0, none⟩)] w fun e w' => e = .returned (.float .f64 m) ∧ w = w' := by
  unfold HasM at hM
  have c1 := hM.cell (i := 1) rfl
  simp only [List.getElem_toArray, List.getElem_cons_zero, List.getElem_cons_succ] at c1
  go_enter Try.func20, Try.ntmps20
  go_wp2_with fail
  go_ret
  exact ⟨rfl, rfl⟩
theorem jit_any {w : World} {b : Nat} {n : Int} {m j : Nat} (hM : HasM w b n m j) : Calls Try.prog 21 #[.pointer (some ⟨b, 0, none⟩)] w fun e w' => e = .returned (.float .f64 j) ∧ w = w' := by
  unfold HasM at hM
  have c1 := hM.cell (i := 2) rfl
  simp only [List.getElem_toArray, List.getElem_cons_zero, List.getElem_cons_succ] at c1
  go_enter Try.func21, Try.ntmps21
  go_wp2_with fail
  go_ret
  exact ⟨rfl, rfl⟩
theorem count_any {w : World} {b : Nat} {n : Int} {m j : Nat} (hM : HasM w b n m j) : Calls Try.prog 22 #[.pointer (some ⟨b, 0, none⟩)] w fun e w' => e = .returned (.int .i64 n) ∧ w = w' := by
  unfold HasM at hM
  have c1 := hM.cell (i := 0) rfl
  simp only [List.getElem_toArray, List.getElem_cons_zero, List.getElem_cons_succ] at c1
  go_enter Try.func22, Try.ntmps22
  go_wp2_with fail
  go_ret
  exact ⟨rfl, rfl⟩
theorem HasM.fr {S : List Nat} {w w' : World} {b : Nat} {n : Int} {m j : Nat} (h : HasM w b n m j) (hF : Fr S w w') (hb : b ∉ S) : HasM w' b n m j := hF.blk h hb

/-- the example of the chapter -/
theorem known_any (w : World) : Calls Try.prog 23 #[] w fun e w' => e = .returned (.bool true) ∧ Fr [] w w' := by
  have k0 : HasM (w.alloc (.cells #[.int .i64 0, .float .f64 0, .float .f64 0] 38)) w.heap.size 0 0 0 := Blk.new w _ _
  have hF := (Fr.refl [] w).alloc (.cells #[.int .i64 0, .float .f64 0, .float .f64 0] 38)
  go_enter Try.func23, Try.ntmps23
  go_wp2_with fail
  refine (note_first k0 (by decide) (by kernel_rfl)).mono ?_; rintro e w1 ⟨rfl, k1, hF1⟩
  go_wp2_with fail
  refine (note_next (n := 1) k1 (by decide) (by kernel_rfl) (by decide) (by decide) (d := 4620693217682128896) (a := 4620693217682128896) (c := 4611686018427387904) (j' := 4611686018427387904) (c' := 4607182418800017408) (m' := 4621256167635550208) (by decide) (by kernel_rfl) (by kernel_rfl) (by kernel_rfl) (by kernel_rfl) (by kernel_rfl) (by kernel_rfl)).mono ?_; rintro e w2 ⟨rfl, k2, hF2⟩
  have hF3 := hF.trans (hF1.trans hF2 (fun x hx => .inl hx)) (by simp)
  clear k0 hF k1 hF1 hF2
  have o1 : (FloatKind.f64.format.order 4621256167635550208 4621256167635550208 == some .eq) = true := by kernel_rfl
  have o2 : (FloatKind.f64.format.order 4611686018427387904 4611686018427387904 == some .eq) = true := by kernel_rfl
  have e2 : ((1 : Nat) : Int) + 1 = 2 := rfl
  rw [e2] at k2
  go_wp2_with fail
  refine (mean_any k2).mono ?_; rintro e w' ⟨rfl, rfl⟩
  go_wp2_with fail
  refine (jit_any k2).mono ?_; rintro e w' ⟨rfl, rfl⟩
  go_wp2_with fail
  refine (count_any k2).mono ?_; rintro e w' ⟨rfl, rfl⟩
  go_wp2_with fail
  go_ret
  exact ⟨rfl, hF3⟩
end Go.Proofs.Ytppobakdlpeicaa.Mt
