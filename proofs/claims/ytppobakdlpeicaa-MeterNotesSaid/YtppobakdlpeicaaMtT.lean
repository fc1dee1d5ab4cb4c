import Derived.Test.YtppobakdlpeicaaMtr
import Derived.Test.YtppobakdlpeicaaMtP
namespace Go.Proofs.Ytppobakdlpeicaa.Mt
open Go.RowKit Dt Go.Proofs.Ytppobakdlpeicaa.Hd Ieee
set_option linter.unusedVariables false
set_option linter.unusedSimpArgs false

theorem U_eq : ∃ (U t : Nat), t = 1071 ∧ U = 2 ^ t ∧ S = 8 * U := by
  obtain ⟨c, hc, hS⟩ := S_eq
  refine ⟨2 ^ (c - 3), c - 3, by omega, rfl, ?_⟩
  have : (8 : Nat) = 2 ^ 3 := rfl
  rw [hS, this, ← Nat.pow_add]
  congr 1; omega
theorem inB_of {x : Nat} {X : Int} (h : Fl x X) (h0 : 0 ≤ X) (h1 : X ≤ 1000000 * S) : inB x = true := by
  have f6 : Fl 4696837146684686336 (1000000 * S) := by
    have h := fint_exact (n := 1000000) (by decide) (by decide)
    have e : Go.floatOfInt .f64 1000000 = 4696837146684686336 := by kernel_rfl
    rwa [e] at h
  have o1 : FloatKind.f64.format.order x 0 = some (compare X 0) := forder h fl_zero
  have o2 : FloatKind.f64.format.order x 4696837146684686336 = some (compare X (1000000 * S)) := forder h f6
  unfold inB geB leB
  rw [o1, o2]
  rcases Int.lt_or_eq_of_le h0 with a | a <;> rcases Int.lt_or_eq_of_le h1 with b | b
  · rw [Int.compare_eq_gt.2 a, Int.compare_eq_lt.2 b]; rfl
  · rw [Int.compare_eq_gt.2 a, b, Int.compare_eq_eq.2 rfl]; rfl
  · rw [← a, Int.compare_eq_eq.2 rfl, Int.compare_eq_lt.2 (by rw [a]; exact b)]; rfl
  · rw [← a, Int.compare_eq_eq.2 rfl]
    rw [← a] at b
    rw [← b, Int.compare_eq_eq.2 rfl]; rfl
theorem order_same {x y : Nat} {X : Int} (hx : Fl x X) (hy : Fl y X) : (FloatKind.f64.format.order x y != some .eq) = false := by
  have o1 : FloatKind.f64.format.order x y = some (compare X X) := forder hx hy
  rw [o1, Int.compare_eq_eq.2 rfl]; rfl

noncomputable def nextM (k : Nat) (X M : Int) : Int := if k = 0 then X else stepM X M
noncomputable def nextJ (k : Nat) (X M J : Int) : Int := if k = 0 then J else stepJ X M J
theorem note_any {w : World} {b k x m j : Nat} {X M J H : Int} (hM : HasM w b k m j) (hx : Fl x X) (hm : Fl m M) (hj : Fl j J) (rh : Rep H) (x0 : 0 ≤ X) (x1 : X ≤ H) (m0 : 0 ≤ M) (m1 : M ≤ H) (j0 : 0 ≤ J) (j1 : J ≤ H) (hk : k ≤ 1000000) (hin : X ≤ 1000000 * S) :
    Calls Try.prog 19 #[.pointer (some ⟨b, 0, none⟩), .float .f64 x] w fun e w' => e = .returned (.bool true) ∧ (∃ m' j', HasM w' b ((k : Int) + 1) m' j' ∧ Fl m' (nextM k X M) ∧ Fl j' (nextJ k X M J)) ∧ Fr [b] w w' := by
  have hi := inB_of hx x0 hin
  cases k with
  | zero =>
    refine (note_first hM hx.lt hi).mono ?_
    rintro e w' ⟨rfl, h1, h2⟩
    have e : ((X.natAbs : Nat) : Int) = X := by omega
    have := hx.abs
    rw [e] at this
    exact ⟨rfl, ⟨_, _, h1, this, hj⟩, h2⟩
  | succ k =>
    obtain ⟨d, a, c, j', c', m', hd, e1, e2, e3, e4, e5, e6, fm, fj⟩ := note_fl hx hm hj rh x0 x1 m0 m1 j0 j1
    refine (note_next hM hx.lt hi (by omega) hk hd e1 e2 e3 e4 e5 e6).mono ?_
    rintro e w' ⟨rfl, h1, h2⟩
    exact ⟨rfl, ⟨_, _, h1, fm, fj⟩, h2⟩

theorem next_bd {k : Nat} {X M J : Int} {H : Int} (rh : Rep H) (x0 : 0 ≤ X) (x1 : X ≤ H) (m0 : 0 ≤ M) (m1 : M ≤ H) (j0 : 0 ≤ J) (j1 : J ≤ H) : (0 ≤ nextM k X M ∧ nextM k X M ≤ H) ∧ 0 ≤ nextJ k X M J ∧ nextJ k X M J ≤ H := by
  unfold nextM nextJ
  by_cases h : k = 0
  · rw [if_pos h, if_pos h]; exact ⟨⟨x0, x1⟩, j0, j1⟩
  · rw [if_neg h, if_neg h]
    have d1 := dM_bd m0 m1 x0 x1 (by simpa using rh)
    exact ⟨stepM_bd m0 m1 x0 x1 Rep.zero rh, stepJ_bd (by omega) j0 j1 rh⟩
theorem next_gr {k t : Nat} {X M J : Int} (hX : Gr (t + 3) X) (hM : Gr (t + 3) M) (hJ : Gr (t + 3) J) : Gr t (nextM k X M) ∧ Gr t (nextJ k X M J) := by
  unfold nextM nextJ
  by_cases h : k = 0
  · rw [if_pos h, if_pos h]; exact ⟨hX.le (by omega), hJ.le (by omega)⟩
  · rw [if_neg h, if_neg h]; exact ⟨stepM_gr hX hM, stepJ_gr hX hM hJ⟩
theorem next_dbl {k t : Nat} {X M J : Int} (hX : Gr (t + 3) X) (hM : Gr (t + 3) M) (hJ : Gr (t + 3) J) (ht : 54 ≤ t) : nextM k (2 * X) (2 * M) = 2 * nextM k X M ∧ nextJ k (2 * X) (2 * M) (2 * J) = 2 * nextJ k X M J := by
  unfold nextM nextJ
  by_cases h : k = 0
  · rw [if_pos h, if_pos h, if_pos h, if_pos h]; exact ⟨rfl, rfl⟩
  · rw [if_neg h, if_neg h, if_neg h, if_neg h]; exact ⟨stepM_dbl hX hM ht, stepJ_dbl hX hM hJ ht⟩

/-- two meters, the samples of one of which are twice the other's -/
def Two (U : Nat) (w : World) (A C : Nat) (k : Nat) : Prop := ∃ (M J : Int) (ma ja mb jb : Nat), HasM w A k ma ja ∧ HasM w C k mb jb ∧ Fl ma M ∧ Fl ja J ∧ Fl mb (2 * M) ∧ Fl jb (2 * J) ∧ 0 ≤ M ∧ M ≤ 4000 * U ∧ 0 ≤ J ∧ J ≤ 4000 * U ∧ Gr (1071 - 3 * k) M ∧ Gr (1071 - 3 * k) J

theorem rep_U {U t m : Nat} (hU : U = 2 ^ t) (ht : t = 1071) (hm : m ≤ 1000000) : Rep ((m : Int) * U) := by
  have := rep_pow (m := m) (k := t) (by unfold B; omega) (by omega)
  rw [← hU, Int.natCast_mul] at this
  exact this
theorem gr_U {U t : Nat} (hU : U = 2 ^ t) (ht : t = 1071) (p : Int) : Gr 1071 (p * U) := ⟨p, by rw [hU, ht]⟩
theorem sample {U t p : Nat} (hU : U = 2 ^ t) (ht : t = 1071) (hS : S = 8 * U) (hp : p < 8000) : ∃ x, double.div (Go.floatOfInt .f64 (p : Int)) 4620693217682128896 = some x ∧ Fl x (p * U) := by
  have h8 : Fl 4620693217682128896 ((8 * S : Nat) : Int) := by rw [Int.natCast_mul]; exact fl_eight
  have hp1 := fint_exact (n := (p : Int)) (by omega) (by omega)
  obtain ⟨x, e1, f1⟩ := fdiv_exact (V := (p : Int) * U) hp1 h8 (by have := S_pos; omega) (by rw [hS]; push_cast; ac_rfl) (rep_U hU ht (by omega))
  exact ⟨x, e1, f1⟩
theorem dbl_word {x : Nat} {X : Int} (h : Fl x X) (hr : Rep (2 * X)) : ∃ z, double.mul 4611686018427387904 x = some z ∧ Fl z (2 * X) :=
  fmul_exact fl_two h (by rw [Int.mul_assoc, Int.mul_assoc, Int.mul_comm (S : Int) X]) hr

set_option maxRecDepth 100000 in
set_option maxHeartbeats 3200000 in
theorem walk_twice (a0 : Option Addr) (len0 cap0 : Nat) (z0 : Nat → Int) (W : World) (s0 : SlI .i64 W a0 len0 cap0 z0) :
    Calls Try.prog 6 #[.slice a0 len0 cap0] W fun e w' => e = .returned (.bool true) ∧ Below W.heap.size W w' := by
  obtain ⟨U, t, ht, hU, hS⟩ := U_eq
  have HU := Lib.hid hU; have HT := Lib.hid ht; have HS := Lib.hid hS
  clear hU ht hS
  have HC0 := Lib.hid s0.1.cells
  have hr0 := s0.1.reach
  have hl0 := s0.1.le
  clear s0
  have k1 : HasM ((W.alloc (.cells #[.int .i64 0, .float .f64 0, .float .f64 0] 38)).alloc (.cells #[.int .i64 0, .float .f64 0, .float .f64 0] 38)) W.heap.size 0 0 0 := (Blk.new W _ _).alloc _
  have k2 : HasM ((W.alloc (.cells #[.int .i64 0, .float .f64 0, .float .f64 0] 38)).alloc (.cells #[.int .i64 0, .float .f64 0, .float .f64 0] 38)) (W.heap.size + 1) 0 0 0 := by
    have := Blk.new (W.alloc (.cells #[.int .i64 0, .float .f64 0, .float .f64 0] 38)) #[.int .i64 0, .float .f64 0, .float .f64 0] 38
    rwa [World.size_alloc] at this
  have hF := ((Fr.refl [] W).alloc (.cells #[.int .i64 0, .float .f64 0, .float .f64 0] 38)).alloc (.cells #[.int .i64 0, .float .f64 0, .float .f64 0] 38)
  go_enter Try.func6, Try.ntmps6
  go_wp2_with fail
  obtain ⟨K, hK⟩ : ∃ K, K = W.heap.size := ⟨_, rfl⟩
  rw [← hK] at k1 k2 ⊢
  generalize (W.alloc (.cells #[.int .i64 0, .float .f64 0, .float .f64 0] 38)).alloc (.cells #[.int .i64 0, .float .f64 0, .float .f64 0] 38) = w1 at *
  have HK := Lib.hid hK; clear hK
  go_loopw [5] (fun i wr => ∃ k : Nat, k ≤ len0 ∧ k ≤ 40 ∧ i = .int .i64 k ∧ Two U wr K (K + 1) k ∧ Fr [] W wr) (fun i _ => 40 - (intOf i).toNat)
  case atStart =>
    refine ⟨0, by omega, by omega, rfl, ⟨0, 0, 0, 0, 0, 0, k1, k2, fl_zero, fl_zero, fl_zero, fl_zero, by omega, by omega, by omega, by omega, Gr.zero _, Gr.zero _⟩, hF⟩
  case round =>
    obtain ⟨k, hk, hk40, rfl, hTwo, hFr⟩ := hrel
    clear k1 k2 hF
    by_cases hlt : k < len0
    · obtain ⟨b, off, rfl, hlb, hc⟩ := HC0.out (by omega)
      have hcj := (hFr.cell (p := ⟨b, off + k, none⟩) hlb (by simp)).trans (hc k hlt)
      clear hc
      by_cases hlt2 : k < 40
      · have q0 : 0 ≤ (k : Int) := by omega
        have q1 : (k : Int) < (len0 : Int) := by omega
        have HTW := Lib.hid hTwo; clear hTwo
        go_wp2_with fail
        refine (pick_any _ _ _ (by decide) (by decide)).mono ?_; rintro e w' ⟨rfl, rfl⟩
        obtain ⟨p, hp⟩ : ∃ p : Nat, z0 k % 4000 = p := ⟨(z0 k % 4000).toNat, by omega⟩
        have hp4 : p < 4000 := by omega
        rw [hp]
        clear hp
        obtain ⟨x, e1, f1⟩ := sample HU.out HT.out HS.out (show p < 8000 by omega)
        have r2 : Rep (2 * ((p : Int) * U)) := by
          have := rep_U (m := 2 * p) HU.out HT.out (by omega)
          rwa [Int.natCast_mul, Int.mul_assoc] at this
        obtain ⟨x2, e2, f2⟩ := dbl_word f1 r2
        have n1 : ∀ w : World, (binOp .quo 23 (.float .f64 (Go.floatOfInt .f64 (p : Int))) (.float .f64 4620693217682128896)).run Try.prog w = .ok (.float .f64 x) w := run_fl .quo 23 e1
        have n2 : ∀ w : World, (binOp .mul 23 (.float .f64 4611686018427387904) (.float .f64 x)).run Try.prog w = .ok (.float .f64 x2) w := run_fl .mul 23 e2
        clear e1 e2
        obtain ⟨M, J, ma, ja, mb, jb, hA, hC, fa, ga, fb, gb, m0, m1, j0, j1, grM, grJ⟩ := HTW.out
        have X0 : 0 ≤ (p : Int) * U := Int.mul_nonneg (by omega) (by omega)
        have X1 : (p : Int) * U ≤ 4000 * U := Int.mul_le_mul_of_nonneg_right (by omega) (by omega)
        have hin : 2 * ((p : Int) * U) ≤ 1000000 * S := by rw [HS.out]; push_cast; omega
        have rh : Rep (4000 * (U : Int)) := rep_U (m := 4000) HU.out HT.out (by omega)
        have rh2 : Rep (2 * (4000 * (U : Int))) := by
          have := rep_U (m := 8000) HU.out HT.out (by omega)
          rwa [show ((8000 : Nat) : Int) * U = 2 * (4000 * (U : Int)) by omega] at this
        have grX : Gr (1071 - 3 * (k + 1) + 3) ((p : Int) * U) := (gr_U HU.out HT.out p).le (by omega)
        have grM' : Gr (1071 - 3 * (k + 1) + 3) M := grM.le (by omega)
        have grJ' : Gr (1071 - 3 * (k + 1) + 3) J := grJ.le (by omega)
        have hnx := next_gr (k := k) grX grM' grJ'
        have hbd := next_bd (k := k) rh X0 X1 m0 m1 j0 j1
        have hdb := next_dbl (k := k) grX grM' grJ' (by omega)
        have HIN := Lib.hid hin; have HX1 := Lib.hid X1; have HM1 := Lib.hid m1; have HJ1 := Lib.hid j1; have HX0 := Lib.hid X0; have HM0 := Lib.hid m0; have HJ0 := Lib.hid j0
        have HNX := Lib.hid hnx; have HBD := Lib.hid hbd; have HDB := Lib.hid hdb; have HRH := Lib.hid rh; have HRH2 := Lib.hid rh2
        clear hin X0 X1 m0 m1 j0 j1 hnx hbd hdb rh rh2 grX grM' grJ' grM grJ r2 HTW
        have HFA := Lib.hid fa; have HGA := Lib.hid ga; have HFB := Lib.hid fb; have HGB := Lib.hid gb; have HF1 := Lib.hid f1; have HF2 := Lib.hid f2
        clear fa ga fb gb f1 f2
        go_wp2_with fail
        refine (note_any hA HF1.out HFA.out HGA.out HRH.out HX0.out HX1.out HM0.out HM1.out HJ0.out HJ1.out (by omega) (by have := HIN.out; have := HX0.out; omega)).mono ?_
        rintro e w2 ⟨rfl, ⟨ma', ja', hA2, fa2, ga2⟩, hFa⟩
        have hC2 := hC.fr hFa (by simp)
        have hFr2 := hFr.trans hFa (by rw [HK.out]; simp)
        have HFA2 := Lib.hid fa2; have HGA2 := Lib.hid ga2
        clear fa2 ga2 hA hC hFr hFa hcj
        go_wp2_with fail
        refine (note_any hC2 HF2.out HFB.out HGB.out HRH2.out (by have := HX0.out; omega) (by have := HX1.out; omega) (by have := HM0.out; omega) (by have := HM1.out; omega) (by have := HJ0.out; omega) (by have := HJ1.out; omega) (by omega) HIN.out).mono ?_
        rintro e w3 ⟨rfl, ⟨mb', jb', hC3, fb3, gb3⟩, hFa⟩
        have hA3 := hA2.fr hFa (by simp)
        have hFr3 := hFr2.trans hFa (by rw [HK.out]; simp)
        rw [HDB.out.1] at fb3
        rw [HDB.out.2] at gb3
        have HFB3 := Lib.hid fb3; have HGB3 := Lib.hid gb3
        clear fb3 gb3 hA2 hC2 hFr2 hFa
        obtain ⟨y1, ey1, fy1⟩ := dbl_word HFA2.out (HFB3.out.rep)
        obtain ⟨y2, ey2, fy2⟩ := dbl_word HGA2.out (HGB3.out.rep)
        have n3 : ∀ w : World, (binOp .mul 23 (.float .f64 4611686018427387904) (.float .f64 ma')).run Try.prog w = .ok (.float .f64 y1) w := run_fl .mul 23 ey1
        have n4 : ∀ w : World, (binOp .mul 23 (.float .f64 4611686018427387904) (.float .f64 ja')).run Try.prog w = .ok (.float .f64 y2) w := run_fl .mul 23 ey2
        have o1 := order_same HFB3.out fy1
        have o2 := order_same HGB3.out fy2
        clear ey1 ey2 fy1 fy2
        by_cases hk0 : k = 0
        · have hb0 : ((k : Int) == 0) = true := by simp [hk0]
          have o3 : (FloatKind.f64.format.order ma' x != some .eq) = false := by
            have h := HFA2.out
            unfold nextM at h
            rw [if_pos hk0] at h
            exact order_same h HF1.out
          have HK0 := Lib.hid hk0; clear hk0
          go_wp2_with fail
          refine (mean_any hA3).mono ?_; rintro e w' ⟨rfl, rfl⟩
          go_wp2_with fail

          refine (mean_any hC3).mono ?_; rintro e w' ⟨rfl, rfl⟩
          go_wp2_with fail
          refine (mean_any hA3).mono ?_; rintro e w' ⟨rfl, rfl⟩
          go_wp2_with fail
          refine (jit_any hC3).mono ?_; rintro e w' ⟨rfl, rfl⟩
          go_wp2_with fail
          refine (jit_any hA3).mono ?_; rintro e w' ⟨rfl, rfl⟩
          go_wp2_with fail
          refine (count_any hA3).mono ?_; rintro e w' ⟨rfl, rfl⟩
          go_wp2_with fail
          go_roundw
          case rel =>
            refine ⟨k + 1, by omega, by omega, by go_num, ⟨_, _, ma', ja', mb', jb', hA3, hC3, HFA2.out, HGA2.out, HFB3.out, HGB3.out, HBD.out.1.1, HBD.out.1.2, HBD.out.2.1, HBD.out.2.2, HNX.out.1, HNX.out.2⟩, hFr3⟩
          case measure => simp [intOf]; omega
        · have hb0 : ((k : Int) == 0) = false := by simp; omega
          have HK0 := Lib.hid hk0; clear hk0
          go_wp2_with fail

          refine (mean_any hC3).mono ?_; rintro e w' ⟨rfl, rfl⟩
          go_wp2_with fail
          refine (mean_any hA3).mono ?_; rintro e w' ⟨rfl, rfl⟩
          go_wp2_with fail
          refine (jit_any hC3).mono ?_; rintro e w' ⟨rfl, rfl⟩
          go_wp2_with fail
          refine (jit_any hA3).mono ?_; rintro e w' ⟨rfl, rfl⟩
          go_wp2_with fail
          refine (count_any hA3).mono ?_; rintro e w' ⟨rfl, rfl⟩
          go_wp2_with fail
          go_roundw
          case rel =>
            refine ⟨k + 1, by omega, by omega, by go_num, ⟨_, _, ma', ja', mb', jb', hA3, hC3, HFA2.out, HGA2.out, HFB3.out, HGB3.out, HBD.out.1.1, HBD.out.1.2, HBD.out.2.1, HBD.out.2.2, HNX.out.1, HNX.out.2⟩, hFr3⟩
          case measure => simp [intOf]; omega
      · have hlt3 : ¬ (k : Int) < 40 := by omega
        clear hTwo hcj
        go_wp2_with fail
        refine (known_any _).mono ?_; rintro e w2 ⟨rfl, hFk⟩
        go_wp2_with fail
        go_ret
        exact ⟨rfl, (hFr.trans hFk (by simp)).below (Nat.le_refl _) (by simp)⟩
    · have hlt3 : ¬ (k : Int) < (len0 : Int) := by omega
      clear hTwo
      go_wp2_with fail
      refine (known_any _).mono ?_; rintro e w2 ⟨rfl, hFk⟩
      go_wp2_with fail
      go_ret
      exact ⟨rfl, (hFr.trans hFk (by simp)).below (Nat.le_refl _) (by simp)⟩
end Go.Proofs.Ytppobakdlpeicaa.Mt
