import Derived.Test.YtppobakdlpeicaaMtN2
import Derived.Deep.RegionHeld3
namespace Go.Proofs.Ytppobakdlpeicaa.Mt
open Go.RowKit Dt Go.Proofs.Ytppobakdlpeicaa.Hd Ieee
set_option linter.unusedVariables false
set_option linter.unusedSimpArgs false
attribute [local go_sem] run_negf run_store_float

theorem in_fl {x : Nat} (hx : x < 18446744073709551616) (h : inB x = true) : ∃ X : Int, Fl x X ∧ 0 ≤ X ∧ X ≤ 1000000 * S := by
  have f6 : Fl 4696837146684686336 (1000000 * S) := by
    have h := fint_exact (n := 1000000) (by decide) (by decide)
    have e : Go.floatOfInt .f64 1000000 = 4696837146684686336 := by kernel_rfl
    rwa [e] at h
  obtain ⟨h1, h2⟩ := in_parts h
  unfold geB at h1
  unfold leB at h2
  by_cases hn : num x
  · have o1 : FloatKind.f64.format.order x 0 = some (compare (sv x) (sv 0)) := order_num hn (Nat.le_of_lt fl_zero.fin)
    have o2 : FloatKind.f64.format.order x 4696837146684686336 = some (compare (sv x) (sv 4696837146684686336)) := order_num hn (Nat.le_of_lt f6.fin)
    rw [fl_zero.sv] at o1
    rw [f6.sv] at o2
    rw [o1] at h1
    rw [o2] at h2
    have b0 : 0 ≤ sv x := by
      rcases Int.lt_trichotomy (sv x) 0 with h | h | h
      · rw [Int.compare_eq_lt.2 h] at h1; exact absurd h1 (by decide)
      · omega
      · omega
    have b1 : sv x ≤ 1000000 * S := by
      rcases Int.lt_trichotomy (sv x) (1000000 * S) with h | h | h
      · omega
      · omega
      · rw [Int.compare_eq_gt.2 h] at h2; exact absurd h2 (by decide)
    refine ⟨sv x, ⟨hx, ?_, rfl⟩, b0, b1⟩
    unfold num at hn
    rcases Nat.lt_or_eq_of_le hn with h | h
    · exact h
    · exfalso
      have := sv_inf h
      have hl := f6.rep.lt
      rw [this] at b0 b1
      cases hg : ng x
      · rw [hg] at b1; simp at b1; omega
      · rw [hg] at b0; simp at b0
        have := mg_pos (r := infR) (by decide)
        omega
  · unfold num at hn
    have o1 : FloatKind.f64.format.order x 0 = none := order_nan_l (by omega) 0
    rw [o1] at h1
    exact absurd h1 (by decide)
/-- what is the same of both meters: the words -/
def Same (w : World) (A C k : Nat) : Prop := ∃ (n : Nat) (M J : Int) (m j : Nat), n ≤ k ∧ HasM w A n m j ∧ HasR w C n m j ∧ Fl m M ∧ Fl j J ∧ 0 ≤ M ∧ M ≤ 1000000 * S ∧ 0 ≤ J ∧ J ≤ 1000000 * S
/-- a sample for both -/
theorem both {n m j x : Nat} {M J : Int} (hx : x < 18446744073709551616) (hm : Fl m M) (hj : Fl j J) (m0 : 0 ≤ M) (m1 : M ≤ 1000000 * S) (j0 : 0 ≤ J) (j1 : J ≤ 1000000 * S) (hn : n ≤ 1000000) :
    ∃ (g : Bool) (n' m' j' : Nat) (M' J' : Int), n' ≤ n + 1 ∧ Fl m' M' ∧ Fl j' J' ∧ (0 ≤ M' ∧ M' ≤ 1000000 * S) ∧ (0 ≤ J' ∧ J' ≤ 1000000 * S) ∧
      (∀ w A, HasM w A n m j → Calls Try.prog 19 #[.pointer (some ⟨A, 0, none⟩), .float .f64 x] w fun e w' => e = .returned (.bool g) ∧ HasM w' A n' m' j' ∧ Fr [A] w w') ∧
      (∀ w A, HasR w A n m j → Calls Try.prog 27 #[.pointer (some ⟨A, 0, none⟩), .float .f64 x] w fun e w' => e = .returned (.bool g) ∧ HasR w' A n' m' j' ∧ Fr [A] w w') := by
  cases hin : inB x with
  | false =>
    refine ⟨false, n, m, j, M, J, by omega, hm, hj, ⟨m0, m1⟩, ⟨j0, j1⟩, fun w A hM => ?_, fun w A hM => ?_⟩
    · refine (note_no hin).mono ?_; rintro e w' ⟨rfl, rfl⟩
      exact ⟨rfl, hM, Fr.refl _ _⟩
    · refine (rnote_no hin).mono ?_; rintro e w' ⟨rfl, rfl⟩
      exact ⟨rfl, hM, Fr.refl _ _⟩
  | true =>
    obtain ⟨X, fx, X0, X1⟩ := in_fl hx hin
    obtain ⟨y, e0, hy⟩ := norm_fl fx X0
    have fr : Fl (rg x) X := by
      have := fx.abs
      rwa [show ((X.natAbs : Nat) : Int) = X by omega] at this
    rcases Nat.eq_zero_or_pos n with h0 | h0
    · subst h0
      refine ⟨true, 1, rg x, j, X, J, by omega, fr, hj, ⟨X0, X1⟩, ⟨j0, j1⟩, fun w A hM => ?_, fun w A hM => ?_⟩
      · exact note_first hM hx hin
      · exact rnote_first hM hin e0 hy
    · have rh : Rep (1000000 * (S : Int)) := rep_S (m := 1000000) (by omega)
      obtain ⟨d, a, c, j', c', m', hd, e1, e2, e3, e4, e5, e6, fm, fj⟩ := note_fl fx hm hj rh X0 X1 m0 m1 j0 j1
      have hb := next_bd (k := 1) rh X0 X1 m0 m1 j0 j1
      unfold nextM nextJ at hb
      rw [if_neg (by decide), if_neg (by decide)] at hb
      obtain ⟨d', e', fd⟩ := fsub fr hm (rnd_is _ (by decide)) (rnd_rep_le (E := X - M) (D := 1) (by decide) rh (by omega) (by omega)).lt
      rw [e1] at e'
      cases e'
      have hz : rnd (X - M) 1 = 0 → d = 0 := fun h => by
        have hXM : X = M := by
          rcases Int.lt_trichotomy (X - M) 0 with h' | h' | h'
          · exfalso
            have := rnd_ge (D := 1) (E := -(X - M)) (v := 1) (by decide) (by have := rep_pow (m := 1) (k := 0) (by decide) (by decide); simpa using this) (by omega)
            rw [rnd_neg (by decide)] at this
            omega
          · omega
          · exfalso
            have := rnd_ge (D := 1) (E := X - M) (v := 1) (by decide) (by have := rep_pow (m := 1) (k := 0) (by decide) (by decide); simpa using this) (by omega)
            omega
        refine sub_zero fr (by rw [hXM]; exact hm) ?_ e1
        unfold ng rg
        have h2 : x % 9223372036854775808 / 9223372036854775808 = 0 := Nat.div_eq_of_lt (Nat.mod_lt _ (by decide))
        rw [h2]; rfl
      have hfar := far_fl fd hz
      refine ⟨true, n + 1, m', j', _, _, by omega, fm, fj, hb.1, hb.2, fun w A hM => ?_, fun w A hM => ?_⟩
      · exact note_next hM hx hin h0 hn hd e1 e2 e3 e4 e5 e6
      · exact rnote_next hM hin h0 hn e0 hy hfar e1 e2 e3 e4 e5 e6
theorem fl_3 : (4613937818241073152 : Nat) < 18446744073709551616 := by decide
set_option maxRecDepth 100000 in
set_option maxHeartbeats 20000000 in
theorem walk_notes (a0 : Option Addr) (len0 cap0 : Nat) (z0 : Nat → Int) (a1 : Option Addr) (len1 cap1 : Nat) (z1 : Nat → Nat) (b0 : Int) (W : World) (s0 : SlI .i64 W a0 len0 cap0 z0) (s1 : SlF W a1 len1 cap1 z1) (x0 : (Lit.int .i64 b0).wf = true) :
    Calls Try.prog 9 #[.slice a0 len0 cap0, .slice a1 len1 cap1, .int .i64 b0] W fun e w' => e = .returned (.bool true) ∧ Below W.heap.size W w' := by
  have HC0 := Lib.hid s0.1.cells
  have HC1 := Lib.hid s1.1.cells
  have hr0 := s0.1.reach
  have hl0 := s0.1.le
  have hr1 := s1.1.reach
  have hl1 := s1.1.le
  have hwf := s1.2
  have HWF := Lib.hid hwf
  clear s0 s1 x0 hwf
  obtain ⟨pp, hpp⟩ : ∃ pp : Nat, max 1 (min b0 8) = (pp : Int) := ⟨(max 1 (min b0 8)).toNat, by omega⟩
  have HPP := Lib.hid hpp
  clear hpp
  have k1 : HasM ((W.alloc (.cells #[.int .i64 0, .float .f64 0, .float .f64 0] 38)).alloc (.cells #[.int .i64 0, .float .f64 0, .float .f64 0] 49)) W.heap.size 0 0 0 := (Blk.new W _ _).alloc _
  have k2 : HasR ((W.alloc (.cells #[.int .i64 0, .float .f64 0, .float .f64 0] 38)).alloc (.cells #[.int .i64 0, .float .f64 0, .float .f64 0] 49)) (W.heap.size + 1) 0 0 0 := by
    have := Blk.new (W.alloc (.cells #[.int .i64 0, .float .f64 0, .float .f64 0] 38)) #[.int .i64 0, .float .f64 0, .float .f64 0] 49
    rwa [World.size_alloc] at this
  have hF := ((Fr.refl [] W).alloc (.cells #[.int .i64 0, .float .f64 0, .float .f64 0] 38)).alloc (.cells #[.int .i64 0, .float .f64 0, .float .f64 0] 49)
  go_enter Try.func9, Try.ntmps9
  go_wp2_with fail
  obtain ⟨K, hK⟩ : ∃ K, K = W.heap.size := ⟨_, rfl⟩
  rw [← hK] at k1 k2 ⊢
  generalize (W.alloc (.cells #[.int .i64 0, .float .f64 0, .float .f64 0] 38)).alloc (.cells #[.int .i64 0, .float .f64 0, .float .f64 0] 49) = w1 at *
  have HK := Lib.hid hK; clear hK
  go_loopw [9] (fun i wr => ∃ k : Nat, k ≤ len0 ∧ k ≤ 40 ∧ i = .int .i64 k ∧ Same wr K (K + 1) k ∧ Fr [] W wr) (fun i _ => 40 - (intOf i).toNat)
  case atStart => exact ⟨0, by omega, by omega, rfl, ⟨0, 0, 0, 0, 0, by omega, k1, k2, fl_zero, fl_zero, by omega, by omega, by omega, by omega⟩, hF⟩
  case round =>
    obtain ⟨k, hk, hk40, rfl, hS, hFW⟩ := hrel
    clear k1 k2 hF
    by_cases hlt : k < len0
    · by_cases hlt2 : k < 40
      · obtain ⟨bb, off, rfl, hlb, hc⟩ := HC0.out (by omega)
        have hcj := (hFW.cell (p := ⟨bb, off + k, none⟩) hlb (by simp)).trans (hc k hlt)
        clear hc
        have q0 : 0 ≤ (k : Int) := by omega
        have q1 : (k : Int) < (len0 : Int) := by omega
        have q2 : (k : Int) < 40 := by omega
        have HS := Lib.hid hS; have HFW := Lib.hid hFW
        clear hS hFW
        by_cases hraw : k < len1
        case' pos =>
          obtain ⟨b2, off2, rfl, hlb2, hc2⟩ := HC1.out (by omega)
          have hcj2 := (HFW.out.cell (p := ⟨b2, off2 + k, none⟩) hlb2 (by simp)).trans (hc2 k hraw)
          have hx : z1 k < 18446744073709551616 := by have := HWF.out k hraw; simpa [Lit.wf] using this
          clear hc2
          have q3 : (k : Int) < (len1 : Int) := by omega
          go_wp2_with fail
          refine (Ma.float_any _ _ hx _).mono ?_; rintro e w' ⟨y, hy, rfl, rfl⟩
        case' neg =>
          have q3 : ¬ (k : Int) < (len1 : Int) := by omega
          go_wp2_with fail
          refine (Ma.float_any _ _ fl_3 _).mono ?_; rintro e w' ⟨y, hy, rfl, rfl⟩
        all_goals
          by_cases hm3 : (z0 k).tmod 3 = 0
        all_goals
          first
            | (have hb3 : ((z0 k).tmod 3 == 0) = true := by simp [hm3]
               obtain ⟨v, hv⟩ : ∃ v : Nat, wrap64 ((z0 k).tdiv 3) % 400 = v := ⟨(wrap64 ((z0 k).tdiv 3) % 400).toNat, by omega⟩
               have hv4 : v < 400 := by omega
               obtain ⟨xx, hxx, ed⟩ := Ma.div_num (y := 4616189618054758400) (v : Int) (by omega) (by omega) fl_four (by have := S_pos; omega)
               have nd : ∀ w : World, (binOp .quo 23 (.float .f64 (Go.floatOfInt .f64 (v : Int))) (.float .f64 4616189618054758400)).run Try.prog w = .ok (.float .f64 xx) w := run_fl .quo _ ed
               have HV := Lib.hid hv
               clear hv ed hm3
               go_wp2_with fail
               refine (pick_any _ _ _ (by decide) (by decide)).mono ?_; rintro e w' ⟨rfl, rfl⟩
               rw [HV.out]
               go_wp2_with fail)
            | (have hb3 : ((z0 k).tmod 3 == 0) = false := by simp [hm3]
               obtain ⟨xx, hxy⟩ : ∃ xx, xx = y := ⟨_, rfl⟩
               have hxx : xx < 18446744073709551616 := by rw [hxy]; exact hy
               subst hxy
               clear hm3
               go_wp2_with fail)
        all_goals
          obtain ⟨n, M, J, m, j, hnk, hM, hR, fm, fj, m0, m1, j0, j1⟩ := HS.out
          obtain ⟨g, n', m', j', M', J', hn', fm', fj', hM', hJ', hA, hB⟩ := both (n := n) hxx fm fj m0 m1 j0 j1 (by omega)
          have hM0 := Lib.hid hM; have hR0 := Lib.hid hR; have HA := Lib.hid hA; have HB := Lib.hid hB
          have hlead := fun w (h : HasM w K n' m' j') => lead_all (p := b0) h fm' fj' hM'.1 hM'.2 hJ'.1 hJ'.2 HPP.out
          have hrlead := fun w (h : HasR w (K + 1) n' m' j') => rlead_any (p := b0) h fm' fj' hM'.1 hM'.2 hJ'.1 hJ'.2 HPP.out
          have HL := Lib.hid hlead; have HRL := Lib.hid hrlead; have HFM := Lib.hid fm'; have HFJ := Lib.hid fj'; have HMB := Lib.hid hM'; have HJB := Lib.hid hJ'
          generalize leadK M' J' pp = LL at *
          clear hM hR fm fj m0 m1 j0 j1 hA hB hlead hrlead fm' fj' hM' hJ' HS
          have bm := run_bits m'
          have bj := run_bits j'
        all_goals
          refine wp_region_any (by kernel_rfl) ?_
          try (change wpAny _ _ _ _ _ _ _ (World.drew _))
          have hMd := Lib.hid (hM0.out.fr ((Fr.refl [] wr).drew) (by simp)); have hRd := Lib.hid (hR0.out.fr ((Fr.refl [] wr).drew) (by simp)); have HFd := Lib.hid HFW.out.drew
          clear hM0 hR0 HFW
          generalize wr.drew = w9 at *
          refine wpAny_take (i := 0) (v := ?_) rfl (by kernel_rfl) (by kernel_rfl) (by kernel_rfl) (fun _ _ _ h => h) (Or.inl ⟨by kernel_rfl, ?_⟩) ?_; rotate_left; (intro w; go_simp; try with_reducible rfl)
          refine wpAny_take (i := 2) (v := ?_) rfl (by kernel_rfl) (by kernel_rfl) (by kernel_rfl) (fun _ _ _ h => h) (Or.inl ⟨by kernel_rfl, ?_⟩) ?_; rotate_left; (intro w; go_simp; try with_reducible rfl)
          refine wpAny_take (i := 3) (v := ?_) rfl (by kernel_rfl) (by kernel_rfl) (by kernel_rfl) (fun _ _ _ h => h) (Or.inl ⟨by kernel_rfl, ?_⟩) ?_; rotate_left; (intro w; go_simp; try with_reducible rfl)
          refine wpAny_ready (rs := [1]) (by kernel_rfl) (by simp) ?_
          refine AllReady.cons rfl (fun K hK => ?_) AllReady.nil
          go_simp
          refine (HA.out _ _ hMd.out).mono ?_; rintro e w10 ⟨rfl, hM1, fr1⟩
          have hMe := Lib.hid hM1; have hRe := Lib.hid (hRd.out.fr fr1 (by simp)); have HFe := Lib.hid (HFd.out.trans fr1 (by rw [HK.out]; simp))
          clear hM1 fr1 hMd hRd HFd
          dsimp only; refine hK _ _ ?_; clear hK K
          refine wpAny_ready (rs := [4]) (by kernel_rfl) (by simp) ?_
          refine AllReady.cons rfl (fun K hK => ?_) AllReady.nil
          go_simp
          refine (HB.out _ _ hRe.out).mono ?_; rintro e w11 ⟨rfl, hR1, fr2⟩
          have hMf := Lib.hid (hMe.out.fr fr2 (by simp)); have hRf := Lib.hid hR1; have HFf := Lib.hid (HFe.out.trans fr2 (by rw [HK.out]; simp))
          clear hR1 fr2 hMe hRe HFe
          dsimp only; refine hK _ _ ?_; clear hK K
          have l0 := Blk.cell (i := 0) hRf.out rfl; have l1 := Blk.cell (i := 1) hRf.out rfl; have l2 := Blk.cell (i := 2) hRf.out rfl
          simp only [List.getElem_toArray, List.getElem_cons_zero, List.getElem_cons_succ] at l0 l1 l2
          refine wpAny_of_held (S := fun w' => w'.cell? ⟨K + 1, 0, none⟩ = some (.int .i64 n') ∧ w'.cell? ⟨K + 1, 1, none⟩ = some (.float .f64 m') ∧ w'.cell? ⟨K + 1, 2, none⟩ = some (.float .f64 j')) _ _ _ _ ?_
          try simp only [List.getElem_toArray, List.getElem_cons_succ, List.getElem_cons_zero, Act.put, List.setIfInBounds_toArray, List.set_cons_zero, List.set_cons_succ]
          have hS := And.intro l0 (And.intro l1 l2)
          clear l0 l1 l2
          refine wpAnyH_take (i := 5) (v := .bool false) rfl (by kernel_rfl) (by kernel_rfl) (by kernel_rfl) (fun _ _ _ h => h) (Or.inl ⟨by kernel_rfl, fun w _ => by go_simp⟩) hS ?_
          try simp only [List.getElem_toArray, List.getElem_cons_succ, List.getElem_cons_zero, Act.put, List.setIfInBounds_toArray, List.set_cons_zero, List.set_cons_succ]
          refine wpAnyH_take (i := 6) (v := .bool false) rfl (by kernel_rfl) (by kernel_rfl) (by kernel_rfl) (fun _ _ _ h => h) (Or.inl ⟨by kernel_rfl, fun w _ => by go_simp⟩) hS ?_
          try simp only [List.getElem_toArray, List.getElem_cons_succ, List.getElem_cons_zero, Act.put, List.setIfInBounds_toArray, List.set_cons_zero, List.set_cons_succ]
          refine wpAnyH_take (i := 8) (v := ?_) rfl (by kernel_rfl) (by kernel_rfl) (by kernel_rfl) (fun _ _ _ h => h) (Or.inl ⟨by kernel_rfl, ?_⟩) hS ?_; rotate_left; (intro w hSw; obtain ⟨hSw0, hSw1, hSw2⟩ := hSw; go_simp; try with_reducible rfl)
          try simp only [List.getElem_toArray, List.getElem_cons_succ, List.getElem_cons_zero, Act.put, List.setIfInBounds_toArray, List.set_cons_zero, List.set_cons_succ]
          refine wpAnyH_take (i := 9) (v := ?_) rfl (by kernel_rfl) (by kernel_rfl) (by kernel_rfl) (fun _ _ _ h => h) (Or.inl ⟨by kernel_rfl, ?_⟩) hS ?_; rotate_left; (intro w hSw; obtain ⟨hSw0, hSw1, hSw2⟩ := hSw; go_simp; try with_reducible rfl)
          try simp only [List.getElem_toArray, List.getElem_cons_succ, List.getElem_cons_zero, Act.put, List.setIfInBounds_toArray, List.set_cons_zero, List.set_cons_succ]
          refine wpAnyH_take (i := 10) (v := ?_) rfl (by kernel_rfl) (by kernel_rfl) (by kernel_rfl) (fun _ _ _ h => h) (Or.inl ⟨by kernel_rfl, ?_⟩) hS ?_; rotate_left; (intro w hSw; obtain ⟨hSw0, hSw1, hSw2⟩ := hSw; go_simp; try with_reducible rfl)
          try simp only [List.getElem_toArray, List.getElem_cons_succ, List.getElem_cons_zero, Act.put, List.setIfInBounds_toArray, List.set_cons_zero, List.set_cons_succ]
          refine wpAnyH_take (i := 11) (v := ?_) rfl (by kernel_rfl) (by kernel_rfl) (by kernel_rfl) (fun _ _ _ h => h) (Or.inl ⟨by kernel_rfl, ?_⟩) hS ?_; rotate_left; (intro w hSw; obtain ⟨hSw0, hSw1, hSw2⟩ := hSw; go_simp; try with_reducible rfl)
          try simp only [List.getElem_toArray, List.getElem_cons_succ, List.getElem_cons_zero, Act.put, List.setIfInBounds_toArray, List.set_cons_zero, List.set_cons_succ]
          refine wpAnyH_ready (rs := [7]) (by kernel_rfl) (by simp) ?_
          refine AllReadyH.cons rfl (fun K hK => ?_) AllReadyH.nil
          go_simp
          refine (count_any hMf.out).mono ?_; rintro e w' ⟨rfl, rfl⟩
          (try dsimp only); refine hK.out _ _ hS (fun _ => ?_); clear hK K
          try simp only [List.getElem_toArray, List.getElem_cons_succ, List.getElem_cons_zero, Act.put, List.setIfInBounds_toArray, List.set_cons_zero, List.set_cons_succ]
          refine wpAnyH_take (i := 12) (v := .bool false) rfl (by kernel_rfl) (by kernel_rfl) (by kernel_rfl) (fun _ _ _ h => h) (Or.inl ⟨by kernel_rfl, fun w _ => by go_simp⟩) hS ?_
          try simp only [List.getElem_toArray, List.getElem_cons_succ, List.getElem_cons_zero, Act.put, List.setIfInBounds_toArray, List.set_cons_zero, List.set_cons_succ]
          refine wpAnyH_take (i := 13) (v := .bool false) rfl (by kernel_rfl) (by kernel_rfl) (by kernel_rfl) (fun _ _ _ h => h) (Or.inl ⟨by kernel_rfl, fun w _ => by go_simp⟩) hS ?_
          try simp only [List.getElem_toArray, List.getElem_cons_succ, List.getElem_cons_zero, Act.put, List.setIfInBounds_toArray, List.set_cons_zero, List.set_cons_succ]
          refine wpAnyH_take (i := 14) (v := .bool false) rfl (by kernel_rfl) (by kernel_rfl) (by kernel_rfl) (fun _ _ _ h => h) (Or.inl ⟨by kernel_rfl, fun w _ => by go_simp⟩) hS ?_
          try simp only [List.getElem_toArray, List.getElem_cons_succ, List.getElem_cons_zero, Act.put, List.setIfInBounds_toArray, List.set_cons_zero, List.set_cons_succ]
          refine wpAnyH_take (i := 17) (v := ?_) rfl (by kernel_rfl) (by kernel_rfl) (by kernel_rfl) (fun _ _ _ h => h) (Or.inl ⟨by kernel_rfl, ?_⟩) hS ?_; rotate_left; (intro w hSw; obtain ⟨hSw0, hSw1, hSw2⟩ := hSw; go_simp; try with_reducible rfl)
          try simp only [List.getElem_toArray, List.getElem_cons_succ, List.getElem_cons_zero, Act.put, List.setIfInBounds_toArray, List.set_cons_zero, List.set_cons_succ]
          refine wpAnyH_take (i := 18) (v := ?_) rfl (by kernel_rfl) (by kernel_rfl) (by kernel_rfl) (fun _ _ _ h => h) (Or.inl ⟨by kernel_rfl, ?_⟩) hS ?_; rotate_left; (intro w hSw; obtain ⟨hSw0, hSw1, hSw2⟩ := hSw; go_simp; try with_reducible rfl)
          try simp only [List.getElem_toArray, List.getElem_cons_succ, List.getElem_cons_zero, Act.put, List.setIfInBounds_toArray, List.set_cons_zero, List.set_cons_succ]
          refine wpAnyH_take (i := 19) (v := ?_) rfl (by kernel_rfl) (by kernel_rfl) (by kernel_rfl) (fun _ _ _ h => h) (Or.inl ⟨by kernel_rfl, ?_⟩) hS ?_; rotate_left; (intro w hSw; obtain ⟨hSw0, hSw1, hSw2⟩ := hSw; go_simp; try with_reducible rfl)
          try simp only [List.getElem_toArray, List.getElem_cons_succ, List.getElem_cons_zero, Act.put, List.setIfInBounds_toArray, List.set_cons_zero, List.set_cons_succ]
          refine wpAnyH_take (i := 20) (v := ?_) rfl (by kernel_rfl) (by kernel_rfl) (by kernel_rfl) (fun _ _ _ h => h) (Or.inl ⟨by kernel_rfl, ?_⟩) hS ?_; rotate_left; (intro w hSw; obtain ⟨hSw0, hSw1, hSw2⟩ := hSw; go_simp; try with_reducible rfl)
          try simp only [List.getElem_toArray, List.getElem_cons_succ, List.getElem_cons_zero, Act.put, List.setIfInBounds_toArray, List.set_cons_zero, List.set_cons_succ]
          refine wpAnyH_ready (rs := [15]) (by kernel_rfl) (by simp) ?_
          refine AllReadyH.cons rfl (fun K hK => ?_) AllReadyH.nil
          go_simp
          refine (mean_any hMf.out).mono ?_; rintro e w' ⟨rfl, rfl⟩
          (try dsimp only); refine hK.out _ _ hS (fun _ => ?_); clear hK K
          try simp only [List.getElem_toArray, List.getElem_cons_succ, List.getElem_cons_zero, Act.put, List.setIfInBounds_toArray, List.set_cons_zero, List.set_cons_succ]
          refine wpAnyH_take (i := 16) (v := ?_) rfl (by kernel_rfl) (by kernel_rfl) (by kernel_rfl) (fun _ _ _ h => h) (Or.inl ⟨by kernel_rfl, ?_⟩) hS ?_; rotate_left; (intro w hSw; obtain ⟨hSw0, hSw1, hSw2⟩ := hSw; go_simp; try with_reducible rfl)
          try simp only [List.getElem_toArray, List.getElem_cons_succ, List.getElem_cons_zero, Act.put, List.setIfInBounds_toArray, List.set_cons_zero, List.set_cons_succ]
          refine wpAnyH_take (i := 21) (v := ?_) rfl (by kernel_rfl) (by kernel_rfl) (by kernel_rfl) (fun _ _ _ h => h) (Or.inl ⟨by kernel_rfl, ?_⟩) hS ?_; rotate_left; (intro w hSw; obtain ⟨hSw0, hSw1, hSw2⟩ := hSw; go_simp; try with_reducible rfl)
          try simp only [List.getElem_toArray, List.getElem_cons_succ, List.getElem_cons_zero, Act.put, List.setIfInBounds_toArray, List.set_cons_zero, List.set_cons_succ]
          refine wpAnyH_take (i := 22) (v := .bool false) rfl (by kernel_rfl) (by kernel_rfl) (by kernel_rfl) (fun _ _ _ h => h) (Or.inl ⟨by kernel_rfl, fun w _ => by go_simp⟩) hS ?_
          try simp only [List.getElem_toArray, List.getElem_cons_succ, List.getElem_cons_zero, Act.put, List.setIfInBounds_toArray, List.set_cons_zero, List.set_cons_succ]
          refine wpAnyH_take (i := 23) (v := .bool false) rfl (by kernel_rfl) (by kernel_rfl) (by kernel_rfl) (fun _ _ _ h => h) (Or.inl ⟨by kernel_rfl, fun w _ => by go_simp⟩) hS ?_
          try simp only [List.getElem_toArray, List.getElem_cons_succ, List.getElem_cons_zero, Act.put, List.setIfInBounds_toArray, List.set_cons_zero, List.set_cons_succ]
          refine wpAnyH_take (i := 24) (v := .bool false) rfl (by kernel_rfl) (by kernel_rfl) (by kernel_rfl) (fun _ _ _ h => h) (Or.inl ⟨by kernel_rfl, fun w _ => by go_simp⟩) hS ?_
          try simp only [List.getElem_toArray, List.getElem_cons_succ, List.getElem_cons_zero, Act.put, List.setIfInBounds_toArray, List.set_cons_zero, List.set_cons_succ]
          refine wpAnyH_take (i := 27) (v := ?_) rfl (by kernel_rfl) (by kernel_rfl) (by kernel_rfl) (fun _ _ _ h => h) (Or.inl ⟨by kernel_rfl, ?_⟩) hS ?_; rotate_left; (intro w hSw; obtain ⟨hSw0, hSw1, hSw2⟩ := hSw; go_simp; try with_reducible rfl)
          try simp only [List.getElem_toArray, List.getElem_cons_succ, List.getElem_cons_zero, Act.put, List.setIfInBounds_toArray, List.set_cons_zero, List.set_cons_succ]
          refine wpAnyH_take (i := 28) (v := ?_) rfl (by kernel_rfl) (by kernel_rfl) (by kernel_rfl) (fun _ _ _ h => h) (Or.inl ⟨by kernel_rfl, ?_⟩) hS ?_; rotate_left; (intro w hSw; obtain ⟨hSw0, hSw1, hSw2⟩ := hSw; go_simp; try with_reducible rfl)
          try simp only [List.getElem_toArray, List.getElem_cons_succ, List.getElem_cons_zero, Act.put, List.setIfInBounds_toArray, List.set_cons_zero, List.set_cons_succ]
          refine wpAnyH_take (i := 29) (v := ?_) rfl (by kernel_rfl) (by kernel_rfl) (by kernel_rfl) (fun _ _ _ h => h) (Or.inl ⟨by kernel_rfl, ?_⟩) hS ?_; rotate_left; (intro w hSw; obtain ⟨hSw0, hSw1, hSw2⟩ := hSw; go_simp; try with_reducible rfl)
          try simp only [List.getElem_toArray, List.getElem_cons_succ, List.getElem_cons_zero, Act.put, List.setIfInBounds_toArray, List.set_cons_zero, List.set_cons_succ]
          refine wpAnyH_take (i := 30) (v := ?_) rfl (by kernel_rfl) (by kernel_rfl) (by kernel_rfl) (fun _ _ _ h => h) (Or.inl ⟨by kernel_rfl, ?_⟩) hS ?_; rotate_left; (intro w hSw; obtain ⟨hSw0, hSw1, hSw2⟩ := hSw; go_simp; try with_reducible rfl)
          try simp only [List.getElem_toArray, List.getElem_cons_succ, List.getElem_cons_zero, Act.put, List.setIfInBounds_toArray, List.set_cons_zero, List.set_cons_succ]
          refine wpAnyH_ready (rs := [25]) (by kernel_rfl) (by simp) ?_
          refine AllReadyH.cons rfl (fun K hK => ?_) AllReadyH.nil
          go_simp
          refine (jit_any hMf.out).mono ?_; rintro e w' ⟨rfl, rfl⟩
          (try dsimp only); refine hK.out _ _ hS (fun _ => ?_); clear hK K
          try simp only [List.getElem_toArray, List.getElem_cons_succ, List.getElem_cons_zero, Act.put, List.setIfInBounds_toArray, List.set_cons_zero, List.set_cons_succ]
          refine wpAnyH_take (i := 26) (v := ?_) rfl (by kernel_rfl) (by kernel_rfl) (by kernel_rfl) (fun _ _ _ h => h) (Or.inl ⟨by kernel_rfl, ?_⟩) hS ?_; rotate_left; (intro w hSw; obtain ⟨hSw0, hSw1, hSw2⟩ := hSw; go_simp; try with_reducible rfl)
          try simp only [List.getElem_toArray, List.getElem_cons_succ, List.getElem_cons_zero, Act.put, List.setIfInBounds_toArray, List.set_cons_zero, List.set_cons_succ]
          refine wpAnyH_take (i := 31) (v := ?_) rfl (by kernel_rfl) (by kernel_rfl) (by kernel_rfl) (fun _ _ _ h => h) (Or.inl ⟨by kernel_rfl, ?_⟩) hS ?_; rotate_left; (intro w hSw; obtain ⟨hSw0, hSw1, hSw2⟩ := hSw; go_simp; try with_reducible rfl)
          try simp only [List.getElem_toArray, List.getElem_cons_succ, List.getElem_cons_zero, Act.put, List.setIfInBounds_toArray, List.set_cons_zero, List.set_cons_succ]
          refine wpAnyH_take (i := 32) (v := .bool false) rfl (by kernel_rfl) (by kernel_rfl) (by kernel_rfl) (fun _ _ _ h => h) (Or.inl ⟨by kernel_rfl, fun w _ => by go_simp⟩) hS ?_
          try simp only [List.getElem_toArray, List.getElem_cons_succ, List.getElem_cons_zero, Act.put, List.setIfInBounds_toArray, List.set_cons_zero, List.set_cons_succ]
          refine wpAnyH_take (i := 33) (v := .bool false) rfl (by kernel_rfl) (by kernel_rfl) (by kernel_rfl) (fun _ _ _ h => h) (Or.inl ⟨by kernel_rfl, fun w _ => by go_simp⟩) hS ?_
          try simp only [List.getElem_toArray, List.getElem_cons_succ, List.getElem_cons_zero, Act.put, List.setIfInBounds_toArray, List.set_cons_zero, List.set_cons_succ]
          refine wpAnyH_take (i := 34) (v := .bool false) rfl (by kernel_rfl) (by kernel_rfl) (by kernel_rfl) (fun _ _ _ h => h) (Or.inl ⟨by kernel_rfl, fun w _ => by go_simp⟩) hS ?_
          try simp only [List.getElem_toArray, List.getElem_cons_succ, List.getElem_cons_zero, Act.put, List.setIfInBounds_toArray, List.set_cons_zero, List.set_cons_succ]
          refine wpAnyH_take (i := 35) (v := ?_) rfl (by kernel_rfl) (by kernel_rfl) (by kernel_rfl) (fun _ _ _ h => h) (Or.inl ⟨by kernel_rfl, ?_⟩) hS ?_; rotate_left; (intro w hSw; obtain ⟨hSw0, hSw1, hSw2⟩ := hSw; go_simp; try with_reducible rfl)
          try simp only [List.getElem_toArray, List.getElem_cons_succ, List.getElem_cons_zero, Act.put, List.setIfInBounds_toArray, List.set_cons_zero, List.set_cons_succ]
          refine wpAnyH_take (i := 37) (v := ?_) rfl (by kernel_rfl) (by kernel_rfl) (by kernel_rfl) (fun _ _ _ h => h) (Or.inl ⟨by kernel_rfl, ?_⟩) hS ?_; rotate_left; (intro w hSw; obtain ⟨hSw0, hSw1, hSw2⟩ := hSw; go_simp; try with_reducible rfl)
          try simp only [List.getElem_toArray, List.getElem_cons_succ, List.getElem_cons_zero, Act.put, List.setIfInBounds_toArray, List.set_cons_zero, List.set_cons_succ]
          refine wpAnyH_take (i := 38) (v := ?_) rfl (by kernel_rfl) (by kernel_rfl) (by kernel_rfl) (fun _ _ _ h => h) (Or.inl ⟨by kernel_rfl, ?_⟩) hS ?_; rotate_left; (intro w hSw; obtain ⟨hSw0, hSw1, hSw2⟩ := hSw; go_simp; try with_reducible rfl)
          try simp only [List.getElem_toArray, List.getElem_cons_succ, List.getElem_cons_zero, Act.put, List.setIfInBounds_toArray, List.set_cons_zero, List.set_cons_succ]
          refine wpAnyH_ready (rs := [36]) (by kernel_rfl) (by simp) ?_
          refine AllReadyH.cons rfl (fun K hK => ?_) AllReadyH.nil
          go_simp
          refine (HL.out _ hMf.out).mono ?_; rintro e w12 ⟨rfl, k3, rfl⟩
          (try dsimp only); refine hK.out _ _ hS (fun _ => ?_); clear hK K
          try simp only [List.getElem_toArray, List.getElem_cons_succ, List.getElem_cons_zero, Act.put, List.setIfInBounds_toArray, List.set_cons_zero, List.set_cons_succ]
          refine wpAnyH_ready (rs := [39]) (by kernel_rfl) (by simp) ?_
          refine AllReadyH.cons rfl (fun K hK => ?_) AllReadyH.nil
          go_simp
          refine (HRL.out _ (hRf.out.dr k3)).mono ?_; rintro e w' ⟨rfl, rfl⟩
          (try dsimp only); refine hK.out _ _ hS (fun _ => ?_); clear hK K
          try simp only [List.getElem_toArray, List.getElem_cons_succ, List.getElem_cons_zero, Act.put, List.setIfInBounds_toArray, List.set_cons_zero, List.set_cons_succ]
          refine wpAnyH_take (i := 40) (v := .bool false) rfl (by kernel_rfl) (by kernel_rfl) (by kernel_rfl) (fun _ _ _ h => h) (Or.inl ⟨by kernel_rfl, fun w _ => by go_simp⟩) hS ?_
          try simp only [List.getElem_toArray, List.getElem_cons_succ, List.getElem_cons_zero, Act.put, List.setIfInBounds_toArray, List.set_cons_zero, List.set_cons_succ]
          refine wpAnyH_take (i := 41) (v := .bool false) rfl (by kernel_rfl) (by kernel_rfl) (by kernel_rfl) (fun _ _ _ h => h) (Or.inl ⟨by kernel_rfl, fun w _ => by go_simp⟩) hS ?_
          try simp only [List.getElem_toArray, List.getElem_cons_succ, List.getElem_cons_zero, Act.put, List.setIfInBounds_toArray, List.set_cons_zero, List.set_cons_succ]
          refine wpAnyH_done (by kernel_rfl) ?_ _
          have hMz := Lib.hid (hMf.out.dr k3); have hRz := Lib.hid (hRf.out.dr k3); have HFz := Lib.hid (HFf.out.drewN k3)
          clear hS hMf hRf HFf
          generalize w11.drewN k3 = w13 at *
          go_wp2_with fail
          go_roundw
          case rel => exact ⟨k + 1, by omega, by omega, by go_num, ⟨n', M', J', m', j', by omega, hMz.out, hRz.out, HFM.out, HFJ.out, HMB.out.1, HMB.out.2, HJB.out.1, HJB.out.2⟩, HFz.out⟩
          case measure => simp [intOf]; omega
      · have q2 : ¬ (k : Int) < 40 := by omega
        have q1 : (k : Int) < len0 := by omega
        have q0 : 0 ≤ (k : Int) := by omega
        clear hS
        go_wp2_with fail
        refine (known_any _).mono ?_; rintro e w2 ⟨rfl, hFk⟩
        go_wp2_with fail
        go_ret
        exact ⟨rfl, (hFW.trans hFk (by simp)).below (Nat.le_refl _) (by simp)⟩
    · have q1 : ¬ (k : Int) < len0 := by omega
      clear hS
      go_wp2_with fail
      refine (known_any _).mono ?_; rintro e w2 ⟨rfl, hFk⟩
      go_wp2_with fail
      go_ret
      exact ⟨rfl, (hFW.trans hFk (by simp)).below (Nat.le_refl _) (by simp)⟩
end Go.Proofs.Ytppobakdlpeicaa.Mt
