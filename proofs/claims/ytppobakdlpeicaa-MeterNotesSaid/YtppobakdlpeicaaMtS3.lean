import Derived.Test.YtppobakdlpeicaaMtS2
import Derived.Deep.CutBlock
namespace Go.Proofs.Ytppobakdlpeicaa.Mt
open Go.RowKit Dt Go.Proofs.Ytppobakdlpeicaa.Hd Ieee
set_option linter.unusedVariables false
set_option linter.unusedSimpArgs false

theorem order_same' {x y : Nat} {X : Int} (hx : Fl x X) (hy : Fl y X) : (FloatKind.f64.format.order x y == some .eq) = true := by
  have o1 : FloatKind.f64.format.order x y = some (compare X X) := forder hx hy
  rw [o1, Int.compare_eq_eq.2 rfl]; rfl
theorem dM_same (X : Int) : dM X X = 0 := by unfold dM; rw [Int.sub_self]; exact rnd_zero (by decide)
theorem next_same {k : Nat} {X : Int} (hr : Rep X) : nextM k X (if k = 0 then 0 else X) = X ∧ nextJ k X (if k = 0 then 0 else X) 0 = 0 := by
  unfold nextM nextJ
  by_cases h : k = 0
  · rw [if_pos h, if_pos h]; exact ⟨rfl, rfl⟩
  · rw [if_neg h, if_neg h, if_neg h]
    unfold stepM stepJ aJ
    rw [dM_same, rnd_zero (by decide)]
    refine ⟨by rw [Int.add_zero]; exact rnd1_exact hr, ?_⟩
    have : (((0 : Int).natAbs : Int) - 0) = 0 := rfl
    rw [this, rnd_zero (by decide), rnd_zero (by decide)]
    exact rnd_zero (by decide)
theorem sample16 {U t q : Nat} (hU : U = 2 ^ t) (ht : t = 1071) (hS : S = 8 * U) (hq : q < 4000) : ∃ (x : Nat) (X : Int), double.div (Go.floatOfInt .f64 (q : Int)) 4625196817309499392 = some x ∧ Fl x X ∧ 0 ≤ X ∧ X ≤ 1000000 * S := by
  obtain ⟨V, hV⟩ : ∃ V : Nat, V = 2 ^ (t - 1) := ⟨_, rfl⟩
  have hUV : U = 2 * V := by
    rw [hU, hV, Nat.mul_comm, ← Nat.pow_succ]; congr 1; omega
  have hSV : (S : Int) = 16 * V := by rw [hS, hUV]; omega
  have h16 : Fl 4625196817309499392 ((16 * S : Nat) : Int) := by rw [Int.natCast_mul]; exact fl_sixteen
  have hp1 := fint_exact (n := (q : Int)) (by omega) (by omega)
  have hr : Rep ((q : Int) * V) := by
    have := rep_pow (m := q) (k := t - 1) (by unfold B; omega) (by omega)
    rw [← hV, Int.natCast_mul] at this
    exact this
  obtain ⟨x, e1, f1⟩ := fdiv_exact (V := (q : Int) * V) hp1 h16 (by have := S_pos; omega) (by rw [Int.natCast_mul, hSV]; push_cast; ac_rfl) hr
  refine ⟨x, _, e1, f1, Int.mul_nonneg (by omega) (by omega), ?_⟩
  have : (q : Int) * V ≤ 4000 * V := Int.mul_le_mul_of_nonneg_right (by omega) (by omega)
  omega

theorem stay_split {U k p lo hi x l h : Nat} (hU0 : 0 < U) (fx : Fl x ((p : Int) * U)) (fl : Fl l ((lo : Int) * U)) (fh : Fl h ((hi : Int) * U)) (hlh : lo ≤ hi) :
    ∃ l' h' : Nat, Fl l' (((loS k p lo : Nat) : Int) * U) ∧ Fl h' (((hiS k p hi : Nat) : Int) * U) ∧
      (((k : Int) == 0) = true ∧ l' = x ∧ h' = x ∨ ((k : Int) == 0) = false ∧ (FloatKind.f64.format.order x l == some .lt) = true ∧ (FloatKind.f64.format.order x h == some .gt) = false ∧ l' = x ∧ h' = h ∨
        ((k : Int) == 0) = false ∧ (FloatKind.f64.format.order x l == some .lt) = false ∧ (FloatKind.f64.format.order x h == some .gt) = true ∧ l' = l ∧ h' = x ∨
        ((k : Int) == 0) = false ∧ (FloatKind.f64.format.order x l == some .lt) = false ∧ (FloatKind.f64.format.order x h == some .gt) = false ∧ l' = l ∧ h' = h) := by
  have hm : ∀ {a b : Nat}, a < b → (a : Int) * U < (b : Int) * U := fun h => Int.mul_lt_mul_of_pos_right (by omega) (by omega)
  have hn : ∀ {a b : Nat}, a ≤ b → (a : Int) * U ≤ (b : Int) * U := fun h => Int.mul_le_mul_of_nonneg_right (by omega) (by omega)
  unfold loS hiS
  by_cases h0 : k = 0
  · rw [if_pos (.inl h0), if_pos (.inl h0)]
    exact ⟨x, x, fx, fx, .inl ⟨by simp [h0], rfl, rfl⟩⟩
  · have hk : ((k : Int) == 0) = false := by simp; omega
    by_cases h1 : p < lo
    · rw [if_pos (.inr h1), if_neg (by omega)]
      exact ⟨x, h, fx, fh, .inr (.inl ⟨hk, is_lt fx fl (hm h1), not_gt fx fh (hn (by omega)), rfl, rfl⟩)⟩
    · rw [if_neg (by omega)]
      by_cases h2 : hi < p
      · rw [if_pos (.inr h2)]
        exact ⟨l, x, fl, fx, .inr (.inr (.inl ⟨hk, not_lt fx fl (hn (by omega)), is_gt fx fh (hm h2), rfl, rfl⟩))⟩
      · rw [if_neg (by omega)]
        exact ⟨l, h, fl, fh, .inr (.inr (.inr ⟨hk, not_lt fx fl (hn (by omega)), not_gt fx fh (hn (by omega)), rfl, rfl⟩))⟩

/-- the meter after k samples: between its least and its greatest -/
def Sty (U : Nat) (w : World) (A k : Nat) (lv hv : Nat) : Prop := ∃ (lo hi : Nat) (M J : Int) (m j : Nat), HasM w A k m j ∧ Fl m M ∧ Fl j J ∧ Fl lv ((lo : Int) * U) ∧ Fl hv ((hi : Int) * U) ∧ lo ≤ hi ∧ hi < 8000 ∧ (k = 0 → J = 0) ∧ (lo : Int) * U ≤ M ∧ M ≤ (hi : Int) * U ∧ 0 ≤ J ∧ J ≤ ((hi : Int) - lo) * U

set_option maxRecDepth 100000 in
set_option maxHeartbeats 3200000 in
theorem walk_stays (a0 : Option Addr) (len0 cap0 : Nat) (z0 : Nat → Int) (b0 b1 b2 : Int) (W : World) (s0 : SlI .i64 W a0 len0 cap0 z0) (x0 : (Lit.int .i64 b0).wf = true) (x1 : (Lit.int .i64 b1).wf = true) (x2 : (Lit.int .i64 b2).wf = true) :
    Calls Try.prog 7 #[.slice a0 len0 cap0, .int .i64 b0, .int .i64 b1, .int .i64 b2] W fun e w' => e = .returned (.bool true) ∧ Below W.heap.size W w' := by
  obtain ⟨U, t, ht, hU, hS⟩ := U_eq
  have HU := Lib.hid hU; have HT := Lib.hid ht; have HS := Lib.hid hS
  clear hU ht hS
  have HC0 := Lib.hid s0.1.cells
  have hr0 := s0.1.reach
  have hl0 := s0.1.le
  clear s0 x0 x1 x2
  have k1 : HasM ((W.alloc (.cells #[.int .i64 0, .float .f64 0, .float .f64 0] 38)).alloc (.cells #[.int .i64 0, .float .f64 0, .float .f64 0] 38)) W.heap.size 0 0 0 := (Blk.new W _ _).alloc _
  have k2 : HasM ((W.alloc (.cells #[.int .i64 0, .float .f64 0, .float .f64 0] 38)).alloc (.cells #[.int .i64 0, .float .f64 0, .float .f64 0] 38)) (W.heap.size + 1) 0 0 0 := by
    have := Blk.new (W.alloc (.cells #[.int .i64 0, .float .f64 0, .float .f64 0] 38)) #[.int .i64 0, .float .f64 0, .float .f64 0] 38
    rwa [World.size_alloc] at this
  have hF := ((Fr.refl [] W).alloc (.cells #[.int .i64 0, .float .f64 0, .float .f64 0] 38)).alloc (.cells #[.int .i64 0, .float .f64 0, .float .f64 0] 38)
  go_enter Try.func7, Try.ntmps7
  go_upto_block 0 with (fail)
  obtain ⟨K, hK⟩ : ∃ K, K = W.heap.size := ⟨_, rfl⟩
  rw [← hK] at k1 k2 ⊢
  generalize (W.alloc (.cells #[.int .i64 0, .float .f64 0, .float .f64 0] 38)).alloc (.cells #[.int .i64 0, .float .f64 0, .float .f64 0] 38) = w1 at *
  have HK := Lib.hid hK; clear hK
  have K2 := Lib.hid k2
  have HF0 := Lib.hid hF
  go_cut [11] from 19 (fun lv w1 => ∃ (k l h : Nat), k ≤ 50 ∧ lv = .float .f64 l ∧ Sty U w1 K k l h ∧ HasM w1 (K + 1) 0 0 0 ∧ Fr [] W w1)
  case first =>
    clear hF k2
    go_wp2_with fail
    go_loopw [11, 12, 13] (fun lv hv iv wr => ∃ (k l h : Nat), k ≤ len0 ∧ k ≤ 50 ∧ lv = .float .f64 l ∧ hv = .float .f64 h ∧ iv = .int .i64 k ∧ Sty U wr K k l h ∧ HasM wr (K + 1) 0 0 0 ∧ Fr [] W wr) (fun _ _ iv _ => 50 - (intOf iv).toNat)
    case atStart => exact ⟨0, 0, 0, by omega, by omega, rfl, rfl, rfl, ⟨0, 0, 0, 0, 0, 0, k1, fl_zero, fl_zero, by simpa using fl_zero, by simpa using fl_zero, by omega, by omega, fun _ => rfl, by simp, by simp, by omega, by simp⟩, K2.out, HF0.out⟩
    case round =>
      obtain ⟨k, l, h, hkl, hk, rfl, rfl, rfl, hSt, hM2, hFW⟩ := hrel
      clear k1
      by_cases hlt : k < len0
      · by_cases hlt2 : k < 50
        · obtain ⟨b, off, rfl, hlb, hc⟩ := HC0.out (by omega)
          have hcj := (hFW.cell (p := ⟨b, off + k, none⟩) hlb (by simp)).trans (hc k hlt)
          clear hc
          have q0 : 0 ≤ (k : Int) := by omega
          have q1 : (k : Int) < (len0 : Int) := by omega
          have q2 : (k : Int) < 50 := by omega
          have HST := Lib.hid hSt; clear hSt
          go_wp2_with fail
          refine (pick_any _ _ _ (by decide) (by decide)).mono ?_; rintro e w' ⟨rfl, rfl⟩
          obtain ⟨p, hp⟩ : ∃ p : Nat, z0 k % 8000 = p := ⟨(z0 k % 8000).toNat, by omega⟩
          have hp8 : p < 8000 := by omega
          rw [hp]
          clear hp
          obtain ⟨x, e1, f1⟩ := sample HU.out HT.out HS.out hp8
          have n1 : ∀ w : World, (binOp .quo 23 (.float .f64 (Go.floatOfInt .f64 (p : Int))) (.float .f64 4620693217682128896)).run Try.prog w = .ok (.float .f64 x) w := run_fl .quo 23 e1
          clear e1
          obtain ⟨lo, hi, M, J, m, j, hM, fm, fj, fl, fh, c1, c2, c3, c4, c5, c6, c7⟩ := HST.out
          obtain ⟨⟨s1, s2, s3⟩, s4, s5, s6, s7⟩ := stay_step (k := k) HU.out HT.out hp8 c1 c2 c3 c4 c5 c6 c7
          have hUS : (8000 : Int) * U ≤ 1000000 * S := by rw [HS.out]; push_cast; omega
          have hU0 : 0 < U := by rw [HU.out]; exact Nat.two_pow_pos _
          have b1 : (p : Int) * U ≤ 8000 * U := Int.mul_le_mul_of_nonneg_right (by omega) (by omega)
          have b2 : (hi : Int) * U ≤ 8000 * U := Int.mul_le_mul_of_nonneg_right (by omega) (by omega)
          have b3 : ((hi : Int) - lo) * U ≤ 8000 * U := Int.mul_le_mul_of_nonneg_right (by omega) (by omega)
          have b4 : (0 : Int) ≤ (p : Int) * U := Int.mul_nonneg (by omega) (by omega)
          have b5 : (0 : Int) ≤ (lo : Int) * U := Int.mul_nonneg (by omega) (by omega)
          have b6 : (((hiS k p hi : Nat) : Int)) * U ≤ 8000 * U := Int.mul_le_mul_of_nonneg_right (by omega) (by omega)
          have b7 : (0 : Int) ≤ (((loS k p lo : Nat) : Int)) * U := Int.mul_nonneg (by omega) (by omega)
          have b8 : (((loS k p lo : Nat) : Int)) * U ≤ 8000 * U := Int.mul_le_mul_of_nonneg_right (by omega) (by omega)
          have b9 : (0 : Int) ≤ (((hiS k p hi : Nat) : Int)) * U := Int.mul_nonneg (by omega) (by omega)
          have r8 : Rep ((8000 : Int) * U) := rep_U (m := 8000) HU.out HT.out (by omega)
          obtain ⟨l', h', fl', fh', hcs⟩ := stay_split (k := k) hU0 f1 fl fh c1
          have hn := note_any (w := wr) (k := k) hM f1 fm fj r8 b4 b1 (by omega) (by omega) c6 (by omega) (by omega) (by omega)
          obtain ⟨y1, Y1, e1, g1, d1⟩ := below_eps fl' b7 (by omega)
          obtain ⟨y2, Y2, e2, g2, d2⟩ := above_eps fh' b9 (by omega)
          have r9 : Rep (((hiS k p hi : Nat) : Int) * U - ((loS k p lo : Nat) : Int) * U) := by
            rw [← Int.sub_mul]
            have := rep_U (m := hiS k p hi - loS k p lo) HU.out HT.out (by omega)
            rwa [show (((hiS k p hi - loS k p lo : Nat) : Nat) : Int) = (hiS k p hi : Int) - (loS k p lo : Nat) by omega] at this
          obtain ⟨y3, e3, g3⟩ := fsub_exact fh' fl' r9
          have b10 : (((loS k p lo : Nat) : Int)) * U ≤ (((hiS k p hi : Nat) : Int)) * U := Int.mul_le_mul_of_nonneg_right (by omega) (by omega)
          obtain ⟨y4, Y4, e4, g4, d4⟩ := above_eps g3 (by omega) (by omega)
          have n2 : ∀ w : World, (binOp .sub 23 (.float .f64 l') (.float .f64 4562254508917369340)).run Try.prog w = .ok (.float .f64 y1) w := run_fl .sub 23 e1
          have n3 : ∀ w : World, (binOp .add 23 (.float .f64 h') (.float .f64 4562254508917369340)).run Try.prog w = .ok (.float .f64 y2) w := run_fl .add 23 e2
          have n4 : ∀ w : World, (binOp .sub 23 (.float .f64 h') (.float .f64 l')).run Try.prog w = .ok (.float .f64 y3) w := run_fl .sub 23 e3
          have n5 : ∀ w : World, (binOp .add 23 (.float .f64 y3) (.float .f64 4562254508917369340)).run Try.prog w = .ok (.float .f64 y4) w := run_fl .add 23 e4
          have ho : ∀ m' j', Fl m' (nextM k ((p : Int) * U) M) → Fl j' (nextJ k ((p : Int) * U) M J) → (FloatKind.f64.format.order m' y1 == some .lt) = false ∧ (FloatKind.f64.format.order m' y2 == some .gt) = false ∧ (FloatKind.f64.format.order j' 0 == some .lt) = false ∧ (FloatKind.f64.format.order j' y4 == some .gt) = false :=
            fun m' j' a b => ⟨not_lt a g1 (by omega), not_gt a g2 (by omega), not_lt b fl_zero (by omega), not_gt b g4 (by rw [Int.sub_mul] at s7; omega)⟩
          have hSt2 : ∀ w2 m' j', HasM w2 K ((k : Int) + 1) m' j' → Fl m' (nextM k ((p : Int) * U) M) → Fl j' (nextJ k ((p : Int) * U) M J) → Sty U w2 K (k + 1) l' h' :=
            fun w2 m' j' a b c => ⟨_, _, _, _, m', j', a, b, c, fl', fh', by omega, s3, fun h => by omega, s4, s5, s6, s7⟩
          have HN := Lib.hid hn; have HO := Lib.hid ho; have HS2 := Lib.hid hSt2; have HM2 := Lib.hid hM2; have HFW := Lib.hid hFW
          clear hn ho hSt2 hM2 hFW r9 r8 b1 b2 b3 b4 b5 b6 b7 b8 b9 b10 e1 e2 e3 e4 g1 g2 g3 g4 d1 d2 d4 s1 s2 s3 s4 s5 s6 s7 c1 c2 c3 c4 c5 c6 c7 hU0 hUS fl' fh' fl fh fm fj hM f1 HST
          rcases hcs with ⟨h0, rfl, rfl⟩ | ⟨h0, a1, a2, rfl, rfl⟩ | ⟨h0, a1, a2, rfl, rfl⟩ | ⟨h0, a1, a2, rfl, rfl⟩
          all_goals
            go_wp2_with fail
            refine HN.out.mono ?_
            rintro e w2 ⟨rfl, ⟨m', j', hM', fm', fj'⟩, hFa⟩
            obtain ⟨o1, o2, o3, o4⟩ := HO.out m' j' fm' fj'
            have hM22 := Lib.hid (HM2.out.fr hFa (by simp))
            have hFr2 := Lib.hid (HFW.out.trans hFa (by rw [HK.out]; simp))
            have HMP := Lib.hid hM'
            have HST2 := Lib.hid (HS2.out w2 m' j' hM' fm' fj')
            clear hM' fm' fj' hFa HN HO HS2 HM2 HFW hcj
            go_wp2_with fail
            refine (mean_any HMP.out).mono ?_; rintro e w' ⟨rfl, rfl⟩
            go_wp2_with fail
            refine (mean_any HMP.out).mono ?_; rintro e w' ⟨rfl, rfl⟩
            go_wp2_with fail
            refine (jit_any HMP.out).mono ?_; rintro e w' ⟨rfl, rfl⟩
            go_wp2_with fail
            refine (jit_any HMP.out).mono ?_; rintro e w' ⟨rfl, rfl⟩
            go_wp2_with fail
            refine (count_any HMP.out).mono ?_; rintro e w' ⟨rfl, rfl⟩
            go_wp2_with fail
            go_roundw
            case rel => exact ⟨k + 1, _, _, by omega, by omega, rfl, rfl, by go_num, HST2.out, hM22.out, hFr2.out⟩
            case measure => simp [intOf]; omega
        · go_wp2_with fail
          go_meet
          case rel => exact ⟨k, l, h, hk, rfl, hSt, hM2, hFW⟩
      · go_wp2_with fail
        go_meet
        case rel => exact ⟨k, l, h, hk, rfl, hSt, hM2, hFW⟩
  case rest =>
    obtain ⟨k, l, h, hk, rfl, hSt, hM2, hFW⟩ := hcut
    obtain ⟨lo, hi, M, J, m, j, hM, fm, fj, fl, fh, c1, c2, c3, c4, c5, c6, c7⟩ := hSt
    have hUS : (8000 : Int) * U ≤ 1000000 * S := by rw [HS.out]; push_cast; omega
    have m0 : 0 ≤ M := by have : (0 : Int) ≤ (lo : Int) * U := Int.mul_nonneg (by omega) (by omega); omega
    have m1 : M ≤ 1000000 * S := by have : (hi : Int) * U ≤ 8000 * U := Int.mul_le_mul_of_nonneg_right (by omega) (by omega); omega
    have j1 : J ≤ 1000000 * S := by have : ((hi : Int) - lo) * U ≤ 8000 * U := Int.mul_le_mul_of_nonneg_right (by omega) (by omega); omega
    obtain ⟨pp, hpp⟩ : ∃ pp : Nat, b2 % 7 = pp := ⟨(b2 % 7).toNat, by omega⟩
    have hp7 : pp < 7 := by omega
    have HP := Lib.hid hpp; have HM0 := Lib.hid m0; have HM1 := Lib.hid m1; have HJ0 := Lib.hid c6; have HJ1 := Lib.hid j1; have HMM := Lib.hid hM; have HM2 := Lib.hid hM2; have HFM := Lib.hid fm; have HFJ := Lib.hid fj; have HFW := Lib.hid hFW
    clear hpp m0 m1 c6 j1 hM hM2 fm fj fl fh c1 c2 c3 c4 c5 c7 hFW hF k1 k2 hUS
    go_wp2_with fail
    refine (pick_any _ _ _ (by decide) (by decide)).mono ?_; rintro e w' ⟨rfl, rfl⟩
    rw [HP.out]
    go_wp2_with fail
    refine (lead_any (p := 1 + (pp : Int)) (pp := pp + 1) HMM.out HFM.out HFJ.out HM0.out HM1.out HJ0.out HJ1.out (by split <;> omega) (by omega)).mono ?_; rintro e w2 ⟨rfl, n2, rfl⟩
    have HMM2 := Lib.hid (HMM.out.fr ((Fr.refl [] wc).drewN n2) (by simp))
    have HM22 := Lib.hid (HM2.out.fr ((Fr.refl [] wc).drewN n2) (by simp))
    have HFW2 := Lib.hid (HFW.out.drewN n2)
    obtain ⟨A1, hA1⟩ : ∃ A1, leadK M J (pp + 1) = A1 := ⟨_, rfl⟩
    rw [hA1]
    go_wp2_with fail
    refine (lead_any (p := 1 + (pp : Int) + 1) (pp := pp + 1 + 1) HMM2.out HFM.out HFJ.out HM0.out HM1.out HJ0.out HJ1.out (by split <;> omega) (by omega)).mono ?_; rintro e w2 ⟨rfl, n3, rfl⟩
    have HM23 := Lib.hid (HM22.out.fr ((Fr.refl [] (wc.drewN n2)).drewN n3) (by simp))
    have HFW3 := Lib.hid (HFW2.out.drewN n3)
    have hbd := lead_bd (p := pp + 1) (by omega) HM0.out HM1.out HJ0.out HJ1.out
    have hmo := lead_mono (p := pp + 1) (by omega) HM0.out HM1.out HJ0.out HJ1.out
    obtain ⟨A2, hA2⟩ : ∃ A2, leadK M J (pp + 1 + 1) = A2 := ⟨_, rfl⟩
    rw [hA2]
    rw [hA1] at hbd hmo
    rw [hA2] at hmo
    have g1 : decide (A1 < 1) = false := by simp; omega
    have g2 : decide (16 < A1) = false := by simp; omega
    have g3 : decide (A1 < A2) = false := by simp; omega
    clear hA1 hA2 hbd hmo HMM HMM2 HM2 HM22 HFW HFW2 HM0 HM1 HJ0 HJ1 HFM HFJ
    generalize (wc.drewN n2).drewN n3 = w3 at *
    go_wp2_with fail
    refine (known_any _).mono ?_; rintro e w4 ⟨rfl, hF4⟩
    have HM24 := Lib.hid (HM23.out.fr hF4 (by simp))
    have HFW4 := Lib.hid (HFW3.out.trans hF4 (by simp))
    clear HM23 HFW3 hF4
    go_wp2_with fail
    refine (pick_any _ _ _ (by decide) (by decide)).mono ?_; rintro e w' ⟨rfl, rfl⟩
    obtain ⟨q, hq⟩ : ∃ q : Nat, b0 % 4000 = q := ⟨(b0 % 4000).toNat, by omega⟩
    have hq4 : q < 4000 := by omega
    rw [hq]
    clear hq
    obtain ⟨x, X, e1, f1, X0, X1⟩ := sample16 HU.out HT.out HS.out hq4
    have n1 : ∀ w : World, (binOp .quo 23 (.float .f64 (Go.floatOfInt .f64 (q : Int))) (.float .f64 4625196817309499392)).run Try.prog w = .ok (.float .f64 x) w := run_fl .quo 23 e1
    obtain ⟨tt, htt⟩ : ∃ tt : Nat, b1 % 20 = tt := ⟨(b1 % 20).toNat, by omega⟩
    have htt20 : tt < 20 := by omega
    have HTT := Lib.hid htt; have HX0 := Lib.hid X0; have HX1 := Lib.hid X1; have HFX := Lib.hid f1
    clear e1 htt X0 X1 f1
    go_wp2_with fail
    go_loopw [18] (fun i wr => ∃ k : Nat, i = .int .i64 k ∧ k ≤ tt + 1 ∧ (∃ m j, HasM wr (K + 1) k m j ∧ Fl m (if k = 0 then 0 else X) ∧ Fl j 0) ∧ Fr [] W wr) (fun i _ => 21 - (intOf i).toNat)
    case atStart => exact ⟨0, rfl, by omega, ⟨0, 0, HM24.out, fl_zero, fl_zero⟩, HFW4.out⟩
    case round =>
      obtain ⟨k, rfl, hk, ⟨m, j, hMk, fm, fj⟩, hFk⟩ := hrel
      have HMk := Lib.hid hMk; have Hfm := Lib.hid fm; have Hfj := Lib.hid fj; have HFk := Lib.hid hFk
      clear hMk fm fj hFk HM24 HFW4
      by_cases hle : k ≤ tt
      · have q1 : (k : Int) ≤ (tt : Int) := by omega
        go_wp2_with fail
        refine (pick_any _ _ _ (by decide) (by decide)).mono ?_; rintro e w' ⟨rfl, rfl⟩
        rw [HTT.out]
        go_wp2_with fail
        refine (note_any (H := X) HMk.out HFX.out Hfm.out Hfj.out HFX.out.rep HX0.out (Int.le_refl _) (by have := HX0.out; split <;> omega) (by have := HX0.out; split <;> omega) (by omega) HX0.out (by omega) HX1.out).mono ?_
        rintro e w2 ⟨rfl, ⟨m', j', hM', fm', fj'⟩, hFa⟩
        rw [(next_same HFX.out.rep).1] at fm'
        rw [(next_same HFX.out.rep).2] at fj'
        have hFk2 := HFk.out.trans hFa (by rw [HK.out]; simp)
        go_wp2_with fail
        go_roundw
        case rel => exact ⟨k + 1, by go_num, by omega, ⟨m', j', hM', by simpa using fm', fj'⟩, hFk2⟩
        case measure => simp [intOf]; omega
      · have q1 : ¬ (k : Int) ≤ (tt : Int) := by omega
        have hm := Hfm.out
        rw [if_neg (by omega)] at hm
        have o1 := order_same' hm HFX.out
        have o2 := order_same' Hfj.out fl_zero
        clear hm
        go_wp2_with fail
        refine (pick_any _ _ _ (by decide) (by decide)).mono ?_; rintro e w' ⟨rfl, rfl⟩
        rw [HTT.out]
        go_wp2_with fail
        refine (mean_any HMk.out).mono ?_; rintro e w' ⟨rfl, rfl⟩
        go_wp2_with fail
        refine (jit_any HMk.out).mono ?_; rintro e w' ⟨rfl, rfl⟩
        go_wp2_with fail
        go_ret
        refine ⟨?_, HFk.out.below (Nat.le_refl _) (by simp)⟩
        rfl
end Go.Proofs.Ytppobakdlpeicaa.Mt
