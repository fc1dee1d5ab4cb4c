import Derived.Test.YtiniaphleogkiaaVw6
namespace Go.Proofs.Ytiniaphleogkiaa.Vw
open Go.RowKit Dt Go.Proofs.Ytiniaphleogkiaa.Hd Go.Proofs.Ytiniaphleogkiaa.Ma Ieee
open Go.Proofs.Ytiniaphleogkiaa.Sk (leq_fl geq_fl gt_fl lt_fl eq_fl)
set_option linter.unusedVariables false
set_option linter.unusedSimpArgs false

theorem milli : ∃ V : Nat, S = 1024 * V ∧ 0 < V ∧ ∀ m : Int, -8000000 ≤ m → m ≤ 8000000 → Rep (m * V) := by
  obtain ⟨c, hc, hS⟩ := S_eq
  refine ⟨2 ^ (c - 10), ?_, Nat.two_pow_pos _, fun m h1 h2 => ?_⟩
  · have : (1024 : Nat) = 2 ^ 10 := rfl
    rw [hS, this, ← Nat.pow_add]; exact congrArg _ (by omega)
  · have hp : ∀ k : Nat, k ≤ 8000000 → Rep ((k : Int) * (2 ^ (c - 10) : Nat)) := fun k hk => by
      have := rep_pow (m := k) (k := c - 10) (by unfold B; omega) (by omega)
      rwa [Int.natCast_mul] at this
    rcases Int.le_total 0 m with h | h
    · have := hp m.toNat (by omega)
      rwa [Int.toNat_of_nonneg h] at this
    · have := (hp (-m).toNat (by omega)).neg
      rwa [Int.toNat_of_nonneg (by omega), Int.neg_mul, Int.neg_neg] at this
theorem fl_1024 : Fl 4652218415073722368 (1024 * S) := by
  have h := fint_exact (n := 1024) (by decide) (by decide)
  have e : Go.floatOfInt .f64 1024 = 4652218415073722368 := by kernel_rfl
  rwa [e] at h
theorem not_odd {x : Nat} {X : Int} (h : Fl x X) : oddB x = false := by
  have hmax : Fl 9218868437227405311 (mg (infR - 1) : Int) := ⟨by decide, by unfold fin; decide, rfl⟩
  have hb : X.natAbs ≤ mg (infR - 1) := by
    obtain ⟨r, a, b⟩ := h.rep
    rw [← b]; exact mg_le_iff.2 (by omega)
  unfold oddB infB
  rw [gt_fl h.abs hmax, decide_eq_false (by omega)]
  have o : FloatKind.f64.format.order x x = some (compare X X) := forder h h
  rw [o, Int.compare_eq_eq.2 rfl]; rfl
/-- what is between two whole numbers, at so many 1024ths -/
theorem btw_int {V : Nat} (hV : S = 1024 * V) (hV0 : 0 < V) (hr : ∀ m : Int, -8000000 ≤ m → m ≤ 8000000 → Rep (m * V)) {p q : Int} {k : Nat} (hp : -1000 ≤ p ∧ p ≤ 1000) (hq : -1000 ≤ q ∧ q ≤ 1000) (hk : k ≤ 1024) {t : Nat} (ft : Fl t ((k : Int) * V)) :
    ∃ z, Fl z ((1024 * p + (q - p) * k) * V) ∧ ∀ w, Calls Try.prog 31 #[.float .f64 (Go.floatOfInt .f64 p), .float .f64 (Go.floatOfInt .f64 q), .float .f64 t] w fun e w' => e = .returned (.float .f64 z) ∧ w = w' := by
  have hS : (S : Int) = 1024 * V := by rw [hV, Int.natCast_mul]; rfl
  have fp := fint_exact (n := p) (by omega) (by omega)
  have fq := fint_exact (n := q) (by omega) (by omega)
  have h1 : (FloatKind.f64.format.order t t != some .eq) = false := by
    have o : FloatKind.f64.format.order t t = some (compare ((k : Int) * V) ((k : Int) * V)) := forder ft ft
    rw [o, Int.compare_eq_eq.2 rfl]; rfl
  have h2 := leq_fl ft fl_zero
  have h3 := geq_fl ft fl_one'
  have hk0 : (k : Int) * V ≤ 0 ↔ k = 0 := by
    constructor
    · intro h
      rcases Nat.eq_zero_or_pos k with h' | h'
      · exact h'
      · have := Int.mul_pos (show (0 : Int) < k by omega) (show (0 : Int) < V by omega)
        omega
    · intro h; subst h; simp
  have hk1 : (S : Int) ≤ (k : Int) * V ↔ k = 1024 := by
    rw [hS]
    constructor
    · intro h
      have := Int.le_of_mul_le_mul_right h (show (0 : Int) < V by omega)
      omega
    · intro h; subst h; exact Int.le_refl _
  by_cases c0 : k = 0
  · rw [decide_eq_true (hk0.2 c0)] at h2
    refine ⟨_, ?_, btw_first (.inr ⟨h1, h2⟩)⟩
    have e : (1024 * p + (q - p) * (k : Int)) * V = p * S := by
      rw [c0, hS]; simp; rw [Int.mul_comm 1024 p, Int.mul_assoc]
    rw [e]; exact fp
  · rw [decide_eq_false (fun h => c0 (hk0.1 h))] at h2
    by_cases c1 : k = 1024
    · rw [decide_eq_true (hk1.2 c1)] at h3
      refine ⟨_, ?_, btw_last h1 h2 h3⟩
      have e : (1024 * p + (q - p) * (k : Int)) * V = q * S := by
        rw [c1, hS, Int.sub_mul]
        have : 1024 * p + (q * ((1024 : Nat) : Int) - p * ((1024 : Nat) : Int)) = q * 1024 := by omega
        rw [this, Int.mul_assoc]
      rw [e]; exact fq
    · rw [decide_eq_false (fun h => c1 (hk1.1 h))] at h3
      have hd : Rep (q * S - p * S) := by
        rw [← Int.sub_mul, hS, ← Int.mul_assoc]
        exact hr _ (by omega) (by omega)
      obtain ⟨m, e1, fm⟩ := fsub_exact fq fp hd
      rw [← Int.sub_mul] at fm
      have bk : -(2000 * 1024 : Int) ≤ (q - p) * k ∧ (q - p) * (k : Int) ≤ 2000 * 1024 := by
        constructor
        · have a : (-2000 : Int) * k ≤ (q - p) * k := Int.mul_le_mul_of_nonneg_right (by omega) (by omega)
          omega
        · have a : (q - p) * (k : Int) ≤ 2000 * k := Int.mul_le_mul_of_nonneg_right (by omega) (by omega)
          omega
      obtain ⟨r, e2, fr⟩ := fmul_exact (V := ((q - p) * k) * V) fm ft (by ac_rfl) (hr _ (by omega) (by omega))
      have es : p * S + (q - p) * (k : Int) * V = (1024 * p + (q - p) * (k : Int)) * V := by
        rw [hS, Int.add_mul, Int.mul_comm 1024 p, Int.mul_assoc p]
      obtain ⟨z, e3, fz⟩ := fadd_exact fp fr (by rw [es]; exact hr _ (by omega) (by omega))
      rw [es] at fz
      exact ⟨z, fz, btw_mid fp.lt fq.lt h1 h2 h3 (not_odd fp) (not_odd fq) e1 e2 e3⟩
theorem between_bd {p q : Int} {k : Nat} (hk : k ≤ 1024) : (p ≤ q → 1024 * p ≤ 1024 * p + (q - p) * k ∧ 1024 * p + (q - p) * (k : Int) ≤ 1024 * q) ∧ (q ≤ p → 1024 * q ≤ 1024 * p + (q - p) * k ∧ 1024 * p + (q - p) * (k : Int) ≤ 1024 * p) := by
  constructor
  · intro h
    have a : (0 : Int) ≤ (q - p) * k := Int.mul_nonneg (by omega) (by omega)
    have b : (q - p) * (k : Int) ≤ (q - p) * 1024 := Int.mul_le_mul_of_nonneg_left (by omega) (by omega)
    omega
  · intro h
    have a : (0 : Int) ≤ (p - q) * k := Int.mul_nonneg (by omega) (by omega)
    have b : (p - q) * (k : Int) ≤ (p - q) * 1024 := Int.mul_le_mul_of_nonneg_left (by omega) (by omega)
    have c : (q - p) * (k : Int) = -((p - q) * k) := by rw [← Int.neg_mul]; congr 1; omega
    omega
theorem between_mono {p q : Int} {k l : Nat} (h : k ≤ l) : (p ≤ q → 1024 * p + (q - p) * (k : Int) ≤ 1024 * p + (q - p) * (l : Int)) ∧ (q ≤ p → 1024 * p + (q - p) * (l : Int) ≤ 1024 * p + (q - p) * (k : Int)) := by
  constructor
  · intro h'
    have := Int.mul_le_mul_of_nonneg_left (show (k : Int) ≤ l by omega) (show 0 ≤ q - p by omega)
    omega
  · intro h'
    have := Int.mul_le_mul_of_nonneg_left (show (k : Int) ≤ l by omega) (show 0 ≤ p - q by omega)
    have c : ∀ j : Nat, (q - p) * (j : Int) = -((p - q) * j) := fun j => by rw [← Int.neg_mul]; congr 1; omega
    rw [c, c]; omega
set_option maxRecDepth 100000 in
set_option maxHeartbeats 3200000 in
theorem walk_vmoves (b0 b1 b2 b3 : Int) (W : World) (h0 : (Lit.int .i64 b0).wf = true) (h1 : (Lit.int .i64 b1).wf = true) (h2 : (Lit.int .i64 b2).wf = true) (h3 : (Lit.int .i64 b3).wf = true) :
    Calls Try.prog 8 #[.int .i64 b0, .int .i64 b1, .int .i64 b2, .int .i64 b3] W fun e w' => e = .returned (.bool true) ∧ Below W.heap.size W w' := by
  clear h0 h1 h2 h3
  obtain ⟨V, hV, hV0, hr⟩ := milli
  have hSV : (S : Int) = 1024 * V := by rw [hV, Int.natCast_mul]; rfl
  obtain ⟨p, hp⟩ : ∃ p : Int, b0 % 2000 - 1000 = p := ⟨_, rfl⟩
  obtain ⟨q, hq⟩ : ∃ q : Int, b1 % 2000 - 1000 = q := ⟨_, rfl⟩
  obtain ⟨k, hk⟩ : ∃ k : Nat, b2 % 1025 = k := ⟨(b2 % 1025).toNat, by omega⟩
  obtain ⟨l, hl⟩ : ∃ l : Nat, b3 % 1025 = l := ⟨(b3 % 1025).toNat, by omega⟩
  have pb : -1000 ≤ p ∧ p ≤ 1000 := by omega
  have qb : -1000 ≤ q ∧ q ≤ 1000 := by omega
  have kb : k ≤ 1024 := by omega
  have lb : l ≤ 1024 := by omega
  have h1024 : Fl 4652218415073722368 ((1024 * S : Nat) : Int) := by rw [Int.natCast_mul]; exact fl_1024
  have hdv : ∀ j : Nat, j ≤ 1024 → ∃ t, double.div (Go.floatOfInt .f64 (j : Int)) 4652218415073722368 = some t ∧ Fl t ((j : Int) * V) := fun j hj =>
    fdiv_exact (fint_exact (by omega) (by omega)) h1024 (by have := S_pos; omega) (by rw [hV]; push_cast; ac_rfl) (hr _ (by omega) (by omega))
  obtain ⟨u, eu, fu⟩ := hdv k kb
  obtain ⟨v, ev, fv⟩ := hdv l lb
  obtain ⟨x, fx, bx⟩ := btw_int hV hV0 hr pb qb kb fu
  obtain ⟨y, fy, by_⟩ := btw_int hV hV0 hr pb qb lb fv
  have fp := fint_exact (n := p) (by omega) (by omega)
  have fq := fint_exact (n := q) (by omega) (by omega)
  obtain ⟨mn, fmn, emn⟩ := minF (P := Try.prog) fp fq #[22, 22] 22
  obtain ⟨mx, fmx, emx⟩ := maxF (P := Try.prog) fp fq #[22, 22] 22
  have n1 : ∀ w : World, (binOp .quo 22 (.float .f64 (Go.floatOfInt .f64 (k : Int))) (.float .f64 4652218415073722368)).run Try.prog w = .ok (.float .f64 u) w := run_fl .quo _ eu
  have n2 : ∀ w : World, (binOp .quo 22 (.float .f64 (Go.floatOfInt .f64 (l : Int))) (.float .f64 4652218415073722368)).run Try.prog w = .ok (.float .f64 v) w := run_fl .quo _ ev
  have bd := between_bd (p := p) (q := q) kb
  have mo := between_mono (p := p) (q := q) (k := k) (l := l)
  have mo' := between_mono (p := p) (q := q) (k := l) (l := k)
  have hmul : ∀ {a b : Int}, a ≤ b → a * V ≤ b * V := fun h => Int.mul_le_mul_of_nonneg_right h (by omega)
  have hpS : p * S = (1024 * p) * V := by rw [hSV]; ac_rfl
  have hqS : q * S = (1024 * q) * V := by rw [hSV]; ac_rfl
  rw [hpS, hqS] at fmn fmx
  rw [hpS] at fp
  rw [hqS] at fq
  have hcm : (k : Int) * V ≤ (l : Int) * V ↔ k ≤ l := ⟨fun h => by have := Int.le_of_mul_le_mul_right h (show (0 : Int) < V by omega); omega, fun h => hmul (by omega)⟩
  have huv := gt_fl fu fv
  have o1 := lt_fl fx fmn
  have o2 := gt_fl fx fmx
  have o3 := leq_fl fp fq
  have o4 := geq_fl fp fq
  have o5 := leq_fl fx fy
  have o6 := geq_fl fx fy
  have o7 := leq_fl fy fx
  have o8 := geq_fl fy fx
  have hpq : (1024 * p * (V : Int) ≤ 1024 * q * V ↔ p ≤ q) := ⟨fun h => by have := Int.le_of_mul_le_mul_right h (show (0 : Int) < V by omega); omega, fun h => hmul (by omega)⟩
  have hqp : (1024 * q * (V : Int) ≤ 1024 * p * V ↔ q ≤ p) := ⟨fun h => by have := Int.le_of_mul_le_mul_right h (show (0 : Int) < V by omega); omega, fun h => hmul (by omega)⟩
  have g1 : ¬ (1024 * p + (q - p) * (k : Int)) * V < min (1024 * p * V) (1024 * q * V) := by
    rcases Int.le_total p q with h | h
    · have := hmul (bd.1 h).1; omega
    · have := hmul (bd.2 h).1; omega
  have g2 : ¬ max (1024 * p * V) (1024 * q * V) < (1024 * p + (q - p) * (k : Int)) * V := by
    rcases Int.le_total p q with h | h
    · have := hmul (bd.1 h).2; omega
    · have := hmul (bd.2 h).2; omega
  rw [decide_eq_false g1] at o1
  rw [decide_eq_false g2] at o2
  have HP := Lib.hid hp; have HQ := Lib.hid hq; have HK := Lib.hid hk; have HL := Lib.hid hl; have BX := Lib.hid bx; have BY := Lib.hid by_
  have hcs : (p ≤ q ∨ (¬ p ≤ q ∧ q ≤ p)) := by omega
  have hkl : (k ≤ l ∨ (¬ k ≤ l ∧ l ≤ k)) := by omega
  have t1 : p ≤ q → k ≤ l → (1024 * p + (q - p) * (k : Int)) * V ≤ (1024 * p + (q - p) * (l : Int)) * V := fun a b => hmul ((mo b).1 a)
  have t2 : q ≤ p → k ≤ l → (1024 * p + (q - p) * (l : Int)) * V ≤ (1024 * p + (q - p) * (k : Int)) * V := fun a b => hmul ((mo b).2 a)
  have t3 : p ≤ q → l ≤ k → (1024 * p + (q - p) * (l : Int)) * V ≤ (1024 * p + (q - p) * (k : Int)) * V := fun a b => hmul ((mo' b).1 a)
  have t4 : q ≤ p → l ≤ k → (1024 * p + (q - p) * (k : Int)) * V ≤ (1024 * p + (q - p) * (l : Int)) * V := fun a b => hmul ((mo' b).2 a)
  have c1 : ∀ b, k ≤ l → b = decide ((l : Int) * V < k * V) → b = false := fun b a e => by rw [e]; exact decide_eq_false (by have := hcm.2 a; omega)
  have c2 : ∀ b, ¬ k ≤ l → b = decide ((l : Int) * V < k * V) → b = true := fun b a e => by rw [e]; exact decide_eq_true (by have := fun h => a (hcm.1 h); omega)
  generalize (1024 * p + (q - p) * (k : Int)) * V = XV at *
  generalize (1024 * p + (q - p) * (l : Int)) * V = YV at *
  clear mo mo' bd hmul hpS hqS hcm fmn fmx fp fq g1 g2 hdv h1024 hr hp hq hk hl bx by_ fx fy fu fv eu ev
  go_enter Try.func8, Try.ntmps8
  go_wp2_with fail
  refine (vknown_any _).mono ?_; rintro e w1 ⟨rfl, hF⟩
  have HF := Lib.hid hF; clear hF
  go_wp2_with fail
  refine (pick_any _ _ _ (by decide) (by decide)).mono ?_; rintro e w' ⟨rfl, rfl⟩
  have m1 : -1000 ≤ b0 % 2000 - 1000 ∧ b0 % 2000 - 1000 ≤ 1000 := by omega
  go_wp2_with fail
  rw [HP.out]
  refine (pick_any _ _ _ (by decide) (by decide)).mono ?_; rintro e w' ⟨rfl, rfl⟩
  go_wp2_with fail
  rw [HQ.out]
  refine (pick_any _ _ _ (by decide) (by decide)).mono ?_; rintro e w' ⟨rfl, rfl⟩
  rw [HK.out]
  go_wp2_with fail
  refine (pick_any _ _ _ (by decide) (by decide)).mono ?_; rintro e w' ⟨rfl, rfl⟩
  rw [HL.out]
  go_wp2_with fail
  refine (BX.out _).mono ?_; rintro e w' ⟨rfl, rfl⟩
  go_wp2_with fail
  refine (BY.out _).mono ?_; rintro e w' ⟨rfl, rfl⟩
  rcases hcs with h | ⟨h, h'⟩ <;> rcases hkl with g | ⟨g, g'⟩
  · rw [decide_eq_true (hpq.2 h)] at o3
    rw [decide_eq_true (t1 h g)] at o5
    have huv' := c1 _ g huv
    clear t1 t2 t3 t4 c1 c2 huv
    go_wp2_with fail
    go_ret
    exact ⟨rfl, HF.out.below (Nat.le_refl _) (by simp)⟩
  · rw [decide_eq_true (hpq.2 h)] at o3
    rw [decide_eq_true (t3 h g')] at o7
    have huv' := c2 _ g huv
    clear t1 t2 t3 t4 c1 c2 huv
    go_wp2_with fail
    go_ret
    exact ⟨rfl, HF.out.below (Nat.le_refl _) (by simp)⟩
  · rw [decide_eq_false (fun a => by have := hpq.1 a; omega)] at o3
    rw [decide_eq_true (hqp.2 h')] at o4
    rw [decide_eq_true (t2 h' g)] at o6
    have huv' := c1 _ g huv
    clear t1 t2 t3 t4 c1 c2 huv
    go_wp2_with fail
    go_ret
    exact ⟨rfl, HF.out.below (Nat.le_refl _) (by simp)⟩
  · rw [decide_eq_false (fun a => by have := hpq.1 a; omega)] at o3
    rw [decide_eq_true (hqp.2 h')] at o4
    rw [decide_eq_true (t4 h' g')] at o8
    have huv' := c2 _ g huv
    clear t1 t2 t3 t4 c1 c2 huv
    go_wp2_with fail
    go_ret
    exact ⟨rfl, HF.out.below (Nat.le_refl _) (by simp)⟩
end Go.Proofs.Ytiniaphleogkiaa.Vw
