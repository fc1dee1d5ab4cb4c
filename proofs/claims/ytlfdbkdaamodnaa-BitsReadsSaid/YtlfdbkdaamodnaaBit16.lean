import Derived.Test.YtlfdbkdaamodnaaBit12
import Derived.Deep.Cut
namespace Go.Proofs.Ytlfdbkdaamodnaa.Bt
open Go.RowKit Dt Go.Proofs.Ytlfdbkdaamodnaa.Hd
set_option linter.unusedVariables false
set_option linter.unusedSimpArgs false

/-- the reference's reader at block A -/
structure HasRR (w : World) (B A : Nat) (bv : Value) (bs : List Nat) (p : Nat) (s : Bool) : Prop where
  blk : Blk w A #[bv, .int .i64 p, .bool s] 69
  own : w.ownsRow B 5 1 bv bs.length (u8s bs)
  lt : ∀ x ∈ bs, x < 256
  small : bs.length ≤ 1099511627776
  fit : p ≤ 8 * bs.length
theorem HasRR.drewN {w : World} {B A : Nat} {bv : Value} {bs : List Nat} {p : Nat} {s : Bool} (h : HasRR w B A bv bs p s) (n : Nat) : HasRR (w.drewN n) B A bv bs p s :=
  ⟨h.blk.drewN n, own_keep h.own ((Fr.refl [] w).drewN n) (by simp), h.lt, h.small, h.fit⟩
theorem own_blk69 {w : World} {B A : Nat} {bv : Value} {bs : List Nat} {p : Nat} {s : Bool} (h : HasRR w B A bv bs p s) : ∀ g, bv.ownBlock = some g → g ≠ A := by
  intro g hg hgb
  subst hgb
  rcases h.own.2 with ⟨rfl, _⟩ | ⟨g', cap, cur, rfl, hb', hh, _⟩
  · simp [Value.ownBlock] at hg
  · simp [Value.ownBlock] at hg
    subst hg
    have hb := h.blk
    unfold Blk at hb
    rw [hb] at hh
    simp at hh
theorem HasRR.set {w : World} {B A : Nat} {bv : Value} {bs : List Nat} {p : Nat} {s : Bool} (h : HasRR w B A bv bs p s) (q : Nat) (hq : q ≤ 8 * bs.length) : HasRR (w.setCell ⟨A, 1, none⟩ (.int .i64 q)) B A bv bs q s := by
  have hb := h.blk.set 1 (.int .i64 (q : Int))
  have hne := own_blk69 h
  exact ⟨hb, own_keep h.own ((Fr.refl [A] w).setCell (.inl (by simp)) _) (fun g hg => by simp; exact hne g hg), h.lt, h.small, hq⟩
theorem HasRR.setS {w : World} {B A : Nat} {bv : Value} {bs : List Nat} {p : Nat} {s : Bool} (h : HasRR w B A bv bs p s) (t : Bool) : HasRR (w.setCell ⟨A, 2, none⟩ (.bool t)) B A bv bs p t := by
  have hb := h.blk.set 2 (.bool t)
  have hne := own_blk69 h
  exact ⟨hb, own_keep h.own ((Fr.refl [A] w).setCell (.inl (by simp)) _) (fun g hg => by simp; exact hne g hg), h.lt, h.small, h.fit⟩

set_option maxHeartbeats 1600000 in
theorem rget_no {w : World} {B A : Nat} {bv : Value} {bs : List Nat} {p : Nat} {n : Int} {k : Nat} (h : HasRR w B A bv bs p false) (hk : (k : Int) = max 0 (min 64 n)) (hle : 8 * bs.length < p + k) :
    Calls Try.prog 54 #[.pointer (some ⟨A, 0, none⟩), .int .i64 n] w fun e w' => e = .returned (.int .u64 0) ∧ HasRR w' B A bv bs p true ∧ Fr [A] w w' := by
  obtain ⟨ad, cap, rfl, hcap1, hcap2, -, hadd⟩ := own_any h.own
  have HK := Lib.hid hk
  have hk64 : k ≤ 64 := by omega
  have c0 := h.blk.cell (i := 0) rfl
  have c1 := h.blk.cell (i := 1) rfl
  have c2 := h.blk.cell (i := 2) rfl
  have f2 := h.blk.free 2
  have HH := Lib.hid h
  have hs := h.small
  have hf := h.fit
  clear h hadd
  have hm : (if n < 64 then n else 64) = (k : Int) := by split <;> omega
  have hk0 : (0 : Int) < (k : Int) := by omega
  have hd : decide (8 * (bs.length : Int) - p < (k : Int)) = true := by simp; omega
  clear hk HK
  go_enter Try.func54, Try.ntmps54
  go_upto_region 2 with (fail)
  go_quiet (fail)
  go_wp2_with fail
  go_ret
  exact ⟨rfl, (HH.out.drewN nq).setS true, ((Fr.refl [A] w).drewN nq).setCell (.inl (by simp)) _⟩

set_option maxHeartbeats 1600000 in
theorem rget_zero {w : World} {B A : Nat} {bv : Value} {bs : List Nat} {p : Nat} {n : Int} (h : HasRR w B A bv bs p false) (hk : n ≤ 0) :
    Calls Try.prog 54 #[.pointer (some ⟨A, 0, none⟩), .int .i64 n] w fun e w' => e = .returned (.int .u64 0) ∧ HasRR w' B A bv bs p false ∧ Fr [A] w w' := by
  obtain ⟨ad, cap, rfl, hcap1, hcap2, -, hadd⟩ := own_any h.own
  have c0 := h.blk.cell (i := 0) rfl
  have c1 := h.blk.cell (i := 1) rfl
  have c2 := h.blk.cell (i := 2) rfl
  have HH := Lib.hid h
  have hs := h.small
  have hf := h.fit
  clear h hadd
  have hm : (if n < 64 then n else 64) = n := if_pos (by omega)
  have hk0 : decide ((0 : Int) < n) = false := by simp; omega
  have hk1 : (if 0 < n then n else 0) = (0 : Int) := if_neg (by omega)
  have hd : decide (8 * (bs.length : Int) - p < 0) = false := by simp; omega
  clear hk
  go_enter Try.func54, Try.ntmps54
  go_upto_region 2 with (fail)
  go_quiet (fail)
  go_wp2_with fail
  go_loopw [5, 6] (fun v iv wr => v = .int .u64 0 ∧ iv = .int .i64 0 ∧ wr = w.drewN nq) (fun _ iv _ => 0)
  case atStart => exact ⟨rfl, rfl, rfl⟩
  case round =>
    obtain ⟨rfl, rfl, rfl⟩ := hrel
    go_wp2_with fail
    go_ret
    exact ⟨rfl, HH.out.drewN nq, (Fr.refl [A] w).drewN nq⟩

set_option maxHeartbeats 1600000 in
theorem rget_yes {w : World} {B A : Nat} {bv : Value} {bs : List Nat} {p : Nat} {n : Int} {k : Nat} (h : HasRR w B A bv bs p false) (hk : (k : Int) = max 0 (min 64 n)) (hle : p + k ≤ 8 * bs.length) :
    Calls Try.prog 54 #[.pointer (some ⟨A, 0, none⟩), .int .i64 n] w fun e w' => e = .returned (.int .u64 (getN bs p k)) ∧ HasRR w' B A bv bs (p + k) false ∧ Fr [A] w w' := by
  rcases Nat.eq_zero_or_pos k with h0 | h0
  · subst h0
    exact rget_zero h (by omega)
  obtain ⟨ad0, cap0, hbv0, hcap1, hcap2, -, hadd⟩ := own_any h.own
  have hk64 : k ≤ 64 := by omega
  have c0 := h.blk.cell (i := 0) rfl
  have c1 := h.blk.cell (i := 1) rfl
  have c2 := h.blk.cell (i := 2) rfl
  rw [hbv0] at c0
  have HH := Lib.hid h
  have HB0 := Lib.hid hbv0
  have hs := h.small
  have hf := h.fit
  clear h hadd hbv0
  have hm : (if n < 64 then n else 64) = (k : Int) := by split <;> omega
  have hk0 : (0 : Int) < (k : Int) := by omega
  have hd : decide (8 * (bs.length : Int) - p < (k : Int)) = false := by simp; omega
  clear hk
  go_enter Try.func54, Try.ntmps54
  go_upto_region 2 with (fail)
  go_quiet (fail)
  go_wp2_with fail
  have hF0 := (Fr.refl [A] w).drewN nq
  have hR0 := HH.out.drewN nq
  generalize w.drewN nq = w0 at *
  clear c0 c1 c2 hd
  go_loopw [5, 6] (fun v iv wr => ∃ j : Nat, j ≤ k ∧ iv = .int .i64 j ∧ v = .int .u64 (getN bs p j) ∧ HasRR wr B A bv bs (p + j) false ∧ Fr [A] w wr) (fun _ iv _ => (k - (intOf iv).toNat))
  case atStart => exact ⟨0, Nat.zero_le _, rfl, rfl, hR0, hF0⟩
  case round =>
    obtain ⟨j, hj, rfl, rfl, hR, hF⟩ := hrel
    by_cases hjk : j < k
    · obtain ⟨q, hq⟩ : ∃ q, p + j = q := ⟨_, rfl⟩
      have hq8 : q / 8 < bs.length := by omega
      obtain ⟨x, hx⟩ : ∃ x, bs[q / 8]? = some x := ⟨_, List.getElem?_eq_getElem hq8⟩
      have hx256 : x < 256 := HH.out.lt x (List.mem_of_getElem? hx)
      obtain ⟨b, hb⟩ : ∃ b, bitAt bs q = b := ⟨_, rfl⟩
      have hb2 : b < 2 := by rw [← hb]; exact bitAt_lt _ _
      have hbx : x / 2 ^ (7 - q % 8) % 2 = b := by rw [← hb]; unfold bitAt; rw [List.getD_eq_getElem?_getD, hx]; rfl
      obtain ⟨V, hV⟩ : ∃ V, getN bs p j = V := ⟨_, rfl⟩
      have hVlt : V < 2 ^ 63 := by rw [← hV]; exact Nat.lt_of_lt_of_le (getN_lt _ _ _) (Nat.pow_le_pow_right (by decide) (by omega))
      have hVn : getN bs p (j + 1) = V * 2 + b := by unfold getN; rw [hV, hq, hb]
      rw [hq] at hR
      obtain ⟨ad, cap, hbv, hcap1, hcap2, -, hadd⟩ := own_any hR.own
      obtain ⟨g, rfl, -⟩ := hadd (by omega)
      have hcx : wr.cell? ⟨g, q / 8, none⟩ = some (.int .u8 x) := by
        have h1 := hR.own; rw [hbv] at h1
        rw [h1.cellAt (q / 8) (by omega)]; simp [u8s, hx]
      have c0 := hR.blk.cell (i := 0) rfl
      have c1 := hR.blk.cell (i := 1) rfl
      have f1 := hR.blk.free 1
      rw [hbv] at c0
      have HRR := Lib.hid hR; have HFF := Lib.hid hF; have HBV := Lib.hid hbv; have HVN := Lib.hid hVn; have HV := Lib.hid hV; have HBX := Lib.hid hbx; have HQ := Lib.hid hq
      clear hR hF hbv hVn hbx hx hb hadd
      rw [hV]; clear hV
      go_wp2_with fail
      go_quiet (fail)
      go_wp2_with fail
      have hlast := or_next hVlt hx256 HBX.out
      rw [hlast, ← HVN.out]
      clear hlast c0 c1 f1 hcx
      have he : p + (j + 1) = q + 1 := by have := HQ.out; omega
      refine ⟨⟨j + 1, by omega, by go_num, rfl, ?_, ?_⟩, by simp [intOf]; omega⟩
      · rw [he]; exact (HRR.out.drewN nq).set (q + 1) (by omega)
      · exact (HFF.out.drewN nq).setCell (.inl (by simp)) _
    · have : j = k := by omega
      subst this
      go_wp2_with fail
      go_ret
      exact ⟨rfl, hR, hF⟩

theorem rsgn_no {w : World} {B A : Nat} {bv : Value} {bs : List Nat} {p : Nat} {n : Int} {k : Nat} (h : HasRR w B A bv bs p false) (hk : (k : Int) = max 0 (min 64 n)) (hle : 8 * bs.length < p + k) :
    Calls Try.prog 53 #[.pointer (some ⟨A, 0, none⟩), .int .i64 n] w fun e w' => e = .returned (.int .i64 0) ∧ HasRR w' B A bv bs p true ∧ Fr [A] w w' := by
  have hf := h.fit
  have hm : (if n < 64 then n else 64) = (k : Int) := by split <;> omega
  have hk0 : (0 : Int) < (k : Int) := by omega
  have hk64 : (k : Int) ≤ 64 := by omega
  have hkne : ((k : Int) == 0) = false := by simp; omega
  have HH := Lib.hid h; have HK := Lib.hid hk; clear h hk
  go_enter Try.func53, Try.ntmps53
  go_wp2_with fail
  refine (rget_no HH.out HK.out hle).mono ?_; rintro e w1 ⟨rfl, hR, hF⟩
  go_wp2_with fail
  go_ret
  exact ⟨rfl, hR, hF⟩
theorem rsgn_zero {w : World} {B A : Nat} {bv : Value} {bs : List Nat} {p : Nat} {n : Int} (h : HasRR w B A bv bs p false) (hk : n ≤ 0) :
    Calls Try.prog 53 #[.pointer (some ⟨A, 0, none⟩), .int .i64 n] w fun e w' => e = .returned (.int .i64 0) ∧ HasRR w' B A bv bs p false ∧ Fr [A] w w' := by
  have HH := Lib.hid h; clear h
  have HK := Lib.hid hk
  have hm : (if n < 64 then n else 64) = n := if_pos (by omega)
  have hk0 : decide ((0 : Int) < n) = false := by simp; omega
  have hk1 : (if 0 < n then n else 0) = (0 : Int) := if_neg (by omega)
  clear hk
  go_enter Try.func53, Try.ntmps53
  go_wp2_with fail
  refine (rget_zero HH.out HK.out).mono ?_; rintro e w1 ⟨rfl, hR, hF⟩
  go_wp2_with fail
  go_ret
  exact ⟨rfl, hR, hF⟩
theorem shl_form {k P : Nat} {X : Int} (h : k < 64) (hP : 2 ^ k = P) (hX : IntKind.i64.wrap (P : Int) = X) : IntKind.i64.wrap (2 ^ min (IntKind.u64.wrap (k : Int)).toNat 64) = X := by
  rw [IntWalk.u64_in (k : Int) (by omega)]
  have e1 : min (k : Int).toNat 64 = k := by omega
  rw [e1, ← hX, ← hP]; push_cast; rfl
theorem w64_top {v : Nat} (h : 2 ^ 64 ≤ 2 * v) (h2 : v < 18446744073709551616) : wrap64 (v : Int) = (v : Int) - 2 ^ 64 := by unfold wrap64; omega
theorem w64_low {v : Nat} (h : v < 9223372036854775808) : wrap64 (v : Int) = (v : Int) := by unfold wrap64; omega
theorem back_form {v k P : Nat} {X : Int} (hc : 2 ^ k ≤ 2 * v) (hv : v < 2 ^ k) (hP : 2 ^ k = P) (hX : IntKind.i64.wrap (P : Int) = X) (hk : k < 64) : IntKind.i64.wrap (IntKind.i64.wrap (v : Int) - X) = (v : Int) - 2 ^ k := by
  have h63 : P ≤ 9223372036854775808 := by
    rw [← hP]
    have : 2 ^ k ≤ 2 ^ 63 := Nat.pow_le_pow_right (by decide) (by omega)
    omega
  have e : ((2 : Int) ^ k) = (P : Int) := by rw [← hP]; push_cast; rfl
  rw [hP] at hc hv
  rw [e, ← hX, IntKind.wrap_i64, IntKind.wrap_i64, IntKind.wrap_i64]
  have h1 : ((v : Int) + 9223372036854775808) % 18446744073709551616 - 9223372036854775808 = v := by omega
  rw [h1]
  rcases Nat.lt_or_ge P 9223372036854775808 with h2 | h2
  · have h3 : ((P : Int) + 9223372036854775808) % 18446744073709551616 - 9223372036854775808 = P := by omega
    rw [h3]; omega
  · have h3 : (P : Int) = 9223372036854775808 := by omega
    rw [h3]
    have h4 : ((9223372036854775808 : Int) + 9223372036854775808) % 18446744073709551616 - 9223372036854775808 = -9223372036854775808 := by decide
    rw [h4]; omega

set_option maxHeartbeats 1600000 in
theorem rsgn_yes {w : World} {B A : Nat} {bv : Value} {bs : List Nat} {p : Nat} {n : Int} {k : Nat} (h : HasRR w B A bv bs p false) (hk : (k : Int) = max 0 (min 64 n)) (hle : p + k ≤ 8 * bs.length) :
    Calls Try.prog 53 #[.pointer (some ⟨A, 0, none⟩), .int .i64 n] w fun e w' => e = .returned (.int .i64 (sgn (getN bs p k) k)) ∧ HasRR w' B A bv bs (p + k) false ∧ Fr [A] w w' := by
  rcases Nat.eq_zero_or_pos k with h0 | h0
  · subst h0
    exact rsgn_zero h (by omega)
  have hf := h.fit
  have hm : (if n < 64 then n else 64) = (k : Int) := by split <;> omega
  have hk0 : (0 : Int) < (k : Int) := by omega
  have hk64 : (k : Int) ≤ 64 := by omega
  have hkne : ((k : Int) == 0) = false := by simp; omega
  obtain ⟨v, hv⟩ : ∃ v, getN bs p k = v := ⟨_, rfl⟩
  have hvlt : v < 2 ^ k := by rw [← hv]; exact getN_lt _ _ _
  have HH := Lib.hid h; have HK := Lib.hid hk; have HV := Lib.hid hv; clear h hk
  rw [hv]; clear hv
  go_enter Try.func53, Try.ntmps53
  go_wp2_with fail
  refine (rget_yes HH.out HK.out hle).mono ?_; rintro e w1 ⟨rfl, hR, hF⟩
  rw [HV.out]
  have hvb : (v : Int) < 18446744073709551616 := by
    have : 2 ^ k ≤ 2 ^ 64 := Nat.pow_le_pow_right (by decide) (by omega)
    omega
  have hX : (v : Int) / 2 ^ min (IntKind.u64.wrap (IntKind.i64.wrap ((k : Int) - 1))).toNat 64 = ((v / 2 ^ (k - 1) : Nat) : Int) := by
    rw [IntWalk.i64_in ((k : Int) - 1) (by omega), IntWalk.u64_in ((k : Int) - 1) (by omega)]
    have e1 : min ((k : Int) - 1).toNat 64 = k - 1 := by omega
    rw [e1]; push_cast; rfl
  have hk2 : 2 ^ k = 2 * 2 ^ (k - 1) := by rw [← Nat.pow_succ']; congr 1; omega
  have hq : 0 < 2 ^ (k - 1) := Nat.two_pow_pos _
  obtain ⟨t, htt⟩ : ∃ t, v / 2 ^ (k - 1) = t := ⟨_, rfl⟩
  have ht2 : t < 2 := by
    rw [← htt]; exact Nat.div_lt_of_lt_mul (by omega)
  rw [htt] at hX
  have HX := Lib.hid hX
  have Hb1 := Lib.hid (show bits .and .u64 (t : Int) 1 = (t : Int) by
    rw [show (1 : Int) = ((1 : Nat) : Int) from rfl, u64_and_nat _ _ (by omega) (by decide), Nat.and_one_is_mod]
    omega)
  have HT := Lib.hid htt; have HV2 := Lib.hid hvlt; have HK2 := Lib.hid hk2; have HQ := Lib.hid hq
  clear hX htt hk2 hq hvlt
  go_upto_region 5 with (fail)
  apply wp_region_lit
  iterate 4 (refine wpList_plain rfl (fun K hK => ?_); go_simp; refine hK _ _ ?_; clear hK K)
  refine wpList_plain rfl (fun K hK => ?_); go_simp; rw [HX.out]; refine hK _ _ ?_; clear hK K
  refine wpList_plain rfl (fun K hK => ?_); go_simp; rw [Hb1.out]; refine hK _ _ ?_; clear hK K
  by_cases c : t = 1
  · have hte : ((t : Int) == 1) = true := by rw [c]; rfl
    have hc2 : 2 ^ k ≤ 2 * v := by
      have h1 := HT.out
      rw [c] at h1
      have := Nat.div_mul_le_self v (2 ^ (k - 1))
      rw [h1] at this
      have := HK2.out; omega
    have hs : sgn v k = (v : Int) - 2 ^ k := by unfold sgn; rw [if_pos ⟨hc2, by omega⟩]
    have HSG := Lib.hid hs; have HC := Lib.hid hc2
    clear hs hc2 c ht2
    refine wpList_plain rfl (fun K hK => ?_); go_simp; (try rw [hte]); refine hK _ _ ?_; clear hK K
    by_cases h64 : (k : Int) < 64
    · obtain ⟨P, hP⟩ : ∃ P : Nat, 2 ^ k = P := ⟨_, rfl⟩
      obtain ⟨X, hXX⟩ : ∃ X, IntKind.i64.wrap (P : Int) = X := ⟨_, rfl⟩
      have HW := Lib.hid (shl_form (by omega) hP hXX)
      have HR := Lib.hid (back_form (by have := HC.out; omega) (by have := HV2.out; omega) hP hXX (by omega))
      clear hXX hP
      go_upto_region 6 with (fail)
      apply wp_region_lit
      iterate 4 (refine wpList_plain rfl (fun K hK => ?_); go_simp; refine hK _ _ ?_; clear hK K)
      refine wpList_plain rfl (fun K hK => ?_); go_simp; rw [HW.out]; refine hK _ _ ?_; clear hK K
      refine wpList_plain rfl (fun K hK => ?_); go_simp; rw [HR.out]; refine hK _ _ ?_; clear hK K
      go_wp2_with fail
      go_ret
      exact ⟨ret_i (by rw [HSG.out]), hR, hF⟩
    · have hd64 : decide ((k : Int) < 64) = false := by simp only [decide_eq_false_iff_not]; exact h64
      have hk : k = 64 := by omega
      have HE := Lib.hid (show wrap64 (v : Int) = sgn v k by
        have := HC.out; have := HV2.out
        rw [HSG.out, hk]; rw [hk] at this; exact w64_top (by rw [hk] at *; omega) (by omega))
      clear h64 hk
      go_wp2_with fail
      go_ret
      exact ⟨ret_i HE.out, hR, hF⟩
  · have hte : ((t : Int) == 1) = false := by simp; omega
    have HE := Lib.hid (show wrap64 (v : Int) = sgn v k by
      have ht0 : t = 0 := by omega
      have h1 := HT.out
      rw [ht0] at h1
      have h2 := (Nat.div_eq_zero_iff_lt HQ.out).1 h1
      have h3 := HK2.out
      have h4 : 2 ^ (k - 1) ≤ 2 ^ 63 := Nat.pow_le_pow_right (by decide) (by omega)
      unfold sgn
      rw [if_neg (fun h => by omega)]
      exact w64_low (by omega))
    clear c ht2
    refine wpList_plain rfl (fun K hK => ?_); go_simp; (try rw [hte]); refine hK _ _ ?_; clear hK K
    go_wp2_with fail
    go_ret
    exact ⟨ret_i HE.out, hR, hF⟩
end Go.Proofs.Ytlfdbkdaamodnaa.Bt
