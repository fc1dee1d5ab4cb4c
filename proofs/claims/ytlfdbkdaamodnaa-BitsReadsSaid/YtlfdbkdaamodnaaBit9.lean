import Derived.Test.YtlfdbkdaamodnaaBit7
import Derived.Test.YtlfdbkdaamodnaaTrap6
namespace Go.Proofs.Ytlfdbkdaamodnaa.Bt
open Go.RowKit Dt Go.Proofs.Ytlfdbkdaamodnaa.Hd
set_option linter.unusedVariables false
set_option linter.unusedSimpArgs false

def bitAt (bs : List Nat) (i : Nat) : Nat := bs.getD (i / 8) 0 / 2 ^ (7 - i % 8) % 2
def getN (bs : List Nat) (p : Nat) : Nat → Nat
  | 0 => 0
  | k + 1 => getN bs p k * 2 + bitAt bs (p + k)
theorem bitAt_lt (bs : List Nat) (i : Nat) : bitAt bs i < 2 := Nat.mod_lt _ (by decide)
theorem getN_lt (bs : List Nat) (p k : Nat) : getN bs p k < 2 ^ k := by
  induction k with
  | zero => simp [getN]
  | succ k ih => have := bitAt_lt bs (p + k); unfold getN; rw [Nat.pow_succ]; omega

/-- a reader at block A: its bytes, how many bits are taken -/
structure HasRd (w : World) (B A : Nat) (bv : Value) (bs : List Nat) (p : Nat) : Prop where
  blk : Blk w A #[bv, .int .i64 p] 79
  own : w.ownsRow B 5 1 bv bs.length (u8s bs)
  lt : ∀ x ∈ bs, x < 256
  small : bs.length ≤ 1099511627776
  fit : p ≤ 8 * bs.length
theorem HasRd.drewN {w : World} {B A : Nat} {bv : Value} {bs : List Nat} {p : Nat} (h : HasRd w B A bv bs p) (n : Nat) : HasRd (w.drewN n) B A bv bs p :=
  ⟨h.blk.drewN n, own_keep h.own ((Fr.refl [] w).drewN n) (by simp), h.lt, h.small, h.fit⟩

theorem own_blk79 {w : World} {B A : Nat} {bv : Value} {bs : List Nat} {p : Nat} (h : HasRd w B A bv bs p) : ∀ g, bv.ownBlock = some g → g ≠ A := by
  intro g hg hgb
  subst hgb
  rcases h.own.2 with ⟨rfl, _⟩ | ⟨g', cap, cur, rfl, hb', hh, _⟩
  · simp [Value.ownBlock] at hg
  · simp [Value.ownBlock] at hg
    subst hg
    have hb := h.blk
    unfold Blk at hb
    rw [hb] at hh
    simp at hh
theorem newrd_any (w : World) (sv : Value) (bs : List Nat) (h : LS w sv (u8s bs)) (hl : bs.length ≤ 1099511627776) (hlt : ∀ x ∈ bs, x < 256) :
    Calls Try.prog 47 #[sv] w fun e w' => ∃ A bv, e = .returned (.pointer (some ⟨A, 0, none⟩)) ∧ HasRd w' w.heap.size A bv bs 0 ∧ w.heap.size ≤ A ∧ Fr [] w w' := by
  have HL := Lib.hid h; clear h
  go_enter Try.func47, Try.ntmps47
  go_wp2_with fail
  refine (Tg.clone_any _ _ _ HL.out (u8s_one _) (by rw [u8s_len]; omega)).mono ?_; rintro e w1 ⟨v1, rfl, hown, hF⟩
  rw [u8s_len] at hown
  obtain ⟨ad, cap, rfl, hcap1, hcap2, -, hadd⟩ := own_any hown
  go_wp2_with fail
  go_ret
  exact ⟨_, _, rfl, ⟨Blk.new w1 #[.slice ad bs.length cap, .int .i64 0] 79, own_keep hown ((Fr.refl [] w1).alloc _) (by simp), hlt, hl, by omega⟩, hF.size, hF.alloc _⟩

theorem left_any {w : World} {B A : Nat} {bv : Value} {bs : List Nat} {p : Nat} (h : HasRd w B A bv bs p) :
    Calls Try.prog 50 #[.pointer (some ⟨A, 0, none⟩)] w fun e w' => e = .returned (.int .i64 (8 * (bs.length : Int) - p)) ∧ ∃ m, w' = w.drewN m := by
  obtain ⟨ad, cap, rfl, hcap1, hcap2, -, hadd⟩ := own_any h.own
  have c0 := h.blk.cell (i := 0) rfl
  have c1 := h.blk.cell (i := 1) rfl
  have hs := h.small
  have hf := h.fit
  clear h
  go_enter Try.func50, Try.ntmps50
  go_wp2_with fail
  go_quiet (fail)
  go_wp2_with fail
  go_ret
  exact ⟨rfl, _, rfl⟩

theorem or_next {V x b d : Nat} (hV : V < 2 ^ 63) (hx : x < 256) (hb : x / 2 ^ d % 2 = b) :
    bits .or .u64 ((V : Int) * 2) (IntKind.u64.wrap (bits .and .u8 ((x : Int) / 2 ^ d) 1)) = ((V * 2 + b : Nat) : Int) := by
  have e1 : ((x : Int) / 2 ^ d) = ((x / 2 ^ d : Nat) : Int) := by push_cast; rfl
  have hlt : x / 2 ^ d < 256 := Nat.lt_of_le_of_lt (Nat.div_le_self _ _) hx
  have hb2 : b < 2 := by omega
  have e2 : bits .and .u8 ((x : Int) / 2 ^ d) 1 = ((b : Nat) : Int) := by
    rw [e1, show (1 : Int) = ((1 : Nat) : Int) from rfl, u8_and_nat _ _ hlt (by decide), Nat.and_one_is_mod, hb]
  have e3 : IntKind.u64.wrap (b : Int) = (b : Int) := IntWalk.u64_in _ (by omega)
  have e4 : (V : Int) * 2 = ((V * 2 : Nat) : Int) := by push_cast; rfl
  have e5 : V * 2 ||| b = V * 2 + b := by
    have := Nat.two_pow_add_eq_or_of_lt (i := 1) (b := b) (by omega) V
    rw [Nat.mul_comm V 2]; exact this.symm
  rw [e2, e3, e4, u64_or_nat _ _ (by omega) (by omega), e5]

set_option maxHeartbeats 1600000 in
theorem get_yes {w : World} {B A : Nat} {bv : Value} {bs : List Nat} {p : Nat} {n : Int} {k : Nat} (h : HasRd w B A bv bs p) (hk : (k : Int) = max 0 (min n 64)) (hle : p + k ≤ 8 * bs.length) :
    Calls Try.prog 49 #[.pointer (some ⟨A, 0, none⟩), .int .i64 n] w fun e w' => e = .returned (.int .u64 (getN bs p k)) ∧ HasRd w' B A bv bs (p + k) ∧ Fr [A] w w' := by
  have HK := Lib.hid hk
  have hk64 : k ≤ 64 := by omega
  clear hk
  have c1 := h.blk.cell (i := 1) rfl
  have HH := Lib.hid h
  have hs := h.small
  clear h
  have hd : decide ((k : Int) ≤ 8 * (bs.length : Int) - p) = true := by simp; omega
  go_enter Try.func49, Try.ntmps49
  go_wp2_with fail
  refine (within_any _ _ k HK.out).mono ?_; rintro e w' ⟨rfl, rfl⟩
  go_wp2_with fail
  go_quiet (first
    | (go_at_call 50; exact Calls.quiet_of (left_any (HH.out.drewN _)))
    | (go_at_call 23; exact Calls.quiet_of_same ((Tr.must_yes _ _ _).mono fun e w' h => ⟨h.1, h.2.symm⟩)))
  go_wp2_with fail
  have hF0 := (Fr.refl [A] w).drewN nq
  have hR0 := HH.out.drewN nq
  generalize w.drewN nq = w0 at *
  clear c1 hd
  go_loopw [5, 19] (fun v iv wr => ∃ j : Nat, j ≤ k ∧ iv = .int .i64 j ∧ v = .int .u64 (getN bs p j) ∧ HasRd wr B A bv bs (p + j) ∧ Fr [A] w wr) (fun _ iv _ => (k - (intOf iv).toNat))
  case atStart => exact ⟨0, Nat.zero_le _, rfl, rfl, hR0, hF0⟩
  case round =>
    obtain ⟨j, hj, rfl, rfl, hR, hF⟩ := hrel
    by_cases hjk : j < k
    · obtain ⟨q, hq⟩ : ∃ q, p + j = q := ⟨_, rfl⟩
      have hq8 : q / 8 < bs.length := by omega
      obtain ⟨x, hx⟩ : ∃ x, bs[q / 8]? = some x := ⟨_, List.getElem?_eq_getElem hq8⟩
      have hx256 : x < 256 := HH.out.lt x (List.mem_of_getElem? hx)
      obtain ⟨b, hb⟩ : ∃ b, bitAt bs q = b := ⟨_, rfl⟩
      have hb2 : b < 2 := by rw [← hb]; exact bitAt_lt _ _
      have hbx : x / 2 ^ (7 - q % 8) % 2 = b := by rw [← hb]; unfold bitAt; rw [List.getD_eq_getElem?_getD, hx]; rfl
      obtain ⟨V, hV⟩ : ∃ V, getN bs p j = V := ⟨_, rfl⟩
      have hVlt : V < 2 ^ 63 := by rw [← hV]; exact Nat.lt_of_lt_of_le (getN_lt _ _ _) (Nat.pow_le_pow_right (by decide) (by omega))
      have hVn : getN bs p (j + 1) = V * 2 + b := by unfold getN; rw [hV, hq, hb]
      rw [hq] at hR
      obtain ⟨ad, cap, hbv, hcap1, hcap2, -, hadd⟩ := own_any hR.own
      obtain ⟨g, rfl, -⟩ := hadd (by omega)
      have hbv' := hbv
      have hcx : wr.cell? ⟨g, q / 8, none⟩ = some (.int .u8 x) := by
        have h1 := hR.own; rw [hbv] at h1
        rw [h1.cellAt (q / 8) (by omega)]; simp [u8s, hx]
      have c0 := hR.blk.cell (i := 0) rfl
      have c1 := hR.blk.cell (i := 1) rfl
      have f1 := hR.blk.free 1
      rw [hbv] at c0
      have HRR := Lib.hid hR; have HFF := Lib.hid hF; have HBV := Lib.hid hbv; have HVN := Lib.hid hVn; have HV := Lib.hid hV; have HBX := Lib.hid hbx; have HQ := Lib.hid hq
      clear hR hF hbv hVn hbx hx hb hadd hbv'
      rw [hV]; clear hV
      go_wp2_with fail
      go_quiet (fail)
      go_wp2_with fail
      have hlast := or_next hVlt hx256 HBX.out
      rw [hlast, ← HVN.out]
      clear hlast c0 c1 f1 hcx
      refine ⟨⟨j + 1, by omega, by go_num, rfl, ?_, ?_⟩, by simp [intOf]; omega⟩
      · have hb := ((HRR.out.drewN nq).blk.set 1 (.int .i64 ((q : Int) + 1)))
        have he : p + (j + 1) = q + 1 := by have := HQ.out; omega
        rw [he]
        have hne := own_blk79 (HRR.out.drewN nq)
        exact ⟨hb, own_keep HRR.out.own (((Fr.refl [A] wr).drewN nq).setCell (.inl (by simp)) _) (fun g hg => by simp; exact hne g hg), HRR.out.lt, HRR.out.small, by have := HRR.out.fit; omega⟩
      · exact (HFF.out.drewN nq).setCell (.inl (by simp)) _
    · have : j = k := by omega
      subst this
      go_wp2_with fail
      go_ret
      exact ⟨rfl, hR, hF⟩
end Go.Proofs.Ytlfdbkdaamodnaa.Bt
