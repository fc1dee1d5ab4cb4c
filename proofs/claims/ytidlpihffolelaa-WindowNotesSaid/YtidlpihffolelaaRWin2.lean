import Derived.Test.YtidlpihffolelaaRWin
namespace Go.Proofs.Ytidlpihffolelaa.Wn
open Go.RowKit Dt Go.Proofs.Ytidlpihffolelaa.Sq Go.Proofs.Ytidlpihffolelaa.Hd
set_option linter.unusedVariables false

theorem RWin.fr {w w' : World} {b : Nat} {s : WS} {S : List Nat} (H : RWin w b s) (h : Fr S w w') (hb : b ∉ S) : RWin w' b s := ⟨h.blk H.1 hb, H.2⟩

/-- the bits read so far, from the top -/
def Top (f : Nat → Bool) (k m : Nat) : Prop := m < 2 ^ (64 - k) ∧ ∀ i, i < 64 - k → m.testBit i = f (k + 1 + i)
theorem Top.step {f : Nat → Bool} {k m : Nat} (h : Top f (k + 1) m) (hk : k + 1 ≤ 64) : Top f k (2 * m + (f (k + 1)).toNat) := by
  obtain ⟨h1, h2⟩ := h
  have e : 64 - k = (64 - (k + 1)) + 1 := by omega
  refine ⟨?_, fun i hi => ?_⟩
  · rw [e, Nat.pow_succ]; generalize 2 ^ (64 - (k + 1)) = p at *; cases f (k + 1) <;> simp <;> omega
  · cases i with
    | zero =>
      have : (2 * m + (f (k + 1)).toNat) % 2 = (f (k + 1)).toNat := by cases f (k + 1) <;> simp <;> omega
      rw [Nat.testBit_zero, this]; cases f (k + 1) <;> rfl
    | succ j =>
      have : (2 * m + (f (k + 1)).toNat) / 2 = m := by cases f (k + 1) <;> simp <;> omega
      rw [Nat.testBit_succ, this, h2 j (by omega)]
      congr 1; omega

theorem rbits_any (w : World) (b : Nat) (s : WS) (H : RWin w b s) :
    Calls Try.prog 30 #[.pointer (some ⟨b, 0, none⟩)] w fun e w' => ∃ v : Int, e = .returned (.int .u64 v) ∧ Bt v (fun i => s.f (i + 1)) ∧ w = w' := by
  obtain ⟨any, last, f⟩ := s
  obtain ⟨h, h1, h2⟩ := H
  simp only at h h1 h2
  have HH := Lib.hid h; clear h
  go_enter Try.func30, Try.ntmps30
  go_wp2_with fail
  go_loop [3, 4] (fun v i => ∃ k m : Nat, k ≤ 64 ∧ i = .int .i64 k ∧ v = .int .u64 m ∧ Top f k m) (fun _ i => (intOf i).toNat)
  case atStart => exact ⟨64, 0, by omega, rfl, rfl, ⟨by decide, fun i hi => by omega⟩⟩
  case round =>
    obtain ⟨k, m, hk, rfl, rfl, ht⟩ := hrel
    cases k with
    | zero =>
      have HT := Lib.hid ht; clear ht
      go_wp2_with fail
      go_ret
      refine ⟨m, rfl, ⟨m, rfl, ?_, fun i hi => ?_⟩, rfl⟩
      · have := HT.out.1; simpa using this
      · have := HT.out.2 i (by omega); rw [this]; congr 1; omega
    | succ k =>
      have hs := ht.step (by omega)
      have hc := Blk.cell (i := 2 + (k + 1)) HH.out (rvals_get (i := k + 1) (by omega))
      have hm : m < 9223372036854775808 := by
        have h1 := ht.1
        have h2 : 2 ^ (64 - (k + 1)) ≤ 2 ^ 63 := Nat.pow_le_pow_right (by decide) (by omega)
        have h3 : (2 : Nat) ^ 63 = 9223372036854775808 := by decide
        omega
      have HS := Lib.hid hs; clear hs ht
      have e1 : IntKind.u64.wrap ((m : Int) * 2) = (m : Int) * 2 := by rw [IntKind.wrap_u64]; omega
      have e2 : IntKind.u64.wrap ((m : Int) * 2 + 1) = (m : Int) * 2 + 1 := by rw [IntKind.wrap_u64]; omega
      have hc' : w.cell? ⟨b, 2 + (k + 1), none⟩ = some (.bool (f (k + 1))) := hc
      clear hc
      cases hfk : f (k + 1)
      all_goals
        rw [hfk] at hc'
        have HF := Lib.hid hfk; clear hfk
        go_wp2_with fail
        go_round
        case rel =>
          refine ⟨k, 2 * m + (f (k + 1)).toNat, by omega, by go_num, ?_, HS.out⟩
          rw [HF.out]; simp; try omega
        case measure => simp [intOf]

/-- the two windows tell the same -/
structure Rel (s r : WS) : Prop where
  any : s.any = r.any
  last : s.last = r.last
  yes : s.any = true → r.f 0 = true ∧ ∀ k, k < 64 → r.f (k + 1) = s.f k
  no : s.any = false → (∀ k, k < 65 → r.f k = false) ∧ ∀ k, k < 64 → s.f k = false

theorem Rel.note {s r : WS} (h : Rel s r) (n : Int) : (noteS s n).1 = (rnoteS r n).1 ∧ Rel (noteS s n).2 (rnoteS r n).2 := by
  obtain ⟨sa, sl, sf⟩ := s
  obtain ⟨ra, rl, rf⟩ := r
  obtain ⟨h1, h2, h3, h4⟩ := h
  simp only at h1 h2 h3 h4
  subst h1; subst h2
  unfold noteS rnoteS
  simp only
  have g1 := far_lo (n % 65536) sl
  have g2 := far_hi (n % 65536) sl
  cases sa with
  | false =>
    obtain ⟨a, b⟩ := h4 rfl
    simp only [if_true]
    refine ⟨trivial, rfl, rfl, fun _ => ⟨rfl, fun k hk => ?_⟩, fun h => by cases h⟩
    simp only
    rw [if_neg (by omega), a _ (by omega), b k hk]
  | true =>
    obtain ⟨a, b⟩ := h3 rfl
    rw [if_neg (show ¬ true = false by decide), if_neg (show ¬ true = false by decide)]
    by_cases hf : 0 < far (n % 65536) sl
    · rw [if_pos hf, if_pos hf]
      refine ⟨rfl, rfl, rfl, fun _ => ⟨by simp, fun k hk => ?_⟩, fun h => by cases h⟩
      simp only
      rw [if_neg (by omega)]
      obtain ⟨d, hd⟩ : ∃ d : Nat, far (n % 65536) sl = d := ⟨(far (n % 65536) sl).toNat, by omega⟩
      rw [hd]
      simp only [Int.toNat_natCast]
      by_cases c : d = k + 1
      · subst c
        simp [a]
      · have e1 : decide (((k : Nat) : Int) + 1 = (d : Int)) = false := by simp; omega
        rw [e1, Bool.false_or]
        by_cases c2 : d ≤ k
        · have e2 : k + 1 - d = (k - d) + 1 := by omega
          rw [e2, b _ (by omega)]
          congr 1
          rw [decide_eq_decide]; omega
        · have e3 : decide ((d : Int) ≤ ((k + 1 : Nat) : Int)) = false := by simp; omega
          have e4 : decide ((d : Int) ≤ (k : Int)) = false := by simp; omega
          rw [e3, e4]; rfl
    · rw [if_neg hf, if_neg hf]
      by_cases ho : far (n % 65536) sl < -64
      · rw [if_pos ho, if_pos ho]
        exact ⟨rfl, rfl, rfl, h3, h4⟩
      · rw [if_neg ho, if_neg ho]
        obtain ⟨k, hk⟩ : ∃ k : Nat, -(far (n % 65536) sl) = k := ⟨(-(far (n % 65536) sl)).toNat, by omega⟩
        by_cases hz : far (n % 65536) sl = 0
        · rw [if_pos hz, hz]
          simp only [Int.neg_zero, Int.toNat_zero, a, if_true]
          exact ⟨trivial, rfl, rfl, h3, h4⟩
        · rw [if_neg hz, hk]
          have ek : ((k : Nat) : Int).toNat = k := by omega
          have ek2 : (((k : Nat) : Int) - 1).toNat = k - 1 := by omega
          have hb := b (k - 1) (by omega)
          have e5 : k - 1 + 1 = k := by omega
          rw [e5] at hb
          rw [ek, ek2, hb]
          by_cases hi : sf (k - 1) = true
          · rw [if_pos hi, if_pos hi]; exact ⟨rfl, rfl, rfl, h3, h4⟩
          · rw [if_neg hi, if_neg hi]
            refine ⟨rfl, rfl, rfl, fun _ => ⟨?_, fun j hj => ?_⟩, fun h => by cases h⟩
            · simp only; rw [if_neg (by omega)]; exact a
            · simp only
              rw [b j hj]
              by_cases c : j + 1 = k
              · rw [if_pos c]
                have : decide ((j : Int) + 1 = (k : Int)) = true := by simp; omega
                rw [this]; rfl
              · rw [if_neg c]
                have : decide ((j : Int) + 1 = (k : Int)) = false := by simp; omega
                rw [this]; rfl
theorem rel_0 : Rel s0 s0 := ⟨rfl, rfl, (fun h => by cases h), (fun _ => ⟨fun _ _ => rfl, fun _ _ => rfl⟩)⟩
theorem Rel.bits {s r : WS} (h : Rel s r) {v v' : Int} (hv : Bt v s.f) (hv' : Bt v' (fun i => r.f (i + 1))) : v = v' := by
  refine hv.unique hv' (fun k hk => ?_)
  cases ha : s.any with
  | true => exact ((h.yes ha).2 k hk).symm
  | false => rw [(h.no ha).2 k hk, (h.no ha).1 (k + 1) (by omega)]
end Go.Proofs.Ytidlpihffolelaa.Wn
