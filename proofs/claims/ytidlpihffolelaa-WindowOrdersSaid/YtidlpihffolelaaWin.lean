import Derived.Test.YtidlpihffolelaaWinBits
import Derived.Test.YtidlpihffolelaaFr
import Derived.Test.YtidlpihffolelaaSh
import Derived.StillTailTactics
import Derived.IntWalk
import Derived.Outline
namespace Go.Proofs.Ytidlpihffolelaa.Wn
open Go.RowKit Dt Go.Proofs.Ytidlpihffolelaa.Sq
set_option linter.unusedVariables false

/-- a window in block b -/
def Win (w : World) (b : Nat) (any : Bool) (last v : Int) : Prop := Blk w b #[.bool any, .int .i64 last, .int .u64 v] 31

/-- a window's state: was one noted, the newest one, which of those behind it -/
structure WS where
  any : Bool
  last : Int
  f : Nat → Bool

def noteS (s : WS) (n : Int) : Int × WS :=
  if s.any = false then (1, ⟨true, n % 65536, s.f⟩)
  else if 0 < far (n % 65536) s.last then (1, ⟨true, n % 65536, fun i => decide ((i : Int) + 1 = far (n % 65536) s.last) || (decide (far (n % 65536) s.last ≤ i) && s.f (i - (far (n % 65536) s.last).toNat))⟩)
  else if far (n % 65536) s.last < -64 then (3, s)
  else if far (n % 65536) s.last = 0 then (2, s)
  else if s.f (-(far (n % 65536) s.last) - 1).toNat = true then (2, s)
  else (1, ⟨true, s.last, fun i => decide ((i : Int) + 1 = -(far (n % 65536) s.last)) || s.f i⟩)

/-- block b holds the window s -/
structure HasW (w : World) (b : Nat) (s : WS) : Prop where
  ex : ∃ v, Win w b s.any s.last v ∧ Bt v s.f
  lo : 0 ≤ s.last
  hi : s.last < 65536

theorem note_any (w : World) (b : Nat) (s : WS) (n : Int) (H : HasW w b s) :
    Calls Try.prog 24 #[.pointer (some ⟨b, 0, none⟩), .int .i64 n] w fun e w' => e = .returned (.int .i64 (noteS s n).1) ∧ HasW w' b (noteS s n).2 ∧ Fr [b] w w' := by
  obtain ⟨any, last, f⟩ := s
  obtain ⟨⟨v, h, hb⟩, h1, h2⟩ := H
  simp only at h hb h1 h2
  have c0 := Blk.cell (i := 0) h rfl
  have c1 := Blk.cell (i := 1) h rfl
  have c2 := Blk.cell (i := 2) h rfl
  have f0 := Blk.free h 0
  have f1 := Blk.free h 1
  have f2 := Blk.free h 2
  have n1 : 0 ≤ n % 65536 := by omega
  have n2 : n % 65536 < 65536 := by omega
  have g1 := far_lo (n % 65536) last
  have g2 := far_hi (n % 65536) last
  cases any with
  | false =>
    have hfin : noteS ⟨false, last, f⟩ n = (1, ⟨true, n % 65536, f⟩) := by simp [noteS]
    rw [hfin]
    clear hfin
    have HB := Lib.hid hb; clear hb
    go_enter Try.func24, Try.ntmps24
    go_wp2_with (first | (go_at_call 18; refine (norm_any _ _).mono ?_; rintro e w' ⟨rfl, rfl⟩) | (go_at_call 16; refine (ahead_any _ _ _).mono ?_; rintro e w' ⟨rfl, rfl⟩))
    go_ret
    exact ⟨rfl, ⟨⟨v, ((Blk.set h 0 _).set 1 _), HB.out⟩, n1, n2⟩, ((Fr.refl _ _).setCell (.inl (by simp)) _).setCell (.inl (by simp)) _⟩
  | true =>
    by_cases hf : 0 < far (n % 65536) last
    · have hfin : noteS ⟨true, last, f⟩ n = (1, ⟨true, n % 65536, fun i => decide ((i : Int) + 1 = far (n % 65536) last) || (decide (far (n % 65536) last ≤ i) && f (i - (far (n % 65536) last).toNat))⟩) := by simp [noteS, hf]
      have hb' := hb.shl hf
      rw [hfin]
      clear hfin
      have HB := Lib.hid hb'; clear hb' hb
      go_enter Try.func24, Try.ntmps24
      go_wp2_with (first | (go_at_call 18; refine (norm_any _ _).mono ?_; rintro e w' ⟨rfl, rfl⟩) | (go_at_call 16; refine (ahead_any _ _ _).mono ?_; rintro e w' ⟨rfl, rfl⟩))
      have hs := fun w => run_shl (P := Try.prog) .u64 v (far (n % 65536) last) w (by omega)
      go_still_tail 12, (by kernel_rfl)
      still_call (bit_q _ _ (by omega) (by omega))
      repeat still_step
      refine wpStill_nil ?_
      change wpList _ _ _ _ _ w.drew
      clear hs
      go_wp2
      go_ret
      exact ⟨rfl, ⟨⟨_, ((Blk.set h 2 _).set 1 _).drew, HB.out⟩, n1, n2⟩, (((Fr.refl _ _).setCell (.inl (by simp)) _).setCell (.inl (by simp)) _).drew⟩
    · by_cases hold : far (n % 65536) last < -64
      · have hfin : noteS ⟨true, last, f⟩ n = (3, ⟨true, last, f⟩) := by simp [noteS, hf, hold]
        rw [hfin]
        clear hfin
        have HB := Lib.hid hb; clear hb
        go_enter Try.func24, Try.ntmps24
        go_wp2_with (first | (go_at_call 18; refine (norm_any _ _).mono ?_; rintro e w' ⟨rfl, rfl⟩) | (go_at_call 16; refine (ahead_any _ _ _).mono ?_; rintro e w' ⟨rfl, rfl⟩))
        go_ret
        exact ⟨rfl, ⟨⟨v, h, HB.out⟩, h1, h2⟩, Fr.refl _ _⟩
      · by_cases hz : far (n % 65536) last = 0
        · have hfin : noteS ⟨true, last, f⟩ n = (2, ⟨true, last, f⟩) := by simp [noteS, hz]
          rw [hfin]
          clear hfin
          have HB := Lib.hid hb; clear hb
          have hz' : (far (n % 65536) last == 0) = true := by simp [hz]
          clear hz
          go_enter Try.func24, Try.ntmps24
          go_wp2_with (first | (go_at_call 18; refine (norm_any _ _).mono ?_; rintro e w' ⟨rfl, rfl⟩) | (go_at_call 16; refine (ahead_any _ _ _).mono ?_; rintro e w' ⟨rfl, rfl⟩))
          go_quiet (fail)
          go_wp2
          go_ret
          exact ⟨rfl, ⟨⟨v, h, HB.out⟩, h1, h2⟩, (Fr.refl _ _).drewN _⟩
        · have hz' : (far (n % 65536) last == 0) = false := by simp [hz]
          have hand := hb.and_bit (k := -(far (n % 65536) last)) (by omega) (by omega)
          by_cases hin : f (-(far (n % 65536) last) - 1).toNat = true
          · have hfin : noteS ⟨true, last, f⟩ n = (2, ⟨true, last, f⟩) := by unfold noteS; rw [if_neg (by simp), if_neg hf, if_neg hold, if_neg hz, if_pos hin]
            rw [hin] at hand
            rw [hfin]
            clear hfin
            have HB := Lib.hid hb; clear hb hz
            go_enter Try.func24, Try.ntmps24
            go_wp2_with (first | (go_at_call 18; refine (norm_any _ _).mono ?_; rintro e w' ⟨rfl, rfl⟩) | (go_at_call 16; refine (ahead_any _ _ _).mono ?_; rintro e w' ⟨rfl, rfl⟩))
            go_quiet ((go_at_call 42; exact Calls.quiet_of_same (bit_q _ _ (by omega) (by omega))))
            go_wp2
            go_ret
            exact ⟨rfl, ⟨⟨v, h, HB.out⟩, h1, h2⟩, (Fr.refl _ _).drewN _⟩
          · have hfin : noteS ⟨true, last, f⟩ n = (1, ⟨true, last, fun i => decide ((i : Int) + 1 = -(far (n % 65536) last)) || f i⟩) := by unfold noteS; rw [if_neg (by simp), if_neg hf, if_neg hold, if_neg hz, if_neg hin]
            have hb' := hb.or_bit (k := -(far (n % 65536) last)) (by omega) (by omega)
            have hin' : f (-(far (n % 65536) last) - 1).toNat = false := by simpa using hin
            rw [hin'] at hand
            rw [hfin]
            clear hfin hin hin'
            have HB := Lib.hid hb'; clear hb' hb hz
            go_enter Try.func24, Try.ntmps24
            go_wp2_with (first | (go_at_call 18; refine (norm_any _ _).mono ?_; rintro e w' ⟨rfl, rfl⟩) | (go_at_call 16; refine (ahead_any _ _ _).mono ?_; rintro e w' ⟨rfl, rfl⟩))
            go_quiet ((go_at_call 42; exact Calls.quiet_of_same (bit_q _ _ (by omega) (by omega))))
            go_wp2
            clear hand c0 c1 c2 f0 f1 f2
            have d2 : (w.drewN nq).cell? ⟨b, 2, none⟩ = some (.int .u64 v) := Blk.cell (i := 2) h rfl
            have e2 : (w.drewN nq).frozen? ⟨b, 2, none⟩ = false := Blk.free h 2
            have h' : Win (w.drewN nq) b true last v := h
            have fr : Fr [b] w (w.drewN nq) := (Fr.refl _ _).drewN _
            clear h
            generalize w.drewN nq = w2 at *
            have hw : IntKind.i64.wrap (-far (n % 65536) last) = -far (n % 65536) last := IntWalk.i64_in _ (by omega)
            go_still_tail 8, (by kernel_rfl)
            still_call (bit_q _ _ (by omega) (by omega))
            repeat still_step
            refine wpStill_nil ?_
            change wpList _ _ _ _ _ w2.drew
            go_wp2
            go_ret
            exact ⟨rfl, ⟨⟨_, (Blk.set h' 2 _).drew, HB.out⟩, h1, h2⟩, (fr.setCell (.inl (by simp)) _).drew⟩
end Go.Proofs.Ytidlpihffolelaa.Wn
