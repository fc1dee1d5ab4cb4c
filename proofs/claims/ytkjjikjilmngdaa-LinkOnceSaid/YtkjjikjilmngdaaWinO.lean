import Derived.Test.YtkjjikjilmngdaaWinB
import Derived.Test.YtkjjikjilmngdaaSub
import Derived.Test.YtkjjikjilmngdaaFr
import Derived.Test.YtkjjikjilmngdaaSh
import Derived.StillTailTactics
import Derived.IntWalk
import Derived.Outline
namespace Go.Proofs.Ytkjjikjilmngdaa.Wn
open Go.RowKit Dt Go.Proofs.Ytkjjikjilmngdaa.Sq
set_option linter.unusedVariables false

/-- a window's state: was one noted, the newest one, which of those behind it -/
structure WS where
  any : Bool
  last : Int
  f : Nat → Bool

def noteS (s : WS) (n : Int) : Int × WS :=
  if s.any = false then (1, ⟨true, n % 65536, s.f⟩)
  else if 0 < far (n % 65536) s.last then (1, ⟨true, n % 65536, fun i => decide ((i : Int) + 1 = far (n % 65536) s.last) || (decide (far (n % 65536) s.last ≤ i) && s.f (i - (far (n % 65536) s.last).toNat))⟩)
  else if far (n % 65536) s.last < -64 then (3, s)
  else if far (n % 65536) s.last = 0 then (2, s)
  else if s.f (-(far (n % 65536) s.last) - 1).toNat = true then (2, s)
  else (1, ⟨true, s.last, fun i => decide ((i : Int) + 1 = -(far (n % 65536) s.last)) || s.f i⟩)

/-- from o on a window s stands -/
structure WinS (vs : Array Value) (o : Nat) (s : WS) : Prop where
  ex : ∃ v, Sub vs o [.bool s.any, .int .i64 s.last, .int .u64 v] ∧ Bt v s.f
  lo : 0 ≤ s.last
  hi : s.last < 65536
theorem WinS.out {vs us : Array Value} {o p n : Nat} {s : WS} (h : WinS vs o s) (ho : Out vs us p n) (hd : o + 3 ≤ p ∨ p + n ≤ o) : WinS us o s := by
  obtain ⟨⟨v, h1, h2⟩, h3, h4⟩ := h
  exact ⟨⟨v, h1.out ho hd, h2⟩, h3, h4⟩
theorem winS_of {vs : Array Value} {o : Nat} {any : Bool} {last v : Int} {f : Nat → Bool} (h : Sub vs o [.bool any, .int .i64 last, .int .u64 v]) (hb : Bt v f) (h1 : 0 ≤ last) (h2 : last < 65536) : WinS vs o ⟨any, last, f⟩ := ⟨⟨v, h, hb⟩, h1, h2⟩

set_option maxRecDepth 100000 in
theorem note_at {w : World} {b o : Nat} {T : TypeId} {vs : Array Value} {s : WS} {n : Int} (h : Blk w b vs T) (H : WinS vs o s) :
    Calls Try.prog 44 #[.pointer (some ⟨b, o, none⟩), .int .i64 n] w fun e w' => e = .returned (.int .i64 (noteS s n).1) ∧ (∃ us, Blk w' b us T ∧ WinS us o (noteS s n).2 ∧ Out vs us o 3) ∧ Fr [b] w w' := by
  obtain ⟨any, last, f⟩ := s
  obtain ⟨⟨v, hs0, hb⟩, h1, h2⟩ := H
  simp only at hs0 hb h1 h2
  have c0 := Blk.cell h (hs0.at (i := 0) rfl)
  have c1 := Blk.cell h (hs0.at (i := 1) rfl)
  have c2 := Blk.cell h (hs0.at (i := 2) rfl)
  rw [Nat.add_zero] at c0
  have f0 := Blk.free h o
  have f1 := Blk.free h (o + 1)
  have f2 := Blk.free h (o + 2)
  have n1 : 0 ≤ n % 65536 := by omega
  have n2 : n % 65536 < 65536 := by omega
  have g1 := far_lo (n % 65536) last
  have g2 := far_hi (n % 65536) last
  cases any with
  | false =>
    have hfin : noteS ⟨false, last, f⟩ n = (1, ⟨true, n % 65536, f⟩) := by simp [noteS]
    rw [hfin]
    clear hfin
    have HB := Lib.hid hb; clear hb
    go_enter Try.func44, Try.ntmps44
    go_wp2_with (first | (go_at_call 66; refine (norm_any _ _).mono ?_; rintro e w' ⟨rfl, rfl⟩) | (go_at_call 67; refine (ahead_any _ _ _).mono ?_; rintro e w' ⟨rfl, rfl⟩))
    go_ret
    have g0 := (hs0.set (i := 0) (by simp) (.bool true)).set (i := 1) (by simp) (.int .i64 (n % 65536))
    exact ⟨rfl, ⟨_, ((Blk.set h o _).set (o + 1) _), winS_of g0 HB.out n1 n2, ((Out.refl vs o 3).set (i := 0) (by decide) _).set (i := 1) (by decide) _⟩, ((Fr.refl _ _).setCell (.inl (by simp)) _).setCell (.inl (by simp)) _⟩
  | true =>
    by_cases hf : 0 < far (n % 65536) last
    · have hfin : noteS ⟨true, last, f⟩ n = (1, ⟨true, n % 65536, fun i => decide ((i : Int) + 1 = far (n % 65536) last) || (decide (far (n % 65536) last ≤ i) && f (i - (far (n % 65536) last).toNat))⟩) := by simp [noteS, hf]
      have hb' := hb.shl hf
      rw [hfin]
      clear hfin
      have HB := Lib.hid hb'; clear hb' hb
      go_enter Try.func44, Try.ntmps44
      go_wp2_with (first | (go_at_call 66; refine (norm_any _ _).mono ?_; rintro e w' ⟨rfl, rfl⟩) | (go_at_call 67; refine (ahead_any _ _ _).mono ?_; rintro e w' ⟨rfl, rfl⟩))
      have hs := fun w => run_shl (P := Try.prog) .u64 v (far (n % 65536) last) w (by omega)
      go_still_tail 12, (by kernel_rfl)
      still_call (bit_q _ _ (by omega) (by omega))
      repeat still_step
      refine wpStill_nil ?_
      change wpList _ _ _ _ _ w.drew
      clear hs
      go_wp2
      go_ret
      have g0 := (hs0.set (i := 2) (by simp) (.int .u64 (bits .or .u64 (IntKind.u64.wrap (v * 2 ^ min (far (n % 65536) last).toNat 64)) (bitv (far (n % 65536) last))))).set (i := 1) (by simp) (.int .i64 (n % 65536))
      exact ⟨rfl, ⟨_, ((Blk.set h (o + 2) _).set (o + 1) _).drew, winS_of g0 HB.out n1 n2, ((Out.refl vs o 3).set (i := 2) (by decide) _).set (i := 1) (by decide) _⟩, (((Fr.refl _ _).setCell (.inl (by simp)) _).setCell (.inl (by simp)) _).drew⟩
    · by_cases hold : far (n % 65536) last < -64
      · have hfin : noteS ⟨true, last, f⟩ n = (3, ⟨true, last, f⟩) := by simp [noteS, hf, hold]
        rw [hfin]
        clear hfin
        have HB := Lib.hid hb; clear hb
        go_enter Try.func44, Try.ntmps44
        go_wp2_with (first | (go_at_call 66; refine (norm_any _ _).mono ?_; rintro e w' ⟨rfl, rfl⟩) | (go_at_call 67; refine (ahead_any _ _ _).mono ?_; rintro e w' ⟨rfl, rfl⟩))
        go_ret
        exact ⟨rfl, ⟨_, h, winS_of hs0 HB.out h1 h2, Out.refl _ _ _⟩, Fr.refl _ _⟩
      · by_cases hz : far (n % 65536) last = 0
        · have hfin : noteS ⟨true, last, f⟩ n = (2, ⟨true, last, f⟩) := by simp [noteS, hz]
          rw [hfin]
          clear hfin
          have HB := Lib.hid hb; clear hb
          have hz' : (far (n % 65536) last == 0) = true := by simp [hz]
          clear hz
          go_enter Try.func44, Try.ntmps44
          go_wp2_with (first | (go_at_call 66; refine (norm_any _ _).mono ?_; rintro e w' ⟨rfl, rfl⟩) | (go_at_call 67; refine (ahead_any _ _ _).mono ?_; rintro e w' ⟨rfl, rfl⟩))
          go_quiet (fail)
          go_wp2
          go_ret
          exact ⟨rfl, ⟨_, h.drewN _, winS_of hs0 HB.out h1 h2, Out.refl _ _ _⟩, (Fr.refl _ _).drewN _⟩
        · have hz' : (far (n % 65536) last == 0) = false := by simp [hz]
          have hand := hb.and_bit (k := -(far (n % 65536) last)) (by omega) (by omega)
          by_cases hin : f (-(far (n % 65536) last) - 1).toNat = true
          · have hfin : noteS ⟨true, last, f⟩ n = (2, ⟨true, last, f⟩) := by unfold noteS; rw [if_neg (by simp), if_neg hf, if_neg hold, if_neg hz, if_pos hin]
            rw [hin] at hand
            rw [hfin]
            clear hfin
            have HB := Lib.hid hb; clear hb hz
            go_enter Try.func44, Try.ntmps44
            go_wp2_with (first | (go_at_call 66; refine (norm_any _ _).mono ?_; rintro e w' ⟨rfl, rfl⟩) | (go_at_call 67; refine (ahead_any _ _ _).mono ?_; rintro e w' ⟨rfl, rfl⟩))
            go_quiet ((go_at_call 68; exact Calls.quiet_of_same (bit_q _ _ (by omega) (by omega))))
            go_wp2
            go_ret
            exact ⟨rfl, ⟨_, h.drewN _, winS_of hs0 HB.out h1 h2, Out.refl _ _ _⟩, (Fr.refl _ _).drewN _⟩
          · have hfin : noteS ⟨true, last, f⟩ n = (1, ⟨true, last, fun i => decide ((i : Int) + 1 = -(far (n % 65536) last)) || f i⟩) := by unfold noteS; rw [if_neg (by simp), if_neg hf, if_neg hold, if_neg hz, if_neg hin]
            have hb' := hb.or_bit (k := -(far (n % 65536) last)) (by omega) (by omega)
            have hin' : f (-(far (n % 65536) last) - 1).toNat = false := by simpa using hin
            rw [hin'] at hand
            rw [hfin]
            clear hfin hin hin'
            have HB := Lib.hid hb'; clear hb' hb hz
            go_enter Try.func44, Try.ntmps44
            go_wp2_with (first | (go_at_call 66; refine (norm_any _ _).mono ?_; rintro e w' ⟨rfl, rfl⟩) | (go_at_call 67; refine (ahead_any _ _ _).mono ?_; rintro e w' ⟨rfl, rfl⟩))
            go_quiet ((go_at_call 68; exact Calls.quiet_of_same (bit_q _ _ (by omega) (by omega))))
            go_wp2
            clear hand c0 c1 c2 f0 f1 f2
            have d2 : (w.drewN nq).cell? ⟨b, o + 2, none⟩ = some (.int .u64 v) := Blk.cell h (hs0.at (i := 2) rfl)
            have e2 : (w.drewN nq).frozen? ⟨b, o + 2, none⟩ = false := Blk.free h (o + 2)
            have h' : Blk (w.drewN nq) b vs T := h
            have fr : Fr [b] w (w.drewN nq) := (Fr.refl _ _).drewN _
            clear h
            generalize w.drewN nq = w2 at *
            have hw : IntKind.i64.wrap (-far (n % 65536) last) = -far (n % 65536) last := IntWalk.i64_in _ (by omega)
            go_still_tail 8, (by kernel_rfl)
            still_call (bit_q _ _ (by omega) (by omega))
            repeat still_step
            refine wpStill_nil ?_
            change wpList _ _ _ _ _ w2.drew
            go_wp2
            go_ret
            have g0 := hs0.set (i := 2) (by simp) (.int .u64 (bits .or .u64 v (bitv (-far (n % 65536) last))))
            exact ⟨rfl, ⟨_, (Blk.set h' (o + 2) _).drew, winS_of g0 HB.out h1 h2, (Out.refl vs o 3).set (i := 2) (by decide) _⟩, (fr.setCell (.inl (by simp)) _).drew⟩
theorem wany_at {w : World} {b o : Nat} {T : TypeId} {vs : Array Value} {s : WS} (h : Blk w b vs T) (H : WinS vs o s) :
    Calls Try.prog 38 #[.pointer (some ⟨b, o, none⟩)] w fun e w' => e = .returned (.bool s.any) ∧ w = w' := by
  obtain ⟨⟨v, hs0, hb⟩, h1, h2⟩ := H
  have c0 := Blk.cell h (hs0.at (i := 0) rfl)
  rw [Nat.add_zero] at c0
  clear hb hs0
  go_enter Try.func38, Try.ntmps38
  go_wp2
  go_ret
  exact ⟨rfl, rfl⟩
theorem wlast_at {w : World} {b o : Nat} {T : TypeId} {vs : Array Value} {s : WS} (h : Blk w b vs T) (H : WinS vs o s) :
    Calls Try.prog 39 #[.pointer (some ⟨b, o, none⟩)] w fun e w' => e = .returned (.int .i64 s.last) ∧ w = w' := by
  obtain ⟨⟨v, hs0, hb⟩, h1, h2⟩ := H
  have c0 := Blk.cell h (hs0.at (i := 1) rfl)
  clear hb hs0
  go_enter Try.func39, Try.ntmps39
  go_wp2
  go_ret
  exact ⟨rfl, rfl⟩
theorem wbits_at {w : World} {b o : Nat} {T : TypeId} {vs : Array Value} {s : WS} {v : Int} (h : Blk w b vs T) (H : Sub vs o [.bool s.any, .int .i64 s.last, .int .u64 v]) :
    Calls Try.prog 40 #[.pointer (some ⟨b, o, none⟩)] w fun e w' => e = .returned (.int .u64 v) ∧ w = w' := by
  have c0 := Blk.cell h (H.at (i := 2) rfl)
  clear H
  go_enter Try.func40, Try.ntmps40
  go_wp2
  go_ret
  exact ⟨rfl, rfl⟩
def s0 : WS := ⟨false, 0, fun _ => false⟩
theorem bt_zero : Bt 0 (fun _ => false) := ⟨0, rfl, by decide, fun k _ => by simp⟩
end Go.Proofs.Ytkjjikjilmngdaa.Wn
