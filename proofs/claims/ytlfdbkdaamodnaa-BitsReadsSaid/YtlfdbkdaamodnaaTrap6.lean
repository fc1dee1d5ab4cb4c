import Derived.Test.YtlfdbkdaamodnaaTrap2
import Derived.Deep.QuietTactic
import Derived.BigQuiet
import Derived.IntWalk
import Derived.Deep.Cut
import Derived.StillTailTactics
namespace Go.Proofs.Ytlfdbkdaamodnaa.Tr
open Go.RowKit Dt Go.Proofs.Ytlfdbkdaamodnaa.Hd
set_option linter.unusedVariables false

theorem must_yes (c a : Int) (w : World) : Calls Try.prog 23 #[.bool true, .int .i64 c, .int .i64 a] w fun e w' => e = .returned (.tuple #[]) ∧ w = w' := by
  go_enter Try.func23, Try.ntmps23
  go_wp2_with fail
  refine bodyPost_end (results_none rfl _ _ _) rfl ?_
  exact ⟨rfl, rfl⟩
theorem must_no (c a : Int) (w : World) : Calls Try.prog 23 #[.bool false, .int .i64 c, .int .i64 a] w fun e w' => e = .panicked [{ v := thrownV c a, recovered := false }] ∧ w = w' := by
  go_enter Try.func23, Try.ntmps23
  go_wp2_with fail
  refine (throw_any _ _ _).mono ?_; rintro e w1 ⟨rfl, rfl⟩
  exact ⟨rfl, rfl, rfl⟩

/-- TrapMusts: is it bad at i? -/
def bad (len : Nat) (f : Nat → Bool) (i : Nat) : Prop := i < len ∧ f i = false
/-- how the function that is handed to Catch ends, and what it has done -/
def MustOut (N len : Nat) (f : Nat → Bool) (z : Nat → Int) (bd : Nat) (o : Out) (w : World) : Prop :=
  (∃ s, s < N ∧ bad len f s ∧ (∀ j, j < s → ¬ bad len f j) ∧ o = .thrown (z s) s [] ∧ Blk w bd #[.int .i64 s] 3) ∨
  ((∀ j, j < N → ¬ bad len f j) ∧ o = .done ∧ Blk w bd #[.int .i64 N] 3)

set_option maxRecDepth 100000 in
set_option maxHeartbeats 1600000 in
theorem musts_body {w : World} {b1 b2 bd N : Nat} {a1 a2 : Option Addr} {len1 cap1 len2 cap2 : Nat} {z : Nat → Int} {f : Nat → Bool} (k1 : Blk w b1 #[.slice a1 len1 cap1] 43) (k2 : Blk w b2 #[.slice a2 len2 cap2] 44) (kd : Blk w bd #[.int .i64 0] 3)
    (s1 : SlI .i64 w a1 len1 cap1 z) (s2 : SlB w a2 len2 cap2 f) (hN : N = min len1 30) (hd1 : b1 ≠ bd) (hd2 : b2 ≠ bd) (hd3 : 0 < len1 → ∀ b, a1.map (·.block) = some b → b ≠ bd) (hd4 : 0 < len2 → ∀ b, a2.map (·.block) = some b → b ≠ bd) :
    Calls Try.prog 36 #[.pointer (some ⟨b1, 0, none⟩), .pointer (some ⟨b2, 0, none⟩), .pointer (some ⟨bd, 0, none⟩)] w
      fun e w1 => ∃ o : Out, o.ok ∧ e = o.asBody ∧ Fr [bd] w w1 ∧ MustOut N len2 f z bd o w1 := by
  have hr1 := s1.1.reach
  have hr2 := s2.reach
  have hl1 := s1.1.le
  have hl2 := s2.le
  have HS1 := Lib.hid s1.1.cells; have HS2 := Lib.hid s2.cells
  clear s1 s2
  have HN := Lib.hid hN; clear hN
  have hN1 : N ≤ len1 := by have := HN.out; omega
  have hN2 : N ≤ 30 := by have := HN.out; omega
  go_enter Try.func36, Try.ntmps36
  go_wp2_with fail
  go_loopw [3] (fun i wr => ∃ j : Nat, j ≤ N ∧ i = .int .i64 j ∧ (∀ k, k < j → ¬ bad len2 f k) ∧ Blk wr bd #[.int .i64 j] 3 ∧ Fr [bd] w wr) (fun i _ => 30 - (intOf i).toNat)
  case atStart => exact ⟨0, by omega, rfl, by omega, kd, Fr.refl _ _⟩
  case round =>
    obtain ⟨j, hj, rfl, hgood, hD, hF⟩ := hrel
    have m1 := hF.blk k1 (by simpa using hd1)
    have m2 := hF.blk k2 (by simpa using hd2)
    have c1 := m1.cell (i := 0) rfl
    have c2 := m2.cell (i := 0) rfl
    have c3 := hD.cell (i := 0) rfl
    have f3 := hD.free 0
    simp at c1 c2 c3
    have HG := Lib.hid hgood; clear hgood
    by_cases hjN : j < N
    · have hj1 : j < len1 := by omega
      have hj2 : j < 30 := by omega
      obtain ⟨b, off, rfl, hlb, hc⟩ := HS1.out (by omega)
      have hcj := (hF.cell (p := ⟨b, off + j, none⟩) hlb (by have := hd3 (by omega) b rfl; simpa using this)).trans (hc j hj1)
      clear hc
      by_cases hj3 : j < len2
      · have hge : decide (len2 ≤ j) = false := by simp; omega
        obtain ⟨b', off', rfl, hlb', hc'⟩ := HS2.out (by omega)
        have hcj' := (hF.cell (p := ⟨b', off' + j, none⟩) hlb' (by have := hd4 (by omega) b' rfl; simpa using this)).trans (hc' j hj3)
        clear hc'
        have g0 : 0 ≤ (j : Int) := by omega
        have g1 : (j : Int) < (len1 : Int) := by omega
        have g2 : (j : Int) < (len2 : Int) := by omega
        have HB := Lib.hid (show f j = true → ¬ bad len2 f j from fun h hb => by have := hb.2; rw [h] at this; cases this)
        have HB' := Lib.hid (show f j = false → bad len2 f j from fun h => ⟨hj3, h⟩)
        obtain ⟨x, hx⟩ : ∃ x, f j = x := ⟨_, rfl⟩
        rw [hx] at hcj' HB HB'
        clear hx
        go_wp2_with fail
        go_still_tail 15, (by kernel_rfl)
        change wpList _ _ _ _ _ wr.drew
        have hD' := hD.drew
        have hF' := hF.drew
        have c3' : wr.drew.cell? ⟨bd, 0, none⟩ = some (.int .i64 j) := c3
        have f3' : wr.drew.frozen? ⟨bd, 0, none⟩ = false := f3
        clear hD hF c1 c2 c3 f3 hcj hcj' m1 m2
        generalize wr.drew = wd at *
        cases x with
        | true =>
          have HBB := Lib.hid (HB.out rfl)
          clear HB HB'
          go_wp2_with fail
          refine (must_yes _ _ _).mono ?_; rintro e w' ⟨rfl, rfl⟩
          go_wp2_with fail
          go_roundw
          case rel =>
            refine ⟨j + 1, by omega, by go_num, ?_, ?_, hF'.setCell (.inl (by simp)) _⟩
            · intro k hk
              rcases Nat.lt_or_ge k j with h | h
              · exact HG.out k h
              · obtain rfl : k = j := by omega
                exact HBB.out
            · have := hD'.set 0 (.int .i64 ((j : Int) + 1))
              have e : ((j : Int) + 1) = ((j + 1 : Nat) : Int) := by omega
              rw [e] at this
              exact this
          case measure => simp [intOf]; omega
        | false =>
          have HBB := Lib.hid (HB'.out rfl)
          clear HB HB'
          go_wp2_with fail
          refine (must_no _ _ _).mono ?_; rintro e w' ⟨rfl, rfl⟩
          exact ⟨rfl, .thrown (z j) j [], rfl, rfl, hF', .inl ⟨j, hjN, HBB.out, HG.out, rfl, hD'⟩⟩
      · have hge : decide (len2 ≤ j) = true := by simp; omega
        have g0 : 0 ≤ (j : Int) := by omega
        have g1 : (j : Int) < (len1 : Int) := by omega
        have HBB := Lib.hid (show ¬ bad len2 f j from fun hb => hj3 hb.1)
        go_wp2_with fail
        go_still_tail 15, (by kernel_rfl)
        change wpList _ _ _ _ _ wr.drew
        have hD' := hD.drew
        have hF' := hF.drew
        have c3' : wr.drew.cell? ⟨bd, 0, none⟩ = some (.int .i64 j) := c3
        have f3' : wr.drew.frozen? ⟨bd, 0, none⟩ = false := f3
        clear hD hF c1 c2 c3 f3 hcj m1 m2
        generalize wr.drew = wd at *
        go_wp2_with fail
        refine (must_yes _ _ _).mono ?_; rintro e w' ⟨rfl, rfl⟩
        go_wp2_with fail
        go_roundw
        case rel =>
          refine ⟨j + 1, by omega, by go_num, ?_, ?_, hF'.setCell (.inl (by simp)) _⟩
          · intro k hk
            rcases Nat.lt_or_ge k j with h | h
            · exact HG.out k h
            · obtain rfl : k = j := by omega
              exact HBB.out
          · have := hD'.set 0 (.int .i64 ((j : Int) + 1))
            have e : ((j : Int) + 1) = ((j + 1 : Nat) : Int) := by omega
            rw [e] at this
            exact this
        case measure => simp [intOf]; omega
    · obtain rfl : j = N := by omega
      by_cases hj1 : j < len1
      · have hj30 : ¬ (j : Int) < 30 := by have := HN.out; omega
        go_wp2_with fail
        (try simp only [Exit.inBlock, Exit.then])
        refine bodyPost_end (results_none rfl _ _ _) rfl ?_
        exact ⟨.done, trivial, rfl, hF, .inr ⟨HG.out, rfl, hD⟩⟩
      · have hj30 : ¬ (j : Int) < (len1 : Int) := by omega
        go_wp2_with fail
        (try simp only [Exit.inBlock, Exit.then])
        refine bodyPost_end (results_none rfl _ _ _) rfl ?_
        exact ⟨.done, trivial, rfl, hF, .inr ⟨HG.out, rfl, hD⟩⟩
end Go.Proofs.Ytlfdbkdaamodnaa.Tr
