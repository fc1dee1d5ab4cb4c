/- chapter 24: the stable sort of flights, however many. -/
import Derived.Test.YtkjjikjilmngdaaNt6
namespace Go.Proofs.Ytkjjikjilmngdaa.Nt
open Go.RowKit Dt Go.Proofs.Ytkjjikjilmngdaa.Hd
set_option linter.unusedVariables false
set_option linter.unusedSimpArgs false

/-- from lo to hi all is in order, and from there alone -/
def Good (k : Nat → Int) (P : Nat → Nat) (lo hi : Nat) : Prop := SrtF k P lo hi ∧ ∀ t, lo ≤ t → t < hi → lo ≤ P t ∧ P t < hi
/-- from lo to hi tiles of length z, each good, the last one maybe shorter -/
def Tl (k : Nat → Int) (P : Nat → Nat) (z lo hi : Nat) : Prop := ∀ q, lo + q * z < hi → Good k P (lo + q * z) (min (lo + (q + 1) * z) hi)
section
variable {k : Nat → Int} {P Q : Nat → Nat} {z lo hi a b j : Nat}
theorem Good.congr (h : Good k P lo hi) (e : ∀ t, lo ≤ t → t < hi → Q t = P t) : Good k Q lo hi := ⟨h.1.congr e, fun t h1 h2 => by rw [e t h1 h2]; exact h.2 t h1 h2⟩
theorem Tl.head (h : Tl k P z lo hi) (hl : lo < hi) : Good k P lo (min (lo + z) hi) := by
  have := h 0 (by simpa using hl)
  simpa using this
theorem Tl.tail (h : Tl k P z lo hi) : Tl k P z (lo + z) hi := fun q hq => by
  have e : lo + z + q * z = lo + (q + 1) * z := by rw [Nat.succ_mul]; omega
  have e2 : lo + z + (q + 1) * z = lo + (q + 1 + 1) * z := by rw [Nat.succ_mul (q + 1)]; omega
  rw [e] at hq ⊢
  rw [e2]
  exact h (q + 1) hq
theorem Tl.congr (h : Tl k P z lo hi) (e : ∀ t, lo ≤ t → t < hi → Q t = P t) : Tl k Q z lo hi := fun q hq => (h q hq).congr (fun t h1 h2 => e t (by omega) (by omega))
theorem Tl.nil (k : Nat → Int) (P : Nat → Nat) (z : Nat) (h : hi ≤ lo) : Tl k P z lo hi := fun q hq => by omega
theorem Tl.snoc (h : Tl k P z 0 a) (ha : a = j * z) (hg : Good k P a b) (hab : a < b) (hb : b ≤ a + z) : Tl k P z 0 b := fun q hq => by
  rw [Nat.zero_add] at hq ⊢
  rw [Nat.zero_add]
  rcases Nat.lt_trichotomy q j with h1 | h1 | h1
  · have h2 : (q + 1) * z ≤ j * z := Nat.mul_le_mul_right _ h1
    have h3 : 0 < z := by omega
    have h4 : q * z < (q + 1) * z := by rw [Nat.succ_mul]; omega
    have := h q (by omega)
    rw [Nat.zero_add, Nat.zero_add] at this
    rw [show min ((q + 1) * z) b = min ((q + 1) * z) a by omega]
    exact this
  · subst h1
    rw [← ha, Nat.succ_mul, ← ha, show min (a + z) b = b by omega]
    exact hg
  · have h2 : (j + 1) * z ≤ q * z := Nat.mul_le_mul_right _ h1
    rw [Nat.succ_mul] at h2
    omega
theorem Good.low {m : Nat} (h1 : Good k P a m) (h2 : Good k P m b) : LowF P a m b := fun s t g1 g2 g3 g4 => by
  have := (h1.2 s g1 g2).2; have := (h2.2 t g3 g4).1; omega
theorem Good.of {m : Nat} (h1 : Good k P a m) (h2 : Good k P m b) (ham : a ≤ m) (hmb : m ≤ b) (hs : Shf a b P Q) (ht : SrtF k Q a b) : Good k Q a b := ⟨ht, fun t g1 g2 => by
  obtain ⟨u, k1, k2, e⟩ := hs.at g1 g2
  rw [e]
  by_cases c : u < m
  · have := h1.2 u k1 c; omega
  · have := h2.2 u (by omega) k2; omega⟩
end
/-- the places as they were -/
abbrev idn : Nat → Nat := fun t => t
/-- what the sort does -/
def StabP (w : World) (g N : Nat) (F : Nat → FgV) (e : Ending) (w' : World) : Prop :=
  e = .returned (.tuple #[]) ∧ (∃ Q, FR w' g (fun t => F (Q t)) N ∧ Shf 0 N idn Q ∧ SrtF (fun t => (F t).due) Q 0 N) ∧ Fr [g] w w'
set_option maxRecDepth 100000 in
set_option maxHeartbeats 12800000 in
theorem stable_any {w : World} {g N cap : Nat} {F : Nat → FgV} (h : FR w g F N) (h1 : 1 ≤ N) (hN : N ≤ 1000000) :
    Calls Try.prog 76 #[.slice (some ⟨g, 0, none⟩) N cap, .int .i64 N, cmpF] w (StabP w g N F) := by
  have HR := Lib.hid h
  clear h
  go_enter Try.func76, Try.ntmps76
  go_wp2_with fail
  go_loopw [7, 8] (fun av bv wr => ∃ (a b j : Nat) (Q : Nat → Nat), a = j * 20 ∧ b = a + 20 ∧ a ≤ N ∧ av = .int .i64 a ∧ bv = .int .i64 b ∧ FR wr g (fun t => F (Q t)) N ∧ Shf 0 N idn Q ∧ Tl (fun t => (F t).due) Q 20 0 a ∧ (∀ t, a ≤ t → Q t = t) ∧ Fr [g] w wr) (fun av _ _ => N - (intOf av).toNat)
  case atStart => exact ⟨0, 20, 0, idn, rfl, rfl, by omega, rfl, rfl, HR.out, Shf.refl _ _ _, Tl.nil _ _ _ (Nat.le_refl _), fun t _ => rfl, Fr.refl _ _⟩
  case round =>
    obtain ⟨a, b, j, Q, ha, hb, haN, rfl, rfl, hr, hs, ht, hq, hF⟩ := hrel
    have HRW := Lib.hid hr; have HS := Lib.hid hs; have HT := Lib.hid ht; have HF := Lib.hid hF; have HQ := Lib.hid hq; have HA := Lib.hid ha; have HBB := Lib.hid hb
    have hb2 : b ≤ 2000000 := by omega
    clear hr hs ht hF hq ha
    by_cases hlt : b ≤ N
    · have q1 : (b : Int) ≤ N := by omega
      have hab : a < b := by omega
      clear hb
      go_wp2_with fail
      refine (ins_any HRW.out hab hlt hN (fun t h1 h2 => HQ.out t h1)).mono ?_; rintro e w2 ⟨rfl, ⟨R, hr, hs, ht⟩, hf⟩
      have HRW2 := Lib.hid hr; have HS2 := Lib.hid hs; have HT2 := Lib.hid ht; have HF2 := Lib.hid (HF.out.trans hf (fun x hx => .inl hx))
      clear hr hs ht hf
      go_wp2_with fail
      go_roundw
      case rel =>
        have hb := HBB.out; have ha := HA.out
        have hg : Good (fun t => (F t).due) R a b := ⟨HT2.out, fun t g1 g2 => by
          obtain ⟨u, k1, k2, e⟩ := HS2.out.at g1 g2
          rw [e, HQ.out u k1]; exact ⟨k1, k2⟩⟩
        refine ⟨b, b + 20, j + 1, R, by omega, rfl, hlt, rfl, by go_num, HRW2.out, HS.out.trans (HS2.out.mono (by omega) hlt), (HT.out.congr (fun t _ h => HS2.out.out (.inl h))).snoc ha hg hab (by omega), fun t h => ?_, HF2.out⟩
        rw [HS2.out.out (.inr h)]; exact HQ.out t (by omega)
      case measure => simp [intOf]; omega
    · have q1 : decide ((b : Int) ≤ N) = false := decide_eq_false (by omega)
      clear hb
      have hins : Calls Try.prog 80 #[.slice (some ⟨g, 0, none⟩) N cap, .int .i64 a, .int .i64 N, cmpF] wr (fun e w2 => e = .returned (.tuple #[]) ∧ (∃ R, FR w2 g (fun t => F (R t)) N ∧ Shf 0 N idn R ∧ Tl (fun t => (F t).due) R 20 0 N) ∧ Fr [g] w w2) := by
        have hb := HBB.out; have ha := HA.out
        rcases Nat.lt_or_ge a N with hc | hc
        · refine (ins_any HRW.out hc (Nat.le_refl _) hN (fun t h1 h2 => HQ.out t h1)).mono ?_; rintro e w2 ⟨rfl, ⟨R, hr, hs, ht⟩, hf⟩
          have hg : Good (fun t => (F t).due) R a N := ⟨ht, fun t g1 g2 => by
            obtain ⟨u, k1, k2, e⟩ := hs.at g1 g2
            rw [e, HQ.out u k1]; exact ⟨k1, k2⟩⟩
          exact ⟨rfl, ⟨R, hr, HS.out.trans (hs.mono (by omega) (Nat.le_refl _)), (HT.out.congr (fun t _ h => hs.out (.inl h))).snoc ha hg hc (by omega)⟩, HF.out.trans hf (fun x hx => .inl hx)⟩
        · have : a = N := by omega
          refine (ins_none (a := (a : Int)) (n := (N : Int)) (by omega) (by omega) (by omega)).mono ?_; rintro e w2 ⟨rfl, rfl⟩
          exact ⟨rfl, ⟨Q, HRW.out, HS.out, by rw [← this]; exact HT.out⟩, HF.out⟩
      have HINS := Lib.hid hins
      clear hins
      go_wp2_with fail
      refine HINS.out.mono ?_; rintro e w2 ⟨rfl, ⟨R, hr, hs, ht⟩, hf⟩
      have HRW2 := Lib.hid hr; have HS2 := Lib.hid hs; have HT2 := Lib.hid ht; have HF2 := Lib.hid hf
      clear hr hs ht hf HINS HRW HS HT HF HQ HA HBB
      clear haN hlt q1
      go_wp2_with fail
      go_loopw [6, 7, 8, 9] (fun zv _ _ _ wr => ∃ (z : Nat) (R : Nat → Nat), 20 ≤ z ∧ z ≤ 2000000 ∧ zv = .int .i64 z ∧ FR wr g (fun t => F (R t)) N ∧ Shf 0 N idn R ∧ Tl (fun t => (F t).due) R z 0 N ∧ Fr [g] w wr) (fun zv _ _ _ _ => N - (intOf zv).toNat)
      case atStart => exact ⟨20, R, by omega, by omega, rfl, HRW2.out, HS2.out, HT2.out, HF2.out⟩
      case round =>
        obtain ⟨z, R1, hz, hz2, rfl, hr, hs, ht, hF⟩ := hrel
        clear HRW2 HS2 HT2 HF2
        have HRW := Lib.hid hr; have HS := Lib.hid hs; have HT := Lib.hid ht; have HF := Lib.hid hF
        clear hr hs ht hF
        by_cases hlt : z < N
        · have q1 : (z : Int) < N := by omega
          go_wp2_with fail
          go_loopw [7, 8] (fun av bv wr => ∃ (a b j : Nat) (Q : Nat → Nat), a = j * (2 * z) ∧ b = a + 2 * z ∧ a ≤ N ∧ av = .int .i64 a ∧ bv = .int .i64 b ∧ FR wr g (fun t => F (Q t)) N ∧ Shf 0 N idn Q ∧ Tl (fun t => (F t).due) Q (2 * z) 0 a ∧ Tl (fun t => (F t).due) Q z a N ∧ Fr [g] w wr) (fun av _ _ => N - (intOf av).toNat)
          case atStart => exact ⟨0, 2 * z, 0, R1, by simp, by omega, by omega, rfl, by go_num, HRW.out, HS.out, Tl.nil _ _ _ (Nat.le_refl _), HT.out, HF.out⟩
          case round =>
            obtain ⟨a, b, j, Q, ha, hb, haN, rfl, rfl, hr, hs, ht, ht2, hF⟩ := hrel
            clear HRW HS HT HF
            have HRW := Lib.hid hr; have HS := Lib.hid hs; have HT := Lib.hid ht; have HF := Lib.hid hF; have HU := Lib.hid ht2; have HA := Lib.hid ha; have HBB := Lib.hid hb
            have hb2 : b ≤ 6000000 := by omega
            clear hr hs ht ht2 hF ha
            by_cases hlb : b ≤ N
            · have q2 : (b : Int) ≤ N := by omega
              have hab : a + z < b := by omega
              obtain ⟨az, haz⟩ : ∃ az, a + z = az := ⟨_, rfl⟩
              have e1 : (a : Int) + z = (az : Int) := by omega
              have e2 : IntKind.i64.wrap (az : Int) = (az : Int) := IntWalk.i64_in _ (by omega)
              have HAZ := Lib.hid haz
              clear hb haz
              go_wp2_with fail
              have hb := HBB.out; have haz := HAZ.out
              have g1 := HU.out.head (by omega)
              rw [show min (a + z) N = az by omega] at g1
              have g2 := HU.out.tail.head (by omega)
              rw [show min (a + z + z) N = b by omega, haz] at g2
              have G1 := Lib.hid g1; have G2 := Lib.hid g2
              clear g1 g2 hb haz
              refine (sym_any _ (Nat.le_refl _) (a := a) (m := az) (b := b) (by have := HAZ.out; omega) (by have := HAZ.out; omega) hlb hN HRW.out G1.out.1 G2.out.1 (G1.out.low G2.out)).mono ?_; rintro e w3 ⟨rfl, ⟨R3, hr, hs, ht⟩, hf⟩
              have HRW2 := Lib.hid hr; have HS2 := Lib.hid hs; have HT2 := Lib.hid ht; have HF2 := Lib.hid (HF.out.trans hf (fun x hx => .inl hx))
              clear hr hs ht hf e1 e2
              go_wp2_with fail
              go_roundw
              case rel =>
                have hb := HBB.out; have ha := HA.out; have haz := HAZ.out
                have hg := G1.out.of G2.out (by omega) (by omega) HS2.out HT2.out
                refine ⟨b, b + 2 * z, j + 1, R3, by rw [Nat.succ_mul]; omega, rfl, hlb, rfl, by go_num, HRW2.out, HS.out.trans (HS2.out.mono (by omega) hlb), (HT.out.congr (fun t _ h => HS2.out.out (.inl h))).snoc ha hg (by omega) (by omega), ?_, HF2.out⟩
                have h2 := HU.out.tail.tail
                rw [show a + z + z = b by omega] at h2
                exact h2.congr (fun t h _ => HS2.out.out (.inr h))
              case measure => simp [intOf]; omega
            · have q2 : decide ((b : Int) ≤ N) = false := decide_eq_false (by omega)
              obtain ⟨az, haz⟩ : ∃ az, a + z = az := ⟨_, rfl⟩
              have e1 : (a : Int) + z = (az : Int) := by omega
              have e2 : IntKind.i64.wrap (az : Int) = (az : Int) := IntWalk.i64_in _ (by omega)
              have HAZ := Lib.hid haz
              by_cases hm : az < N
              · have q3 : (az : Int) < N := by omega
                clear hb haz
                go_wp2_with fail
                have hb := HBB.out; have haz := HAZ.out
                have g1 := HU.out.head (by omega)
                rw [show min (a + z) N = az by omega] at g1
                have g2 := HU.out.tail.head (by omega)
                rw [show min (a + z + z) N = N by omega, haz] at g2
                have G1 := Lib.hid g1; have G2 := Lib.hid g2
                clear g1 g2 hb haz
                refine (sym_any _ (Nat.le_refl _) (a := a) (m := az) (b := N) (by have := HAZ.out; omega) hm (Nat.le_refl _) hN HRW.out G1.out.1 G2.out.1 (G1.out.low G2.out)).mono ?_; rintro e w3 ⟨rfl, ⟨R3, hr, hs, ht⟩, hf⟩
                have HRW2 := Lib.hid hr; have HS2 := Lib.hid hs; have HT2 := Lib.hid ht; have HF2 := Lib.hid (HF.out.trans hf (fun x hx => .inl hx))
                clear hr hs ht hf e1 e2
                go_wp2_with fail
                go_roundw
                case rel =>
                  have hb := HBB.out; have ha := HA.out; have haz := HAZ.out
                  have hg := G1.out.of G2.out (by omega) (by omega) HS2.out HT2.out
                  exact ⟨2 * z, R3, by omega, by omega, by go_num, HRW2.out, HS.out.trans (HS2.out.mono (by omega) (Nat.le_refl _)), (HT.out.congr (fun t _ h => HS2.out.out (.inl h))).snoc ha hg (by omega) (by omega), HF2.out⟩
                case measure => simp [intOf]; omega
              · have q3 : decide ((az : Int) < N) = false := decide_eq_false (by omega)
                clear hb haz
                go_wp2_with fail
                go_roundw
                case rel =>
                  have hb := HBB.out; have ha := HA.out; have haz := HAZ.out
                  refine ⟨2 * z, Q, by omega, by omega, by go_num, HRW.out, HS.out, ?_, HF.out⟩
                  rcases Nat.lt_or_ge a N with hc | hc
                  · have g1 := HU.out.head hc
                    rw [show min (a + z) N = N by omega] at g1
                    exact HT.out.snoc ha g1 hc (by omega)
                  · have : a = N := by omega
                    rw [← this]; exact HT.out
                case measure => simp [intOf]; omega
        · have q1 : decide ((z : Int) < N) = false := decide_eq_false (by omega)
          go_wp2_with fail
          go_end0
          have hg := HT.out.head (by omega)
          rw [show min (0 + z) N = N by omega] at hg
          exact ⟨rfl, ⟨R1, HRW.out, HS.out, hg.1⟩, HF.out⟩
theorem sort_any {w : World} {g N cap : Nat} {F : Nat → FgV} (h : FR w g F N) (h1 : 1 ≤ N) (hN : N ≤ 1000000) :
    Calls Try.prog 62 #[.slice (some ⟨g, 0, none⟩) N cap, cmpF] w (StabP w g N F) := by
  go_enter Try.func62, Try.ntmps62
  go_wp2_with fail
  refine (stable_any h h1 hN).mono ?_; rintro e w' ⟨rfl, hX, hF⟩
  go_wp2_with fail
  go_end0
  exact ⟨rfl, hX, hF⟩
theorem stable_none {w : World} {f : Value} {a : Option Addr} {c : Nat} :
    Calls Try.prog 76 #[.slice a 0 c, .int .i64 0, f] w fun e w' => e = .returned (.tuple #[]) ∧ w = w' := by
  go_enter Try.func76, Try.ntmps76
  go_wp2_with fail
  go_loopw [7, 8] (fun av bv wr => av = .int .i64 0 ∧ bv = .int .i64 20 ∧ w = wr) (fun _ _ _ => 0)
  case atStart => exact ⟨rfl, rfl, rfl⟩
  case round =>
    obtain ⟨rfl, rfl, rfl⟩ := hrel
    go_wp2_with fail
    refine (ins_none (a := 0) (by omega) (by omega) (by omega)).mono ?_; rintro e w' ⟨rfl, rfl⟩
    go_wp2_with fail
    go_loopw [6] (fun sv wq => sv = .int .i64 20 ∧ w = wq) (fun _ _ => 0)
    case atStart => exact ⟨rfl, rfl⟩
    case round =>
      obtain ⟨rfl, rfl⟩ := hrel
      go_wp2_with fail
      go_end0
      exact ⟨rfl, rfl⟩
theorem sort0_any {w : World} {f : Value} {a : Option Addr} {c : Nat} : Calls Try.prog 62 #[.slice a 0 c, f] w fun e w' => e = .returned (.tuple #[]) ∧ w = w' := by
  go_enter Try.func62, Try.ntmps62
  go_wp2_with fail
  refine stable_none.mono ?_; rintro e w' ⟨rfl, rfl⟩
  go_wp2_with fail
  go_end0
  exact ⟨rfl, rfl⟩
end Go.Proofs.Ytkjjikjilmngdaa.Nt
