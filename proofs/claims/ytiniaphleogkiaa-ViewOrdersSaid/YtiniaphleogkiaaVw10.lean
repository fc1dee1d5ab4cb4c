import Derived.Test.YtiniaphleogkiaaVw9
import Derived.Deep.Cut
namespace Go.Proofs.Ytiniaphleogkiaa.Vw
open Go.RowKit Dt Go.Proofs.Ytiniaphleogkiaa.Hd Go.Proofs.Ytiniaphleogkiaa.Ma Ieee
set_option linter.unusedVariables false
set_option linter.unusedSimpArgs false

/-- a block that holds n marks -/
def RowB (w : World) (g : Nat) (F : Nat → Bool) (n : Nat) : Prop := ∃ cur, Blk w g cur 4 ∧ n ≤ cur.size ∧ ∀ t, t < n → cur[t]? = some (.bool (F t))
theorem RowB.cell {w : World} {g n t : Nat} {F : Nat → Bool} (h : RowB w g F n) (ht : t < n) : w.cell? ⟨g, t, none⟩ = some (.bool (F t)) := by
  obtain ⟨cur, h1, h2, h3⟩ := h
  exact h1.cell (h3 t ht)
theorem RowB.free {w : World} {g n : Nat} {F : Nat → Bool} (h : RowB w g F n) (t : Nat) : w.frozen? ⟨g, t, none⟩ = false := by
  obtain ⟨cur, h1, h2, h3⟩ := h
  exact h1.free t
theorem RowB.set {w : World} {g n i : Nat} {F : Nat → Bool} (h : RowB w g F n) (hi : i < n) (v : Bool) : RowB (w.setCell ⟨g, i, none⟩ (.bool v)) g (fun t => if t = i then v else F t) n := by
  obtain ⟨cur, h1, h2, h3⟩ := h
  refine ⟨_, h1.set i _, by simpa using h2, fun t ht => ?_⟩
  by_cases e : t = i
  · subst e
    dsimp only
    rw [if_pos rfl, Array.getElem?_setIfInBounds_self_of_lt (by omega)]
  · dsimp only
    rw [if_neg e, Array.getElem?_setIfInBounds_ne (fun h => e h.symm)]
    exact h3 t ht
theorem RowB.congr {w : World} {g n : Nat} {F G : Nat → Bool} (h : RowB w g F n) (e : ∀ t, t < n → G t = F t) : RowB w g G n := by
  obtain ⟨cur, h1, h2, h3⟩ := h
  exact ⟨cur, h1, h2, fun t ht => by rw [e t ht]; exact h3 t ht⟩
theorem RowB.drewN {w : World} {g n : Nat} {F : Nat → Bool} (h : RowB w g F n) (k : Nat) : RowB (w.drewN k) g F n := h
theorem rowb_new (w : World) (n : Nat) : RowB (w.alloc (.cells (madeCells #[.bool false] n) 4)) w.heap.size (fun _ => false) n := by
  refine ⟨_, Blk.new w _ _, by rw [size_madeCells]; exact Nat.le_refl _, fun t ht => ?_⟩
  rw [← Array.getElem?_toList, toList_madeCells_one, List.getElem?_replicate, if_pos ht]
def hadF (X : Nat → Nat) (i t : Nat) : Bool := (List.range i).any fun s => X s == t
theorem hadF_succ (X : Nat → Nat) (i t : Nat) : hadF X (i + 1) t = (hadF X i t || X i == t) := by
  unfold hadF; rw [List.range_succ, List.any_append]; simp
theorem hadF_new {r : Nat → Int} {n i : Nat} {X : Nat → Nat} (h : OrdF r n X) (hi : i < n) : hadF X i (X i) = false := by
  unfold hadF
  rw [List.any_eq_false]
  intro s hs
  have hs' : s < i := List.mem_range.1 hs
  have := h.srt s i hs' hi
  unfold bef at this
  intro e
  have e' : X s = X i := by simpa using e
  rw [e'] at this
  omega
theorem infB' : (Try.prog.info? 4).map (fun i => (i.zero, i.size, i.bytes)) = some (some (.bool false), 1, 1) := by kernel_rfl
set_option maxRecDepth 100000 in
set_option maxHeartbeats 3200000 in
theorem walk_vorders (a0 : Option Addr) (len0 cap0 : Nat) (z0 : Nat → Int) (a1 : Option Addr) (len1 cap1 : Nat) (z1 : Nat → Nat) (W : World) (s0 : SlI .i64 W a0 len0 cap0 z0) (s1 : SlF W a1 len1 cap1 z1) :
    Calls Try.prog 12 #[.slice a0 len0 cap0, .slice a1 len1 cap1] W fun e w' => e = .returned (.bool true) ∧ Below W.heap.size W w' := by
  obtain ⟨D, hD, hfl⟩ := floats_det z0 z1 len1 (fun t ht => by have := s1.2 t ht; exact wf64 this)
  have hf := hfl W a0 len0 cap0 a1 cap1 s0 s1
  clear hfl s0 s1
  obtain ⟨n, hn⟩ : ∃ n, min len0 20 = n := ⟨_, rfl⟩
  rw [hn] at hf
  have hn20 : n ≤ 20 := by omega
  clear hn
  go_enter Try.func12, Try.ntmps12
  go_wp2_with fail
  refine hf.mono ?_; rintro e w1 ⟨v, rfl, hS, hF⟩
  obtain ⟨a, cap, rfl, hcs⟩ := hS
  go_wp2_with fail
  refine (order_any (d := D) (fun h => by obtain ⟨b, off, e, -, h2, h3⟩ := hcs h; exact ⟨b, off, e, h2, h3⟩) (fun t _ => hD t) hn20).mono ?_
  rintro e w2 ⟨v, X, rfl, hO, ⟨a', cap', rfl, hcs'⟩, hF2⟩
  go_wp2_with fail
  refine (vknown_any _).mono ?_; rintro e w3 ⟨rfl, hF3⟩
  obtain ⟨i0, hi0, hz0, hz1, hz2⟩ := info_parts infB'
  have hmk : ∀ w : World, (Instr.makeSlice 47 (.int .i64 (n : Int)) (.int .i64 (n : Int))).run Try.prog w = .ok (.slice (some ⟨w.heap.size, 0, none⟩) n n) (w.alloc (.cells (madeCells #[.bool false] n) 4)) := fun w => by
    have h := run_makeSlice (P := Try.prog) w 47 4 i0 (.bool false) Try.underlying47 hi0 hz0 .i64 .i64 (n : Int) (n : Int) (by omega) (Int.le_refl _) (by rw [hz1]; omega) (by rw [hz2]; omega) (by omega)
    rw [h, hz1, Int.toNat_natCast, Nat.mul_one]; rfl
  have hF4 := ((hF.trans hF2 (by simp)).trans hF3 (by simp)).alloc (.cells (madeCells #[.bool false] n) 4)
  have hD4 : ∀ {S : World}, Fr [] w3 S → 0 < n → ∃ b off, a = some ⟨b, off, none⟩ ∧ b < w3.heap.size ∧ ∀ t, t < n → S.cell? ⟨b, off + t, none⟩ = some (.float .f64 (D t)) := fun {S} hS h => by
    obtain ⟨b, off, e, h1, h2, h3⟩ := hcs h
    have h13 := hF2.trans hF3 (by simp)
    exact ⟨b, off, e, Nat.lt_of_lt_of_le h2 h13.size, fun t ht => ((h13.trans hS (by simp)).cell (p := ⟨b, off + t, none⟩) h2 (by simp)).trans (h3 t ht)⟩
  have hX4 : ∀ {S : World}, Fr [] w3 S → 0 < n → ∃ b off, a' = some ⟨b, off, none⟩ ∧ b < w3.heap.size ∧ ∀ t, t < n → S.cell? ⟨b, off + t, none⟩ = some (.int .i64 (X t)) := fun {S} hS h => by
    obtain ⟨b, off, e, h1, h2, h3⟩ := hcs' h
    exact ⟨b, off, e, Nat.lt_of_lt_of_le h2 hF3.size, fun t ht => ((hF3.trans hS (by simp)).cell (p := ⟨b, off + t, none⟩) h2 (by simp)).trans (h3 t ht)⟩
  have hd4 := hD4 ((Fr.refl [] w3).alloc (.cells (madeCells #[.bool false] n) 4))
  have hx4 := hX4 ((Fr.refl [] w3).alloc (.cells (madeCells #[.bool false] n) 4))
  have hrb := rowb_new w3 n
  have HO := Lib.hid hO
  have hWG : W.heap.size ≤ w3.heap.size := Nat.le_trans hF.size (Nat.le_trans hF2.size hF3.size)
  clear hD4 hX4 hcs hcs' hF hF2 hF3 hf hO
  go_wp2_with fail
  obtain ⟨G, hG⟩ : ∃ G, G = w3.heap.size := ⟨_, rfl⟩
  rw [← hG] at hd4 hx4 hrb hWG ⊢
  generalize w3.alloc (.cells (madeCells #[.bool false] n) 4) = w4 at *
  clear hG hmk
  have Hd := Lib.hid hd4; have Hx := Lib.hid hx4; have HF4 := Lib.hid hF4; have Hrb := Lib.hid hrb
  clear hd4 hx4 hF4 hrb
  go_loopw [29] (fun iv wr => ∃ i : Nat, i ≤ n ∧ iv = .int .i64 i ∧ RowB wr G (hadF X i) n ∧ Fr [G] w4 wr) (fun iv _ => n - (intOf iv).toNat)
  case atStart => exact ⟨0, by omega, rfl, Hrb.out.congr (fun t _ => rfl), Fr.refl _ _⟩
  case round =>
    obtain ⟨i, hi, rfl, hB, hFr⟩ := hrel
    by_cases hlt : i < n
    · obtain ⟨b, off, rfl, hbG, hcd⟩ := Hd.out (by omega)
      obtain ⟨b', off', rfl, hbG', hcx⟩ := Hx.out (by omega)
      have hw4b : b < w4.heap.size := by have := hcd 0 (by omega); exact cell_lt this
      have hw4b' : b' < w4.heap.size := by have := hcx 0 (by omega); exact cell_lt this
      have q1 : (i : Int) < n := by omega
      have q0 : (0 : Int) ≤ i := by omega
      have hXi := HO.out.lt i hlt
      have p0 : decide ((X i : Int) < 0) = false := by simp
      have p1 : decide ((n : Int) ≤ (X i : Int)) = false := by simp; omega
      have p2 : (0 : Int) ≤ (X i : Int) := by omega
      have p3 : (X i : Int) < n := by omega
      have lx := (hFr.cell (p := ⟨b', off' + i, none⟩) hw4b' (by simp; omega)).trans (hcx i hlt)
      have lb := hB.cell hXi
      rw [hadF_new HO.out hlt] at lb
      have fb := hB.free (X i)
      go_wp2_with fail
      have hB1 := (hB.set hXi true).congr (G := hadF X (i + 1)) (fun t ht => by
        rw [hadF_succ]
        by_cases e : t = X i
        · rw [if_pos e, e]; simp
        · rw [if_neg e]
          have : (X i == t) = false := by simp; exact fun h => e h.symm
          rw [this, Bool.or_false])
      have hF1 := hFr.setCell (p := ⟨G, X i, none⟩) (.inl (by simp)) (.bool true)
      clear hB hFr lb fb lx
      generalize wr.setCell ⟨G, X i, none⟩ (.bool true) = wq at *
      have HB1 := Lib.hid hB1; have HF1 := Lib.hid hF1; have HCD := Lib.hid hcd; have HCX := Lib.hid hcx
      clear hB1 hF1 hcd hcx
      go_loopw [9] (fun kv wr => ∃ k m : Nat, k ≤ i ∧ kv = .int .i64 k ∧ wr = wq.drewN m) (fun kv _ => i - (intOf kv).toNat)
      case atStart => exact ⟨0, 0, by omega, rfl, rfl⟩
      case round =>
        obtain ⟨k, m, hk, rfl, rfl⟩ := hrel
        by_cases hki : k < i
        · have q2 : (k : Int) < i := by omega
          have q3 : (0 : Int) ≤ k := by omega
          have q4 : (k : Int) < n := by omega
          have hXk := HO.out.lt k (by omega)
          have p4 : (0 : Int) ≤ (X k : Int) := by omega
          have p5 : (X k : Int) < n := by omega
          have lxi : (wq.drewN m).cell? ⟨b', off' + i, none⟩ = some (.int .i64 (X i)) := (HF1.out.cell (p := ⟨b', off' + i, none⟩) hw4b' (by simp; omega)).trans (HCX.out i hlt)
          have lxk : (wq.drewN m).cell? ⟨b', off' + k, none⟩ = some (.int .i64 (X k)) := (HF1.out.cell (p := ⟨b', off' + k, none⟩) hw4b' (by simp; omega)).trans (HCX.out k (by omega))
          have ldi : (wq.drewN m).cell? ⟨b, off + X i, none⟩ = some (.float .f64 (D (X i))) := (HF1.out.cell (p := ⟨b, off + X i, none⟩) hw4b (by simp; omega)).trans (HCD.out _ hXi)
          have ldk : (wq.drewN m).cell? ⟨b, off + X k, none⟩ = some (.float .f64 (D (X k))) := (HF1.out.cell (p := ⟨b, off + X k, none⟩) hw4b (by simp; omega)).trans (HCD.out _ hXk)
          have hbef := HO.out.srt k i hki hlt
          unfold bef at hbef
          dsimp only at hbef
          have s1 := sooner_any (D (X i)) (D (X k)) (hD _) (hD _)
          have s2 := sooner_any (D (X k)) (D (X i)) (hD _) (hD _)
          rw [soonB_rk, decide_eq_false (by omega)] at s1
          rw [soonB_rk] at s2
          obtain ⟨di, hdi⟩ : ∃ di, D (X i) = di := ⟨_, rfl⟩
          obtain ⟨dk, hdk⟩ : ∃ dk, D (X k) = dk := ⟨_, rfl⟩
          rw [hdi] at ldi s1 s2 hbef
          rw [hdk] at ldk s1 s2 hbef
          clear hdi hdk
          obtain ⟨xi, hxi⟩ : ∃ xi, X i = xi := ⟨_, rfl⟩
          obtain ⟨xk, hxk⟩ : ∃ xk, X k = xk := ⟨_, rfl⟩
          rw [hxi] at lxi ldi hbef p0 p1 p2 p3 hXi
          rw [hxk] at lxk ldk hbef p4 p5 hXk
          clear hxi hxk
          obtain ⟨wm, hwm⟩ : ∃ wm, wq.drewN m = wm := ⟨_, rfl⟩
          rw [hwm] at lxi lxk ldi ldk ⊢
          have HWM := Lib.hid hwm; clear hwm
          by_cases hst : rk di < rk dk
          · rw [decide_eq_true hst] at s2
            have S1 := Lib.hid s1; have S2 := Lib.hid s2
            clear s1 s2 hbef hst
            go_wp2_with fail
            go_quiet (first | (go_at_call_of 34 (#[Value.float FloatKind.f64 di, Value.float FloatKind.f64 dk]); exact Calls.quiet_of_same ((S1.out _).mono fun e w' h => ⟨h.1, h.2.symm⟩)) | (go_at_call_of 34 (#[Value.float FloatKind.f64 dk, Value.float FloatKind.f64 di]); exact Calls.quiet_of_same ((S2.out _).mono fun e w' h => ⟨h.1, h.2.symm⟩)))
            go_wp2_with fail
            go_roundw
            case rel => exact ⟨k + 1, m + nq, by omega, by go_num, by rw [← HWM.out, World.drewN_drewN]⟩
            case measure => simp [intOf]; omega
          · rw [decide_eq_false hst] at s2
            have g1 : decide ((xi : Int) < (xk : Int)) = false := by simp; omega
            have g2 : (xk : Int) ≤ (xi : Int) := by omega
            have S1 := Lib.hid s1; have S2 := Lib.hid s2
            clear s1 s2 hbef hst
            go_wp2_with fail
            go_quiet (first | (go_at_call_of 34 (#[Value.float FloatKind.f64 di, Value.float FloatKind.f64 dk]); exact Calls.quiet_of_same ((S1.out _).mono fun e w' h => ⟨h.1, h.2.symm⟩)) | (go_at_call_of 34 (#[Value.float FloatKind.f64 dk, Value.float FloatKind.f64 di]); exact Calls.quiet_of_same ((S2.out _).mono fun e w' h => ⟨h.1, h.2.symm⟩)))
            go_wp2_with fail
            go_roundw
            case rel => exact ⟨k + 1, m + nq, by omega, by go_num, by rw [← HWM.out, World.drewN_drewN]⟩
            case measure => simp [intOf]; omega
        · have q2 : ¬ (k : Int) < i := by omega
          have HB2 := Lib.hid (HB1.out.drewN m); have HF2 := Lib.hid (HF1.out.drewN m)
          clear HB1 HF1
          generalize wq.drewN m = wm at *
          go_wp2_with fail
          go_roundw
          case rel => exact ⟨i + 1, by omega, by go_num, HB2.out, HF2.out⟩
          case measure => simp [intOf]; omega
    · have q1 : ¬ (i : Int) < n := by omega
      have hfin := HF4.out.trans hFr (by simp; exact hWG)
      clear hB hFr
      go_wp2_with fail
      go_ret
      exact ⟨rfl, hfin.below (Nat.le_refl _) (by simp)⟩
end Go.Proofs.Ytiniaphleogkiaa.Vw
