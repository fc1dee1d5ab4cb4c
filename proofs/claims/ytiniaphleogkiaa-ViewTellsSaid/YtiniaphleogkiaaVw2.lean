import Derived.Test.YtiniaphleogkiaaVw
import Derived.Test.YtiniaphleogkiaaApp
import Derived.Test.YtiniaphleogkiaaLs
namespace Go.Proofs.Ytiniaphleogkiaa.Vw
open Go.RowKit Dt Go.Proofs.Ytiniaphleogkiaa.Hd Go.Proofs.Ytiniaphleogkiaa.Ma Ieee
set_option linter.unusedVariables false
set_option linter.unusedSimpArgs false

def cmpI (a b : Nat) : Int := if soonB a b then -1 else if soonB b a then 1 else 0
set_option maxHeartbeats 800000 in
theorem cmp_any {w : World} {B0 b off n cap : Nat} {d : Nat → Nat} (hbox : w.cell? ⟨B0, 0, none⟩ = some (.slice (some ⟨b, off, none⟩) n cap)) (hc : ∀ t, t < n → w.cell? ⟨b, off + t, none⟩ = some (.float .f64 (d t))) (hd : ∀ t, t < n → d t < 18446744073709551616) (hn : n ≤ 4611686018427387904) {i j : Nat} (hi : i < n) (hj : j < n) :
    Calls Try.prog 48 #[.int .i64 i, .int .i64 j, .pointer (some ⟨B0, 0, none⟩)] w fun e w' => e = .returned (.int .i64 (cmpI (d i) (d j))) ∧ ∃ k, w' = w.drewN k := by
  have ci := hc i hi
  have cj := hc j hj
  have di := hd i hi
  have dj := hd j hj
  have q1 : (i : Int) < n := by omega
  have q2 : (j : Int) < n := by omega
  have q3 : (0 : Int) ≤ i := by omega
  have q4 : (0 : Int) ≤ j := by omega
  clear hc hd
  unfold cmpI
  cases h1 : soonB (d i) (d j)
  · cases h2 : soonB (d j) (d i)
    · go_enter Try.func48, Try.ntmps48
      go_wp2_with fail
      have s1 := sooner_any (d i) (d j) di dj
      rw [h1] at s1
      go_quiet ((go_at_call 34; exact Calls.quiet_of_same ((s1 _).mono fun e w' h => ⟨h.1, h.2.symm⟩)))
      go_wp2_with fail
      have s2 := sooner_any (d j) (d i) dj di
      rw [h2] at s2
      have b1 : (w.drewN nq).cell? ⟨B0, 0, none⟩ = some (.slice (some ⟨b, off, none⟩) n cap) := hbox
      have c1 : (w.drewN nq).cell? ⟨b, off + i, none⟩ = some (.float .f64 (d i)) := ci
      have c2 : (w.drewN nq).cell? ⟨b, off + j, none⟩ = some (.float .f64 (d j)) := cj
      clear hbox ci cj
      obtain ⟨w1, hw1⟩ : ∃ w1, w.drewN nq = w1 := ⟨_, rfl⟩
      rw [hw1] at b1 c1 c2 ⊢
      have HW1 := Lib.hid hw1; clear hw1
      go_quiet ((go_at_call 34; exact Calls.quiet_of_same ((s2 _).mono fun e w' h => ⟨h.1, h.2.symm⟩)))
      go_wp2_with fail
      go_ret
      exact ⟨rfl, _, by rw [← HW1.out, World.drewN_drewN]⟩
    · go_enter Try.func48, Try.ntmps48
      go_wp2_with fail
      have s1 := sooner_any (d i) (d j) di dj
      rw [h1] at s1
      go_quiet ((go_at_call 34; exact Calls.quiet_of_same ((s1 _).mono fun e w' h => ⟨h.1, h.2.symm⟩)))
      go_wp2_with fail
      have s2 := sooner_any (d j) (d i) dj di
      rw [h2] at s2
      have b1 : (w.drewN nq).cell? ⟨B0, 0, none⟩ = some (.slice (some ⟨b, off, none⟩) n cap) := hbox
      have c1 : (w.drewN nq).cell? ⟨b, off + i, none⟩ = some (.float .f64 (d i)) := ci
      have c2 : (w.drewN nq).cell? ⟨b, off + j, none⟩ = some (.float .f64 (d j)) := cj
      clear hbox ci cj
      obtain ⟨w1, hw1⟩ : ∃ w1, w.drewN nq = w1 := ⟨_, rfl⟩
      rw [hw1] at b1 c1 c2 ⊢
      have HW1 := Lib.hid hw1; clear hw1
      go_quiet ((go_at_call 34; exact Calls.quiet_of_same ((s2 _).mono fun e w' h => ⟨h.1, h.2.symm⟩)))
      go_wp2_with fail
      go_ret
      exact ⟨rfl, _, by rw [← HW1.out, World.drewN_drewN]⟩
  · go_enter Try.func48, Try.ntmps48
    go_wp2_with fail
    have s1 := sooner_any (d i) (d j) di dj
    rw [h1] at s1
    go_quiet ((go_at_call 34; exact Calls.quiet_of_same ((s1 _).mono fun e w' h => ⟨h.1, h.2.symm⟩)))
    go_wp2_with fail
    go_ret
    exact ⟨rfl, _, rfl⟩
theorem cmpI_lt (a b : Nat) : decide (cmpI a b < 0) = decide (rk b < rk a) := by
  unfold cmpI
  rw [← soonB_rk]
  cases h : soonB a b
  · simp only [Bool.false_eq_true, if_false]
    split <;> decide
  · simp
/-- a block that holds n numbers -/
def Row (w : World) (g : Nat) (X : Nat → Nat) (n : Nat) : Prop := ∃ cur, Blk w g cur 3 ∧ n ≤ cur.size ∧ ∀ t, t < n → cur[t]? = some (.int .i64 (X t))
theorem Row.cell {w : World} {g n t : Nat} {X : Nat → Nat} (h : Row w g X n) (ht : t < n) : w.cell? ⟨g, t, none⟩ = some (.int .i64 (X t)) := by
  obtain ⟨cur, h1, h2, h3⟩ := h
  exact h1.cell (h3 t ht)
theorem Row.free {w : World} {g n : Nat} {X : Nat → Nat} (h : Row w g X n) (t : Nat) : w.frozen? ⟨g, t, none⟩ = false := by
  obtain ⟨cur, h1, h2, h3⟩ := h
  exact h1.free t
theorem Row.set {w : World} {g n i : Nat} {X : Nat → Nat} (h : Row w g X n) (hi : i < n) (v : Nat) : Row (w.setCell ⟨g, i, none⟩ (.int .i64 v)) g (fun t => if t = i then v else X t) n := by
  obtain ⟨cur, h1, h2, h3⟩ := h
  refine ⟨_, h1.set i _, by simpa using h2, fun t ht => ?_⟩
  by_cases e : t = i
  · subst e
    dsimp only
    rw [if_pos rfl, Array.getElem?_setIfInBounds_self_of_lt (by omega)]
  · dsimp only
    rw [if_neg e, Array.getElem?_setIfInBounds_ne (fun h => e h.symm)]
    exact h3 t ht
theorem Row.drewN {w : World} {g n : Nat} {X : Nat → Nat} (h : Row w g X n) (k : Nat) : Row (w.drewN k) g X n := h
theorem Row.congr {w : World} {g n : Nat} {X Y : Nat → Nat} (h : Row w g X n) (e : ∀ t, t < n → Y t = X t) : Row w g Y n := by
  obtain ⟨cur, h1, h2, h3⟩ := h
  exact ⟨cur, h1, h2, fun t ht => by rw [e t ht]; exact h3 t ht⟩
theorem Row.fr {S : List Nat} {w w' : World} {g n : Nat} {X : Nat → Nat} (h : Row w g X n) (hF : Fr S w w') (hg : g ∉ S) : Row w' g X n := by
  obtain ⟨cur, h1, h2, h3⟩ := h
  exact ⟨cur, hF.blk h1 hg, h2, h3⟩
/-- the depths as the closure sees them -/
structure Deps (w : World) (B0 b off n cap : Nat) (d : Nat → Nat) : Prop where
  box : w.cell? ⟨B0, 0, none⟩ = some (.slice (some ⟨b, off, none⟩) n cap)
  cells : ∀ t, t < n → w.cell? ⟨b, off + t, none⟩ = some (.float .f64 (d t))
  b0 : B0 < w.heap.size
  b1 : b < w.heap.size
theorem Deps.fr {S : List Nat} {w w' : World} {B0 b off n cap : Nat} {d : Nat → Nat} (h : Deps w B0 b off n cap d) (hF : Fr S w w') (h0 : B0 ∉ S) (h1 : b ∉ S) : Deps w' B0 b off n cap d :=
  ⟨(hF.cell (p := ⟨B0, 0, none⟩) h.b0 h0).trans h.box, fun t ht => (hF.cell (p := ⟨b, off + t, none⟩) h.b1 h1).trans (h.cells t ht), Nat.lt_of_lt_of_le h.b0 hF.size, Nat.lt_of_lt_of_le h.b1 hF.size⟩
theorem insF_start {X : Nat → Nat} {i t n : Nat} (h : ∀ t, i ≤ t → t < n → X t = t) (ht : t < n) : insF X i i t = X t := by
  unfold insF
  split
  · rfl
  · split
    · rename_i h1 h2; subst h2; exact (h t (Nat.le_refl _) ht).symm
    · rw [if_neg (by omega)]; exact (h t (by omega) ht).symm
theorem insF_step {X : Nat → Nat} {i j t : Nat} (hj : j + 1 ≤ i) : insF X i j t = (fun t => if t = j then i else (if t = j + 1 then X j else insF X i (j + 1) t)) t := by
  unfold insF
  by_cases h1 : t < j
  · rw [if_pos h1]; simp only; rw [if_neg (by omega), if_neg (by omega), if_pos (by omega)]
  · rw [if_neg h1]
    by_cases h2 : t = j
    · rw [if_pos h2]; simp only; rw [if_pos h2]
    · rw [if_neg h2]; simp only; rw [if_neg h2]
      by_cases h3 : t = j + 1
      · rw [if_pos h3, if_pos (by omega)]; congr 1; omega
      · rw [if_neg h3, if_neg (show ¬ t < j + 1 by omega), if_neg h3]
set_option maxRecDepth 100000 in
set_option maxHeartbeats 3200000 in
theorem ins_any {w : World} {g B0 b off n cap cap0 : Nat} {d : Nat → Nat} (hrow : Row w g (fun t => t) n) (hd : Deps w B0 b off n cap0 d) (hw : ∀ t, t < n → d t < 18446744073709551616) (hn : n ≤ 4096) (hn1 : 1 ≤ n) (h0 : B0 ≠ g) (h1 : b ≠ g) :
    Calls Try.prog 53 #[.slice (some ⟨g, 0, none⟩) n cap, .int .i64 0, .int .i64 n, .func (.func 48) #[] #[.pointer (some ⟨B0, 0, none⟩)]] w fun e w' =>
      e = .returned (.tuple #[]) ∧ (∃ X, Row w' g X n ∧ OrdF (fun t => rk (d t)) n X) ∧ Fr [g] w w' := by
  go_enter Try.func53, Try.ntmps53
  go_wp2_with fail
  go_loopw [8] (fun iv wr => ∃ (i : Nat) (X : Nat → Nat), 1 ≤ i ∧ i ≤ n ∧ iv = .int .i64 i ∧ Row wr g X n ∧ OrdF (fun t => rk (d t)) i X ∧ (∀ t, i ≤ t → t < n → X t = t) ∧ Fr [g] w wr) (fun iv _ => n - (intOf iv).toNat)
  case atStart =>
    refine ⟨1, fun t => t, by omega, hn1, rfl, hrow, ⟨fun t ht => ht, fun v hv => ⟨v, hv, rfl⟩, fun s t hs ht => by omega⟩, fun t _ _ => rfl, Fr.refl _ _⟩
  case round =>
    obtain ⟨i, X, hi1, hin, rfl, hR, hO, hid, hF⟩ := hrel
    have HR := Lib.hid hR; have HO := Lib.hid hO; have HI := Lib.hid hid; have HF := Lib.hid hF; have HD := Lib.hid hd; have HW := Lib.hid hw
    clear hR hO hid hF
    by_cases hlt : i < n
    · have q1 : (i : Int) < n := by omega
      go_wp2_with fail
      go_loopw [9] (fun jv wq => ∃ (j : Nat) (Y : Nat → Nat), j ≤ i ∧ jv = .int .i64 j ∧ Row wq g Y n ∧ (∀ t, t < n → Y t = insF X i j t) ∧ (∀ t, j ≤ t → t < i → rk (d (X t)) < rk (d i)) ∧ Fr [g] w wq) (fun jv _ => (intOf jv).toNat)
      case atStart => exact ⟨i, X, Nat.le_refl _, rfl, HR.out, fun t ht => (insF_start HI.out ht).symm, fun t h1 h2 => by omega, HF.out⟩
      case round =>
        obtain ⟨j, Y, hji, rfl, hY, hYe, hlts, hFq⟩ := hrel
        have HY := Lib.hid hY; have HYE := Lib.hid hYe; have HLT := Lib.hid hlts; have HFQ := Lib.hid hFq
        clear hY hYe hlts hFq HR HF
        by_cases hj0 : 0 < j
        · obtain ⟨m, rfl⟩ : ∃ m, j = m + 1 := ⟨j - 1, by omega⟩
          have e1 : Y (m + 1) = i := by rw [HYE.out _ (by omega)]; unfold insF; rw [if_neg (by omega), if_pos rfl]
          have e2 : Y m = X m := by rw [HYE.out _ (by omega)]; unfold insF; rw [if_pos (by omega)]
          have l1 := HY.out.cell (t := m + 1) (by omega)
          have l2 := HY.out.cell (t := m) (by omega)
          have fz1 := HY.out.free (m + 1)
          have fz2 := HY.out.free m
          rw [e1] at l1
          rw [e2] at l2
          have hXm := HO.out.lt m (by omega)
          have q2 : (0 : Int) < ((m + 1 : Nat) : Int) := by omega
          have em : ((m + 1 : Nat) : Int) - 1 = (m : Int) := by omega
          have hcmp := fun k => cmp_any (w := wr.drewN k) (HD.out.fr (HFQ.out.drewN k) (by simpa using h0) (by simpa using h1)).box (HD.out.fr (HFQ.out.drewN k) (by simpa using h0) (by simpa using h1)).cells HW.out (by omega) (i := i) (j := X m) (by omega) (by omega)
          have HC := Lib.hid hcmp
          clear hcmp
          have hdec := cmpI_lt (d i) (d (X m))
          by_cases hs : rk (d (X m)) < rk (d i)
          · rw [decide_eq_true hs] at hdec
            go_wp2_with fail
            go_quiet ((go_at_call 48; exact Calls.quiet_of (HC.out _)))
            go_wp2_with fail
            have HY1 := Lib.hid (HY.out.drewN nq)
            have HF1 := Lib.hid (HFQ.out.drewN nq)
            have l1' := HY1.out.cell (t := m + 1) (by omega)
            have l2' := HY1.out.cell (t := m) (by omega)
            have fz1' := HY1.out.free (m + 1)
            have fz2' := HY1.out.free m
            rw [e1] at l1'
            rw [e2] at l2'
            clear l1 l2 fz1 fz2 HY HFQ HC
            generalize wr.drewN nq = w1 at *
            go_region
            have HY2 := Lib.hid (((HY1.out.set (show m + 1 < n by omega) (X m)).set (show m < n by omega) i).drewN 1)
            have HF2 := Lib.hid (((HF1.out.setCell (p := ⟨g, m + 1, none⟩) (.inl (by simp)) (.int .i64 (X m))).setCell (p := ⟨g, m, none⟩) (.inl (by simp)) (.int .i64 i)).drewN 1)
            clear l1' l2' fz1' fz2' HY1 HF1
            go_wp2_with fail
            go_roundw
            case rel =>
              refine ⟨m, _, by omega, by go_num, HY2.out, fun t ht => ?_, fun t h1 h2 => ?_, HF2.out⟩
              · rw [insF_step (show m + 1 ≤ i by omega)]
                dsimp only
                by_cases c1 : t = m
                · rw [if_pos c1, if_pos c1]
                · rw [if_neg c1, if_neg c1]
                  by_cases c2 : t = m + 1
                  · rw [if_pos c2, if_pos c2]
                  · rw [if_neg c2, if_neg c2]; exact HYE.out t ht
              · rcases Nat.lt_or_eq_of_le h1 with h3 | h3
                · exact HLT.out t h3 h2
                · subst h3; exact hs
            case measure => simp [intOf]
          · rw [decide_eq_false hs] at hdec
            go_wp2_with fail
            go_quiet ((go_at_call 48; exact Calls.quiet_of (HC.out _)))
            have HY1 := Lib.hid (HY.out.drewN nq)
            have HF1 := Lib.hid (HFQ.out.drewN nq)
            clear l1 l2 fz1 fz2 HY HFQ HC
            generalize wr.drewN nq = w1 at *
            go_wp2_with fail
            go_roundw
            case rel =>
              refine ⟨i + 1, Y, by omega, by omega, by go_num, HY1.out, (HO.out.ins (j := m + 1) (by omega) HLT.out (fun _ => hs)).congr (fun t ht => HYE.out t (by omega)), fun t ht htn => ?_, HF1.out⟩
              rw [HYE.out t htn]; unfold insF; rw [if_neg (by omega), if_neg (by omega), if_neg (by omega)]
            case measure => simp [intOf]; omega
        · have hdj : decide ((0 : Int) < (j : Int)) = false := by simp; omega
          go_wp2_with fail
          go_quiet (fail)
          have HY1 := Lib.hid (HY.out.drewN nq)
          have HF1 := Lib.hid (HFQ.out.drewN nq)
          clear HY HFQ
          generalize wr.drewN nq = w1 at *
          go_wp2_with fail
          go_roundw
          case rel =>
            refine ⟨i + 1, Y, by omega, by omega, by go_num, HY1.out, (HO.out.ins (j := j) hji HLT.out (fun h => by omega)).congr (fun t ht => HYE.out t (by omega)), fun t ht htn => ?_, HF1.out⟩
            rw [HYE.out t htn]; unfold insF; rw [if_neg (by omega), if_neg (by omega), if_neg (by omega)]
          case measure => simp [intOf]; omega
    · have hin2 : i = n := by omega
      have q1 : ¬ (i : Int) < n := by omega
      go_wp2_with fail
      go_end0
      refine ⟨rfl, ⟨X, HR.out, by rw [← hin2]; exact HO.out⟩, HF.out⟩
end Go.Proofs.Ytiniaphleogkiaa.Vw
