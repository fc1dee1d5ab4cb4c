import Derived.Test.YtiniaphleogkiaaVw12
namespace Go.Proofs.Ytiniaphleogkiaa.Vw
open Go.RowKit Dt Go.Proofs.Ytiniaphleogkiaa.Hd Go.Proofs.Ytiniaphleogkiaa.Ma Ieee
set_option linter.unusedVariables false
set_option linter.unusedSimpArgs false

set_option maxRecDepth 100000 in
set_option maxHeartbeats 3200000 in
theorem insN_any {w : World} {g B0 b off n N cap cap0 : Nat} {d : Nat → Nat} (hnN : n ≤ N) (hN2 : N ≤ 4096) (hrow : Row w g (fun t => t) N) (hd : Deps w B0 b off N cap0 d) (hw : ∀ t, t < N → d t < 18446744073709551616) (hn : n ≤ 4096) (hn1 : 1 ≤ n) (h0 : B0 ≠ g) (h1 : b ≠ g) :
    Calls Try.prog 53 #[.slice (some ⟨g, 0, none⟩) N cap, .int .i64 0, .int .i64 n, .func (.func 48) #[] #[.pointer (some ⟨B0, 0, none⟩)]] w fun e w' =>
      e = .returned (.tuple #[]) ∧ (∃ X, Row w' g X N ∧ OrdF (fun t => rk (d t)) n X ∧ (∀ t, n ≤ t → t < N → X t = t)) ∧ Fr [g] w w' := by
  go_enter Try.func53, Try.ntmps53
  go_wp2_with fail
  go_loopw [8] (fun iv wr => ∃ (i : Nat) (X : Nat → Nat), 1 ≤ i ∧ i ≤ n ∧ iv = .int .i64 i ∧ Row wr g X N ∧ OrdF (fun t => rk (d t)) i X ∧ (∀ t, i ≤ t → t < N → X t = t) ∧ Fr [g] w wr) (fun iv _ => n - (intOf iv).toNat)
  case atStart =>
    refine ⟨1, fun t => t, by omega, hn1, rfl, hrow, ⟨fun t ht => ht, fun v hv => ⟨v, hv, rfl⟩, fun s t hs ht => by omega⟩, fun t _ _ => rfl, Fr.refl _ _⟩
  case round =>
    obtain ⟨i, X, hi1, hin, rfl, hR, hO, hid, hF⟩ := hrel
    have HR := Lib.hid hR; have HO := Lib.hid hO; have HI := Lib.hid hid; have HF := Lib.hid hF; have HD := Lib.hid hd; have HW := Lib.hid hw
    clear hR hO hid hF
    by_cases hlt : i < n
    · have q1 : (i : Int) < n := by omega
      go_wp2_with fail
      go_loopw [9] (fun jv wq => ∃ (j : Nat) (Y : Nat → Nat), j ≤ i ∧ jv = .int .i64 j ∧ Row wq g Y N ∧ (∀ t, t < N → Y t = insF X i j t) ∧ (∀ t, j ≤ t → t < i → rk (d (X t)) < rk (d i)) ∧ Fr [g] w wq) (fun jv _ => (intOf jv).toNat)
      case atStart => exact ⟨i, X, Nat.le_refl _, rfl, HR.out, fun t ht => (insF_start HI.out ht).symm, fun t h1 h2 => by omega, HF.out⟩
      case round =>
        obtain ⟨j, Y, hji, rfl, hY, hYe, hlts, hFq⟩ := hrel
        have HY := Lib.hid hY; have HYE := Lib.hid hYe; have HLT := Lib.hid hlts; have HFQ := Lib.hid hFq
        clear hY hYe hlts hFq HR HF
        by_cases hj0 : 0 < j
        · obtain ⟨m, rfl⟩ : ∃ m, j = m + 1 := ⟨j - 1, by omega⟩
          have e1 : Y (m + 1) = i := by rw [HYE.out _ (by omega)]; unfold insF; rw [if_neg (by omega), if_pos rfl]
          have e2 : Y m = X m := by rw [HYE.out _ (by omega)]; unfold insF; rw [if_pos (by omega)]
          have l1 := HY.out.cell (t := m + 1) (by omega)
          have l2 := HY.out.cell (t := m) (by omega)
          have fz1 := HY.out.free (m + 1)
          have fz2 := HY.out.free m
          rw [e1] at l1
          rw [e2] at l2
          have hXm := HO.out.lt m (by omega)
          have q2 : (0 : Int) < ((m + 1 : Nat) : Int) := by omega
          have q5 : ((m + 1 : Nat) : Int) < (N : Int) := by omega
          have q6 : (m : Int) < (N : Int) := by omega
          have em : ((m + 1 : Nat) : Int) - 1 = (m : Int) := by omega
          have hcmp := fun k => cmp_any (w := wr.drewN k) (HD.out.fr (HFQ.out.drewN k) (by simpa using h0) (by simpa using h1)).box (HD.out.fr (HFQ.out.drewN k) (by simpa using h0) (by simpa using h1)).cells HW.out (by omega) (i := i) (j := X m) (by omega) (by omega)
          have HC := Lib.hid hcmp
          clear hcmp
          have hdec := cmpI_lt (d i) (d (X m))
          by_cases hs : rk (d (X m)) < rk (d i)
          · rw [decide_eq_true hs] at hdec
            go_wp2_with fail
            go_quiet ((go_at_call 48; exact Calls.quiet_of (HC.out _)))
            go_wp2_with fail
            have HY1 := Lib.hid (HY.out.drewN nq)
            have HF1 := Lib.hid (HFQ.out.drewN nq)
            have l1' := HY1.out.cell (t := m + 1) (by omega)
            have l2' := HY1.out.cell (t := m) (by omega)
            have fz1' := HY1.out.free (m + 1)
            have fz2' := HY1.out.free m
            rw [e1] at l1'
            rw [e2] at l2'
            clear l1 l2 fz1 fz2 HY HFQ HC
            generalize wr.drewN nq = w1 at *
            go_region
            have HY2 := Lib.hid (((HY1.out.set (show m + 1 < N by omega) (X m)).set (show m < N by omega) i).drewN 1)
            have HF2 := Lib.hid (((HF1.out.setCell (p := ⟨g, m + 1, none⟩) (.inl (by simp)) (.int .i64 (X m))).setCell (p := ⟨g, m, none⟩) (.inl (by simp)) (.int .i64 i)).drewN 1)
            clear l1' l2' fz1' fz2' HY1 HF1
            go_wp2_with fail
            go_roundw
            case rel =>
              refine ⟨m, _, by omega, by go_num, HY2.out, fun t ht => ?_, fun t h1 h2 => ?_, HF2.out⟩
              · rw [insF_step (show m + 1 ≤ i by omega)]
                dsimp only
                by_cases c1 : t = m
                · rw [if_pos c1, if_pos c1]
                · rw [if_neg c1, if_neg c1]
                  by_cases c2 : t = m + 1
                  · rw [if_pos c2, if_pos c2]
                  · rw [if_neg c2, if_neg c2]; exact HYE.out t ht
              · rcases Nat.lt_or_eq_of_le h1 with h3 | h3
                · exact HLT.out t h3 h2
                · subst h3; exact hs
            case measure => simp [intOf]
          · rw [decide_eq_false hs] at hdec
            go_wp2_with fail
            go_quiet ((go_at_call 48; exact Calls.quiet_of (HC.out _)))
            have HY1 := Lib.hid (HY.out.drewN nq)
            have HF1 := Lib.hid (HFQ.out.drewN nq)
            clear l1 l2 fz1 fz2 HY HFQ HC
            generalize wr.drewN nq = w1 at *
            go_wp2_with fail
            go_roundw
            case rel =>
              refine ⟨i + 1, Y, by omega, by omega, by go_num, HY1.out, (HO.out.ins (j := m + 1) (by omega) HLT.out (fun _ => hs)).congr (fun t ht => HYE.out t (by omega)), fun t ht htn => ?_, HF1.out⟩
              rw [HYE.out t htn]; unfold insF; rw [if_neg (by omega), if_neg (by omega), if_neg (by omega)]
            case measure => simp [intOf]; omega
        · have hdj : decide ((0 : Int) < (j : Int)) = false := by simp; omega
          go_wp2_with fail
          go_quiet (fail)
          have HY1 := Lib.hid (HY.out.drewN nq)
          have HF1 := Lib.hid (HFQ.out.drewN nq)
          clear HY HFQ
          generalize wr.drewN nq = w1 at *
          go_wp2_with fail
          go_roundw
          case rel =>
            refine ⟨i + 1, Y, by omega, by omega, by go_num, HY1.out, (HO.out.ins (j := j) hji HLT.out (fun h => by omega)).congr (fun t ht => HYE.out t (by omega)), fun t ht htn => ?_, HF1.out⟩
            rw [HYE.out t htn]; unfold insF; rw [if_neg (by omega), if_neg (by omega), if_neg (by omega)]
          case measure => simp [intOf]; omega
    · have hin2 : i = n := by omega
      have q1 : ¬ (i : Int) < n := by omega
      go_wp2_with fail
      go_end0
      refine ⟨rfl, ⟨X, HR.out, by rw [← hin2]; exact HO.out, by rw [← hin2]; exact HI.out⟩, HF.out⟩

set_option maxRecDepth 100000 in
set_option maxHeartbeats 1600000 in
theorem stable21 {w : World} {g B0 b off cap cap0 : Nat} {d : Nat → Nat} (hrow : Row w g (fun t => t) 21) (hd : Deps w B0 b off 21 cap0 d) (hw : ∀ t, t < 21 → d t < 18446744073709551616) (h0 : B0 ≠ g) (h1 : b ≠ g) :
    Calls Try.prog 52 #[.slice (some ⟨g, 0, none⟩) 21 cap, .int .i64 21, .func (.func 48) #[] #[.pointer (some ⟨B0, 0, none⟩)]] w fun e w' =>
      e = .returned (.tuple #[]) ∧ (∃ X, Row w' g X 21 ∧ OrdF (fun t => rk (d t)) 21 X) ∧ Fr [g] w w' := by
  have hins := insN_any (n := 20) (N := 21) (cap := cap) (by decide) (by decide) hrow hd hw (by decide) (by decide) h0 h1
  have HI := Lib.hid hins; have HD := Lib.hid hd; have HW := Lib.hid hw
  clear hins hrow hd hw
  go_enter Try.func52, Try.ntmps52
  go_wp2_with fail
  go_loopw [7, 8] (fun av bv wr => (av = .int .i64 0 ∧ bv = .int .i64 20 ∧ w = wr) ∨ (av = .int .i64 20 ∧ bv = .int .i64 40 ∧ (∃ X, Row wr g X 21 ∧ OrdF (fun t => rk (d t)) 20 X ∧ (∀ t, 20 ≤ t → t < 21 → X t = t)) ∧ Fr [g] w wr)) (fun av _ _ => 20 - (intOf av).toNat)
  case atStart => exact .inl ⟨rfl, rfl, rfl⟩
  case round =>
    rcases hrel with ⟨rfl, rfl, rfl⟩ | ⟨rfl, rfl, hX, hF⟩
    · go_wp2_with fail
      refine (HI.out).mono ?_; rintro e w1 ⟨rfl, hX, hF⟩
      have HX := Lib.hid hX; have HF := Lib.hid hF
      clear hX hF
      go_wp2_with fail
      go_roundw
      case rel => exact .inr ⟨rfl, rfl, HX.out, HF.out⟩
      case measure => simp [intOf]
    · obtain ⟨P, hP, hO, hid⟩ := hX
      have hsm := symm_any (m := 20) (cap := cap) hP (hid 20 (by decide) (by decide)) hO (HD.out.fr hF (by simpa using h0) (by simpa using h1)) HW.out (by decide) (by decide) h0 h1
      have HS := Lib.hid hsm; have HF := Lib.hid hF
      clear hsm hP hO hid hF
      go_wp2_with fail
      refine (ins_none (a := 20) (by omega) (by omega) (by omega)).mono ?_; rintro e w' ⟨rfl, rfl⟩
      go_wp2_with fail
      go_loopw [6, 7, 8, 9] (fun sv av bv mv wq => (sv = .int .i64 20 ∧ wr = wq) ∨ (sv = .int .i64 40 ∧ (∃ X, Row wq g X 21 ∧ OrdF (fun t => rk (d t)) 21 X) ∧ Fr [g] w wq)) (fun sv _ _ _ _ => 40 - (intOf sv).toNat)
      case atStart => exact .inl ⟨rfl, rfl⟩
      case round =>
        rcases hrel with ⟨rfl, rfl⟩ | ⟨rfl, hX, hF⟩
        · go_wp2_with fail
          go_loopw [7, 8] (fun av bv wq => av = .int .i64 0 ∧ bv = .int .i64 40 ∧ wr = wq) (fun _ _ _ => 0)
          case atStart => exact ⟨rfl, rfl, rfl⟩
          case round =>
            obtain ⟨rfl, rfl, rfl⟩ := hrel
            go_wp2_with fail
            refine (HS.out).mono ?_; rintro e w2 ⟨rfl, hX, hF2⟩
            have HX := Lib.hid hX; have HF2 := Lib.hid (HF.out.trans hF2 (by simp))
            clear hX hF2
            go_wp2_with fail
            go_roundw
            case rel => exact .inr ⟨rfl, HX.out, HF2.out⟩
            case measure => simp [intOf]
        · have HX := Lib.hid hX; have HF2 := Lib.hid hF
          clear hX hF
          go_wp2_with fail
          go_end0
          exact ⟨rfl, HX.out, HF2.out⟩
theorem sort21 {w : World} {g B0 b off cap cap0 : Nat} {d : Nat → Nat} (hrow : Row w g (fun t => t) 21) (hd : Deps w B0 b off 21 cap0 d) (hw : ∀ t, t < 21 → d t < 18446744073709551616) (h0 : B0 ≠ g) (h1 : b ≠ g) :
    Calls Try.prog 47 #[.slice (some ⟨g, 0, none⟩) 21 cap, .func (.func 48) #[] #[.pointer (some ⟨B0, 0, none⟩)]] w fun e w' =>
      e = .returned (.tuple #[]) ∧ (∃ X, Row w' g X 21 ∧ OrdF (fun t => rk (d t)) 21 X) ∧ Fr [g] w w' := by
  go_enter Try.func47, Try.ntmps47
  go_wp2_with fail
  refine (stable21 hrow hd hw h0 h1).mono ?_; rintro e w' ⟨rfl, hX, hF⟩
  go_wp2_with fail
  go_end0
  exact ⟨rfl, hX, hF⟩
set_option maxRecDepth 100000 in
set_option maxHeartbeats 3200000 in
theorem order_max {w : World} {a : Option Addr} {n cap : Nat} {d : Nat → Nat} (hs : 0 < n → ∃ b off, a = some ⟨b, off, none⟩ ∧ b < w.heap.size ∧ ∀ t, t < n → w.cell? ⟨b, off + t, none⟩ = some (.float .f64 (d t))) (hw : ∀ t, t < n → d t < 18446744073709551616) (hn : n ≤ 21) :
    Calls Try.prog 32 #[.slice a n cap] w fun e w' => ∃ v X, e = .returned v ∧ OrdF (fun t => rk (d t)) n X ∧ IntS w' w.heap.size v n X ∧ Fr [] w w' := by
  have hmf : ∀ (fn : Fn) (first cap : Array Value) (w : World), (Instr.makeFunc fn first cap).run Try.prog w = .ok (.func fn first cap) w := fun _ _ _ _ => rfl
  obtain ⟨i0, hi0, hz0, hz1, hz2⟩ := info_parts inf3
  have hF0 := (Fr.refl [] w).alloc (.cells #[.slice a n cap] 40)
  have hbx := (Blk.new w #[.slice a n cap] 40)
  have HS := Lib.hid hs; clear hs
  go_enter Try.func32, Try.ntmps32
  go_wp2_with fail
  obtain ⟨B0, hB0⟩ : ∃ B0, B0 = w.heap.size := ⟨_, rfl⟩
  rw [← hB0] at hbx ⊢
  have hlt0 : B0 < (w.alloc (.cells #[.slice a n cap] 40)).heap.size := hbx.lt
  generalize w.alloc (.cells #[.slice a n cap] 40) = w1 at *
  have HB0 := Lib.hid hB0; clear hB0
  go_loopw [3, 7] (fun ov kv wr => ∃ k : Nat, k ≤ n ∧ kv = .int .i64 k ∧ wr.ownsRow (B0 + 1) 3 1 ov k (upto k) ∧ Blk wr B0 #[.slice a n cap] 40 ∧ Fr [] w wr) (fun _ kv _ => n - (intOf kv).toNat)
  case atStart => exact ⟨0, by omega, rfl, own_nil _ _ _ _, hbx, hF0⟩
  case round =>
    obtain ⟨k, hk, rfl, hown, hbk, hFr⟩ := hrel
    clear hbx hF0 hlt0
    by_cases hlt : k < n
    · have q1 : (k : Int) < n := by omega
      go_upto_region 5 with (fail)
      apply wp_region_lit
      iterate 3 (refine wpList_plain rfl (fun K hK => ?_); go_simp; refine hK _ _ ?_; clear hK K)
      refine wpList_append_src _ rfl (Operand.tmp 10) (Operand.tmp 12) 39 rfl (B0 + 1) 3 i0 (.int .i64 0) 1 8 Try.underlying39 hi0 hz0 hz1 hz2 rfl (by decide) _ _ k 1 (upto k) [.int .i64 k] rfl rfl ?c1 ?c2 ?c3 ?c4 ?c5 ?_
      case c1 => exact (own_fr hown (Fr.refl [] wr) (by simp)).alloc _
      case c2 => exact src_blk (sz := 1) (m := 1) (by simpa using Blk.new wr #[.int .i64 k] 3) (by simp) (by simp; rfl) 1
      case c3 => unfold maxLen; omega
      case c4 => omega
      case c5 => have := Blk.lt hbk; simp; omega
      intro v1 w1 hown1 hg1 hat1
      have hX : Fr [] wr (wr.alloc (.cells #[.int .i64 k] 3)) := (Fr.refl [] wr).alloc _
      have hY := own_fr hown hX (by simp)
      have hZ := fr_own (S := []) (hFr.trans hX (by simp)) hY hg1 (by have := HB0.out; omega)
      have hbk1 := blk_own (hbk.alloc (.cells #[.int .i64 k] 3)) hY hg1 (by omega)
      rw [← upto_succ] at hown1
      clear hX hY hg1 hat1 hown hbk
      go_wp2_with fail
      go_roundw
      case rel => exact ⟨k + 1, by omega, by go_num, hown1, hbk1, hZ⟩
      case measure => simp [intOf]; omega
    · have hkn : k = n := by omega
      have q1 : ¬ (k : Int) < n := by omega
      subst hkn
      go_wp2_with fail
      rcases Nat.eq_zero_or_pos k with hk0 | hk0
      · subst hk0
        obtain ⟨va, vc, rfl, -⟩ := own_any hown
        refine sort0_any.mono ?_; rintro e w' ⟨rfl, rfl⟩
        go_wp2_with fail
        go_ret
        exact ⟨_, fun t => t, rfl, OrdF.zero _ _, ⟨va, vc, rfl, fun h => by omega⟩, hFr⟩
      · obtain ⟨g, vc, rfl, hbg, hgc, -⟩ := own_form hown hk0
        obtain ⟨b, off, rfl, hblt, hcs⟩ := HS.out hk0
        have hrow := upto_row hown hk0
        have hb0 := HB0.out
        have hd : Deps wr B0 b off k cap d := ⟨by have := hbk.cell (i := 0) rfl; simpa using this, fun t ht => (hFr.cell (p := ⟨b, off + t, none⟩) hblt (by simp)).trans (hcs t ht), hbk.lt, Nat.lt_of_lt_of_le hblt hFr.size⟩
        have hsort : Calls Try.prog 47 #[.slice (some ⟨g, 0, none⟩) k vc, .func (.func 48) #[] #[.pointer (some ⟨B0, 0, none⟩)]] wr fun e w' =>
            e = .returned (.tuple #[]) ∧ (∃ X, Row w' g X k ∧ OrdF (fun t => rk (d t)) k X) ∧ Fr [g] wr w' := by
          by_cases h21 : k = 21
          · subst h21; exact sort21 hrow hd hw (by omega) (by omega)
          · exact sort_any hrow hd hw (by omega) hk0 (by omega) (by omega)
        refine hsort.mono ?_
        rintro e w2 ⟨rfl, ⟨X, hX, hO⟩, hF2⟩
        have hFz := hFr.trans hF2 (by simp; omega)
        obtain ⟨cur, hc1, hc2, hc3⟩ := hX
        have hlt := hc1.lt
        clear hown hbk hcs hrow hd hsort
        go_wp2_with fail
        go_ret
        exact ⟨_, X, rfl, hO, ⟨_, _, rfl, fun _ => ⟨g, 0, rfl, by omega, hlt, fun t ht => by rw [Nat.zero_add]; exact hc1.cell (hc3 t ht)⟩⟩, hFz⟩
end Go.Proofs.Ytiniaphleogkiaa.Vw
