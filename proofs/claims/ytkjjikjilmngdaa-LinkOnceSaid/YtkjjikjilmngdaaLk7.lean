/- chapter 16: LinkBound's walk. -/
import Derived.Test.YtkjjikjilmngdaaLkP
namespace Go.Proofs.Ytkjjikjilmngdaa.Lk
open Go.RowKit Dt Go.Proofs.Ytkjjikjilmngdaa.Hd Go.Proofs.Ytkjjikjilmngdaa.Wn Go.Proofs.Ytkjjikjilmngdaa.Sq Go.Proofs.Ytkjjikjilmngdaa.Mt
set_option linter.unusedVariables false
set_option linter.unusedSimpArgs false

theorem send_q {w : World} {b : Nat} {fp : Option Nat} {i : Nat} {t : Nat × Nat × Nat} (h : HasL w b fp i s0 (qn i) t) (hi : i ≤ 1000) (p : Pk) : Calls Try.prog 13 #[.pointer (some ⟨b, 0, none⟩), p.v, .int .i64 i] w fun e w' => ∃ fp', e = .returned (Pk.v { p with seq := i, last := 0, any := false, acks := 0 }) ∧ HasL w' b fp' (i + 1) s0 (qn (i + 1)) t ∧ (∀ g, fp' = some g → w.heap.size ≤ g) ∧ Fr (b :: fp.toList) w w' := by
  refine (send_L h p i).mono ?_
  rintro e w' ⟨la, ac, fp', rfl, e1, -, hL, hfp, hF⟩
  obtain ⟨rfl, rfl⟩ := e1 rfl
  rw [qn_next (by omega), Nat.mod_eq_of_lt (by omega)] at hL
  exact ⟨fp', rfl, hL, hfp, hF⟩
theorem noteS_s0 (n : Int) : (noteS s0 n).1 = 1 := rfl
set_option maxRecDepth 100000 in
set_option maxHeartbeats 6400000 in
theorem walk_bound (a0 a1 : Int) (W : World) (w0 : (Lit.int .i64 a0).wf = true) (w1 : (Lit.int .i64 a1).wf = true) :
    Calls Try.prog 4 #[.int .i64 a0, .int .i64 a1] W fun e w' => e = .returned (.bool true) ∧ Below W.heap.size W w' := by
  obtain ⟨n, hn⟩ : ∃ n : Nat, a0 % 90 = n := ⟨(a0 % 90).toNat, by omega⟩
  have hn90 : n < 90 := by omega
  have HN := Lib.hid hn
  clear hn
  go_enter Try.func4, Try.ntmps4
  go_wp2_with fail
  refine (known_any _).mono ?_; rintro e wk ⟨rfl, hFk⟩
  go_wp2_with fail
  refine (pick_any _ _ _ (by decide) (by decide)).mono ?_; rintro e w' ⟨rfl, rfl⟩
  rw [HN.out]
  go_wp2_with fail
  have hA := HasL.new wk
  have hF := hFk.alloc (.cells #[.int .i64 0, .slice none 0 0, .bool false, .int .i64 0, .int .u64 0, .int .i64 0, .float .f64 0, .float .f64 0] 32)
  have hge : W.heap.size ≤ wk.heap.size := hFk.size
  generalize wk.alloc (.cells #[.int .i64 0, .slice none 0 0, .bool false, .int .i64 0, .int .u64 0, .int .i64 0, .float .f64 0, .float .f64 0] 32) = w1 at *
  generalize wk.heap.size = A at *
  clear hFk
  go_loopw [6] (fun iv wr => ∃ (k : Nat) (fp : Option Nat), k ≤ n ∧ iv = .int .i64 k ∧ HasL wr A fp k s0 (qn k) (0, 0, 0) ∧ (∀ g, fp = some g → W.heap.size ≤ g) ∧ Fr [] W wr) (fun iv _ => n - (intOf iv).toNat)
  case atStart => exact ⟨0, none, Nat.zero_le _, rfl, hA, by simp, hF⟩
  case round =>
    obtain ⟨k, fp, hk, rfl, hL, hfp, hFr⟩ := hrel
    by_cases hlt : k < n
    · have q1 : (k : Int) < n := by omega
      have HL := Lib.hid hL; have HFP := Lib.hid hfp; have HFR := Lib.hid hFr
      clear hL hfp hFr hA hF
      go_wp2_with fail
      refine (send_q HL.out (by omega) { pk0 1 with slot := 3 }).mono ?_
      rintro e w2 ⟨fp2, rfl, hL2, hfp2, hF2⟩
      have hge2 := HFR.out.size
      have HL2 := Lib.hid hL2; have HFP2 := Lib.hid (fun g (hg : fp2 = some g) => Nat.le_trans hge2 (hfp2 g hg))
      have HF2 := Lib.hid (HFR.out.trans hF2 (fun x hx => .inr (by
        simp only [List.mem_cons, Option.mem_toList] at hx
        rcases hx with rfl | hx
        · exact hge
        · exact HFP.out _ hx)))
      clear hL2 hfp2 hF2 HL HFP HFR
      dsimp only [Pk.v, pk0]
      have q2 : ((k : Int) != (k : Int)) = false := by simp
      go_wp2_with fail
      go_roundw
      case rel => exact ⟨k + 1, fp2, by omega, by go_num, HL2.out.fr ((Fr.refl [] w2).alloc _) (by simp) (by simp), HFP2.out, HF2.out.alloc _⟩
      case measure => simp [intOf]; omega
    · have hkn : k = n := by omega
      subst hkn
      have q1 : ¬ (k : Int) < k := by omega
      have HL := Lib.hid hL; have HFP := Lib.hid hfp; have HFR := Lib.hid hFr
      clear hL hfp hFr hA hF
      go_wp2_with fail
      refine (waiting_L HL.out).mono ?_; rintro e w2 ⟨v, rfl, hv, hF2⟩
      have hv' : w2.ownsRow wr.heap.size 3 1 v (min k 32) (ints ((qn k).map (·.1))) := by rw [← qn_len]; exact hv
      obtain ⟨va, vc, rfl, -, -⟩ := own_val hv'
      have HV := Lib.hid hv'; have HL2 := Lib.hid (HL.out.fr hF2 (by simp) (by simp)); have HF2 := Lib.hid (HFR.out.trans hF2 (by simp))
      clear hv hv' hF2
      obtain ⟨m, hm⟩ : ∃ m, min k 32 = m := ⟨_, rfl⟩
      rw [hm] at HV ⊢
      have hm1 : m ≤ 32 := by omega
      have hm2 : m ≤ k := by omega
      have hmx : (if 32 < (k : Int) then 32 else (k : Int)) = (m : Int) := by split <;> omega
      have hmx2 : (if (k : Int) < 32 then (k : Int) else 32) = (m : Int) := by split <;> omega
      have q2 : ((m : Int) != (m : Int)) = false := by simp
      have HM := Lib.hid hm
      clear hm
      go_wp2_with fail
      clear hmx hmx2 q2
      go_loop [46] (fun iv => ∃ i : Nat, i ≤ m ∧ iv = .int .i64 i) (fun iv => m - (intOf iv).toNat)
      case atStart => exact ⟨0, Nat.zero_le _, rfl⟩
      case round =>
        obtain ⟨i, hi, rfl⟩ := hrel
        by_cases hlt2 : i < m
        · have q3 : (i : Int) < m := by omega
          have q4 : (0 : Int) ≤ i := by omega
          obtain ⟨g0, cap0, hv0, hg0, hcap0, hcap1⟩ := own_form HV.out (by omega)
          cases hv0
          have d1 : w2.cell? ⟨g0, i, none⟩ = some (.int .i64 ((k : Int) - m + i)) := by
            have hq := qn_get (n := k) (i := i) (by rw [HM.out]; exact hlt2)
            rw [HM.out] at hq
            rw [HV.out.cellAt _ (by omega)]
            have : ((qn k).map (·.1))[i]? = some (k - m + i) := by simp [hq]
            simp only [ints, List.getElem?_map, this, Option.map_some]
            congr 2; omega
          have q5 : (((k : Int) - m + i) != ((k : Int) - m + i)) = false := by simp
          have q6 : 0 ≤ (k : Int) - m := by omega
          have q7 : (k : Int) - m ≤ 90 := by omega
          go_wp2_with fail
          go_round
          case rel => exact ⟨i + 1, by omega, by go_num⟩
          case measure => simp [intOf]; omega
        · have hmi : i = m := by omega
          subst hmi
          have q3 : ¬ (i : Int) < i := by omega
          by_cases hk0 : k = 0
          · subst hk0
            go_wp2_with fail
            go_ret
            exact ⟨rfl, HF2.out.below (Nat.le_refl _) (by simp)⟩
          · have q4 : ((k : Int) == 0) = false := by simp; omega
            obtain ⟨c, hc⟩ : ∃ c : Nat, a1 % (k : Int) = c := ⟨(a1 % (k : Int)).toNat, by have := Int.emod_nonneg a1 (b := k) (by omega); omega⟩
            have hck : c < k := by have := Int.emod_lt_of_pos a1 (b := k) (by omega); omega
            have HC := Lib.hid hc
            clear hc
            go_wp2_with fail
            refine (pick_any _ _ _ (by omega) (by omega)).mono ?_; rintro e w' ⟨rfl, rfl⟩
            rw [HC.out]
            go_wp2_with fail
            refine (take_L HL2.out (by simp) { pk0 0 with seq := 5, any := true, last := c } (fa := fun _ => false) bt_zero ((k : Int) + 9)).mono ?_
            rintro e w3 ⟨fp3, q3', t3, rfl, hif, hL3, ht3, hfp3, hF3⟩
            rw [if_pos ⟨noteS_s0 _, rfl⟩] at hif
            obtain ⟨rfl, rfl⟩ := hif
            rw [noteS_s0, show decide ((1 : Int) = 1) = true from rfl]
            have hlen : (leftL (Pk.last { pk0 0 with seq := 5, any := true, last := c }) (fun _ => false) (qn k)).length = if k - i ≤ c then i - 1 else i := by
              have := left_one (n := k) (k := c) (by omega) hck
              rw [HM.out] at this
              exact this
            have HF3 := Lib.hid (HF2.out.trans hF3 (fun x hx => .inr (by simp at hx; subst hx; exact hge)))
            have HL3 := Lib.hid hL3; have HLEN := Lib.hid hlen
            clear hL3 hF3 ht3 hfp3 hlen
            by_cases hcc : k - i ≤ c
            · have q5 : (k : Int) - i ≤ c := by omega
              go_wp2_with fail
              refine (waiting_L HL3.out).mono ?_; rintro e w4 ⟨v4, rfl, hv4, hF4⟩
              have hv5 := hv4
              rw [HLEN.out, if_pos hcc] at hv5
              obtain ⟨v4a, v4c, rfl, -, -⟩ := own_val hv5
              have HF4 := Lib.hid (HF3.out.trans hF4 (by simp))
              clear hv4 hv5 hF4
              have q6 : (((i - 1 : Nat) : Int) == (i : Int) - 1) = true := by simp; omega
              go_wp2_with fail
              go_ret
              exact ⟨rfl, HF4.out.below (Nat.le_refl _) (by simp)⟩
            · have q5 : ¬ (k : Int) - i ≤ c := by omega
              go_wp2_with fail
              refine (waiting_L HL3.out).mono ?_; rintro e w4 ⟨v4, rfl, hv4, hF4⟩
              have hv5 := hv4
              rw [HLEN.out, if_neg hcc] at hv5
              obtain ⟨v4a, v4c, rfl, -, -⟩ := own_val hv5
              have HF4 := Lib.hid (HF3.out.trans hF4 (by simp))
              clear hv4 hv5 hF4
              go_wp2_with fail
              go_ret
              exact ⟨rfl, HF4.out.below (Nat.le_refl _) (by simp)⟩
end Go.Proofs.Ytkjjikjilmngdaa.Lk
