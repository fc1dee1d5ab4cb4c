/- chapter 16: LinkKnown's walk. -/
import Derived.Test.YtkjjikjilmngdaaLk7
namespace Go.Proofs.Ytkjjikjilmngdaa.Lk
open Go.RowKit Dt Go.Proofs.Ytkjjikjilmngdaa.Hd Go.Proofs.Ytkjjikjilmngdaa.Wn Go.Proofs.Ytkjjikjilmngdaa.Sq Go.Proofs.Ytkjjikjilmngdaa.Mt
set_option linter.unusedVariables false
set_option linter.unusedSimpArgs false

/-- the bits of a number -/
def bf (m : Nat) (k : Nat) : Bool := m.testBit k
theorem bt_lit (m : Nat) (h : m < 18446744073709551616) : Bt m (bf m) := ⟨m, rfl, h, fun _ _ => rfl⟩
def t9 : WS := ⟨true, 9, fun _ => false⟩
theorem left_a : (leftL 39 (bf 1099511627778) (qn 40)).length = 30 := by decide +kernel
theorem left_b : (leftL 36 (bf 0) (leftL 39 (bf 1099511627778) (qn 40))).length = 29 := by decide +kernel
theorem note_9 : (noteS s0 9).2 = t9 := rfl
theorem note_9b : noteS t9 9 = (2, t9) := by
  unfold noteS
  rw [if_neg (by decide), if_neg (by decide), if_neg (by decide), if_pos (by decide)]
theorem note_8 : (noteS t9 8).1 = 1 := by decide +kernel
set_option maxRecDepth 100000 in
set_option maxHeartbeats 6400000 in
theorem walk_known (W : World) : Calls Try.prog 5 #[] W fun e w' => e = .returned (.bool true) ∧ Below W.heap.size W w' := by
  go_enter Try.func5, Try.ntmps5
  go_wp2_with fail
  have hA0 := HasL.new W
  have hF0 := (Fr.refl [] W).alloc (.cells #[.int .i64 0, .slice none 0 0, .bool false, .int .i64 0, .int .u64 0, .int .i64 0, .float .f64 0, .float .f64 0] 32)
  generalize W.alloc (.cells #[.int .i64 0, .slice none 0 0, .bool false, .int .i64 0, .int .u64 0, .int .i64 0, .float .f64 0, .float .f64 0] 32) = w0 at *
  refine (known_any _).mono ?_; rintro e w1 ⟨rfl, hFk⟩
  have hA := hA0.fr hFk (by simp) (by simp)
  have hF := hF0.trans hFk (by simp)
  clear hA0 hF0 hFk
  obtain ⟨A, hAe⟩ : ∃ A, W.heap.size = A := ⟨_, rfl⟩
  rw [hAe] at hA ⊢
  have HAE := Lib.hid hAe
  clear hAe
  go_wp2_with fail
  go_loopw [2] (fun iv wr => ∃ (k : Nat) (fp : Option Nat), k ≤ 40 ∧ iv = .int .i64 k ∧ HasL wr A fp k s0 (qn k) (0, 0, 0) ∧ (∀ g, fp = some g → A ≤ g) ∧ Fr [] W wr) (fun iv _ => 40 - (intOf iv).toNat)
  case atStart => exact ⟨0, none, Nat.zero_le _, rfl, hA, by simp, hF⟩
  case round =>
    obtain ⟨k, fp, hk, rfl, hL, hfp, hFr⟩ := hrel
    by_cases hlt : k < 40
    · have q1 : (k : Int) < 40 := by omega
      have HL := Lib.hid hL; have HFP := Lib.hid hfp; have HFR := Lib.hid hFr
      clear hL hfp hFr hA hF
      go_wp2_with fail
      refine (send_q HL.out (by omega) { pk0 1 with seq := 77, any := true, last := 5, acks := 3 }).mono ?_
      rintro e w2 ⟨fp2, rfl, hL2, hfp2, hF2⟩
      have hge2 := HFR.out.size
      have HL2 := Lib.hid hL2; have HFP2 := Lib.hid (fun g (hg : fp2 = some g) => show A ≤ g from by have := hfp2 g hg; have := HAE.out; omega)
      have HF2 := Lib.hid (HFR.out.trans hF2 (fun x hx => .inr (by
        simp only [List.mem_cons, Option.mem_toList] at hx
        rw [HAE.out]
        rcases hx with rfl | hx
        · exact Nat.le_refl _
        · exact HFP.out _ hx)))
      clear hL2 hfp2 hF2 HL HFP HFR
      dsimp only [Pk.v, pk0]
      have q2 : ((k : Int) != (k : Int)) = false := by simp
      go_wp2_with fail
      go_roundw
      case rel => exact ⟨k + 1, fp2, by omega, by go_num, HL2.out.fr ((Fr.refl [] w2).alloc _) (by simp) (by simp), HFP2.out, HF2.out.alloc _⟩
      case measure => simp [intOf]; omega
    · have hkn : k = 40 := by omega
      subst hkn
      have q1 : ¬ ((40 : Nat) : Int) < 40 := by omega
      have HL := Lib.hid hL; have HFP := Lib.hid hfp; have HFR := Lib.hid hFr
      clear hL hfp hFr hA hF
      go_wp2_with fail
      refine (waiting_L HL.out).mono ?_; rintro e w2 ⟨v, rfl, hv, hF2⟩
      have hv' : w2.ownsRow wr.heap.size 3 1 v 32 (ints ((qn 40).map (·.1))) := hv
      obtain ⟨gv, vc, rfl, hgv, -, -⟩ := own_form hv' (by decide)
      have HV := Lib.hid hv'; have HL2 := Lib.hid (HL.out.fr hF2 (by simp) (by simp)); have HF2 := Lib.hid (HFR.out.trans hF2 (by simp))
      have hAlt := HL.out.lt
      clear hv hv' hF2
      go_wp2_with fail
      refine (take_L HL2.out (by simp) { pk0 0 with seq := 9, any := true, last := 39, acks := 1099511627778 } (fa := bf 1099511627778) (bt_lit 1099511627778 (by decide)) 50).mono ?_
      rintro e w3 ⟨fp3, q3', t3, rfl, hif, hL3, ht3, hfp3, hF3⟩
      rw [if_pos ⟨noteS_s0 _, rfl⟩] at hif
      obtain ⟨rfl, rfl⟩ := hif
      have HV3 := Lib.hid (own_keep HV.out hF3 (fun g hg => by simp [Value.ownBlock] at hg; subst hg; simp; omega))
      have HF3 := Lib.hid (HF2.out.trans hF3 (fun x hx => .inr (by simp at hx; rw [HAE.out]; omega)))
      have hL3' : HasL w3 A fp3 40 t9 (leftL 39 (bf 1099511627778) (qn 40)) (meterL 39 (bf 1099511627778) 50 (qn 40) (0, 0, 0)) := hL3
      have ht3' : (meterL 39 (bf 1099511627778) 50 (qn 40) (0, 0, 0)).1 ≤ 32 := ht3
      generalize meterL 39 (bf 1099511627778) 50 (qn 40) (0, 0, 0) = t3 at hL3' ht3'
      have HL3 := Lib.hid hL3'; have HT3 := Lib.hid ht3'
      clear hL3 hF3 ht3 hfp3 hL3' ht3' HV HF2
      rw [noteS_s0, show decide ((1 : Int) = 1) = true from rfl]
      go_wp2_with fail
      refine (take_L HL3.out (by have := HT3.out; omega) { pk0 0 with seq := 9, any := true, last := 38 } (fa := bf 0) (bt_lit 0 (by decide)) 60).mono ?_
      rintro e w4 ⟨fp4, q4, t4, rfl, hif, hL4, ht4, hfp4, hF4⟩
      rw [if_neg (fun h => absurd h.1 (by dsimp only; rw [note_9b]; decide))] at hif
      obtain ⟨rfl, rfl⟩ := hif
      have hL4' : HasL w4 A fp4 40 t9 (leftL 39 (bf 1099511627778) (qn 40)) t4 := by
        have h := hL4
        dsimp only at h
        rw [note_9b] at h; exact h
      have HV4 := Lib.hid (own_keep HV3.out hF4 (fun g hg => by simp [Value.ownBlock] at hg; subst hg; simp; omega))
      have HF4 := Lib.hid (HF3.out.trans hF4 (fun x hx => .inr (by simp at hx; rw [HAE.out]; omega)))
      have HL4 := Lib.hid hL4'
      clear hL4 hL4' hF4 ht4 hfp4 HV3 HF3 HL3
      rw [show decide ((noteS t9 (Pk.seq { pk0 0 with seq := 9, any := true, last := 38 })).1 = 1) = false by dsimp only; rw [note_9b]; rfl]
      go_wp2_with fail
      refine (waiting_L HL4.out).mono ?_; rintro e w5 ⟨v5, rfl, hv5, hF5⟩
      obtain ⟨a5, c5, rfl, -, -⟩ := own_val hv5
      rw [left_a]
      have HV5 := Lib.hid (own_fr (S := []) HV4.out hF5 (by simp)); have HL5 := Lib.hid (HL4.out.fr hF5 (by simp) (by simp)); have HF5 := Lib.hid (HF4.out.trans hF5 (by simp))
      clear hv5 hF5 HV4 HL4 HF4
      go_wp2_with fail
      refine (take_L HL5.out (by have := HT3.out; omega) { pk0 0 with seq := 8, any := true, last := 36 } (fa := bf 0) (bt_lit 0 (by decide)) 10).mono ?_
      rintro e w6 ⟨fp6, q6, t6, rfl, hif, hL6, ht6, hfp6, hF6⟩
      rw [if_pos ⟨note_8, rfl⟩] at hif
      obtain ⟨rfl, rfl⟩ := hif
      have hL6' : HasL w6 A fp6 40 (noteS t9 8).2 (leftL 36 (bf 0) (leftL 39 (bf 1099511627778) (qn 40))) (meterL 36 (bf 0) 10 (leftL 39 (bf 1099511627778) (qn 40)) t4) := hL6
      have HV6 := Lib.hid (own_keep HV5.out hF6 (fun g hg => by simp [Value.ownBlock] at hg; subst hg; simp; omega))
      have HF6 := Lib.hid (HF5.out.trans hF6 (fun x hx => .inr (by simp at hx; rw [HAE.out]; omega)))
      generalize meterL 36 (bf 0) 10 (leftL 39 (bf 1099511627778) (qn 40)) t4 = t6 at hL6'
      generalize (noteS t9 8).2 = s6 at hL6'
      have HL6 := Lib.hid hL6'
      clear hL6 hL6' hF6 ht6 hfp6 HV5 HF5 HL5
      rw [show decide ((noteS t9 (Pk.seq { pk0 0 with seq := 8, any := true, last := 36 })).1 = 1) = true by dsimp only; rw [note_8]; rfl]
      have d1 : w6.cell? ⟨gv, 0, none⟩ = some (.int .i64 8) := by
        rw [HV6.out.cellAt _ (by decide)]
        have : ((qn 40).map (·.1))[0]? = some 8 := by decide +kernel
        simp only [ints, List.getElem?_map, this, Option.map_some]
        rfl
      go_wp2_with fail
      refine (waiting_L HL6.out).mono ?_; rintro e w7 ⟨v7, rfl, hv7, hF7⟩
      obtain ⟨a7, c7, rfl, -, -⟩ := own_val hv7
      rw [left_b]
      have hld := ldI_pos HL6.out.ok 1
      have HL7 := Lib.hid (HL6.out.fr hF7 (by simp) (by simp)); have HF7 := Lib.hid (HF6.out.trans hF7 (by simp))
      clear hv7 hF7 d1 HV6
      go_wp2_with fail
      refine (lead_L HL7.out).mono ?_; rintro e w8 ⟨rfl, k8, rfl⟩
      go_wp2_with fail
      go_ret
      exact ⟨rfl, (HF7.out.drewN k8).below (Nat.le_refl _) (by simp)⟩
end Go.Proofs.Ytkjjikjilmngdaa.Lk
