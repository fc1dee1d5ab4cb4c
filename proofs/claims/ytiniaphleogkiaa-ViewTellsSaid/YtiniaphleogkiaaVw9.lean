import Derived.Test.YtiniaphleogkiaaVw4
import Derived.Test.YtiniaphleogkiaaMth2
namespace Go.Proofs.Ytiniaphleogkiaa.Vw
open Go.RowKit Dt Go.Proofs.Ytiniaphleogkiaa.Hd Go.Proofs.Ytiniaphleogkiaa.Ma Ieee
set_option linter.unusedVariables false
set_option linter.unusedSimpArgs false

/-- a slice value that reads as n words, in a block from base on -/
def FltS (w : World) (base : Nat) (v : Value) (n : Nat) (d : Nat → Nat) : Prop := ∃ a cap, v = .slice a n cap ∧ (0 < n → ∃ b off, a = some ⟨b, off, none⟩ ∧ base ≤ b ∧ b < w.heap.size ∧ ∀ t, t < n → w.cell? ⟨b, off + t, none⟩ = some (.float .f64 (d t)))
theorem FltS.fr {S : List Nat} {w w' : World} {base n : Nat} {v : Value} {d : Nat → Nat} (h : FltS w base v n d) (hF : Fr S w w') (hS : ∀ x ∈ S, x < base) : FltS w' base v n d := by
  obtain ⟨a, cap, e, h1⟩ := h
  refine ⟨a, cap, e, fun hn => ?_⟩
  obtain ⟨b, off, e2, h2, h3, h4⟩ := h1 hn
  have hb : b ∉ S := fun hx => by have := hS b hx; omega
  exact ⟨b, off, e2, h2, Nat.lt_of_lt_of_le h3 hF.size, fun t ht => (hF.cell (p := ⟨b, off + t, none⟩) h3 hb).trans (h4 t ht)⟩
theorem infF : (Try.prog.info? 22).map (fun i => (i.zero, i.size, i.bytes)) = some (some (.float .f64 0), 1, 8) := by kernel_rfl
def flts (d : Nat → Nat) (n : Nat) : List Value := (List.range n).map fun (t : Nat) => .float .f64 (d t)
theorem flts_succ (d : Nat → Nat) (n : Nat) : flts d (n + 1) = flts d n ++ [.float .f64 (d n)] := by unfold flts; rw [List.range_succ, List.map_append]; rfl
theorem flts_s {w : World} {base n : Nat} {v : Value} {d : Nat → Nat} (h : w.ownsRow base 22 1 v n (flts d n)) : FltS w base v n d := by
  obtain ⟨h1, ⟨rfl, rfl⟩ | ⟨g, cap, cur, rfl, hb, hg, hc, hm, hs, ht⟩⟩ := h
  · exact ⟨none, 0, rfl, fun h => by omega⟩
  · rw [Nat.mul_one] at hs ht
    have hB : Blk w g cur 22 := hg
    refine ⟨_, _, rfl, fun hn => ⟨g, 0, rfl, hb, hB.lt, fun t htn => ?_⟩⟩
    rw [Nat.zero_add]
    refine hB.cell ?_
    have h3 : (cur.toList.take n)[t]? = (flts d n)[t]? := by rw [ht]
    rw [List.getElem?_take_of_lt htn] at h3
    rw [← Array.getElem?_toList, h3]
    unfold flts
    rw [List.getElem?_map, List.getElem?_range htn]; rfl
set_option maxRecDepth 100000 in
set_option maxHeartbeats 3200000 in
theorem floats_det (z0 : Nat → Int) (z1 : Nat → Nat) (len1 : Nat) (hz : ∀ t, t < len1 → z1 t < 18446744073709551616) : ∃ D : Nat → Nat, (∀ t, D t < 18446744073709551616) ∧ ∀ w a0 len0 cap0 a1 cap1, SlI .i64 w a0 len0 cap0 z0 → SlF w a1 len1 cap1 z1 →
    Calls Try.prog 38 #[.slice a0 len0 cap0, .slice a1 len1 cap1] w fun e w' => ∃ v, e = .returned v ∧ FltS w' w.heap.size v (min len0 20) D ∧ Fr [] w w' := by
  have hx : ∀ t, (if t < len1 then z1 t else 4602678819172646912) < 18446744073709551616 := fun t => by
    split
    · exact hz t (by assumption)
    · decide
  have hall : ∀ t, ∃ y, y < 18446744073709551616 ∧ ∀ w, Calls Try.prog 24 #[.int .i64 (z0 t), .float .f64 (if t < len1 then z1 t else 4602678819172646912)] w fun e w' => e = .returned (.float .f64 y) ∧ w = w' := fun t => float_det _ _ (hx t)
  refine ⟨fun t => Classical.choose (hall t), fun t => (Classical.choose_spec (hall t)).1, ?_⟩
  have hD := fun t => (Classical.choose_spec (hall t)).2
  generalize hDD : (fun t => Classical.choose (hall t)) = D at *
  have hD' : ∀ t w, Calls Try.prog 24 #[.int .i64 (z0 t), .float .f64 (if t < len1 then z1 t else 4602678819172646912)] w fun e w' => e = .returned (.float .f64 (D t)) ∧ w = w' := fun t w => by rw [← hDD]; exact hD t w
  clear hD hDD hall hx
  have HD := Lib.hid hD'; clear hD'
  intro w a0 len0 cap0 a1 cap1 s0 s1
  obtain ⟨i0, hi0, hz0, hz1, hz2⟩ := info_parts infF
  have HC0 := Lib.hid s0.1.cells
  have HC1 := Lib.hid s1.1.cells
  have hr0 := s0.1.reach
  have hl0 := s0.1.le
  have hr1 := s1.1.reach
  have hl1 := s1.1.le
  clear s0 s1 hz
  go_enter Try.func38, Try.ntmps38
  go_wp2_with fail
  go_loopw [5, 6] (fun ov kv wr => ∃ k : Nat, k ≤ len0 ∧ k ≤ 20 ∧ kv = .int .i64 k ∧ wr.ownsRow w.heap.size 22 1 ov k (flts D k) ∧ Fr [] w wr) (fun _ kv _ => 20 - (intOf kv).toNat)
  case atStart => exact ⟨0, by omega, by omega, rfl, own_nil _ _ _ _, Fr.refl _ _⟩
  case round =>
    obtain ⟨k, hk, hk20, rfl, hown, hFr⟩ := hrel
    by_cases hlt : k < len0 ∧ k < 20
    · obtain ⟨hlt, hlt2⟩ := hlt
      obtain ⟨bb, off, rfl, hlb, hc⟩ := HC0.out (by omega)
      have hcj := (hFr.cell (p := ⟨bb, off + k, none⟩) hlb (by simp)).trans (hc k hlt)
      clear hc
      have q0 : 0 ≤ (k : Int) := by omega
      have q1 : (k : Int) < (len0 : Int) := by omega
      have q2 : (k : Int) < 20 := by omega
      have hdk := HD.out k
      by_cases hraw : k < len1
      case' pos =>
        rw [if_pos hraw] at hdk
        obtain ⟨b2, off2, rfl, hlb2, hc2⟩ := HC1.out (by omega)
        have hcj2 := (hFr.cell (p := ⟨b2, off2 + k, none⟩) hlb2 (by simp)).trans (hc2 k hraw)
        clear hc2
        have q3 : (k : Int) < (len1 : Int) := by omega
        have HDK := Lib.hid hdk; clear hdk
        go_wp2_with fail
        refine (HDK.out _).mono ?_; rintro e w' ⟨rfl, rfl⟩
      case' neg =>
        rw [if_neg hraw] at hdk
        have q3 : ¬ (k : Int) < (len1 : Int) := by omega
        have HDK := Lib.hid hdk; clear hdk
        go_wp2_with fail
        refine (HDK.out _).mono ?_; rintro e w' ⟨rfl, rfl⟩
      all_goals
        dsimp only
        go_step
        iterate 1 (refine wpList_plain rfl (fun K hK => ?_); go_simp; refine hK _ _ ?_; clear hK K)
        refine wpList_append_src _ rfl (Operand.tmp 26) (Operand.tmp 33) 40 rfl w.heap.size 22 i0 (.float .f64 0) 1 8 Try.underlying40 hi0 hz0 hz1 hz2 rfl (by decide) _ _ k 1 (flts D k) [.float .f64 (D k)] rfl rfl ?c1 ?c2 ?c3 ?c4 ?c5 ?_
        case c1 => exact (own_fr hown (Fr.refl [] wr) (by simp)).alloc _
        case c2 => exact src_blk (sz := 1) (m := 1) (by simpa using Blk.new wr #[.float .f64 (D k)] 22) (by simp) (by simp; rfl) 1
        case c3 => unfold maxLen; omega
        case c4 => omega
        case c5 => have := hFr.size; simp; omega
        intro v1 w1 hown1 hg1 hat1
        have hX : Fr [] wr (wr.alloc (.cells #[.float .f64 (D k)] 22)) := (Fr.refl [] wr).alloc _
        have hY := own_fr hown hX (by simp)
        have hZ := fr_own (S := []) (hFr.trans hX (by simp)) hY hg1 (Nat.le_refl _)
        rw [← flts_succ] at hown1
        clear hX hY hg1 hat1 hown hcj
        go_wp2_with fail
        go_roundw
        case rel => exact ⟨k + 1, by omega, by omega, by go_num, hown1, hZ⟩
        case measure => simp [intOf]; omega
    · have hmin : min len0 20 = k := by omega

      by_cases hlt1 : k < len0
      · have q0 : 0 ≤ (k : Int) := by omega
        have q1 : (k : Int) < (len0 : Int) := by omega
        have q2 : ¬ (k : Int) < 20 := by omega
        go_wp2_with fail
        go_ret
        exact ⟨_, rfl, by first | exact flts_s hown | (rw [hmin]; exact flts_s hown), hFr⟩
      · have q1 : ¬ (k : Int) < (len0 : Int) := by omega
        go_wp2_with fail
        go_ret
        exact ⟨_, rfl, by first | exact flts_s hown | (rw [hmin]; exact flts_s hown), hFr⟩
end Go.Proofs.Ytiniaphleogkiaa.Vw
