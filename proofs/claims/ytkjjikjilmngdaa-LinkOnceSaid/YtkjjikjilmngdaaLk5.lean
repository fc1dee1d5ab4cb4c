/- chapter 16: its example; lists of numbers that are the same. -/
import Derived.Test.YtkjjikjilmngdaaLk4
namespace Go.Proofs.Ytkjjikjilmngdaa.Lk
open Go.RowKit Dt Go.Proofs.Ytkjjikjilmngdaa.Wn Go.Proofs.Ytkjjikjilmngdaa.Sq Go.Proofs.Ytkjjikjilmngdaa.Mt
set_option linter.unusedVariables false
set_option linter.unusedSimpArgs false

theorem ints_inj : ∀ {l r : List Nat}, ints l = ints r → l = r
  | [], [], _ => rfl
  | [], y :: r, h => by simp [ints] at h
  | x :: l, [], h => by simp [ints] at h
  | x :: l, y :: r, h => by
    simp only [ints, List.map_cons, List.cons.injEq, Value.int.injEq, true_and] at h
    rw [ints_inj (l := l) (r := r) h.2, show x = y by have := h.1; omega]
set_option maxRecDepth 100000 in
theorem same_any {w : World} {va vb : Value} {l r : List Nat} (ha : LS w va (ints l)) (hb : LS w vb (ints r)) (hl : l.length ≤ 1000000) (hr : r.length ≤ 1000000) :
    Calls Try.prog 16 #[va, vb] w fun e w' => e = .returned (.bool (decide (l = r))) ∧ ∃ k, w' = w.drewN k := by
  obtain ⟨aa, ca, rfl, ha1, ha2, ha3, ha4⟩ := ha.ex
  obtain ⟨ab, cb, rfl, hb1, hb2, hb3, hb4⟩ := hb.ex
  simp only [ints_len] at *
  have hln : l.length ≤ maxLen := by unfold maxLen; omega
  have hrn : r.length ≤ maxLen := by unfold maxLen; omega
  by_cases hne : l.length = r.length
  · have q1 : ((l.length : Int) != r.length) = false := by simp [hne]
    have HA4 := Lib.hid ha4; have HB4 := Lib.hid hb4; have HNE := Lib.hid hne
    clear ha4 hb4 ha3 hb3 ha hb hne
    go_enter Try.func16, Try.ntmps16
    go_wp2_with fail
    go_loopw [13] (fun iv wr => ∃ k : Nat, k ≤ l.length ∧ iv = .int .i64 k ∧ l.take k = r.take k ∧ ∃ d, wr = w.drewN d) (fun iv _ => l.length - (intOf iv).toNat)
    case atStart => exact ⟨0, Nat.zero_le _, rfl, by simp, 0, rfl⟩
    case round =>
      obtain ⟨k, hk, rfl, hkk, d, rfl⟩ := hrel
      by_cases hlt : k < l.length
      · have q3 : (k : Int) < l.length := by omega
        have q4 : (0 : Int) ≤ k := by omega
        obtain ⟨ba, oa, rfl, _, hca⟩ := HA4.out (by omega)
        obtain ⟨bb, ob, rfl, _, hcb⟩ := HB4.out (by have := HNE.out; omega)
        have hrl : k < r.length := by have := HNE.out; omega
        obtain ⟨x, hx⟩ : ∃ x, l[k]? = some x := ⟨_, List.getElem?_eq_getElem hlt⟩
        obtain ⟨y, hy⟩ : ∃ y, r[k]? = some y := ⟨_, List.getElem?_eq_getElem hrl⟩
        have d1 : w.cell? ⟨ba, oa + k, none⟩ = some (.int .i64 x) := hca k _ (by simp [ints, hx])
        have d2 : w.cell? ⟨bb, ob + k, none⟩ = some (.int .i64 y) := hcb k _ (by simp [ints, hy])
        have q5 : (k : Int) < r.length := by omega
        have HX := Lib.hid hx; have HY := Lib.hid hy; have HKK := Lib.hid hkk
        clear hx hy hkk hca hcb
        by_cases hxy : x = y
        · have q6 : ((x : Int) != y) = false := by simp [hxy]
          have HXY := Lib.hid hxy
          clear hxy
          go_wp2_with fail
          go_quiet (fail)
          go_wp2_with fail
          go_roundw
          case rel => exact ⟨k + 1, by omega, by go_num, by rw [take_snoc HX.out, take_snoc HY.out, HKK.out, HXY.out], d + nq, by simp [World.drewN, Nat.add_assoc]⟩
          case measure => simp [intOf]; omega
        · have q6 : ((x : Int) != y) = true := by simp; omega
          have HXY := Lib.hid hxy
          clear hxy
          go_wp2_with fail
          go_quiet (fail)
          go_wp2_with fail
          go_ret
          refine ⟨?_, d + nq, by simp [World.drewN, Nat.add_assoc]⟩
          have : l ≠ r := fun e => HXY.out (by have h1 := HX.out; rw [e, HY.out] at h1; exact (Option.some.inj h1).symm)
          rw [decide_eq_false this]; rfl
      · have hke : k = l.length := by omega
        subst hke
        have q3 : ¬ ((l.length : Int) < l.length) := by omega
        have hlr : l = r := by
          have h1 : l.take l.length = l := List.take_length
          have h2 : r.take l.length = r := by rw [HNE.out]; exact List.take_length
          rw [h1, h2] at hkk; exact hkk
        have HLR := Lib.hid hlr
        clear hlr hkk
        go_wp2_with fail
        go_ret
        exact ⟨by rw [decide_eq_true HLR.out]; rfl, d, rfl⟩
  · have q1 : ((l.length : Int) != r.length) = true := by simp; omega
    have hlr : l ≠ r := fun e => hne (by rw [e])
    have HLR := Lib.hid hlr
    clear ha4 hb4 ha3 hb3 ha hb hne hlr
    go_enter Try.func16, Try.ntmps16
    go_wp2_with fail
    go_ret
    exact ⟨by rw [decide_eq_false HLR.out]; rfl, 0, rfl⟩
end Go.Proofs.Ytkjjikjilmngdaa.Lk
