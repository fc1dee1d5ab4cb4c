/- configs: rules. -/
import Derived.Test.YtckodnogjedmnaaCf
import Derived.Test.YtckodnogjedmnaaSl
namespace Go.Proofs.Ytckodnogjedmnaa.Cfg
open Go.RowKit Dt Go.Proofs.Ytckodnogjedmnaa.Hd
set_option linter.unusedVariables false
set_option linter.unusedSimpArgs false

/-- an op as it may be -/
def OpOk (t : Int × Int × Int) : Prop := 1 ≤ t.1 ∧ t.1 ≤ 13 ∧ -1000000 ≤ t.2.1 ∧ t.2.1 ≤ 1000000 ∧ -1000000 ≤ t.2.2 ∧ t.2.2 ≤ 1000000
/-- the cells of ops -/
def op3 (t : Int × Int × Int) : List Value := [.int .i64 t.1, .int .i64 t.2.1, .int .i64 t.2.2]
def ops3 (l : List (Int × Int × Int)) : List Value := l.flatMap op3
theorem ops3_app (l r : List (Int × Int × Int)) : ops3 (l ++ r) = ops3 l ++ ops3 r := by simp [ops3]
theorem op3_one (t : Int × Int × Int) : ∀ u ∈ op3 t, u.oneCell' = true := fun u hu => by
  simp [op3] at hu; rcases hu with rfl | rfl | rfl <;> rfl
theorem ops3_one (l : List (Int × Int × Int)) : ∀ u ∈ ops3 l, u.oneCell' = true := fun u hu => by
  unfold ops3 at hu
  obtain ⟨t, -, h⟩ := List.mem_flatMap.1 hu
  exact op3_one t u h
theorem ops3_len : ∀ l : List (Int × Int × Int), (ops3 l).length = l.length * 3
  | [] => rfl
  | x :: l => by
    have e : ops3 (x :: l) = op3 x ++ ops3 l := by simp [ops3]
    rw [e, List.length_append, ops3_len l]; simp [op3]; omega
theorem ops3_get {j : Nat} (hj : j < 3) : ∀ {l : List (Int × Int × Int)} {t : Nat} {x : Int × Int × Int}, l[t]? = some x → (ops3 l)[t * 3 + j]? = (op3 x)[j]?
  | [], t, x, h => by simp at h
  | y :: l, 0, x, h => by
    simp at h; subst h
    have e : ops3 (y :: l) = op3 y ++ ops3 l := by simp [ops3]
    rw [e, List.getElem?_append_left (by simp [op3]; omega)]; congr 1; omega
  | y :: l, t + 1, x, h => by
    have := ops3_get hj (l := l) (t := t) (x := x) (by simpa using h)
    have e : ops3 (y :: l) = op3 y ++ ops3 l := by simp [ops3]
    rw [e, List.getElem?_append_right (by simp [op3]; omega)]
    rw [← this]; congr 1; simp [op3]; omega
theorem infOp : (Try.prog.info? 87).map (fun i => (i.zero, i.size, i.bytes)) = some (some (.agg #[.int .i64 0, .int .i64 0, .int .i64 0]), 3, 24) := by kernel_rfl
/-- a slice of raw ops -/
structure SlN (w : World) (a : Option Addr) (len cap : Nat) (C : Nat → Nat → Prop) : Prop where
  le : len ≤ cap
  nil : a = none → cap = 0
  reach : cap ≤ maxLen
  cells : 0 < len → ∃ b off, a = some ⟨b, off, none⟩ ∧ b < w.heap.size ∧ C b off
def SlR (w : World) (a : Option Addr) (len cap : Nat) (z : Nat → Int × Int × Int) : Prop :=
  SlN w a len cap (fun b off => ∀ i, i < len → w.cell? ⟨b, off + i * 3, none⟩ = some (.int .i64 (z i).1) ∧ w.cell? ⟨b, off + (i * 3 + 1), none⟩ = some (.int .i64 (z i).2.1) ∧ w.cell? ⟨b, off + (i * 3 + 2), none⟩ = some (.int .i64 (z i).2.2))
/-- rules as they may be -/
def RulesP (w : World) (e : Ending) (w' : World) : Prop := ∃ (v : Value) (l : List (Int × Int × Int)), e = .returned v ∧ w'.ownsRow w.heap.size 87 3 v l.length (ops3 l) ∧ l.length ≤ 16 ∧ (∀ t ∈ l, OpOk t) ∧ Fr [] w w'
set_option maxRecDepth 100000 in
set_option maxHeartbeats 6400000 in
theorem rules_any {w : World} {a : Option Addr} {len cap : Nat} {z : Nat → Int × Int × Int} (hs : SlR w a len cap z) : Calls Try.prog 40 #[.slice a len cap] w (RulesP w) := by
  obtain ⟨hle, -, hre, hcells⟩ := hs
  have hlm : len ≤ maxLen := Nat.le_trans hle hre
  unfold maxLen at hre
  obtain ⟨i0, hi0, hz0, hz1, hz2⟩ := info_parts infOp
  have HC := Lib.hid hcells
  clear hcells
  go_enter Try.func40, Try.ntmps40
  go_wp2_with fail
  go_loopw [3, 4] (fun lv iv wr => ∃ (l : List (Int × Int × Int)), l.length ≤ 16 ∧ l.length ≤ len ∧ iv = .int .i64 l.length ∧ wr.ownsRow w.heap.size 87 3 lv l.length (ops3 l) ∧ (∀ t ∈ l, OpOk t) ∧ Fr [] w wr) (fun _ iv _ => len - (intOf iv).toNat)
  case atStart => exact ⟨[], by simp, by simp, rfl, own_nil _ _ _ _, by simp, Fr.refl _ _⟩
  case round =>
    obtain ⟨l, hl16, hll, rfl, hlo, hok, hF⟩ := hrel
    by_cases hgo : l.length < len ∧ l.length < 16
    · obtain ⟨h1, h2⟩ := hgo
      have q1 : (l.length : Int) < len := by omega
      have q2 : (l.length : Int) < 16 := by omega
      have q0 : (0 : Int) ≤ l.length := by omega
      obtain ⟨b, off, rfl, hblt, hcs⟩ := HC.out (by omega)
      obtain ⟨k1, k2, k3⟩ := hcs l.length h1
      have d1 := (hF.cell (p := ⟨b, off + l.length * 3, none⟩) hblt (by simp)).trans k1
      have d2 := (hF.cell (p := ⟨b, off + (l.length * 3 + 1), none⟩) hblt (by simp)).trans k2
      have d3 := (hF.cell (p := ⟨b, off + (l.length * 3 + 2), none⟩) hblt (by simp)).trans k3
      have d2' : wr.cell? ⟨b, off + l.length * 3 + 1, none⟩ = some (.int .i64 (z l.length).2.1) := by rw [← d2]; congr 1
      have d3' : wr.cell? ⟨b, off + l.length * 3 + 2, none⟩ = some (.int .i64 (z l.length).2.2) := by rw [← d3]; congr 1
      have HLO := Lib.hid hlo; have HOK := Lib.hid hok; have HF := Lib.hid hF
      clear hcs k1 k2 k3 hlo hok hF
      go_wp2_with fail
      refine (op_any _ _ _).mono ?_; rintro e w2 ⟨a', b', c', rfl, hF2⟩
      have HLO2 := Lib.hid (own_fr (S := []) HLO.out hF2 (by simp)); have HF2 := Lib.hid (HF.out.trans hF2 (by simp))
      clear hF2 d1 d2 d3 d2' d3' HLO HF
      go_upto_region 6 with (fail)
      have hO := Blk.new w2 #[.int .i64 a', .int .i64 b', .int .i64 c'] 87
      have hFn := (Fr.refl [] w2).alloc (.cells #[.int .i64 a', .int .i64 b', .int .i64 c'] 87)
      have hLO3 := own_fr (S := []) HLO2.out hFn (by simp)
      have hF3 := HF2.out.trans hFn (by simp)
      have hsz2 := HF2.out.size
      clear hFn
      obtain ⟨o, hoe⟩ : ∃ o, w2.heap.size = o := ⟨_, rfl⟩
      rw [hoe] at hO hsz2 ⊢
      have hog : w.heap.size ≤ o := hsz2
      generalize w2.alloc (.cells #[.int .i64 a', .int .i64 b', .int .i64 c'] 87) = w3 at *
      have o0 := Blk.cell (i := 0) hO rfl
      have o1 := Blk.cell (i := 1) hO rfl
      have o2 := Blk.cell (i := 2) hO rfl
      have f0 := Blk.free hO 0
      have f1 := Blk.free hO 1
      have f2 := Blk.free hO 2
      simp only [List.getElem_toArray, List.getElem_cons_zero, List.getElem_cons_succ] at o0 o1 o2
      rcases (show (a' < 1) ∨ (¬ a' < 1 ∧ 13 < a') ∨ (¬ a' < 1 ∧ ¬ 13 < a' ∧ b' < -1000000) ∨ (¬ a' < 1 ∧ ¬ 13 < a' ∧ ¬ b' < -1000000 ∧ 1000000 < b') ∨ (¬ a' < 1 ∧ ¬ 13 < a' ∧ ¬ b' < -1000000 ∧ ¬ 1000000 < b' ∧ c' < -1000000) ∨ (¬ a' < 1 ∧ ¬ 13 < a' ∧ ¬ b' < -1000000 ∧ ¬ 1000000 < b' ∧ ¬ c' < -1000000 ∧ 1000000 < c') ∨ (¬ a' < 1 ∧ ¬ 13 < a' ∧ ¬ b' < -1000000 ∧ ¬ 1000000 < b' ∧ ¬ c' < -1000000 ∧ ¬ 1000000 < c') by omega) with e1 | ⟨e1, e2⟩ | ⟨e1, e2, e3⟩ | ⟨e1, e2, e3, e4⟩ | ⟨e1, e2, e3, e4, e5⟩ | ⟨e1, e2, e3, e4, e5, e6⟩ | ⟨e1, e2, e3, e4, e5, e6⟩
      · go_upto_region 8 with (fail)
        apply wp_region_lit
        have hF4' := ((hF3.setCell (p := ⟨o, 0, none⟩) (.inr hog) (.int .i64 13)).setCell (p := ⟨o, 1, none⟩) (.inr hog) (.int .i64 0)).setCell (p := ⟨o, 2, none⟩) (.inr hog) (.int .i64 0)
        have hFo : Fr [o] w3 (((w3.setCell ⟨o, 0, none⟩ (.int .i64 13)).setCell ⟨o, 1, none⟩ (.int .i64 0)).setCell ⟨o, 2, none⟩ (.int .i64 0)) := (((Fr.refl [o] w3).setCell (p := ⟨o, 0, none⟩) (.inl (by simp)) _).setCell (p := ⟨o, 1, none⟩) (.inl (by simp)) _).setCell (p := ⟨o, 2, none⟩) (.inl (by simp)) _
        have hLO4' := own_keep hLO3 hFo (fun g hg hx => by
          simp at hx; subst hx
          have := own_lt HLO2.out hg; omega)
        have hO4 : Blk (((w3.setCell ⟨o, 0, none⟩ (.int .i64 13)).setCell ⟨o, 1, none⟩ (.int .i64 0)).setCell ⟨o, 2, none⟩ (.int .i64 0)) o #[.int .i64 13, .int .i64 0, .int .i64 0] 87 := ((hO.set 0 _).set 1 _).set 2 _
        clear o0 o1 o2 f0 f1 f2
        have HLO4 := Lib.hid hLO4'; have HF4 := Lib.hid hF4'
        generalize ((w3.setCell ⟨o, 0, none⟩ (.int .i64 13)).setCell ⟨o, 1, none⟩ (.int .i64 0)).setCell ⟨o, 2, none⟩ (.int .i64 0) = w4 at *
        have o0 := Blk.cell (i := 0) hO4 rfl
        have o1 := Blk.cell (i := 1) hO4 rfl
        have o2 := Blk.cell (i := 2) hO4 rfl
        have f0 := Blk.free hO4 0
        have f1 := Blk.free hO4 1
        have f2 := Blk.free hO4 2
        simp only [List.getElem_toArray, List.getElem_cons_zero, List.getElem_cons_succ] at o0 o1 o2
        clear hO4 hF4' hFo hLO4' hO hF3 hLO3
        iterate 3 (refine wpList_plain rfl (fun K hK => ?_); go_simp; refine hK _ _ ?_; clear hK K)
        have hnb := Blk.new w4 #[.int .i64 13, .int .i64 0, .int .i64 0] 87
        have hF4 := (Fr.refl [] w4).alloc (.cells #[.int .i64 13, .int .i64 0, .int .i64 0] 87)
        have hlo4 := own_fr (S := []) HLO4.out hF4 (by simp)
        have hw24 : w.heap.size ≤ (w4.alloc (.cells #[.int .i64 13, .int .i64 0, .int .i64 0] 87)).heap.size := Nat.le_trans HF4.out.size hF4.size
        refine wpList_append_src _ rfl (Operand.tmp 50) (Operand.tmp 52) 44 rfl w.heap.size 87 i0 _ 3 24 Try.underlying44 hi0 hz0 hz1 hz2 rfl (by decide) u3 (.slice (some ⟨w4.heap.size, 0, none⟩) 1 1) l.length 1 (ops3 l) (ops3 [(13, 0, 0)]) rfl (by kernel_rfl) hlo4 (src_blk hnb (by simp) (by simp [Value.oneCell']) 1) (by unfold maxLen; omega) (by omega) hw24 ?_
        intro v5 w5 ho5 hg5 hat5
        have hF5 := fr_own (HF4.out.trans hF4 (by simp)) hlo4 hg5 (Nat.le_refl _)
        rw [← ops3_app] at ho5
        have HO5 := Lib.hid ho5; have HF5 := Lib.hid hF5
        have hok5 : ∀ t ∈ l ++ [(13, 0, 0)], OpOk t := fun t ht => by
          simp only [List.mem_append, List.mem_singleton] at ht
          rcases ht with ht | ht
          · exact HOK.out t ht
          · subst ht; unfold OpOk; simp only; omega
        have HOK5 := Lib.hid hok5
        clear hnb hF4 hlo4 hw24 ho5 hg5 hat5 hF5 hok5 o0 o1 o2 f0 f1 f2
        go_wp2_with fail
        go_roundw
        case rel => exact ⟨l ++ [(13, 0, 0)], by simp; omega, by simp; omega, by simp, by rw [List.length_append]; exact HO5.out, HOK5.out, HF5.out⟩
        case measure => simp [intOf]; omega

      · go_upto_region 8 with (fail)
        apply wp_region_lit
        have hF4' := ((hF3.setCell (p := ⟨o, 0, none⟩) (.inr hog) (.int .i64 13)).setCell (p := ⟨o, 1, none⟩) (.inr hog) (.int .i64 0)).setCell (p := ⟨o, 2, none⟩) (.inr hog) (.int .i64 0)
        have hFo : Fr [o] w3 (((w3.setCell ⟨o, 0, none⟩ (.int .i64 13)).setCell ⟨o, 1, none⟩ (.int .i64 0)).setCell ⟨o, 2, none⟩ (.int .i64 0)) := (((Fr.refl [o] w3).setCell (p := ⟨o, 0, none⟩) (.inl (by simp)) _).setCell (p := ⟨o, 1, none⟩) (.inl (by simp)) _).setCell (p := ⟨o, 2, none⟩) (.inl (by simp)) _
        have hLO4' := own_keep hLO3 hFo (fun g hg hx => by
          simp at hx; subst hx
          have := own_lt HLO2.out hg; omega)
        have hO4 : Blk (((w3.setCell ⟨o, 0, none⟩ (.int .i64 13)).setCell ⟨o, 1, none⟩ (.int .i64 0)).setCell ⟨o, 2, none⟩ (.int .i64 0)) o #[.int .i64 13, .int .i64 0, .int .i64 0] 87 := ((hO.set 0 _).set 1 _).set 2 _
        clear o0 o1 o2 f0 f1 f2
        have HLO4 := Lib.hid hLO4'; have HF4 := Lib.hid hF4'
        generalize ((w3.setCell ⟨o, 0, none⟩ (.int .i64 13)).setCell ⟨o, 1, none⟩ (.int .i64 0)).setCell ⟨o, 2, none⟩ (.int .i64 0) = w4 at *
        have o0 := Blk.cell (i := 0) hO4 rfl
        have o1 := Blk.cell (i := 1) hO4 rfl
        have o2 := Blk.cell (i := 2) hO4 rfl
        have f0 := Blk.free hO4 0
        have f1 := Blk.free hO4 1
        have f2 := Blk.free hO4 2
        simp only [List.getElem_toArray, List.getElem_cons_zero, List.getElem_cons_succ] at o0 o1 o2
        clear hO4 hF4' hFo hLO4' hO hF3 hLO3
        iterate 3 (refine wpList_plain rfl (fun K hK => ?_); go_simp; refine hK _ _ ?_; clear hK K)
        have hnb := Blk.new w4 #[.int .i64 13, .int .i64 0, .int .i64 0] 87
        have hF4 := (Fr.refl [] w4).alloc (.cells #[.int .i64 13, .int .i64 0, .int .i64 0] 87)
        have hlo4 := own_fr (S := []) HLO4.out hF4 (by simp)
        have hw24 : w.heap.size ≤ (w4.alloc (.cells #[.int .i64 13, .int .i64 0, .int .i64 0] 87)).heap.size := Nat.le_trans HF4.out.size hF4.size
        refine wpList_append_src _ rfl (Operand.tmp 50) (Operand.tmp 52) 44 rfl w.heap.size 87 i0 _ 3 24 Try.underlying44 hi0 hz0 hz1 hz2 rfl (by decide) u3 (.slice (some ⟨w4.heap.size, 0, none⟩) 1 1) l.length 1 (ops3 l) (ops3 [(13, 0, 0)]) rfl (by kernel_rfl) hlo4 (src_blk hnb (by simp) (by simp [Value.oneCell']) 1) (by unfold maxLen; omega) (by omega) hw24 ?_
        intro v5 w5 ho5 hg5 hat5
        have hF5 := fr_own (HF4.out.trans hF4 (by simp)) hlo4 hg5 (Nat.le_refl _)
        rw [← ops3_app] at ho5
        have HO5 := Lib.hid ho5; have HF5 := Lib.hid hF5
        have hok5 : ∀ t ∈ l ++ [(13, 0, 0)], OpOk t := fun t ht => by
          simp only [List.mem_append, List.mem_singleton] at ht
          rcases ht with ht | ht
          · exact HOK.out t ht
          · subst ht; unfold OpOk; simp only; omega
        have HOK5 := Lib.hid hok5
        clear hnb hF4 hlo4 hw24 ho5 hg5 hat5 hF5 hok5 o0 o1 o2 f0 f1 f2
        go_wp2_with fail
        go_roundw
        case rel => exact ⟨l ++ [(13, 0, 0)], by simp; omega, by simp; omega, by simp, by rw [List.length_append]; exact HO5.out, HOK5.out, HF5.out⟩
        case measure => simp [intOf]; omega

      · go_upto_region 8 with (fail)
        apply wp_region_lit
        have hF4' := ((hF3.setCell (p := ⟨o, 0, none⟩) (.inr hog) (.int .i64 13)).setCell (p := ⟨o, 1, none⟩) (.inr hog) (.int .i64 0)).setCell (p := ⟨o, 2, none⟩) (.inr hog) (.int .i64 0)
        have hFo : Fr [o] w3 (((w3.setCell ⟨o, 0, none⟩ (.int .i64 13)).setCell ⟨o, 1, none⟩ (.int .i64 0)).setCell ⟨o, 2, none⟩ (.int .i64 0)) := (((Fr.refl [o] w3).setCell (p := ⟨o, 0, none⟩) (.inl (by simp)) _).setCell (p := ⟨o, 1, none⟩) (.inl (by simp)) _).setCell (p := ⟨o, 2, none⟩) (.inl (by simp)) _
        have hLO4' := own_keep hLO3 hFo (fun g hg hx => by
          simp at hx; subst hx
          have := own_lt HLO2.out hg; omega)
        have hO4 : Blk (((w3.setCell ⟨o, 0, none⟩ (.int .i64 13)).setCell ⟨o, 1, none⟩ (.int .i64 0)).setCell ⟨o, 2, none⟩ (.int .i64 0)) o #[.int .i64 13, .int .i64 0, .int .i64 0] 87 := ((hO.set 0 _).set 1 _).set 2 _
        clear o0 o1 o2 f0 f1 f2
        have HLO4 := Lib.hid hLO4'; have HF4 := Lib.hid hF4'
        generalize ((w3.setCell ⟨o, 0, none⟩ (.int .i64 13)).setCell ⟨o, 1, none⟩ (.int .i64 0)).setCell ⟨o, 2, none⟩ (.int .i64 0) = w4 at *
        have o0 := Blk.cell (i := 0) hO4 rfl
        have o1 := Blk.cell (i := 1) hO4 rfl
        have o2 := Blk.cell (i := 2) hO4 rfl
        have f0 := Blk.free hO4 0
        have f1 := Blk.free hO4 1
        have f2 := Blk.free hO4 2
        simp only [List.getElem_toArray, List.getElem_cons_zero, List.getElem_cons_succ] at o0 o1 o2
        clear hO4 hF4' hFo hLO4' hO hF3 hLO3
        iterate 3 (refine wpList_plain rfl (fun K hK => ?_); go_simp; refine hK _ _ ?_; clear hK K)
        have hnb := Blk.new w4 #[.int .i64 13, .int .i64 0, .int .i64 0] 87
        have hF4 := (Fr.refl [] w4).alloc (.cells #[.int .i64 13, .int .i64 0, .int .i64 0] 87)
        have hlo4 := own_fr (S := []) HLO4.out hF4 (by simp)
        have hw24 : w.heap.size ≤ (w4.alloc (.cells #[.int .i64 13, .int .i64 0, .int .i64 0] 87)).heap.size := Nat.le_trans HF4.out.size hF4.size
        refine wpList_append_src _ rfl (Operand.tmp 50) (Operand.tmp 52) 44 rfl w.heap.size 87 i0 _ 3 24 Try.underlying44 hi0 hz0 hz1 hz2 rfl (by decide) u3 (.slice (some ⟨w4.heap.size, 0, none⟩) 1 1) l.length 1 (ops3 l) (ops3 [(13, 0, 0)]) rfl (by kernel_rfl) hlo4 (src_blk hnb (by simp) (by simp [Value.oneCell']) 1) (by unfold maxLen; omega) (by omega) hw24 ?_
        intro v5 w5 ho5 hg5 hat5
        have hF5 := fr_own (HF4.out.trans hF4 (by simp)) hlo4 hg5 (Nat.le_refl _)
        rw [← ops3_app] at ho5
        have HO5 := Lib.hid ho5; have HF5 := Lib.hid hF5
        have hok5 : ∀ t ∈ l ++ [(13, 0, 0)], OpOk t := fun t ht => by
          simp only [List.mem_append, List.mem_singleton] at ht
          rcases ht with ht | ht
          · exact HOK.out t ht
          · subst ht; unfold OpOk; simp only; omega
        have HOK5 := Lib.hid hok5
        clear hnb hF4 hlo4 hw24 ho5 hg5 hat5 hF5 hok5 o0 o1 o2 f0 f1 f2
        go_wp2_with fail
        go_roundw
        case rel => exact ⟨l ++ [(13, 0, 0)], by simp; omega, by simp; omega, by simp, by rw [List.length_append]; exact HO5.out, HOK5.out, HF5.out⟩
        case measure => simp [intOf]; omega

      · go_upto_region 8 with (fail)
        apply wp_region_lit
        have hF4' := ((hF3.setCell (p := ⟨o, 0, none⟩) (.inr hog) (.int .i64 13)).setCell (p := ⟨o, 1, none⟩) (.inr hog) (.int .i64 0)).setCell (p := ⟨o, 2, none⟩) (.inr hog) (.int .i64 0)
        have hFo : Fr [o] w3 (((w3.setCell ⟨o, 0, none⟩ (.int .i64 13)).setCell ⟨o, 1, none⟩ (.int .i64 0)).setCell ⟨o, 2, none⟩ (.int .i64 0)) := (((Fr.refl [o] w3).setCell (p := ⟨o, 0, none⟩) (.inl (by simp)) _).setCell (p := ⟨o, 1, none⟩) (.inl (by simp)) _).setCell (p := ⟨o, 2, none⟩) (.inl (by simp)) _
        have hLO4' := own_keep hLO3 hFo (fun g hg hx => by
          simp at hx; subst hx
          have := own_lt HLO2.out hg; omega)
        have hO4 : Blk (((w3.setCell ⟨o, 0, none⟩ (.int .i64 13)).setCell ⟨o, 1, none⟩ (.int .i64 0)).setCell ⟨o, 2, none⟩ (.int .i64 0)) o #[.int .i64 13, .int .i64 0, .int .i64 0] 87 := ((hO.set 0 _).set 1 _).set 2 _
        clear o0 o1 o2 f0 f1 f2
        have HLO4 := Lib.hid hLO4'; have HF4 := Lib.hid hF4'
        generalize ((w3.setCell ⟨o, 0, none⟩ (.int .i64 13)).setCell ⟨o, 1, none⟩ (.int .i64 0)).setCell ⟨o, 2, none⟩ (.int .i64 0) = w4 at *
        have o0 := Blk.cell (i := 0) hO4 rfl
        have o1 := Blk.cell (i := 1) hO4 rfl
        have o2 := Blk.cell (i := 2) hO4 rfl
        have f0 := Blk.free hO4 0
        have f1 := Blk.free hO4 1
        have f2 := Blk.free hO4 2
        simp only [List.getElem_toArray, List.getElem_cons_zero, List.getElem_cons_succ] at o0 o1 o2
        clear hO4 hF4' hFo hLO4' hO hF3 hLO3
        iterate 3 (refine wpList_plain rfl (fun K hK => ?_); go_simp; refine hK _ _ ?_; clear hK K)
        have hnb := Blk.new w4 #[.int .i64 13, .int .i64 0, .int .i64 0] 87
        have hF4 := (Fr.refl [] w4).alloc (.cells #[.int .i64 13, .int .i64 0, .int .i64 0] 87)
        have hlo4 := own_fr (S := []) HLO4.out hF4 (by simp)
        have hw24 : w.heap.size ≤ (w4.alloc (.cells #[.int .i64 13, .int .i64 0, .int .i64 0] 87)).heap.size := Nat.le_trans HF4.out.size hF4.size
        refine wpList_append_src _ rfl (Operand.tmp 50) (Operand.tmp 52) 44 rfl w.heap.size 87 i0 _ 3 24 Try.underlying44 hi0 hz0 hz1 hz2 rfl (by decide) u3 (.slice (some ⟨w4.heap.size, 0, none⟩) 1 1) l.length 1 (ops3 l) (ops3 [(13, 0, 0)]) rfl (by kernel_rfl) hlo4 (src_blk hnb (by simp) (by simp [Value.oneCell']) 1) (by unfold maxLen; omega) (by omega) hw24 ?_
        intro v5 w5 ho5 hg5 hat5
        have hF5 := fr_own (HF4.out.trans hF4 (by simp)) hlo4 hg5 (Nat.le_refl _)
        rw [← ops3_app] at ho5
        have HO5 := Lib.hid ho5; have HF5 := Lib.hid hF5
        have hok5 : ∀ t ∈ l ++ [(13, 0, 0)], OpOk t := fun t ht => by
          simp only [List.mem_append, List.mem_singleton] at ht
          rcases ht with ht | ht
          · exact HOK.out t ht
          · subst ht; unfold OpOk; simp only; omega
        have HOK5 := Lib.hid hok5
        clear hnb hF4 hlo4 hw24 ho5 hg5 hat5 hF5 hok5 o0 o1 o2 f0 f1 f2
        go_wp2_with fail
        go_roundw
        case rel => exact ⟨l ++ [(13, 0, 0)], by simp; omega, by simp; omega, by simp, by rw [List.length_append]; exact HO5.out, HOK5.out, HF5.out⟩
        case measure => simp [intOf]; omega

      · go_upto_region 8 with (fail)
        apply wp_region_lit
        have hF4' := ((hF3.setCell (p := ⟨o, 0, none⟩) (.inr hog) (.int .i64 13)).setCell (p := ⟨o, 1, none⟩) (.inr hog) (.int .i64 0)).setCell (p := ⟨o, 2, none⟩) (.inr hog) (.int .i64 0)
        have hFo : Fr [o] w3 (((w3.setCell ⟨o, 0, none⟩ (.int .i64 13)).setCell ⟨o, 1, none⟩ (.int .i64 0)).setCell ⟨o, 2, none⟩ (.int .i64 0)) := (((Fr.refl [o] w3).setCell (p := ⟨o, 0, none⟩) (.inl (by simp)) _).setCell (p := ⟨o, 1, none⟩) (.inl (by simp)) _).setCell (p := ⟨o, 2, none⟩) (.inl (by simp)) _
        have hLO4' := own_keep hLO3 hFo (fun g hg hx => by
          simp at hx; subst hx
          have := own_lt HLO2.out hg; omega)
        have hO4 : Blk (((w3.setCell ⟨o, 0, none⟩ (.int .i64 13)).setCell ⟨o, 1, none⟩ (.int .i64 0)).setCell ⟨o, 2, none⟩ (.int .i64 0)) o #[.int .i64 13, .int .i64 0, .int .i64 0] 87 := ((hO.set 0 _).set 1 _).set 2 _
        clear o0 o1 o2 f0 f1 f2
        have HLO4 := Lib.hid hLO4'; have HF4 := Lib.hid hF4'
        generalize ((w3.setCell ⟨o, 0, none⟩ (.int .i64 13)).setCell ⟨o, 1, none⟩ (.int .i64 0)).setCell ⟨o, 2, none⟩ (.int .i64 0) = w4 at *
        have o0 := Blk.cell (i := 0) hO4 rfl
        have o1 := Blk.cell (i := 1) hO4 rfl
        have o2 := Blk.cell (i := 2) hO4 rfl
        have f0 := Blk.free hO4 0
        have f1 := Blk.free hO4 1
        have f2 := Blk.free hO4 2
        simp only [List.getElem_toArray, List.getElem_cons_zero, List.getElem_cons_succ] at o0 o1 o2
        clear hO4 hF4' hFo hLO4' hO hF3 hLO3
        iterate 3 (refine wpList_plain rfl (fun K hK => ?_); go_simp; refine hK _ _ ?_; clear hK K)
        have hnb := Blk.new w4 #[.int .i64 13, .int .i64 0, .int .i64 0] 87
        have hF4 := (Fr.refl [] w4).alloc (.cells #[.int .i64 13, .int .i64 0, .int .i64 0] 87)
        have hlo4 := own_fr (S := []) HLO4.out hF4 (by simp)
        have hw24 : w.heap.size ≤ (w4.alloc (.cells #[.int .i64 13, .int .i64 0, .int .i64 0] 87)).heap.size := Nat.le_trans HF4.out.size hF4.size
        refine wpList_append_src _ rfl (Operand.tmp 50) (Operand.tmp 52) 44 rfl w.heap.size 87 i0 _ 3 24 Try.underlying44 hi0 hz0 hz1 hz2 rfl (by decide) u3 (.slice (some ⟨w4.heap.size, 0, none⟩) 1 1) l.length 1 (ops3 l) (ops3 [(13, 0, 0)]) rfl (by kernel_rfl) hlo4 (src_blk hnb (by simp) (by simp [Value.oneCell']) 1) (by unfold maxLen; omega) (by omega) hw24 ?_
        intro v5 w5 ho5 hg5 hat5
        have hF5 := fr_own (HF4.out.trans hF4 (by simp)) hlo4 hg5 (Nat.le_refl _)
        rw [← ops3_app] at ho5
        have HO5 := Lib.hid ho5; have HF5 := Lib.hid hF5
        have hok5 : ∀ t ∈ l ++ [(13, 0, 0)], OpOk t := fun t ht => by
          simp only [List.mem_append, List.mem_singleton] at ht
          rcases ht with ht | ht
          · exact HOK.out t ht
          · subst ht; unfold OpOk; simp only; omega
        have HOK5 := Lib.hid hok5
        clear hnb hF4 hlo4 hw24 ho5 hg5 hat5 hF5 hok5 o0 o1 o2 f0 f1 f2
        go_wp2_with fail
        go_roundw
        case rel => exact ⟨l ++ [(13, 0, 0)], by simp; omega, by simp; omega, by simp, by rw [List.length_append]; exact HO5.out, HOK5.out, HF5.out⟩
        case measure => simp [intOf]; omega

      · go_upto_region 8 with (fail)
        apply wp_region_lit
        have hF4' := ((hF3.setCell (p := ⟨o, 0, none⟩) (.inr hog) (.int .i64 13)).setCell (p := ⟨o, 1, none⟩) (.inr hog) (.int .i64 0)).setCell (p := ⟨o, 2, none⟩) (.inr hog) (.int .i64 0)
        have hFo : Fr [o] w3 (((w3.setCell ⟨o, 0, none⟩ (.int .i64 13)).setCell ⟨o, 1, none⟩ (.int .i64 0)).setCell ⟨o, 2, none⟩ (.int .i64 0)) := (((Fr.refl [o] w3).setCell (p := ⟨o, 0, none⟩) (.inl (by simp)) _).setCell (p := ⟨o, 1, none⟩) (.inl (by simp)) _).setCell (p := ⟨o, 2, none⟩) (.inl (by simp)) _
        have hLO4' := own_keep hLO3 hFo (fun g hg hx => by
          simp at hx; subst hx
          have := own_lt HLO2.out hg; omega)
        have hO4 : Blk (((w3.setCell ⟨o, 0, none⟩ (.int .i64 13)).setCell ⟨o, 1, none⟩ (.int .i64 0)).setCell ⟨o, 2, none⟩ (.int .i64 0)) o #[.int .i64 13, .int .i64 0, .int .i64 0] 87 := ((hO.set 0 _).set 1 _).set 2 _
        clear o0 o1 o2 f0 f1 f2
        have HLO4 := Lib.hid hLO4'; have HF4 := Lib.hid hF4'
        generalize ((w3.setCell ⟨o, 0, none⟩ (.int .i64 13)).setCell ⟨o, 1, none⟩ (.int .i64 0)).setCell ⟨o, 2, none⟩ (.int .i64 0) = w4 at *
        have o0 := Blk.cell (i := 0) hO4 rfl
        have o1 := Blk.cell (i := 1) hO4 rfl
        have o2 := Blk.cell (i := 2) hO4 rfl
        have f0 := Blk.free hO4 0
        have f1 := Blk.free hO4 1
        have f2 := Blk.free hO4 2
        simp only [List.getElem_toArray, List.getElem_cons_zero, List.getElem_cons_succ] at o0 o1 o2
        clear hO4 hF4' hFo hLO4' hO hF3 hLO3
        iterate 3 (refine wpList_plain rfl (fun K hK => ?_); go_simp; refine hK _ _ ?_; clear hK K)
        have hnb := Blk.new w4 #[.int .i64 13, .int .i64 0, .int .i64 0] 87
        have hF4 := (Fr.refl [] w4).alloc (.cells #[.int .i64 13, .int .i64 0, .int .i64 0] 87)
        have hlo4 := own_fr (S := []) HLO4.out hF4 (by simp)
        have hw24 : w.heap.size ≤ (w4.alloc (.cells #[.int .i64 13, .int .i64 0, .int .i64 0] 87)).heap.size := Nat.le_trans HF4.out.size hF4.size
        refine wpList_append_src _ rfl (Operand.tmp 50) (Operand.tmp 52) 44 rfl w.heap.size 87 i0 _ 3 24 Try.underlying44 hi0 hz0 hz1 hz2 rfl (by decide) u3 (.slice (some ⟨w4.heap.size, 0, none⟩) 1 1) l.length 1 (ops3 l) (ops3 [(13, 0, 0)]) rfl (by kernel_rfl) hlo4 (src_blk hnb (by simp) (by simp [Value.oneCell']) 1) (by unfold maxLen; omega) (by omega) hw24 ?_
        intro v5 w5 ho5 hg5 hat5
        have hF5 := fr_own (HF4.out.trans hF4 (by simp)) hlo4 hg5 (Nat.le_refl _)
        rw [← ops3_app] at ho5
        have HO5 := Lib.hid ho5; have HF5 := Lib.hid hF5
        have hok5 : ∀ t ∈ l ++ [(13, 0, 0)], OpOk t := fun t ht => by
          simp only [List.mem_append, List.mem_singleton] at ht
          rcases ht with ht | ht
          · exact HOK.out t ht
          · subst ht; unfold OpOk; simp only; omega
        have HOK5 := Lib.hid hok5
        clear hnb hF4 hlo4 hw24 ho5 hg5 hat5 hF5 hok5 o0 o1 o2 f0 f1 f2
        go_wp2_with fail
        go_roundw
        case rel => exact ⟨l ++ [(13, 0, 0)], by simp; omega, by simp; omega, by simp, by rw [List.length_append]; exact HO5.out, HOK5.out, HF5.out⟩
        case measure => simp [intOf]; omega

      · go_upto_region 8 with (fail)
        apply wp_region_lit
        have hO4 := hO
        have hF4' := hF3
        generalize w3 = w4 at *
        have HLO4 := Lib.hid hLO3; have HF4 := Lib.hid hF4'
        clear hO4 hF4' hO hF3 hLO3
        iterate 3 (refine wpList_plain rfl (fun K hK => ?_); go_simp; refine hK _ _ ?_; clear hK K)
        have hnb := Blk.new w4 #[.int .i64 a', .int .i64 b', .int .i64 c'] 87
        have hF4 := (Fr.refl [] w4).alloc (.cells #[.int .i64 a', .int .i64 b', .int .i64 c'] 87)
        have hlo4 := own_fr (S := []) HLO4.out hF4 (by simp)
        have hw24 : w.heap.size ≤ (w4.alloc (.cells #[.int .i64 a', .int .i64 b', .int .i64 c'] 87)).heap.size := Nat.le_trans HF4.out.size hF4.size
        refine wpList_append_src _ rfl (Operand.tmp 50) (Operand.tmp 52) 44 rfl w.heap.size 87 i0 _ 3 24 Try.underlying44 hi0 hz0 hz1 hz2 rfl (by decide) u3 (.slice (some ⟨w4.heap.size, 0, none⟩) 1 1) l.length 1 (ops3 l) (ops3 [(a', b', c')]) rfl (by kernel_rfl) hlo4 (src_blk hnb (by simp) (by simp [Value.oneCell']) 1) (by unfold maxLen; omega) (by omega) hw24 ?_
        intro v5 w5 ho5 hg5 hat5
        have hF5 := fr_own (HF4.out.trans hF4 (by simp)) hlo4 hg5 (Nat.le_refl _)
        rw [← ops3_app] at ho5
        have HO5 := Lib.hid ho5; have HF5 := Lib.hid hF5
        have hok5 : ∀ t ∈ l ++ [(a', b', c')], OpOk t := fun t ht => by
          simp only [List.mem_append, List.mem_singleton] at ht
          rcases ht with ht | ht
          · exact HOK.out t ht
          · subst ht; unfold OpOk; simp only; omega
        have HOK5 := Lib.hid hok5
        clear hnb hF4 hlo4 hw24 ho5 hg5 hat5 hF5 hok5 o0 o1 o2 f0 f1 f2
        go_wp2_with fail
        go_roundw
        case rel => exact ⟨l ++ [(a', b', c')], by simp; omega, by simp; omega, by simp, by rw [List.length_append]; exact HO5.out, HOK5.out, HF5.out⟩
        case measure => simp [intOf]; omega

    · have hcs : (¬ (l.length : Int) < len) ∨ ((l.length : Int) < len ∧ ¬ (l.length : Int) < 16) := by omega
      have HLO := Lib.hid hlo; have HOK := Lib.hid hok; have HF := Lib.hid hF
      clear hlo hok hF hgo
      rcases hcs with q1 | ⟨q1, q2⟩
      all_goals
        go_wp2_with fail
        go_ret
        exact ⟨_, l, rfl, HLO.out, hl16, HOK.out, HF.out⟩
end Go.Proofs.Ytckodnogjedmnaa.Cfg
