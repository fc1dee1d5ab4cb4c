/- chapter 18: Offer. Written by wip/genlu.py. -/
import Derived.Test.YtckodnogjedmnaaLt
import Derived.Deep.CutBlock
namespace Go.Proofs.Ytckodnogjedmnaa.Lo
open Go.RowKit Dt Go.Proofs.Ytckodnogjedmnaa.Hd Go.Proofs.Ytckodnogjedmnaa.Cfg Go.Proofs.Ytckodnogjedmnaa.Jt
set_option linter.unusedVariables false
set_option linter.unusedSimpArgs false

theorem HasLog.hM {w : World} {P : Nat → Prop} {B M cnt : Nat} {c : CfV} {rows : List (Nat × Row)} {tk : Int → Option (Nat × Row)} (h : HasLog w P B M c rows tk cnt) {g : Nat} {vs : Array Value} {T : TypeId} (hb : Blk w g vs T) : M ≠ g := by
  intro e; subst e
  obtain ⟨D, ⟨es, clock, h1, -⟩, -⟩ := h.map.ex
  have h2 : w.heap[M]? = _ := hb
  rw [h2] at h1; simp at h1
theorem rb_ne {w : World} {g b : Nat} {n : Nat} {R : Row} {vs : Array Value} {T : TypeId} (h : RB w 66 g R n) (hb : Blk w b vs T) (ht : 66 ≠ T) : g ≠ b := by
  intro e; subst e
  have h2 : w.heap[g]? = _ := hb
  have h3 : w.heap[g]? = _ := h
  rw [h2] at h3
  simp at h3
  exact ht h3.2.symm
/-- a cell of a row, written -/
def put1 (R : Row) (s : Nat) (v : C4) : Row := fun t => if t = s then v else R t
section
variable {w : World} {P : Nat → Prop} {B M cnt : Nat} {c : CfV} {rows : List (Nat × Row)} {tk : Int → Option (Nat × Row)}
theorem HasLog.put_old {s : Nat} {f : Int} {r : Nat × Row} (h : HasLog w P B M c rows tk cnt) (hf : tk f = some r) (hs : s < c.pl) (v : C4) :
    HasLog (w.setCells r.1 (s * 4) (c4 v)) P B M c rows (fun x => if x = f then some (r.1, put1 r.2 s v) else tk x) cnt ∧ Fr [r.1] w (w.setCells r.1 (s * 4) (c4 v)) := by
  have hr := (h.trb f r hf).1
  have hF := Fr.setCells (S := [r.1]) (a := w) (b := r.1) (.inl (by simp)) (c4 v) (s * 4) w (Fr.refl _ _)
  obtain ⟨rv, h1, h2, h3⟩ := h.blk
  have hM := h.hM hr
  have hB := rb_ne hr h1 (by decide)
  refine ⟨{ h with
    blk := ⟨rv, hF.blk h1 (by simpa using hB.symm), own_keep h2 hF (fun g hg hx => own_blk (g := 0) h2 hr (by decide) g hg (by simpa using hx)), h3⟩
    map := (h.map.fr hF (by simpa using hM)).congr (fun x hx => by
      by_cases e : x = f
      · subst e; simp [hf]
      · simp [e])
    rrb := fun r' hr' => by
      have h4 := h.dis f r r' hf hr'
      exact ⟨(h.rrb r' hr').1.fr hF (by simpa using h4.symm), (h.rrb r' hr').2⟩
    trb := fun x r' hx => by
      by_cases e : x = f
      · subst e
        rw [if_pos rfl, Option.some.injEq] at hx
        subst hx
        exact ⟨hr.set hs v, (h.trb _ _ hf).2⟩
      · rw [if_neg e] at hx
        exact ⟨(h.trb x r' hx).1.fr hF (by simpa using (h.inj x f r' r hx hf e)), (h.trb x r' hx).2⟩
    inj := fun x y r1 r2 hx hy hxy => by
      by_cases e : x = f
      · subst e
        rw [if_pos rfl, Option.some.injEq] at hx
        subst hx
        rw [if_neg (Ne.symm hxy)] at hy
        exact h.inj x y r r2 hf hy hxy
      · rw [if_neg e] at hx
        by_cases e2 : y = f
        · subst e2
          rw [if_pos rfl, Option.some.injEq] at hy
          subst hy
          exact h.inj x y r1 r hx hf hxy
        · rw [if_neg e2] at hy
          exact h.inj x y r1 r2 hx hy hxy
    dis := fun x r1 r2 hx h4 => by
      by_cases e : x = f
      · subst e
        rw [if_pos rfl, Option.some.injEq] at hx
        subst hx
        exact h.dis x r r2 hf h4
      · rw [if_neg e] at hx
        exact h.dis x r1 r2 hx h4
    rng := fun x r1 hx => by
      by_cases e : x = f
      · subst e; exact h.rng x r hf
      · rw [if_neg e] at hx; exact h.rng x r1 hx }, hF⟩
/-- a new row for frame f -/
theorem HasLog.put_new {f : Int} {r : Nat × Row} {w0 w2 : World} (h : HasLog w0 P B M c rows tk cnt) (hf : tk f = none) (hF : Fr [] w0 w) (hr : RB w 66 r.1 r.2 c.pl) (hP : P r.1) (hnew : w0.heap.size ≤ r.1) (h1 : (rows.length : Int) ≤ f) (h2 : f < rows.length + 64) (h3 : f < c.fr)
    (hm : MapW Try.prog 3 w2 M (if ((tk f).map fun r => rowV c.pl r.1).isSome then cnt else cnt + 1) (fun y => if y = f then some (rowV c.pl r.1) else (tk y).map fun r => rowV c.pl r.1)) (hF2 : Fr [M] w w2) :
    HasLog w2 P B M c rows (fun x => if x = f then some r else tk x) (cnt + 1) := by
  have h' := h.fr hF (by simp)
  have hMr := h'.hM hr
  obtain ⟨rv, k1, k2, k3⟩ := h'.blk
  have hMB := h'.hM k1
  rw [hf] at hm
  have hown : ∀ g, rv.ownBlock = some g → g ∉ [M] := fun g hg hx => by
    have e : g = M := by simpa using hx
    subst e
    obtain ⟨D, ⟨es, clock, h1, -⟩, -⟩ := h'.map.ex
    rcases k2.2 with ⟨h9, -⟩ | ⟨g', cap', cur, h9, -, h8, -⟩
    · rw [h9] at hg; simp [Value.ownBlock] at hg
    · rw [h9] at hg; simp [Value.ownBlock] at hg
      subst hg
      rw [h8] at h1; simp at h1
  exact { h' with
    blk := ⟨rv, hF2.blk k1 (by simpa using hMB.symm), own_keep k2 hF2 hown, k3⟩
    map := hm.congr (fun x hx => by
      by_cases e : x = f
      · simp [e]
      · simp [e])
    rrb := fun r' hr' => ⟨(h'.rrb r' hr').1.fr hF2 (by simpa using (h'.hM (h'.rrb r' hr').1).symm), (h'.rrb r' hr').2⟩
    trb := fun x r' hx => by
      by_cases e : x = f
      · subst e
        rw [if_pos rfl, Option.some.injEq] at hx
        subst hx
        exact ⟨hr.fr hF2 (by simpa using hMr.symm), hP⟩
      · rw [if_neg e] at hx
        exact ⟨(h'.trb x r' hx).1.fr hF2 (by simpa using (h'.hM (h'.trb x r' hx).1).symm), (h'.trb x r' hx).2⟩
    inj := fun x y r1 r2 hx hy hxy => by
      by_cases e : x = f
      · subst e
        rw [if_pos rfl, Option.some.injEq] at hx
        subst hx
        rw [if_neg (Ne.symm hxy)] at hy
        have := (h.trb y r2 hy).1.lt
        omega
      · rw [if_neg e] at hx
        by_cases e2 : y = f
        · subst e2
          rw [if_pos rfl, Option.some.injEq] at hy
          subst hy
          have := (h.trb x r1 hx).1.lt
          omega
        · rw [if_neg e2] at hy
          exact h.inj x y r1 r2 hx hy hxy
    dis := fun x r1 r2 hx h4 => by
      by_cases e : x = f
      · subst e
        rw [if_pos rfl, Option.some.injEq] at hx
        subst hx
        have := (h.rrb r2 h4).1.lt
        omega
      · rw [if_neg e] at hx
        exact h.dis x r1 r2 hx h4
    rng := fun x r1 hx => by
      by_cases e : x = f
      · subst e; exact ⟨h1, h2, h3⟩
      · rw [if_neg e] at hx; exact h.rng x r1 hx }
set_option maxRecDepth 100000 in
set_option maxHeartbeats 1600000 in
theorem offer_wrong (h : HasLog w P B M c rows tk cnt) {s f b x y : Int} (hno : ¬ (0 ≤ s ∧ s < c.pl ∧ 0 ≤ f ∧ f < c.fr ∧ inB b x y = true)) : Calls Try.prog 27 #[.pointer (some ⟨B, 0, none⟩), .int .i64 s, .int .i64 f, .agg #[.int .i64 b, .int .i64 x, .int .i64 y]] w fun e w' => e = .returned (.int .i64 5) ∧ Fr [] w w' := by
  have hN := h.n
  have hpl := hN.pl8
  have hfr6 := hN.fr6
  have hlen := h.len
  have hF1 := (Fr.refl [] w).alloc (.cells #[.int .i64 b, .int .i64 x, .int .i64 y] 58)
  have hX := Blk.new w #[.int .i64 b, .int .i64 x, .int .i64 y] 58
  have hl1 := h.fr hF1 (by simp)
  have HW := Lib.hid h
  clear h
  go_enter Try.func27, Try.ntmps27
  go_upto_region 1 with (fail)
  obtain ⟨X, hXe⟩ : ∃ X, w.heap.size = X := ⟨_, rfl⟩
  rw [hXe] at hX ⊢
  have HXE := Lib.hid hXe
  clear hXe
  generalize w.alloc (.cells #[.int .i64 b, .int .i64 x, .int .i64 y] 58) = w1 at *
  have x0 := Blk.cell (i := 0) hX rfl
  have x1 := Blk.cell (i := 1) hX rfl
  have x2 := Blk.cell (i := 2) hX rfl
  simp only [List.getElem_toArray, List.getElem_cons_zero, List.getElem_cons_succ] at x0 x1 x2
  have hh := has_any hl1 f
  have hri := right_any b x y w1
  obtain ⟨rv, b1, b2, b3⟩ := hl1.blk
  obtain ⟨a, cap, rfl, -, -⟩ := own_val b2
  have c10 := Blk.cell (i := 10) b1 rfl
  have c0' := Blk.cell (i := 0) b1 rfl
  have c11 := Blk.cell (i := 11) b1 rfl
  simp only [logCells, List.getElem_toArray, List.getElem_cons_zero, List.getElem_cons_succ] at c10 c0' c11
  obtain ⟨L, hL⟩ : ∃ L, rows.length = L := ⟨_, rfl⟩
  rw [hL] at c10 hlen b2 b3
  have hlm : L ≤ maxLen := by unfold maxLen; omega
  have HHA := Lib.hid hh; have HRI := Lib.hid hri; have HF1 := Lib.hid hF1; have HL1 := Lib.hid hl1; have HL := Lib.hid hL; have HX := Lib.hid hX; have HB1 := Lib.hid b1; have HB2 := Lib.hid b2; have HB3 := Lib.hid b3
  clear hh hri hF1 hl1 hL hX b1 b2 b3
  have hcs : s < 0 ∨ (0 ≤ s ∧ (c.pl : Int) ≤ s) ∨ (0 ≤ s ∧ s < c.pl ∧ ¬ (0 ≤ f ∧ f < c.fr)) ∨ (0 ≤ s ∧ s < c.pl ∧ (0 ≤ f ∧ f < c.fr) ∧ inB b x y = false) := by
    cases hb : inB b x y with
    | true => rw [hb] at hno; simp only [and_true] at hno; omega
    | false => simp only [and_true]; omega
  clear hno
  rcases hcs with q1 | ⟨q1, q2⟩ | ⟨q1, q2, q3⟩ | ⟨q1, q2, q3, q4⟩
  · go_wp2_with fail
    go_ret
    exact ⟨rfl, HF1.out⟩
  · go_wp2_with fail
    go_ret
    exact ⟨rfl, HF1.out⟩
  · have hh := HHA.out
    rw [decide_eq_false q3] at hh
    have HHB := Lib.hid hh
    clear hh q3
    go_wp2_with fail
    refine HHB.out.mono ?_; rintro e w' ⟨rfl, rfl⟩
    go_wp2_with fail
    go_ret
    exact ⟨rfl, HF1.out⟩
  · have hh := HHA.out
    rw [decide_eq_true q3] at hh
    have hri := HRI.out
    rw [q4] at hri
    have HHB := Lib.hid hh; have HRJ := Lib.hid hri
    clear hh hri q4
    go_wp2_with fail
    refine HHB.out.mono ?_; rintro e w' ⟨rfl, rfl⟩
    go_wp2_with fail
    refine HRJ.out.mono ?_; rintro e w2 ⟨rfl, hF2⟩
    have HF2 := Lib.hid (HF1.out.trans hF2 (by simp))
    clear hF2
    go_wp2_with fail
    go_ret
    exact ⟨rfl, HF2.out⟩
set_option maxRecDepth 100000 in
set_option maxHeartbeats 1600000 in
theorem offer_late (h : HasLog w P B M c rows tk cnt) {s f b x y : Int} (hin : 0 ≤ s ∧ s < c.pl ∧ 0 ≤ f ∧ f < c.fr ∧ inB b x y = true) (hf : f < rows.length) : Calls Try.prog 27 #[.pointer (some ⟨B, 0, none⟩), .int .i64 s, .int .i64 f, .agg #[.int .i64 b, .int .i64 x, .int .i64 y]] w fun e w' => e = .returned (.int .i64 2) ∧ Fr [] w w' := by
  have hN := h.n
  have hpl := hN.pl8
  have hfr6 := hN.fr6
  have hlen := h.len
  have hF1 := (Fr.refl [] w).alloc (.cells #[.int .i64 b, .int .i64 x, .int .i64 y] 58)
  have hX := Blk.new w #[.int .i64 b, .int .i64 x, .int .i64 y] 58
  have hl1 := h.fr hF1 (by simp)
  have HW := Lib.hid h
  clear h
  go_enter Try.func27, Try.ntmps27
  go_upto_region 1 with (fail)
  obtain ⟨X, hXe⟩ : ∃ X, w.heap.size = X := ⟨_, rfl⟩
  rw [hXe] at hX ⊢
  have HXE := Lib.hid hXe
  clear hXe
  generalize w.alloc (.cells #[.int .i64 b, .int .i64 x, .int .i64 y] 58) = w1 at *
  have x0 := Blk.cell (i := 0) hX rfl
  have x1 := Blk.cell (i := 1) hX rfl
  have x2 := Blk.cell (i := 2) hX rfl
  simp only [List.getElem_toArray, List.getElem_cons_zero, List.getElem_cons_succ] at x0 x1 x2
  have hh := has_any hl1 f
  have hri := right_any b x y w1
  obtain ⟨rv, b1, b2, b3⟩ := hl1.blk
  obtain ⟨a, cap, rfl, -, -⟩ := own_val b2
  have c10 := Blk.cell (i := 10) b1 rfl
  have c0' := Blk.cell (i := 0) b1 rfl
  have c11 := Blk.cell (i := 11) b1 rfl
  simp only [logCells, List.getElem_toArray, List.getElem_cons_zero, List.getElem_cons_succ] at c10 c0' c11
  obtain ⟨L, hL⟩ : ∃ L, rows.length = L := ⟨_, rfl⟩
  rw [hL] at c10 hlen b2 b3
  have hlm : L ≤ maxLen := by unfold maxLen; omega
  rw [hL] at hf
  obtain ⟨q1, q2, q3, q4, q5⟩ := hin
  rw [decide_eq_true ⟨q3, q4⟩] at hh
  rw [q5] at hri
  have HHA := Lib.hid hh; have HRI := Lib.hid hri; have HF1 := Lib.hid hF1; have HL1 := Lib.hid hl1; have HL := Lib.hid hL; have HX := Lib.hid hX; have HB1 := Lib.hid b1; have HB2 := Lib.hid b2; have HB3 := Lib.hid b3
  clear hh hri hF1 hl1 hL hX b1 b2 b3
  clear q5
  go_wp2_with fail
  refine HHA.out.mono ?_; rintro e w' ⟨rfl, rfl⟩
  go_wp2_with fail
  refine HRI.out.mono ?_; rintro e w2 ⟨rfl, hF2⟩
  have c10 := (hF2.cell (p := ⟨B, 10, none⟩) (Blk.lt HB1.out) (by simp)).trans c10
  have c0' := (hF2.cell (p := ⟨B, 0, none⟩) (Blk.lt HB1.out) (by simp)).trans c0'
  have c11 := (hF2.cell (p := ⟨B, 11, none⟩) (Blk.lt HB1.out) (by simp)).trans c11
  have x0 := (hF2.cell (p := ⟨X, 0, none⟩) (Blk.lt HX.out) (by simp)).trans x0
  have x1 := (hF2.cell (p := ⟨X, 1, none⟩) (Blk.lt HX.out) (by simp)).trans x1
  have x2 := (hF2.cell (p := ⟨X, 2, none⟩) (Blk.lt HX.out) (by simp)).trans x2
  have HF2 := Lib.hid hF2; have HFW := Lib.hid (HF1.out.trans hF2 (by simp)); have HL2 := Lib.hid (HL1.out.fr hF2 (by simp))
  clear hF2
  go_wp2_with fail
  go_ret
  exact ⟨rfl, HFW.out⟩
set_option maxRecDepth 100000 in
set_option maxHeartbeats 1600000 in
theorem offer_far (h : HasLog w P B M c rows tk cnt) {s f b x y : Int} (hin : 0 ≤ s ∧ s < c.pl ∧ 0 ≤ f ∧ f < c.fr ∧ inB b x y = true) (hf : (rows.length : Int) + 64 ≤ f) : Calls Try.prog 27 #[.pointer (some ⟨B, 0, none⟩), .int .i64 s, .int .i64 f, .agg #[.int .i64 b, .int .i64 x, .int .i64 y]] w fun e w' => e = .returned (.int .i64 3) ∧ Fr [] w w' := by
  have hN := h.n
  have hpl := hN.pl8
  have hfr6 := hN.fr6
  have hlen := h.len
  have hF1 := (Fr.refl [] w).alloc (.cells #[.int .i64 b, .int .i64 x, .int .i64 y] 58)
  have hX := Blk.new w #[.int .i64 b, .int .i64 x, .int .i64 y] 58
  have hl1 := h.fr hF1 (by simp)
  have HW := Lib.hid h
  clear h
  go_enter Try.func27, Try.ntmps27
  go_upto_region 1 with (fail)
  obtain ⟨X, hXe⟩ : ∃ X, w.heap.size = X := ⟨_, rfl⟩
  rw [hXe] at hX ⊢
  have HXE := Lib.hid hXe
  clear hXe
  generalize w.alloc (.cells #[.int .i64 b, .int .i64 x, .int .i64 y] 58) = w1 at *
  have x0 := Blk.cell (i := 0) hX rfl
  have x1 := Blk.cell (i := 1) hX rfl
  have x2 := Blk.cell (i := 2) hX rfl
  simp only [List.getElem_toArray, List.getElem_cons_zero, List.getElem_cons_succ] at x0 x1 x2
  have hh := has_any hl1 f
  have hri := right_any b x y w1
  obtain ⟨rv, b1, b2, b3⟩ := hl1.blk
  obtain ⟨a, cap, rfl, -, -⟩ := own_val b2
  have c10 := Blk.cell (i := 10) b1 rfl
  have c0' := Blk.cell (i := 0) b1 rfl
  have c11 := Blk.cell (i := 11) b1 rfl
  simp only [logCells, List.getElem_toArray, List.getElem_cons_zero, List.getElem_cons_succ] at c10 c0' c11
  obtain ⟨L, hL⟩ : ∃ L, rows.length = L := ⟨_, rfl⟩
  rw [hL] at c10 hlen b2 b3
  have hlm : L ≤ maxLen := by unfold maxLen; omega
  rw [hL] at hf
  obtain ⟨q1, q2, q3, q4, q5⟩ := hin
  rw [decide_eq_true ⟨q3, q4⟩] at hh
  rw [q5] at hri
  have HHA := Lib.hid hh; have HRI := Lib.hid hri; have HF1 := Lib.hid hF1; have HL1 := Lib.hid hl1; have HL := Lib.hid hL; have HX := Lib.hid hX; have HB1 := Lib.hid b1; have HB2 := Lib.hid b2; have HB3 := Lib.hid b3
  clear hh hri hF1 hl1 hL hX b1 b2 b3
  clear q5
  go_wp2_with fail
  refine HHA.out.mono ?_; rintro e w' ⟨rfl, rfl⟩
  go_wp2_with fail
  refine HRI.out.mono ?_; rintro e w2 ⟨rfl, hF2⟩
  have c10 := (hF2.cell (p := ⟨B, 10, none⟩) (Blk.lt HB1.out) (by simp)).trans c10
  have c0' := (hF2.cell (p := ⟨B, 0, none⟩) (Blk.lt HB1.out) (by simp)).trans c0'
  have c11 := (hF2.cell (p := ⟨B, 11, none⟩) (Blk.lt HB1.out) (by simp)).trans c11
  have x0 := (hF2.cell (p := ⟨X, 0, none⟩) (Blk.lt HX.out) (by simp)).trans x0
  have x1 := (hF2.cell (p := ⟨X, 1, none⟩) (Blk.lt HX.out) (by simp)).trans x1
  have x2 := (hF2.cell (p := ⟨X, 2, none⟩) (Blk.lt HX.out) (by simp)).trans x2
  have HF2 := Lib.hid hF2; have HFW := Lib.hid (HF1.out.trans hF2 (by simp)); have HL2 := Lib.hid (HL1.out.fr hF2 (by simp))
  clear hF2
  have q6 : ¬ f < (L : Int) := by omega
  have q7 : 64 ≤ f - (L : Int) := by omega
  go_wp2_with fail
  go_ret
  exact ⟨rfl, HFW.out⟩
set_option maxRecDepth 100000 in
set_option maxHeartbeats 1600000 in
theorem offer_again (h : HasLog w P B M c rows tk cnt) {s f b x y : Int} (hin : 0 ≤ s ∧ s < c.pl ∧ 0 ≤ f ∧ f < c.fr ∧ inB b x y = true) {r : Nat × Row} (hf1 : (rows.length : Int) ≤ f) (hf2 : f < rows.length + 64) (hg : tk f = some r) (hre : (r.2 s.toNat).1 = true) : Calls Try.prog 27 #[.pointer (some ⟨B, 0, none⟩), .int .i64 s, .int .i64 f, .agg #[.int .i64 b, .int .i64 x, .int .i64 y]] w fun e w' => e = .returned (.int .i64 4) ∧ Fr [] w w' := by
  have hN := h.n
  have hpl := hN.pl8
  have hfr6 := hN.fr6
  have hlen := h.len
  have hF1 := (Fr.refl [] w).alloc (.cells #[.int .i64 b, .int .i64 x, .int .i64 y] 58)
  have hX := Blk.new w #[.int .i64 b, .int .i64 x, .int .i64 y] 58
  have hl1 := h.fr hF1 (by simp)
  have HW := Lib.hid h
  clear h
  go_enter Try.func27, Try.ntmps27
  go_upto_region 1 with (fail)
  obtain ⟨X, hXe⟩ : ∃ X, w.heap.size = X := ⟨_, rfl⟩
  rw [hXe] at hX ⊢
  have HXE := Lib.hid hXe
  clear hXe
  generalize w.alloc (.cells #[.int .i64 b, .int .i64 x, .int .i64 y] 58) = w1 at *
  have x0 := Blk.cell (i := 0) hX rfl
  have x1 := Blk.cell (i := 1) hX rfl
  have x2 := Blk.cell (i := 2) hX rfl
  simp only [List.getElem_toArray, List.getElem_cons_zero, List.getElem_cons_succ] at x0 x1 x2
  have hh := has_any hl1 f
  have hri := right_any b x y w1
  obtain ⟨rv, b1, b2, b3⟩ := hl1.blk
  obtain ⟨a, cap, rfl, -, -⟩ := own_val b2
  have c10 := Blk.cell (i := 10) b1 rfl
  have c0' := Blk.cell (i := 0) b1 rfl
  have c11 := Blk.cell (i := 11) b1 rfl
  simp only [logCells, List.getElem_toArray, List.getElem_cons_zero, List.getElem_cons_succ] at c10 c0' c11
  obtain ⟨L, hL⟩ : ∃ L, rows.length = L := ⟨_, rfl⟩
  rw [hL] at c10 hlen b2 b3
  have hlm : L ≤ maxLen := by unfold maxLen; omega
  rw [hL] at hf1 hf2
  have hK : inK f := inK_of (by omega) (by omega)
  obtain ⟨q1, q2, q3, q4, q5⟩ := hin
  rw [decide_eq_true ⟨q3, q4⟩] at hh
  rw [q5] at hri
  have HHA := Lib.hid hh; have HRI := Lib.hid hri; have HF1 := Lib.hid hF1; have HL1 := Lib.hid hl1; have HL := Lib.hid hL; have HX := Lib.hid hX; have HB1 := Lib.hid b1; have HB2 := Lib.hid b2; have HB3 := Lib.hid b3
  clear hh hri hF1 hl1 hL hX b1 b2 b3
  clear q5
  go_wp2_with fail
  refine HHA.out.mono ?_; rintro e w' ⟨rfl, rfl⟩
  go_wp2_with fail
  refine HRI.out.mono ?_; rintro e w2 ⟨rfl, hF2⟩
  have c10 := (hF2.cell (p := ⟨B, 10, none⟩) (Blk.lt HB1.out) (by simp)).trans c10
  have c0' := (hF2.cell (p := ⟨B, 0, none⟩) (Blk.lt HB1.out) (by simp)).trans c0'
  have c11 := (hF2.cell (p := ⟨B, 11, none⟩) (Blk.lt HB1.out) (by simp)).trans c11
  have x0 := (hF2.cell (p := ⟨X, 0, none⟩) (Blk.lt HX.out) (by simp)).trans x0
  have x1 := (hF2.cell (p := ⟨X, 1, none⟩) (Blk.lt HX.out) (by simp)).trans x1
  have x2 := (hF2.cell (p := ⟨X, 2, none⟩) (Blk.lt HX.out) (by simp)).trans x2
  have HF2 := Lib.hid hF2; have HFW := Lib.hid (HF1.out.trans hF2 (by simp)); have HL2 := Lib.hid (HL1.out.fr hF2 (by simp))
  clear hF2
  have q6 : ¬ f < (L : Int) := by omega
  have q7 : ¬ 64 ≤ f - (L : Int) := by omega
  have hlk : (Instr.lookup 33 (.map (some M)) (.int .i64 f) true).run Try.prog w2 = .ok (.tuple #[.slice (some ⟨r.1, 0, none⟩) c.pl c.pl, .bool true]) w2 := by
    have h1 := HL2.out.map.look intTy mapTy (zeroRow _) hK
    simp only [hg] at h1
    exact h1
  have HK := Lib.hid hK; have HG := Lib.hid hg
  clear hK hg
  have hr2 := (HL2.out.trb f r HG.out).1
  obtain ⟨s', rfl⟩ : ∃ s' : Nat, s = s' := ⟨s.toNat, by omega⟩
  have hsp : s' < c.pl := by omega
  obtain ⟨v0, v1, v2, v3, hv⟩ : ∃ v0 v1 v2 v3, r.2 s' = (v0, v1, v2, v3) := ⟨_, _, _, _, rfl⟩
  have d0 := hr2.cell (t := s') (j := 0) (v := .bool v0) hsp (by decide) (by rw [hv]; rfl)
  rw [Nat.add_zero] at d0
  rw [Int.toNat_natCast, hv] at hre
  dsimp only at hre
  subst hre
  clear hr2 hv
  go_wp2_with fail
  go_ret
  exact ⟨rfl, HFW.out⟩
set_option maxRecDepth 100000 in
set_option maxHeartbeats 1600000 in
theorem offer_old (h : HasLog w P B M c rows tk cnt) {s f b x y : Int} (hin : 0 ≤ s ∧ s < c.pl ∧ 0 ≤ f ∧ f < c.fr ∧ inB b x y = true) {r : Nat × Row} (hf1 : (rows.length : Int) ≤ f) (hf2 : f < rows.length + 64) (hg : tk f = some r) (hre : (r.2 s.toNat).1 = false) : Calls Try.prog 27 #[.pointer (some ⟨B, 0, none⟩), .int .i64 s, .int .i64 f, .agg #[.int .i64 b, .int .i64 x, .int .i64 y]] w fun e w' => ∃ tk' cnt', e = .returned (.int .i64 1) ∧ HasLog w' (fun z => P z ∨ w.heap.size ≤ z) B M c rows tk' cnt' ∧ cnt' ≤ cnt + 1 ∧ (∀ z, z ≠ f → tk' z = tk z) ∧ (∃ g, tk' f = some (g, put1 (rowOf tk f) s.toNat (true, b, x, y))) ∧ Wr P w w' := by
  have hN := h.n
  have hpl := hN.pl8
  have hfr6 := hN.fr6
  have hlen := h.len
  have hF1 := (Fr.refl [] w).alloc (.cells #[.int .i64 b, .int .i64 x, .int .i64 y] 58)
  have hX := Blk.new w #[.int .i64 b, .int .i64 x, .int .i64 y] 58
  have hl1 := h.fr hF1 (by simp)
  have HW := Lib.hid h
  clear h
  go_enter Try.func27, Try.ntmps27
  go_upto_region 1 with (fail)
  obtain ⟨X, hXe⟩ : ∃ X, w.heap.size = X := ⟨_, rfl⟩
  rw [hXe] at hX ⊢
  have HXE := Lib.hid hXe
  clear hXe
  generalize w.alloc (.cells #[.int .i64 b, .int .i64 x, .int .i64 y] 58) = w1 at *
  have x0 := Blk.cell (i := 0) hX rfl
  have x1 := Blk.cell (i := 1) hX rfl
  have x2 := Blk.cell (i := 2) hX rfl
  simp only [List.getElem_toArray, List.getElem_cons_zero, List.getElem_cons_succ] at x0 x1 x2
  have hh := has_any hl1 f
  have hri := right_any b x y w1
  obtain ⟨rv, b1, b2, b3⟩ := hl1.blk
  obtain ⟨a, cap, rfl, -, -⟩ := own_val b2
  have c10 := Blk.cell (i := 10) b1 rfl
  have c0' := Blk.cell (i := 0) b1 rfl
  have c11 := Blk.cell (i := 11) b1 rfl
  simp only [logCells, List.getElem_toArray, List.getElem_cons_zero, List.getElem_cons_succ] at c10 c0' c11
  obtain ⟨L, hL⟩ : ∃ L, rows.length = L := ⟨_, rfl⟩
  rw [hL] at c10 hlen b2 b3
  have hlm : L ≤ maxLen := by unfold maxLen; omega
  rw [hL] at hf1 hf2
  have hK : inK f := inK_of (by omega) (by omega)
  obtain ⟨q1, q2, q3, q4, q5⟩ := hin
  rw [decide_eq_true ⟨q3, q4⟩] at hh
  rw [q5] at hri
  have HHA := Lib.hid hh; have HRI := Lib.hid hri; have HF1 := Lib.hid hF1; have HL1 := Lib.hid hl1; have HL := Lib.hid hL; have HX := Lib.hid hX; have HB1 := Lib.hid b1; have HB2 := Lib.hid b2; have HB3 := Lib.hid b3
  clear hh hri hF1 hl1 hL hX b1 b2 b3
  clear q5
  go_wp2_with fail
  refine HHA.out.mono ?_; rintro e w' ⟨rfl, rfl⟩
  go_wp2_with fail
  refine HRI.out.mono ?_; rintro e w2 ⟨rfl, hF2⟩
  have c10 := (hF2.cell (p := ⟨B, 10, none⟩) (Blk.lt HB1.out) (by simp)).trans c10
  have c0' := (hF2.cell (p := ⟨B, 0, none⟩) (Blk.lt HB1.out) (by simp)).trans c0'
  have c11 := (hF2.cell (p := ⟨B, 11, none⟩) (Blk.lt HB1.out) (by simp)).trans c11
  have x0 := (hF2.cell (p := ⟨X, 0, none⟩) (Blk.lt HX.out) (by simp)).trans x0
  have x1 := (hF2.cell (p := ⟨X, 1, none⟩) (Blk.lt HX.out) (by simp)).trans x1
  have x2 := (hF2.cell (p := ⟨X, 2, none⟩) (Blk.lt HX.out) (by simp)).trans x2
  have HF2 := Lib.hid hF2; have HFW := Lib.hid (HF1.out.trans hF2 (by simp)); have HL2 := Lib.hid (HL1.out.fr hF2 (by simp))
  clear hF2
  have q6 : ¬ f < (L : Int) := by omega
  have q7 : ¬ 64 ≤ f - (L : Int) := by omega
  have hlk : (Instr.lookup 33 (.map (some M)) (.int .i64 f) true).run Try.prog w2 = .ok (.tuple #[.slice (some ⟨r.1, 0, none⟩) c.pl c.pl, .bool true]) w2 := by
    have h1 := HL2.out.map.look intTy mapTy (zeroRow _) hK
    simp only [hg] at h1
    exact h1
  have HK := Lib.hid hK; have HG := Lib.hid hg
  clear hK hg
  have hr2 := (HL2.out.trb f r HG.out).1
  obtain ⟨s', rfl⟩ : ∃ s' : Nat, s = s' := ⟨s.toNat, by omega⟩
  have hsp : s' < c.pl := by omega
  obtain ⟨v0, v1, v2, v3, hv⟩ : ∃ v0 v1 v2 v3, r.2 s' = (v0, v1, v2, v3) := ⟨_, _, _, _, rfl⟩
  have d0 := hr2.cell (t := s') (j := 0) (v := .bool v0) hsp (by decide) (by rw [hv]; rfl)
  rw [Nat.add_zero] at d0
  rw [Int.toNat_natCast, hv] at hre
  dsimp only at hre
  subst hre
  have hth := Blk.there hr2 (s' * 4) 4 (by simp [rc_len]; omega)
  go_upto_region 13 with (fail)
  apply wp_region_lit
  iterate 5 (refine wpList_plain rfl (fun K hK => ?_); go_simp; refine hK _ _ ?_; clear hK K)
  refine wpList_store_mid rfl 66 (Operand.tmp 85) (Operand.tmp 84) rfl r.1 (s' * 4) #[.bool true, .int .i64 b, .int .i64 x, .int .i64 y] rfl rfl hth (by kernel_rfl) (by simp [Value.oneCell']) ?_
  change wpList _ _ _ _ _ (w2.setCells r.1 (s' * 4) (c4 (true, b, x, y)))
  obtain ⟨hl3, hF3⟩ := HL2.out.put_old HG.out hsp (true, b, x, y)
  have hW := ((Wr.refl P w).step HFW.out (by simp)).step hF3 (fun z hz => by
    have h8 : z = r.1 := by simpa using hz
    rw [h8]; exact .inl (HL2.out.trb f r HG.out).2)
  have HL3 := Lib.hid hl3; have HW3 := Lib.hid hW
  clear hl3 hF3 hW hth hr2 d0 hv
  generalize w2.setCells r.1 (s' * 4) (c4 (true, b, x, y)) = w3 at *
  go_wp2_with fail
  go_ret
  refine ⟨_, cnt, rfl, HL3.out.wider (fun z hz => .inl hz), Nat.le_succ _, fun z hz => by simp [hz], ⟨r.1, ?_⟩, HW3.out⟩
  have hgo := HG.out
  unfold rowOf
  rw [hgo]
  simp
set_option maxRecDepth 100000 in
set_option maxHeartbeats 1600000 in
theorem offer_new (h : HasLog w P B M c rows tk cnt) {s f b x y : Int} (hin : 0 ≤ s ∧ s < c.pl ∧ 0 ≤ f ∧ f < c.fr ∧ inB b x y = true) (hc : cnt ≤ 1000000) (hf1 : (rows.length : Int) ≤ f) (hf2 : f < rows.length + 64) (hg : tk f = none) : Calls Try.prog 27 #[.pointer (some ⟨B, 0, none⟩), .int .i64 s, .int .i64 f, .agg #[.int .i64 b, .int .i64 x, .int .i64 y]] w fun e w' => ∃ tk' cnt', e = .returned (.int .i64 1) ∧ HasLog w' (fun z => P z ∨ w.heap.size ≤ z) B M c rows tk' cnt' ∧ cnt' ≤ cnt + 1 ∧ (∀ z, z ≠ f → tk' z = tk z) ∧ (∃ g, tk' f = some (g, put1 (rowOf tk f) s.toNat (true, b, x, y))) ∧ Wr P w w' := by
  have hN := h.n
  obtain ⟨i0, hi0, hz0, hz1, hz2⟩ := info_parts infC
  have hpl1 := hN.pl1
  have hmk : ∀ w : World, (Instr.makeSlice 26 (.int .i64 (c.pl : Int)) (.int .i64 (c.pl : Int))).run Try.prog w = .ok (.slice (some ⟨w.heap.size, 0, none⟩) c.pl c.pl) (w.alloc (.cells (madeCells #[.bool false, .int .i64 0, .int .i64 0, .int .i64 0] (c.pl * 4)) 66)) := fun w => by
    have hpl := hN.pl8
    have h2 := run_makeSlice (P := Try.prog) w 26 66 i0 _ Try.underlying26 hi0 hz0 .i64 .i64 (c.pl : Int) (c.pl : Int) (by omega) (Int.le_refl _) (by rw [hz1]; omega) (by rw [hz2]; omega) (by omega)
    rw [hz1] at h2
    simpa [Value.cells] using h2
  have HMK := Lib.hid hmk
  clear hmk hi0 hz0 hz1 hz2
  have hpl := hN.pl8
  have hfr6 := hN.fr6
  have hlen := h.len
  have hF1 := (Fr.refl [] w).alloc (.cells #[.int .i64 b, .int .i64 x, .int .i64 y] 58)
  have hX := Blk.new w #[.int .i64 b, .int .i64 x, .int .i64 y] 58
  have hl1 := h.fr hF1 (by simp)
  have HW := Lib.hid h
  clear h
  go_enter Try.func27, Try.ntmps27
  go_upto_region 1 with (fail)
  obtain ⟨X, hXe⟩ : ∃ X, w.heap.size = X := ⟨_, rfl⟩
  rw [hXe] at hX ⊢
  have HXE := Lib.hid hXe
  clear hXe
  generalize w.alloc (.cells #[.int .i64 b, .int .i64 x, .int .i64 y] 58) = w1 at *
  have x0 := Blk.cell (i := 0) hX rfl
  have x1 := Blk.cell (i := 1) hX rfl
  have x2 := Blk.cell (i := 2) hX rfl
  simp only [List.getElem_toArray, List.getElem_cons_zero, List.getElem_cons_succ] at x0 x1 x2
  have hh := has_any hl1 f
  have hri := right_any b x y w1
  obtain ⟨rv, b1, b2, b3⟩ := hl1.blk
  obtain ⟨a, cap, rfl, -, -⟩ := own_val b2
  have c10 := Blk.cell (i := 10) b1 rfl
  have c0' := Blk.cell (i := 0) b1 rfl
  have c11 := Blk.cell (i := 11) b1 rfl
  simp only [logCells, List.getElem_toArray, List.getElem_cons_zero, List.getElem_cons_succ] at c10 c0' c11
  obtain ⟨L, hL⟩ : ∃ L, rows.length = L := ⟨_, rfl⟩
  rw [hL] at c10 hlen b2 b3
  have hlm : L ≤ maxLen := by unfold maxLen; omega
  rw [hL] at hf1 hf2
  have hK : inK f := inK_of (by omega) (by omega)
  obtain ⟨q1, q2, q3, q4, q5⟩ := hin
  rw [decide_eq_true ⟨q3, q4⟩] at hh
  rw [q5] at hri
  have HHA := Lib.hid hh; have HRI := Lib.hid hri; have HF1 := Lib.hid hF1; have HL1 := Lib.hid hl1; have HL := Lib.hid hL; have HX := Lib.hid hX; have HB1 := Lib.hid b1; have HB2 := Lib.hid b2; have HB3 := Lib.hid b3
  clear hh hri hF1 hl1 hL hX b1 b2 b3
  clear q5
  go_wp2_with fail
  refine HHA.out.mono ?_; rintro e w' ⟨rfl, rfl⟩
  go_wp2_with fail
  refine HRI.out.mono ?_; rintro e w2 ⟨rfl, hF2⟩
  have c10 := (hF2.cell (p := ⟨B, 10, none⟩) (Blk.lt HB1.out) (by simp)).trans c10
  have c0' := (hF2.cell (p := ⟨B, 0, none⟩) (Blk.lt HB1.out) (by simp)).trans c0'
  have c11 := (hF2.cell (p := ⟨B, 11, none⟩) (Blk.lt HB1.out) (by simp)).trans c11
  have x0 := (hF2.cell (p := ⟨X, 0, none⟩) (Blk.lt HX.out) (by simp)).trans x0
  have x1 := (hF2.cell (p := ⟨X, 1, none⟩) (Blk.lt HX.out) (by simp)).trans x1
  have x2 := (hF2.cell (p := ⟨X, 2, none⟩) (Blk.lt HX.out) (by simp)).trans x2
  have HF2 := Lib.hid hF2; have HFW := Lib.hid (HF1.out.trans hF2 (by simp)); have HL2 := Lib.hid (HL1.out.fr hF2 (by simp))
  clear hF2
  have q6 : ¬ f < (L : Int) := by omega
  have q7 : ¬ 64 ≤ f - (L : Int) := by omega
  have hlk : (Instr.lookup 33 (.map (some M)) (.int .i64 f) true).run Try.prog w2 = .ok (.tuple #[.slice none 0 0, .bool false]) w2 := by
    have h1 := HL2.out.map.look intTy mapTy (zeroRow _) hK
    simp only [hg] at h1
    exact h1
  have HK := Lib.hid hK; have HG := Lib.hid hg
  clear hK hg
  have hmk9 := HMK.out w2
  have hrb := RB.new w2 66 c.pl
  have hF3 := (Fr.refl [] w2).alloc (.cells (madeCells #[.bool false, .int .i64 0, .int .i64 0, .int .i64 0] (c.pl * 4)) 66)
  obtain ⟨s', rfl⟩ : ∃ s' : Nat, s = s' := ⟨s.toNat, by omega⟩
  have hsp : s' < c.pl := by omega
  have HRB := Lib.hid hrb; have HF3 := Lib.hid hF3
  clear hrb hF3
  go_upto_region 10 with (fail)
  obtain ⟨g, hge⟩ : ∃ g, w2.heap.size = g := ⟨_, rfl⟩
  rw [hge]
  have hrb := HRB.out; have hF3 := HF3.out
  rw [hge] at hrb
  have HGE := Lib.hid hge
  clear hge HRB HF3 hmk9 hlk
  generalize w2.alloc (.cells (madeCells #[.bool false, .int .i64 0, .int .i64 0, .int .i64 0] (c.pl * 4)) 66) = w3 at *
  have hm3 := HL2.out.map.fr hF3 (by simp)
  have c11 := (hF3.cell (p := ⟨B, 11, none⟩) (Blk.lt (HF2.out.blk HB1.out (by simp))) (by simp)).trans c11
  obtain ⟨w4, hst, hm4, hF4⟩ := hm3.store intTy mapTy (by unfold maxLen; omega) HK.out (rowV c.pl g)
  change (Instr.mapUpdate 33 (.map (some M)) (.int .i64 f) (.slice (some ⟨g, 0, none⟩) c.pl c.pl)).run Try.prog w3 = .ok () w4 at hst
  have hX3 := hF3.blk (HF2.out.blk HX.out (by simp)) (by simp)
  have hl3 := HL2.out.fr hF3 (by simp)
  have hX4 := hF4.blk hX3 (by simpa using (hl3.hM hX3).symm)
  have hr4 : RB w4 66 g (fun _ => c0) c.pl := hrb.fr hF4 (by simpa using (hl3.hM hrb).symm)
  have hnew := HL2.out.wider (Q := fun z => P z ∨ w.heap.size ≤ z) (fun z hz => .inl hz) |>.put_new (r := (g, fun _ => c0)) HG.out hF3 hrb (.inr (by rw [← HGE.out]; exact HFW.out.size)) (by rw [← HGE.out]; exact Nat.le_refl _) (by rw [HL.out]; exact hf1) (by rw [HL.out]; exact hf2) q4 hm4 hF4
  have hW4 := (((Wr.refl P w).step HFW.out (by simp)).step hF3 (by simp)).step hF4 (fun z hz => by
    have h8 : z = M := by simpa using hz
    rw [h8]; exact .inl HL2.out.pM)
  have x0 := Blk.cell (i := 0) hX4 rfl
  have x1 := Blk.cell (i := 1) hX4 rfl
  have x2 := Blk.cell (i := 2) hX4 rfl
  simp only [List.getElem_toArray, List.getElem_cons_zero, List.getElem_cons_succ] at x0 x1 x2
  have HR4 := Lib.hid hr4; have HNEW := Lib.hid hnew; have HW4 := Lib.hid hW4
  clear hrb hF3 hm3 hm4 hF4 hX3 hl3 hX4 hr4 hnew hW4
  have hth := Blk.there HR4.out (s' * 4) 4 (by simp [rc_len]; omega)
  go_upto_region 13 with (fail)
  apply wp_region_lit
  iterate 5 (refine wpList_plain rfl (fun K hK => ?_); go_simp; refine hK _ _ ?_; clear hK K)
  refine wpList_store_mid rfl 66 (Operand.tmp 85) (Operand.tmp 84) rfl g (s' * 4) #[.bool true, .int .i64 b, .int .i64 x, .int .i64 y] rfl rfl hth (by kernel_rfl) (by simp [Value.oneCell']) ?_
  change wpList _ _ _ _ _ (w4.setCells g (s' * 4) (c4 (true, b, x, y)))
  obtain ⟨hl5, hF5⟩ := HNEW.out.put_old (f := f) (r := (g, fun _ => c0)) (by simp) hsp (true, b, x, y)
  have hW := HW4.out.step hF5 (fun z hz => .inr (by
    have : z = g := by simpa using hz
    rw [this, ← HGE.out]; exact HFW.out.size))
  change HasLog (w4.setCells g (s' * 4) (c4 (true, b, x, y))) _ _ _ _ _ _ _ at hl5
  change Wr P w (w4.setCells g (s' * 4) (c4 (true, b, x, y))) at hW
  have HL5 := Lib.hid hl5; have HW5 := Lib.hid hW
  clear hl5 hF5 hW hth
  generalize w4.setCells g (s' * 4) (c4 (true, b, x, y)) = w5 at *
  go_wp2_with fail
  go_ret
  refine ⟨rfl, _, cnt + 1, HL5.out, Nat.le_refl _, fun z hz => by simp [hz], ⟨g, ?_⟩, HW5.out⟩
  have hgo := HG.out
  unfold rowOf
  rw [hgo]
  simp
end
end Go.Proofs.Ytckodnogjedmnaa.Lo
