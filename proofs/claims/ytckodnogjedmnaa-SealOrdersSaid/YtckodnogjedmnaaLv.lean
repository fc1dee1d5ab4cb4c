/- chapter 18: New, two, known. -/
import Derived.Test.YtckodnogjedmnaaLu
import Derived.Laws.EntriesVeiled
namespace Go.Proofs.Ytckodnogjedmnaa.Lo
open Go.RowKit Dt Go.Proofs.Ytckodnogjedmnaa.Hd Go.Proofs.Ytckodnogjedmnaa.Cfg Go.Proofs.Ytckodnogjedmnaa.Jt Go.Proofs.Ytckodnogjedmnaa.FlW Ieee
set_option linter.unusedVariables false
set_option linter.unusedSimpArgs false
attribute [local go_sem] run_store_float

set_option maxRecDepth 100000 in
set_option maxHeartbeats 1600000 in
theorem lnew_any {w : World} {b : Nat} {c : CfV} {l : List (Int × Int × Int)} {tk : List Nat} (h : CfOk w b c l tk) :
    Calls Try.prog 21 #[c.v] w fun e w' => ∃ B M, e = .returned (.tuple #[.pointer (some ⟨B, 0, none⟩), .int .i64 0]) ∧ HasLog w' (fun x => w.heap.size ≤ x) B M c [] (fun _ => none) 0 ∧ Fr [] w w' := by
  have hN := CfN.of h
  have HLG := Lib.hid (fun (w1 : World) (hF : Fr [] w w1) => legal_yes (h.fr hF (by simp) (by simp)))
  have hmm := @run_makeMap Try.prog
  obtain ⟨pl, per, gr, st, fr, seed, rate, depth, ra, rl, rc, ta, tl, tc⟩ := c
  dsimp only [CfV.v] at HLG ⊢
  clear h
  go_enter Try.func21, Try.ntmps21
  go_wp2_with fail
  have hX := Blk.new w #[.int .i64 pl, .int .i64 per, .int .i64 gr, .int .i64 st, .int .i64 fr, .int .i64 seed, .float .f64 rate, .float .f64 depth, .slice ra rl rc, .slice ta tl tc] 46
  have hF := (Fr.refl [] w).alloc (.cells #[.int .i64 pl, .int .i64 per, .int .i64 gr, .int .i64 st, .int .i64 fr, .int .i64 seed, .float .f64 rate, .float .f64 depth, .slice ra rl rc, .slice ta tl tc] 46)
  have hlg := HLG.out _ hF
  generalize w.alloc (.cells #[.int .i64 pl, .int .i64 per, .int .i64 gr, .int .i64 st, .int .i64 fr, .int .i64 seed, .float .f64 rate, .float .f64 depth, .slice ra rl rc, .slice ta tl tc] 46) = w1 at *
  obtain ⟨g, hg⟩ : ∃ g, w.heap.size = g := ⟨_, rfl⟩
  rw [hg] at hX ⊢
  have HG := Lib.hid hg
  clear hg
  refine hlg.mono ?_; rintro e w2 ⟨rfl, hF2⟩
  have hX2 := hF2.blk hX (by simp)
  have HF2 := Lib.hid (hF.trans hF2 (by simp))
  have x0 := Blk.cell (i := 0) hX2 rfl
  have x1 := Blk.cell (i := 1) hX2 rfl
  have x2 := Blk.cell (i := 2) hX2 rfl
  have x3 := Blk.cell (i := 3) hX2 rfl
  have x4 := Blk.cell (i := 4) hX2 rfl
  have x5 := Blk.cell (i := 5) hX2 rfl
  have x6 := Blk.cell (i := 6) hX2 rfl
  have x7 := Blk.cell (i := 7) hX2 rfl
  have x8 := Blk.cell (i := 8) hX2 rfl
  have x9 := Blk.cell (i := 9) hX2 rfl
  simp only [List.getElem_toArray, List.getElem_cons_zero, List.getElem_cons_succ] at x0 x1 x2 x3 x4 x5 x6 x7 x8 x9
  clear hX hF hlg hF2 hX2
  go_wp2_with fail
  go_ret2
  refine ⟨w2.heap.size + 1, w2.heap.size, rfl, ?_, ?_⟩
  · have hm := MapW.made w2 Try.prog 3
    have hb := Blk.new (w2.alloc (.map #[] 0)) (logCells ⟨pl, per, gr, st, fr, seed, rate, depth, ra, rl, rc, ta, tl, tc⟩ (.slice none 0 0) w2.heap.size) 82
    have hs : (w2.alloc (.map #[] 0)).heap.size = w2.heap.size + 1 := by show (w2.heap.push _).size = _; simp
    have hle := HF2.out.size
    have hgo := HG.out
    rw [hs] at hb
    exact {
      n := hN
      blk := ⟨.slice none 0 0, hb, own_nil _ _ _ _, fun g hg => by simp [Value.ownBlock] at hg⟩
      map := (hm.fr (S := []) ((Fr.refl [] _).alloc _) (by simp)).congr (fun _ _ => rfl)
      rrb := fun r hr => by simp at hr
      trb := fun x r hr => by simp at hr
      inj := fun x y r r' hr => by simp at hr
      dis := fun x r r' hr => by simp at hr
      rng := fun x r hr => by simp at hr
      len := Nat.zero_le _
      pB := by show w.heap.size ≤ _; omega
      pM := by show w.heap.size ≤ _; omega }
  · exact (HF2.out.alloc _).alloc _
def twoV (g : Nat) : CfV := ⟨2, 2, 4, 1, 90, 0, 4607182418800017408, 4613937818241073152, none, 0, 0, some ⟨g, 0, none⟩, 2, 2⟩
theorem two_any (w : World) : Calls Try.prog 29 #[] w fun e w' => ∃ g, e = .returned (CfV.v (twoV g)) ∧ CfOk w' w.heap.size (twoV g) [] [7, 8] ∧ Fr [] w w' := by
  go_enter Try.func29, Try.ntmps29
  go_wp2_with fail
  refine bodyPost_ret (v := .agg #[.int .i64 2, .int .i64 2, .int .i64 4, .int .i64 1, .int .i64 90, .int .i64 0, .float .f64 4607182418800017408, .float .f64 4613937818241073152, .slice none 0 0, .slice (some ⟨w.heap.size + 1, 0, none⟩) 2 2]) (by simp [results, Try.results29, go_sem]) rfl ?_
  have hA := (Fr.refl [] w).alloc (.cells #[.int .i64 2, .int .i64 2, .int .i64 4, .int .i64 1, .int .i64 90, .int .i64 0, .float .f64 4607182418800017408, .float .f64 4613937818241073152, .slice none 0 0, .slice (some ⟨w.heap.size + 1, 0, none⟩) 2 2] 46)
  have hs : (w.alloc (.cells #[.int .i64 2, .int .i64 2, .int .i64 4, .int .i64 1, .int .i64 90, .int .i64 0, .float .f64 4607182418800017408, .float .f64 4613937818241073152, .slice none 0 0, .slice (some ⟨w.heap.size + 1, 0, none⟩) 2 2] 46)).heap.size = w.heap.size + 1 := by show (w.heap.push _).size = _; simp
  have hb := Blk.new (w.alloc (.cells #[.int .i64 2, .int .i64 2, .int .i64 4, .int .i64 1, .int .i64 90, .int .i64 0, .float .f64 4607182418800017408, .float .f64 4613937818241073152, .slice none 0 0, .slice (some ⟨w.heap.size + 1, 0, none⟩) 2 2] 46)) #[.int .i64 7, .int .i64 8] 3
  rw [hs] at hb
  refine ⟨w.heap.size + 1, rfl, ?_, hA.alloc _⟩
  exact {
    pl1 := by show (_ : Nat) ≤ _; simp [twoV]
    pl8 := by show (_ : Nat) ≤ _; simp [twoV]
    per1 := by show (_ : Nat) ≤ _; simp [twoV]
    per8 := by show (_ : Nat) ≤ _; simp [twoV]
    gr := by show (_ : Nat) ≤ _; simp [twoV]
    st := by show (_ : Nat) ≤ _; simp [twoV]
    fr1 := by show (_ : Nat) ≤ _; simp [twoV]
    fr6 := by show (_ : Nat) ≤ _; simp [twoV]
    seed := by show (_ : Nat) ≤ _; simp [twoV]
    rate := by show rateB 4607182418800017408 = true; decide +kernel
    depth := by show depthB 4613937818241073152 = true; decide +kernel
    rules := own_nil _ _ _ _
    r16 := ⟨rfl, by simp [twoV]⟩
    rok := fun t ht => by simp at ht
    toks := ⟨by simp [intsN, twoV], .inr ⟨w.heap.size + 1, 2, #[.int .i64 7, .int .i64 8], rfl, Nat.le_succ _, hb, Nat.le_refl _, by decide, by simp, by simp [intsN, twoV]⟩⟩
    tlen := ⟨rfl, rfl⟩
    tnd := by decide
    tmax := by decide }
theorem Wr.fr {B : Nat} {w w' : World} (h : Wr (fun x => B ≤ x) w w') {w0 : World} (hF : Fr [] w0 w) (hB : w0.heap.size ≤ B) : Fr [] w0 w' := by
  obtain ⟨S, h1, h2⟩ := h
  exact hF.trans h2 (fun x hx => .inr (by have := h1 x hx; omega))
/-- a tick: what it seals is bounded from both sides -/
theorem TI.bounds {w w' : World} {P : Nat → Prop} {B M cnt cnt' : Nat} {c : CfV} {rows rows' : List (Nat × Row)} {tk tk' : Int → Option (Nat × Row)} {t : Int} (h : TI w w' P B M c rows tk cnt t rows' tk' cnt') : rows.length + rows'.length ≤ c.fr ∧ (0 < rows'.length → dl c ((rows.length + rows'.length - 1 : Nat)) ≤ t) := by
  have h1 := h.log.len
  rw [List.length_append] at h1
  refine ⟨h1, fun h2 => ?_⟩
  have h3 := h.due (rows'.length - 1) (by omega)
  rwa [show rows.length + (rows'.length - 1) = rows.length + rows'.length - 1 by omega] at h3
set_option maxRecDepth 100000 in
set_option maxHeartbeats 1600000 in
theorem lknown_any (w : World) : Calls Try.prog 22 #[] w fun e w' => e = .returned (.bool true) ∧ Fr [] w w' := by
  go_enter Try.func22, Try.ntmps22
  go_wp2_with fail
  refine (two_any w).mono ?_; rintro e w1 ⟨g, rfl, hc, hF1⟩
  have hnew := lnew_any hc
  dsimp only [CfV.v, twoV] at hnew ⊢
  have HF1 := Lib.hid hF1; have HNW := Lib.hid hnew
  clear hc hF1 hnew
  go_wp2_with fail
  refine HNW.out.mono ?_; rintro e w2 ⟨B, M, rfl, hl2, hF2⟩
  change HasLog w2 _ B M (twoV g) _ _ _ at hl2
  have HF2 := Lib.hid (HF1.out.trans hF2 (by simp))
  have hge : w.heap.size ≤ w1.heap.size := HF1.out.size
  have hl2 := hl2.wider (Q := fun x => w.heap.size ≤ x) (fun x hx => Nat.le_trans hge hx)
  have hd := deadline_any hl2 3
  rw [if_pos (by simp [twoV])] at hd
  change Calls _ _ _ _ (fun e w' => e = .returned (.int .i64 11) ∧ _) at hd
  have HL2 := Lib.hid hl2; have HD := Lib.hid hd
  clear hF2 hl2 hd HF1 HNW hge
  go_wp2_with fail
  refine HD.out.mono ?_; rintro e w3 ⟨rfl, k3, rfl⟩
  have hX : Fr [] w2 (w2.drewN k3) := (Fr.refl _ _).drewN k3
  have HL3 := Lib.hid (HL2.out.fr hX (by simp)); have HF3 := Lib.hid (HF2.out.trans hX (by simp))
  clear hX HL2 HF2 HD
  generalize w2.drewN k3 = w3 at *
  go_wp2_with fail
  refine (offer_new HL3.out (s := 1) (f := 0) (b := 0) (x := 5) (y := 0) ⟨by decide, by simp [twoV], by decide, by simp [twoV], by decide⟩ (by omega) (by simp) (by simp) rfl).mono ?_; rintro e w4 ⟨tk4, cnt4, rfl, hl4, hc4, -, -, hW4⟩
  have HL4 := Lib.hid (hl4.wider (Q := fun x => w.heap.size ≤ x) (fun x hx => hx.elim id (fun h => Nat.le_trans HF3.out.size h)))
  have HF4 := Lib.hid (Wr.fr hW4 HF3.out (Nat.le_refl _))
  clear hl4 hc4 hW4 HL3 HF3
  go_wp2_with fail
  refine (tick_any HL4.out 4).mono ?_; rintro e w5 ⟨rows5, tk5, cnt5, rfl, hI5, -⟩
  obtain ⟨h51, h52⟩ := hI5.bounds
  have h53 : rows5.length = 0 := by
    by_cases e : 0 < rows5.length
    · have := h52 e
      unfold dl twoV at this
      simp at this
      omega
    · omega
  obtain rfl := List.eq_nil_of_length_eq_zero h53
  have HL5 := Lib.hid (hI5.log.wider (Q := fun x => w.heap.size ≤ x) (fun x hx => hx.elim id (fun h => Nat.le_trans HF4.out.size h)))
  have HF5 := Lib.hid (Wr.fr hI5.wr HF4.out (Nat.le_refl _))
  clear hI5 h51 h52 h53 HL4 HF4
  go_wp2_with fail
  refine (tick_any HL5.out 5).mono ?_; rintro e w6 ⟨rows6, tk6, cnt6, rfl, hI6, hS6⟩
  obtain ⟨h61, h62⟩ := hI6.bounds
  have h63 : rows6.length = 1 := by
    simp only [List.append_nil, List.length_nil, Nat.zero_add] at h61 h62 hS6
    have h64 : rows6.length ≤ 1 := by
      by_cases e : 0 < rows6.length
      · have := h62 e
        unfold dl twoV at this
        simp at this
        omega
      · omega
    rcases hS6 with e | e
    · change rows6.length = 90 at e; omega
    · unfold dl twoV at e
      simp at e
      omega
  have hlen := len_any hI6.log
  have h65 : (([] ++ []) ++ rows6 : List (Nat × Row)).length = 1 := by simpa using h63
  rw [h65] at hlen
  have HLEN := Lib.hid hlen
  have HF6 := Lib.hid (Wr.fr hI6.wr HF5.out (Nat.le_refl _))
  rw [h63]
  clear hI6 hS6 h61 h62 h63 h65 hlen HL5 HF5
  go_wp2_with fail
  refine HLEN.out.mono ?_; rintro e w7 ⟨rfl, rfl⟩
  go_wp2_with fail
  go_ret
  exact ⟨rfl, HF6.out⟩
end Go.Proofs.Ytckodnogjedmnaa.Lo
