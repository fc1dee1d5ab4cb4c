/- chapter 18: Tick. Written by wip/genlt.py. -/
import Derived.Test.YtckodnogjedmnaaLo
import Derived.Test.YtckodnogjedmnaaJt2
import Derived.Test.YtckodnogjedmnaaOwn
import Derived.StillTailTactics
import Derived.Laws.Slices
namespace Dt
open Go Go.RowKit
/-- only blocks that P tells, and new ones, are written -/
def Wr (P : Nat → Prop) (w w' : World) : Prop := ∃ S, (∀ x ∈ S, P x) ∧ Fr S w w'
theorem Wr.refl (P : Nat → Prop) (w : World) : Wr P w w := ⟨[], by simp, Fr.refl _ _⟩
theorem Wr.step {P : Nat → Prop} {w w1 w2 : World} {T : List Nat} (h : Wr P w w1) (hF : Fr T w1 w2) (hT : ∀ x ∈ T, P x ∨ w.heap.size ≤ x) : Wr P w w2 := by
  obtain ⟨S, h1, h2⟩ := h
  refine ⟨S ++ T.filter (fun x => decide (x < w.heap.size)), fun x hx => ?_, (h2.mono (S' := S ++ T.filter (fun x => decide (x < w.heap.size))) (fun x hx => .inl (List.mem_append_left _ hx))).trans hF (fun x hx => ?_)⟩
  · rcases List.mem_append.1 hx with h3 | h3
    · exact h1 x h3
    · rw [List.mem_filter] at h3
      have h4 : x < w.heap.size := by simpa using h3.2
      exact (hT x h3.1).resolve_right (by omega)
  · by_cases h4 : x < w.heap.size
    · exact .inl (List.mem_append_right _ (List.mem_filter.2 ⟨hx, by simpa using h4⟩))
    · exact .inr (by omega)
theorem Wr.size {P : Nat → Prop} {w w' : World} (h : Wr P w w') : w.heap.size ≤ w'.heap.size := by obtain ⟨S, -, h⟩ := h; exact h.size
theorem Wr.trans {P : Nat → Prop} {w w1 w2 : World} (h : Wr P w w1) (h' : Wr (fun x => P x ∨ w.heap.size ≤ x) w1 w2) : Wr P w w2 := by
  obtain ⟨S, h1, h2⟩ := h'
  exact h.step h2 h1
end Dt
namespace Go.Proofs.Ytckodnogjedmnaa.Lo
open Go.RowKit Dt Go.Proofs.Ytckodnogjedmnaa.Hd Go.Proofs.Ytckodnogjedmnaa.Cfg Go.Proofs.Ytckodnogjedmnaa.Jt
set_option linter.unusedVariables false
set_option linter.unusedSimpArgs false

def dl (c : CfV) (k : Int) : Int := c.st + k * c.per + c.gr
def rowOf (tk : Int → Option (Nat × Row)) (x : Int) : Row := match tk x with | some r => r.2 | none => fun _ => c0
/-- a row is sealed: what stands behind it -/
theorem seal_end {w w4 : World} {Q : Nat → Prop} {B M cnt cnt' : Nat} {c : CfV} {rows : List (Nat × Row)} {tk : Int → Option (Nat × Row)} {rv v : Value} {r : Nat × Row} {T : List Nat}
    (h : HasLog w Q B M c rows tk cnt) (hlt : rows.length < c.fr) (hb : Blk w B (logCells c rv M) 82) (ho : w.ownsRow 0 26 1 rv rows.length (rows.map fun r => rowV c.pl r.1))
    (hm : MapW Try.prog 3 w4 M cnt' (fun y => if y = rows.length then none else (tk y).map fun r => rowV c.pl r.1))
    (hF : Fr T w w4) (hT : ∀ x ∈ T, x = M ∨ rv.ownBlock = some x)
    (hown : w4.ownsRow 0 26 1 v (rows.length + 1) ((rows.map fun r => rowV c.pl r.1) ++ [rowV c.pl r.1]))
    (hQ : ∀ g, v.ownBlock = some g → Q g)
    (hr : RB w4 66 r.1 r.2 c.pl) (hrQ : Q r.1) (hne : ∀ x r', tk x = some r' → x ≠ rows.length → r.1 ≠ r'.1) :
    HasLog (w4.setCell ⟨B, 10, none⟩ v) Q B M c (rows ++ [r]) (fun y => if y = rows.length then none else tk y) cnt' ∧ Fr (B :: T) w (w4.setCell ⟨B, 10, none⟩ v) := by
  have hMb : M ≠ B := by
    intro e; subst e
    obtain ⟨D, ⟨es, clock, h1, -⟩, -⟩ := h.map.ex
    have h2 : w.heap[M]? = _ := hb
    rw [h2] at h1; simp at h1
  have hBT : B ∉ T := fun hx => by
    rcases hT B hx with e | e
    · exact hMb e.symm
    · exact own_blk (g := 0) ho hb (by decide) B e rfl
  have hrT : ∀ g R, RB w 66 g R c.pl → g ∉ T := fun g R hg hx => by
    rcases hT g hx with e | e
    · subst e
      obtain ⟨D, ⟨es, clock, h1, -⟩, -⟩ := h.map.ex
      have h2 : w.heap[g]? = _ := hg
      rw [h2] at h1; simp at h1
    · exact own_blk (g := 0) ho hg (by decide) g e rfl
  have hrB : ∀ g R, RB w4 66 g R c.pl → g ∉ [B] := fun g R hg hx => by
    have e : g = B := by simpa using hx
    subst e
    have h2 : w4.heap[g]? = _ := hF.blk hb hBT
    have h3 : w4.heap[g]? = _ := hg
    rw [h2] at h3
    simp at h3
  have hF5 : Fr [B] w4 (w4.setCell ⟨B, 10, none⟩ v) := (Fr.refl _ _).setCell (.inl (by simp)) _
  have hb4 := hF.blk hb hBT
  have hvB : ∀ g, v.ownBlock = some g → g ∉ [B] := fun g hg hx => by
    have e : g = B := by simpa using hx
    exact own_blk (g := 0) hown hb4 (by decide) g hg e
  refine ⟨?_, (hF.mono (S' := B :: T) (fun x hx => .inl (List.mem_cons_of_mem _ hx))).trans hF5 (fun x hx => .inl (by simp at hx; simp [hx]))⟩
  exact {
    n := h.n
    blk := ⟨v, by have := hb4.set 10 v; exact this, by
      have h9 := own_keep hown hF5 hvB
      simpa using h9, hQ⟩
    map := (hm.fr hF5 (by simpa using hMb)).congr (fun x hx => by by_cases e : x = rows.length <;> simp [e])
    rrb := fun r' hr' => by
      rcases List.mem_append.1 hr' with h1 | h1
      · have h2 := (h.rrb r' h1)
        have h3 := h2.1.fr hF (hrT _ _ h2.1)
        exact ⟨h3.fr hF5 (hrB _ _ h3), h2.2⟩
      · have e : r' = r := by simpa using h1
        subst e
        exact ⟨hr.fr hF5 (hrB _ _ hr), hrQ⟩
    trb := fun x r' hx => by
      by_cases e : x = rows.length
      · simp [e] at hx
      · have hx' : tk x = some r' := by simpa [e] using hx
        have h2 := (h.trb x r' hx')
        have h3 := h2.1.fr hF (hrT _ _ h2.1)
        exact ⟨h3.fr hF5 (hrB _ _ h3), h2.2⟩
    inj := fun x y r1 r2 h1 h2 hxy => by
      by_cases e1 : x = rows.length
      · simp [e1] at h1
      · by_cases e2 : y = rows.length
        · simp [e2] at h2
        · exact h.inj x y r1 r2 (by simpa [e1] using h1) (by simpa [e2] using h2) hxy
    dis := fun x r1 r2 h1 h2 => by
      by_cases e : x = rows.length
      · simp [e] at h1
      · have h1' : tk x = some r1 := by simpa [e] using h1
        rcases List.mem_append.1 h2 with h3 | h3
        · exact h.dis x r1 r2 h1' h3
        · have e2 : r2 = r := by simpa using h3
          subst e2
          exact Ne.symm (hne x r1 h1' e)
    rng := fun x r1 h1 => by
      by_cases e : x = rows.length
      · simp [e] at h1
      · have h2 := h.rng x r1 (by simpa [e] using h1)
        rw [List.length_append, List.length_singleton]
        omega
    len := by rw [List.length_append, List.length_singleton]; omega
    pB := h.pB
    pM := h.pM }
/-- so it stands in the midst of Tick: m rows are sealed -/
structure TI (w wr : World) (P : Nat → Prop) (B M : Nat) (c : CfV) (rows : List (Nat × Row)) (tk : Int → Option (Nat × Row)) (cnt : Nat) (t : Int) (rows' : List (Nat × Row)) (tk' : Int → Option (Nat × Row)) (cnt' : Nat) : Prop where
  log : HasLog wr (fun x => P x ∨ w.heap.size ≤ x) B M c (rows ++ rows') tk' cnt'
  got : ∀ i r, rows'[i]? = some r → r.2 = rowOf tk (rows.length + i : Nat)
  rest : ∀ x : Int, ((rows.length + rows'.length : Nat) : Int) ≤ x → tk' x = tk x
  due : ∀ i : Nat, i < rows'.length → dl c (rows.length + i : Nat) ≤ t
  le : cnt' ≤ cnt
  wr : Wr P w wr
theorem infRow : (Try.prog.info? 26).map (fun i => (i.zero, i.size, i.bytes)) = some (some (.slice none 0 0), 1, 24) := by kernel_rfl
set_option maxRecDepth 100000 in
set_option maxHeartbeats 3200000 in
theorem tick_any {w : World} {P : Nat → Prop} {B M cnt : Nat} {c : CfV} {rows : List (Nat × Row)} {tk : Int → Option (Nat × Row)} (h : HasLog w P B M c rows tk cnt) (t : Int) :
    Calls Try.prog 23 #[.pointer (some ⟨B, 0, none⟩), .int .i64 t] w fun e w' => ∃ rows' tk' cnt', e = .returned (.int .i64 rows'.length) ∧ TI w w' P B M c rows tk cnt t rows' tk' cnt' ∧ (rows.length + rows'.length = c.fr ∨ t < dl c (rows.length + rows'.length : Nat)) := by
  have hN := h.n
  obtain ⟨i0, hi0, hz0, hz1, hz2⟩ := info_parts infC
  obtain ⟨j0, hj0, hy0, hy1, hy2⟩ := info_parts infRow
  have hpl := hN.pl8
  have hpl1 := hN.pl1
  have hfr6 := hN.fr6
  have hmk : ∀ w : World, (Instr.makeSlice 26 (.int .i64 (c.pl : Int)) (.int .i64 (c.pl : Int))).run Try.prog w = .ok (.slice (some ⟨w.heap.size, 0, none⟩) c.pl c.pl) (w.alloc (.cells (madeCells #[.bool false, .int .i64 0, .int .i64 0, .int .i64 0] (c.pl * 4)) 66)) := fun w => by
    have h2 := run_makeSlice (P := Try.prog) w 26 66 i0 _ Try.underlying26 hi0 hz0 .i64 .i64 (c.pl : Int) (c.pl : Int) (by omega) (Int.le_refl _) (by rw [hz1]; omega) (by rw [hz2]; omega) (by omega)
    rw [hz1] at h2
    simpa [Value.cells] using h2
  have HMK := Lib.hid hmk
  have HH := Lib.hid h
  clear h hmk
  go_enter Try.func23, Try.ntmps23
  go_wp2_with fail
  go_loopw [5] (fun iv wr => ∃ m rows' tk' cnt', m = rows'.length ∧ iv = .int .i64 (m : Nat) ∧ TI w wr P B M c rows tk cnt t rows' tk' cnt') (fun iv _ => 1000 - (intOf iv).toNat)
  case atStart => exact ⟨0, [], tk, cnt, rfl, rfl, ⟨by rw [List.append_nil]; exact HH.out.wider (fun x hx => .inl hx), fun i r hr => by simp at hr, fun x _ => rfl, fun i hi => by simp at hi, Nat.le_refl _, Wr.refl _ _⟩⟩
  case round =>
    obtain ⟨m, rows', tk', cnt', hm, rfl, hI⟩ := hrel
    obtain ⟨L, hL⟩ : ∃ L, (rows ++ rows').length = L := ⟨_, rfl⟩
    have hLm : rows.length + m = L := by rw [← hL, List.length_append, hm]
    have he := ended_any hI.log
    have hLf : L ≤ c.fr := by have := hI.log.len; omega
    rw [hL] at he
    have HI := Lib.hid hI; have HL := Lib.hid hL; have HLM := Lib.hid hLm; have HM := Lib.hid hm
    clear hI hL hm
    by_cases q : L = c.fr
    · rw [decide_eq_true q] at he
      have HE := Lib.hid he; have HQ := Lib.hid q
      clear he q
      go_wp2_with fail
      refine HE.out.mono ?_; rintro e w1 ⟨rfl, k1, rfl⟩
      go_wp2_with fail
      go_ret
      have hD : Fr [] wr (wr.drewN k1) := (Fr.refl _ _).drewN k1
      have hm9 := HM.out
      subst hm9
      refine ⟨rows', tk', cnt', rfl, ⟨HI.out.log.fr hD (by simp), HI.out.got, HI.out.rest, HI.out.due, HI.out.le, HI.out.wr.step hD (by simp)⟩, .inl ?_⟩
      have := HLM.out; have := HQ.out
      omega
    · rw [decide_eq_false q] at he
      have hLf' : L < c.fr := by omega
      have HE := Lib.hid he
      clear he q
      go_wp2_with fail
      refine HE.out.mono ?_; rintro e w1 ⟨rfl, k1, rfl⟩
      have hD : Fr [] wr (wr.drewN k1) := (Fr.refl _ _).drewN k1
      have hl1 := HI.out.log.fr hD (by simp)
      have hw1 := HI.out.wr.step hD (by simp)
      clear hD HE
      generalize wr.drewN k1 = w1 at *
      have hd := deadline_any hl1 (L : Int)
      rw [if_pos (by omega)] at hd
      obtain ⟨rv, b1, b2, b3⟩ := hl1.blk
      obtain ⟨a, cap, rfl, -, -⟩ := own_val b2
      rw [HL.out] at b1 b2 b3
      have c10 := Blk.cell (i := 10) b1 rfl
      simp only [logCells, List.getElem_toArray, List.getElem_cons_zero, List.getElem_cons_succ] at c10
      have HD := Lib.hid hd; have HL1 := Lib.hid hl1; have HW1 := Lib.hid hw1
      have hlm : L ≤ maxLen := by unfold maxLen; omega
      clear hd hl1 hw1 b1 b2 b3
      go_wp2_with fail
      refine HD.out.mono ?_; rintro e w2 ⟨rfl, k2, rfl⟩
      have hD : Fr [] w1 (w1.drewN k2) := (Fr.refl _ _).drewN k2
      have HL2 := Lib.hid (HL1.out.fr hD (by simp)); have HW2 := Lib.hid (HW1.out.step hD (by simp))
      clear hD HL1 HW1 HD c10
      generalize w1.drewN k2 = w2 at *
      obtain ⟨dd, hdd⟩ : ∃ dd, (c.st : Int) + (L : Int) * c.per + c.gr = dd := ⟨_, rfl⟩
      rw [hdd]
      have HDD := Lib.hid (show dl c (L : Nat) = dd from hdd)
      clear hdd
      by_cases q : dd ≤ t
      case neg =>
        go_wp2_with fail
        go_ret
        have hm9 := HM.out
        subst hm9
        refine ⟨rows', tk', cnt', rfl, ⟨HL2.out, HI.out.got, HI.out.rest, HI.out.due, HI.out.le, HW2.out⟩, .inr ?_⟩
        rw [HLM.out, HDD.out]
        omega
      obtain ⟨rv2, b1, b2, b3⟩ := HL2.out.blk
      have hLL := HL.out
      rw [hLL] at b2
      obtain ⟨a2, cap2, rfl, -, -⟩ := own_val b2
      have c10 := Blk.cell (i := 10) b1 rfl
      have c11 := Blk.cell (i := 11) b1 rfl
      have c0' := Blk.cell (i := 0) b1 rfl
      simp only [logCells, List.getElem_toArray, List.getElem_cons_zero, List.getElem_cons_succ] at c10 c11 c0'
      have hK : inK (L : Int) := inK_of (by omega) (by omega)
      cases hg : tk' (L : Int) with
      | some r =>
        have hlk : ∀ k, (Instr.lookup 33 (.map (some M)) (.int .i64 (L : Int)) true).run Try.prog (w2.drewN k) = .ok (.tuple #[.slice (some ⟨r.1, 0, none⟩) c.pl c.pl, .bool true]) (w2.drewN k) := fun k => by
          have h1 := (HL2.out.map.drewN k).look intTy mapTy (zeroRow _) hK
          simp only [hg] at h1
          exact h1
        have HB1 := Lib.hid b1; have HB2 := Lib.hid b2; have HB3 := Lib.hid b3; have HG := Lib.hid hg; have HK := Lib.hid hK
        clear b1 b2 b3 hg hK hLL
        go_wp2_with fail
        go_quiet (fail)
        go_upto_region 6 with (fail)
        have hFx : Fr [] w2 (w2.drewN nq) := (Fr.refl _ _).drewN nq
        have hl3 := HL2.out.fr hFx (by simp)
        have hw3 := HW2.out.step hFx (by simp)
        have hb3 := Blk.drewN HB1.out nq
        have ho3 := own_keep HB2.out hFx (by simp)
        have hr3 := (hl3.trb _ r HG.out)
        have hne3 : ∀ x r', tk' x = some r' → x ≠ ((rows ++ rows').length : Int) → r.1 ≠ r'.1 := fun x r' hx hxL => hl3.inj _ _ _ _ HG.out hx (by rw [HL.out] at hxL; exact Ne.symm hxL)
        change (w2.drewN nq).cell? _ = _ at c10 c11
        clear hFx hlk c0'
        generalize w2.drewN nq = w3 at *
        obtain ⟨w4, hdr, hm4, hF4⟩ := hl3.map.drew.drop intTy mapTy HK.out 0
        have hMb : M ≠ B := by
          intro e; subst e
          obtain ⟨D, ⟨es, clock, h1, -⟩, -⟩ := hl3.map.ex
          have h2 : w3.heap[M]? = _ := hb3
          rw [h2] at h1; simp at h1
        have hF4' : Fr [M] w3 w4 := ((Fr.refl [M] w3).drew).trans hF4 (fun x hx => .inl hx)
        have hb4 := hF4'.blk hb3 (by simpa using hMb.symm)
        have k10 := (hF4'.cell (p := ⟨B, 10, none⟩) (Blk.lt hb3) (by simpa using hMb.symm)).trans c10
        have hoM : ∀ x, (Value.slice a2 L cap2).ownBlock = some x → x ∉ [M] := fun x hx e => by
          have e' : x = M := by simpa using e
          subst e'
          obtain ⟨D, ⟨es, clock, h1, -⟩, -⟩ := hl3.map.ex
          rcases ho3.2 with ⟨h9, -⟩ | ⟨g', cap', cur, h9, -, h8, -⟩
          · rw [h9] at hx; simp [Value.ownBlock] at hx
          · rw [h9] at hx; simp [Value.ownBlock] at hx
            subst hx
            rw [h8] at h1; simp at h1
        have ho4 := own_keep ho3 hF4' hoM
        have HL3 := Lib.hid hl3; have HW3 := Lib.hid hw3; have HB3' := Lib.hid hb3; have HO3 := Lib.hid ho3; have HR3 := Lib.hid hr3; have HNE3 := Lib.hid hne3; have HM4 := Lib.hid hm4; have HF4 := Lib.hid hF4'; have HB4 := Lib.hid hb4; have HO4 := Lib.hid ho4; have HMB := Lib.hid hMb; have HOM := Lib.hid hoM
        clear hl3 hw3 hb3 ho3 hr3 hne3 hm4 hF4 hF4' hb4 ho4 hMb hoM
        go_still_tail 9, (by kernel_rfl)
        change wpList _ _ _ _ _ w3.drew
        go_upto_region 7 with (fail)
        apply wp_region_lit
        iterate 7 (refine wpList_plain rfl (fun K hK => ?_); go_simp; refine hK _ _ ?_; clear hK K)
        have hnb := Blk.new w4 #[rowV c.pl r.1] 26
        have hF5 := (Fr.refl [] w4).alloc (.cells #[rowV c.pl r.1] 26)
        have ho5 := own_keep HO4.out hF5 (by simp)
        refine wpList_append_src _ rfl (Operand.tmp 56) (Operand.tmp 58) 56 rfl 0 26 j0 _ 1 24 Try.underlying56 hj0 hy0 hy1 hy2 rfl (by decide) (.slice a2 L cap2) (.slice (some ⟨w4.heap.size, 0, none⟩) 1 1) L 1 ((rows ++ rows').map fun (q : Nat × Row) => rowV c.pl q.1) [rowV c.pl r.1] rfl (by kernel_rfl) ho5 (src_blk hnb (by simp) (by simp [Value.oneCell', rowV]) 1) (by unfold maxLen; omega) (by omega) (Nat.zero_le _) ?_
        intro v6 w6 ho6 hg6 hat6
        obtain ⟨a6, cap6, rfl, -, -⟩ := own_val ho6
        have hF6 := hF5.mono (S' := (Value.slice a2 L cap2).ownBlock.toList) (by simp) |>.trans (fr_grown hg6) (fun x hx => .inl hx)
        have hlm6 := HL.out
        have hF36 : Fr (M :: (Value.slice a2 L cap2).ownBlock.toList) w3 w6 := (HF4.out.mono (S' := M :: (Value.slice a2 L cap2).ownBlock.toList) (fun x hx => .inl (by simp at hx; simp [hx]))).trans hF6 (fun x hx => .inl (by simp at hx; simp [hx]))
        have hm6 := HM4.out.fr hF6 (by
          intro hx
          exact HOM.out M (by simpa using hx) (by simp))
        have hrbT : ∀ x ∈ (M :: (Value.slice a2 L cap2).ownBlock.toList), x ≠ r.1 := fun x hx e => by
          have h2 : w3.heap[r.1]? = _ := HR3.out.1
          rcases List.mem_cons.1 hx with e1 | e1
          · subst e1
            obtain ⟨D, ⟨es, clock, h1, -⟩, -⟩ := HL3.out.map.ex
            rw [e, h2] at h1; simp at h1
          · exact own_blk (g := 0) HO3.out HR3.out.1 (by decide) x (by simpa using e1) e
        have hr6 := HR3.out.1.fr hF36 (fun hx => hrbT _ hx rfl)
        have hl := seal_end (v := .slice a6 (L + 1) cap6) (r := r) (T := M :: (Value.slice a2 L cap2).ownBlock.toList) (cnt' := cnt' - if ((tk' (L : Int)).map fun r => rowV c.pl r.1).isSome then 1 else 0) HL3.out (by rw [hlm6]; omega) HB3'.out (by rw [hlm6]; exact HO3.out) (by rw [hlm6]; exact hm6) hF36 (fun x hx => by
            rcases List.mem_cons.1 hx with e | e
            · exact .inl e
            · exact .inr (by simpa using e)) (by rw [hlm6]; exact ho6) (fun x hx => by
            rcases hat6 with e | e
            · rw [e] at hx; exact HB3.out x hx
            · rw [e] at hx
              have : (w4.alloc (.cells #[rowV c.pl r.1] 26)).heap.size = x := by simpa using hx
              refine .inr ?_
              have h1 := HW3.out.size
              have h2 := HF4.out.size
              have h3 := hF5.size
              omega) hr6 HR3.out.2 HNE3.out
        have hw9 := HW3.out.step hl.2 (fun x hx => by
          rcases List.mem_cons.1 hx with e | e
          · subst e; exact HL3.out.pB
          · rcases List.mem_cons.1 e with e | e
            · subst e; exact HL3.out.pM
            · exact HB3.out x (by simpa using e))
        have HL9 := Lib.hid hl.1; have HW9 := Lib.hid hw9
        have k10' : w6.cell? ⟨B, 10, none⟩ = some (.slice a2 L cap2) := (hF6.cell (p := ⟨B, 10, none⟩) (Blk.lt HB4.out) (own_notin HO4.out HB4.out (by decide))).trans k10
        have f10' : w6.frozen? ⟨B, 10, none⟩ = false := Blk.free (hF6.blk HB4.out (own_notin HO4.out HB4.out (by decide))) 10
        clear hl hw9 hr6 hrbT hm6 hF36 hlm6 hF6 hat6 hg6 ho6 ho5 hF5 hnb k10 c10 c11
        go_wp2_with fail
        go_roundw
        case rel =>
          refine ⟨m + 1, rows' ++ [r], _, _, by rw [List.length_append, ← HM.out]; rfl, by go_num, ⟨by rw [← List.append_assoc]; exact HL9.out, fun i r' hi => ?_, fun x hx => ?_, fun i hi => ?_, Nat.le_trans (Nat.sub_le _ _) HI.out.le, HW9.out⟩⟩
          · have hm9 := HM.out; have hLm := HLM.out
            by_cases e : i < rows'.length
            · rw [List.getElem?_append_left e] at hi; exact HI.out.got i r' hi
            · have e2 : i = rows'.length := by
                have := (List.getElem?_eq_some_iff.1 hi).1
                rw [List.length_append, List.length_singleton] at this
                omega
              subst e2
              have e3 : r = r' := by simpa using hi
              subst e3
              rw [← hm9, hLm]
              unfold rowOf
              rw [← HI.out.rest (L : Int) (by rw [← hm9, hLm]; exact Int.le_refl _), HG.out]
              first | done | rfl
          · have hm9 := HM.out; have hLm := HLM.out; have hLL := HL.out
            rw [List.length_append, List.length_singleton] at hx
            rw [if_neg (by rw [hLL]; omega)]
            exact HI.out.rest x (by omega)
          · have hm9 := HM.out; have hLm := HLM.out
            rw [List.length_append, List.length_singleton] at hi
            by_cases e : i < rows'.length
            · exact HI.out.due i e
            · have e2 : i = rows'.length := by omega
              rw [e2, ← hm9, hLm, HDD.out]
              exact q
        case measure => simp [intOf]; omega
      | none =>
        have hlk : ∀ k, (Instr.lookup 33 (.map (some M)) (.int .i64 (L : Int)) true).run Try.prog (w2.drewN k) = .ok (.tuple #[.slice none 0 0, .bool false]) (w2.drewN k) := fun k => by
          have h1 := (HL2.out.map.drewN k).look intTy mapTy (zeroRow _) hK
          simp only [hg] at h1
          exact h1
        have HB1 := Lib.hid b1; have HB2 := Lib.hid b2; have HB3 := Lib.hid b3; have HG := Lib.hid hg; have HK := Lib.hid hK
        clear b1 b2 b3 hg hK hLL
        go_wp2_with fail
        go_quiet (fail)
        change (w2.drewN nq).cell? _ = _ at c0'
        have hmk9 := HMK.out (w2.drewN nq)
        go_upto_region 6 with (fail)
        have hFx : Fr [] w2 ((w2.drewN nq).alloc (.cells (madeCells #[.bool false, .int .i64 0, .int .i64 0, .int .i64 0] (c.pl * 4)) 66)) := ((Fr.refl _ _).drewN nq).alloc _
        have hl3 := HL2.out.fr hFx (by simp)
        have hw3 := HW2.out.step hFx (by simp)
        have hb3 := hFx.blk HB1.out (by simp)
        have ho3 := own_keep HB2.out hFx (by simp)
        have hnew := RB.new (w2.drewN nq) 66 c.pl
        obtain ⟨r, hr9⟩ : ∃ r : Nat × Row, r = ((w2.drewN nq).heap.size, fun _ => c0) := ⟨_, rfl⟩
        have hr3 : RB ((w2.drewN nq).alloc (.cells (madeCells #[.bool false, .int .i64 0, .int .i64 0, .int .i64 0] (c.pl * 4)) 66)) 66 r.1 r.2 c.pl ∧ (P r.1 ∨ w.heap.size ≤ r.1) := by
          rw [hr9]; exact ⟨hnew, .inr HW2.out.size⟩
        have hne3 : ∀ x r', tk' x = some r' → x ≠ ((rows ++ rows').length : Int) → r.1 ≠ r'.1 := fun x r' hx hxL e => by
          have h1 := (HL2.out.trb x r' hx).1.lt
          rw [← e, hr9] at h1
          exact absurd h1 (Nat.lt_irrefl _)
        have c10 := (hFx.cell (p := ⟨B, 10, none⟩) (Blk.lt HB1.out) (by simp)).trans c10
        have c11 := (hFx.cell (p := ⟨B, 11, none⟩) (Blk.lt HB1.out) (by simp)).trans c11
        have hgr : w2.heap.size = r.1 := by rw [hr9]; rfl
        rw [hgr]
        have HR9 := Lib.hid hr9
        clear hFx hlk c0' hmk9 hnew hgr hr9
        generalize (w2.drewN nq).alloc (.cells (madeCells #[.bool false, .int .i64 0, .int .i64 0, .int .i64 0] (c.pl * 4)) 66) = w3 at *
        obtain ⟨w4, hdr, hm4, hF4⟩ := hl3.map.drew.drop intTy mapTy HK.out 0
        have hMb : M ≠ B := by
          intro e; subst e
          obtain ⟨D, ⟨es, clock, h1, -⟩, -⟩ := hl3.map.ex
          have h2 : w3.heap[M]? = _ := hb3
          rw [h2] at h1; simp at h1
        have hF4' : Fr [M] w3 w4 := ((Fr.refl [M] w3).drew).trans hF4 (fun x hx => .inl hx)
        have hb4 := hF4'.blk hb3 (by simpa using hMb.symm)
        have k10 := (hF4'.cell (p := ⟨B, 10, none⟩) (Blk.lt hb3) (by simpa using hMb.symm)).trans c10
        have hoM : ∀ x, (Value.slice a2 L cap2).ownBlock = some x → x ∉ [M] := fun x hx e => by
          have e' : x = M := by simpa using e
          subst e'
          obtain ⟨D, ⟨es, clock, h1, -⟩, -⟩ := hl3.map.ex
          rcases ho3.2 with ⟨h9, -⟩ | ⟨g', cap', cur, h9, -, h8, -⟩
          · rw [h9] at hx; simp [Value.ownBlock] at hx
          · rw [h9] at hx; simp [Value.ownBlock] at hx
            subst hx
            rw [h8] at h1; simp at h1
        have ho4 := own_keep ho3 hF4' hoM
        have HL3 := Lib.hid hl3; have HW3 := Lib.hid hw3; have HB3' := Lib.hid hb3; have HO3 := Lib.hid ho3; have HR3 := Lib.hid hr3; have HNE3 := Lib.hid hne3; have HM4 := Lib.hid hm4; have HF4 := Lib.hid hF4'; have HB4 := Lib.hid hb4; have HO4 := Lib.hid ho4; have HMB := Lib.hid hMb; have HOM := Lib.hid hoM
        clear hl3 hw3 hb3 ho3 hr3 hne3 hm4 hF4 hF4' hb4 ho4 hMb hoM
        go_still_tail 9, (by kernel_rfl)
        change wpList _ _ _ _ _ w3.drew
        go_upto_region 7 with (fail)
        apply wp_region_lit
        iterate 7 (refine wpList_plain rfl (fun K hK => ?_); go_simp; refine hK _ _ ?_; clear hK K)
        have hnb := Blk.new w4 #[rowV c.pl r.1] 26
        have hF5 := (Fr.refl [] w4).alloc (.cells #[rowV c.pl r.1] 26)
        have ho5 := own_keep HO4.out hF5 (by simp)
        refine wpList_append_src _ rfl (Operand.tmp 56) (Operand.tmp 58) 56 rfl 0 26 j0 _ 1 24 Try.underlying56 hj0 hy0 hy1 hy2 rfl (by decide) (.slice a2 L cap2) (.slice (some ⟨w4.heap.size, 0, none⟩) 1 1) L 1 ((rows ++ rows').map fun (q : Nat × Row) => rowV c.pl q.1) [rowV c.pl r.1] rfl (by kernel_rfl) ho5 (src_blk hnb (by simp) (by simp [Value.oneCell', rowV]) 1) (by unfold maxLen; omega) (by omega) (Nat.zero_le _) ?_
        intro v6 w6 ho6 hg6 hat6
        obtain ⟨a6, cap6, rfl, -, -⟩ := own_val ho6
        have hF6 := hF5.mono (S' := (Value.slice a2 L cap2).ownBlock.toList) (by simp) |>.trans (fr_grown hg6) (fun x hx => .inl hx)
        have hlm6 := HL.out
        have hF36 : Fr (M :: (Value.slice a2 L cap2).ownBlock.toList) w3 w6 := (HF4.out.mono (S' := M :: (Value.slice a2 L cap2).ownBlock.toList) (fun x hx => .inl (by simp at hx; simp [hx]))).trans hF6 (fun x hx => .inl (by simp at hx; simp [hx]))
        have hm6 := HM4.out.fr hF6 (by
          intro hx
          exact HOM.out M (by simpa using hx) (by simp))
        have hrbT : ∀ x ∈ (M :: (Value.slice a2 L cap2).ownBlock.toList), x ≠ r.1 := fun x hx e => by
          have h2 : w3.heap[r.1]? = _ := HR3.out.1
          rcases List.mem_cons.1 hx with e1 | e1
          · subst e1
            obtain ⟨D, ⟨es, clock, h1, -⟩, -⟩ := HL3.out.map.ex
            rw [e, h2] at h1; simp at h1
          · exact own_blk (g := 0) HO3.out HR3.out.1 (by decide) x (by simpa using e1) e
        have hr6 := HR3.out.1.fr hF36 (fun hx => hrbT _ hx rfl)
        have hl := seal_end (v := .slice a6 (L + 1) cap6) (r := r) (T := M :: (Value.slice a2 L cap2).ownBlock.toList) (cnt' := cnt' - if ((tk' (L : Int)).map fun r => rowV c.pl r.1).isSome then 1 else 0) HL3.out (by rw [hlm6]; omega) HB3'.out (by rw [hlm6]; exact HO3.out) (by rw [hlm6]; exact hm6) hF36 (fun x hx => by
            rcases List.mem_cons.1 hx with e | e
            · exact .inl e
            · exact .inr (by simpa using e)) (by rw [hlm6]; exact ho6) (fun x hx => by
            rcases hat6 with e | e
            · rw [e] at hx; exact HB3.out x hx
            · rw [e] at hx
              have : (w4.alloc (.cells #[rowV c.pl r.1] 26)).heap.size = x := by simpa using hx
              refine .inr ?_
              have h1 := HW3.out.size
              have h2 := HF4.out.size
              have h3 := hF5.size
              omega) hr6 HR3.out.2 HNE3.out
        have hw9 := HW3.out.step hl.2 (fun x hx => by
          rcases List.mem_cons.1 hx with e | e
          · subst e; exact HL3.out.pB
          · rcases List.mem_cons.1 e with e | e
            · subst e; exact HL3.out.pM
            · exact HB3.out x (by simpa using e))
        have HL9 := Lib.hid hl.1; have HW9 := Lib.hid hw9
        have k10' : w6.cell? ⟨B, 10, none⟩ = some (.slice a2 L cap2) := (hF6.cell (p := ⟨B, 10, none⟩) (Blk.lt HB4.out) (own_notin HO4.out HB4.out (by decide))).trans k10
        have f10' : w6.frozen? ⟨B, 10, none⟩ = false := Blk.free (hF6.blk HB4.out (own_notin HO4.out HB4.out (by decide))) 10
        clear hl hw9 hr6 hrbT hm6 hF36 hlm6 hF6 hat6 hg6 ho6 ho5 hF5 hnb k10 c10 c11
        go_wp2_with fail
        go_roundw
        case rel =>
          refine ⟨m + 1, rows' ++ [r], _, _, by rw [List.length_append, ← HM.out]; rfl, by go_num, ⟨by rw [← List.append_assoc]; exact HL9.out, fun i r' hi => ?_, fun x hx => ?_, fun i hi => ?_, Nat.le_trans (Nat.sub_le _ _) HI.out.le, HW9.out⟩⟩
          · have hm9 := HM.out; have hLm := HLM.out
            by_cases e : i < rows'.length
            · rw [List.getElem?_append_left e] at hi; exact HI.out.got i r' hi
            · have e2 : i = rows'.length := by
                have := (List.getElem?_eq_some_iff.1 hi).1
                rw [List.length_append, List.length_singleton] at this
                omega
              subst e2
              have e3 : r = r' := by simpa using hi
              subst e3
              rw [← hm9, hLm]
              unfold rowOf
              rw [← HI.out.rest (L : Int) (by rw [← hm9, hLm]; exact Int.le_refl _), HG.out]
              rw [HR9.out]
          · have hm9 := HM.out; have hLm := HLM.out; have hLL := HL.out
            rw [List.length_append, List.length_singleton] at hx
            rw [if_neg (by rw [hLL]; omega)]
            exact HI.out.rest x (by omega)
          · have hm9 := HM.out; have hLm := HLM.out
            rw [List.length_append, List.length_singleton] at hi
            by_cases e : i < rows'.length
            · exact HI.out.due i e
            · have e2 : i = rows'.length := by omega
              rw [e2, ← hm9, hLm, HDD.out]
              exact q
        case measure => simp [intOf]; omega
end Go.Proofs.Ytckodnogjedmnaa.Lo
