/- chapter 18: Rows. -/
import Derived.Test.YtckodnogjedmnaaLu
import Derived.Test.YtckodnogjedmnaaCloneCell
namespace Go.Proofs.Ytckodnogjedmnaa.Lo
open Go.RowKit Dt Go.Proofs.Ytckodnogjedmnaa.Hd Go.Proofs.Ytckodnogjedmnaa.Cfg Go.Proofs.Ytckodnogjedmnaa.Jt
set_option linter.unusedVariables false
set_option linter.unusedSimpArgs false

/-- a slice of n rows of p cells, all of the call's own -/
def RowsV (w : World) (base : Nat) (v : Value) (n p : Nat) (Rs : Nat → Row) : Prop := ∃ vs : List Value, w.ownsRow base 26 1 v n vs ∧ ∀ i, i < n → ∃ u, vs[i]? = some u ∧ w.ownsRow base 66 4 u p (rc (Rs i) p)
theorem RowsV.fr {S : List Nat} {w w' : World} {base n p : Nat} {v : Value} {Rs : Nat → Row} (h : RowsV w base v n p Rs) (hF : Fr S w w') (hS : ∀ x ∈ S, x < base) : RowsV w' base v n p Rs := by
  obtain ⟨vs, h1, h2⟩ := h
  exact ⟨vs, own_fr h1 hF hS, fun i hi => by obtain ⟨u, e, h3⟩ := h2 i hi; exact ⟨u, e, own_fr h3 hF hS⟩⟩
/-- how many rows a call of Rows gives -/
def nRows (fr most : Int) (L : Nat) : Nat := if 0 ≤ fr then (min ((L : Int) - fr) most).toNat else 0
theorem rb_src {w : World} {g p : Nat} {R : Row} (h : RB w 66 g R p) : Src w (rowV p g) 4 p (rc R p) := by
  have h1 := src_blk (sz := 4) (m := p) h (by simp [rc_len]) (by simpa using rc_one R p) p
  simpa [rowV] using h1
set_option maxRecDepth 100000 in
set_option maxHeartbeats 1600000 in
theorem rows_any {w : World} {P : Nat → Prop} {B M cnt : Nat} {c : CfV} {rows : List (Nat × Row)} {tk : Int → Option (Nat × Row)} (h : HasLog w P B M c rows tk cnt) (fr most : Int) :
    Calls Try.prog 28 #[.pointer (some ⟨B, 0, none⟩), .int .i64 fr, .int .i64 most] w fun e w' => ∃ v, e = .returned v ∧ RowsV w' w.heap.size v (nRows fr most rows.length) c.pl (fun i => (rows.getD (fr.toNat + i) (0, fun _ => c0)).2) ∧ Fr [] w w' := by
  obtain ⟨j0, hj0, hy0, hy1, hy2⟩ := info_parts infRow
  have hlen := h.len
  have hfr6 := h.n.fr6
  have hpl8 := h.n.pl8
  obtain ⟨rv, b1, b2, b3⟩ := h.blk
  obtain ⟨a, cap, rfl, -, -⟩ := own_val b2
  have c10 := Blk.cell (i := 10) b1 rfl
  simp only [logCells, List.getElem_toArray, List.getElem_cons_zero, List.getElem_cons_succ] at c10
  have hlB := b1.lt
  obtain ⟨L, hL⟩ : ∃ L, rows.length = L := ⟨_, rfl⟩
  rw [hL] at c10 hlen b2 ⊢
  have hlm : L ≤ maxLen := by unfold maxLen; omega
  have HH := Lib.hid h; have HL := Lib.hid hL; have HB2 := Lib.hid b2; have HC10 := Lib.hid c10
  clear h hL b1 b2 b3 c10
  go_enter Try.func28, Try.ntmps28
  go_wp2_with fail
  go_loopw [7, 8] (fun lv iv wr => ∃ j : Nat, iv = .int .i64 (fr + j) ∧ (j = 0 ∨ 0 ≤ fr ∧ fr + j ≤ L ∧ (j : Int) ≤ most) ∧ RowsV wr w.heap.size lv j c.pl (fun i => (rows.getD (fr.toNat + i) (0, fun _ => c0)).2) ∧ Fr [] w wr) (fun lv _ _ => 700 - (match lv with | .slice _ n _ => n | _ => 0))
  case atStart => exact ⟨0, by simp, .inl rfl, ⟨[], own_nil _ _ _ _, fun i hi => by omega⟩, Fr.refl _ _⟩
  case round =>
    obtain ⟨j, rfl, hj, hV, hF⟩ := hrel
    obtain ⟨vs, ho, hvs⟩ := hV
    obtain ⟨va, vc, rfl, -, -⟩ := own_val ho
    have c10 := (hF.cell (p := ⟨B, 10, none⟩) hlB (by simp)).trans HC10.out
    have q0 : (0 : Int) ≤ j := by omega
    have hj6 : j ≤ 600 := by rcases hj with e | ⟨e1, e2, -⟩ <;> omega
    by_cases q : 0 ≤ fr ∧ fr + j < L ∧ (j : Int) < most
    · obtain ⟨q1, q2, q3⟩ := q
      obtain ⟨k, hk⟩ : ∃ k : Nat, fr + (j : Int) = k := ⟨(fr + j).toNat, by omega⟩
      rw [hk] at q2 ⊢
      have hjm : j ≤ maxLen := by unfold maxLen; omega
      have hw2 := own_keep HB2.out hF (by simp)
      obtain ⟨g0, cap0, hv0, hg0, hcap0, hcap1⟩ := own_form hw2 (by omega)
      cases hv0
      have hLL := HL.out
      obtain ⟨r, hr⟩ : ∃ r, rows[k]? = some r := ⟨_, List.getElem?_eq_getElem (by omega)⟩
      have d0 : wr.cell? ⟨g0, k, none⟩ = some (.slice (some ⟨r.1, 0, none⟩) c.pl c.pl) := by
        rw [hw2.cellAt _ (by omega), List.getElem?_map, hr]; rfl
      have hrb := ((HH.out.rrb r (List.mem_of_getElem? hr)).1).fr hF (by simp)
      have hcl := clone_Cell (rb_src hrb) (fun b hb _ => by
        have : r.1 = b := by simpa [rowV, Value.ownBlock] using hb
        rw [← this]; exact hrb.lt) (by omega)
      dsimp only [rowV] at hcl
      have HCL := Lib.hid hcl; have HF := Lib.hid hF; have HO := Lib.hid ho; have HVS := Lib.hid hvs; have HR := Lib.hid hr; have HJ := Lib.hid hj; have HK := Lib.hid hk; have HLL := Lib.hid hLL
      have q1k : (0 : Int) ≤ k := by omega
      clear hcl hF ho hvs hr hrb hw2 hj hk hLL
      go_wp2_with fail
      refine HCL.out.mono ?_; rintro e w3 ⟨u, rfl, hu, hF3⟩
      obtain ⟨ua, uc, rfl, -, -⟩ := own_val hu
      dsimp only; go_step
      iterate 1 (refine wpList_plain rfl (fun K hK => ?_); go_simp; refine hK _ _ ?_; clear hK K)
      have hnb := Blk.new w3 #[.slice ua c.pl uc] 26
      have hF4 := hF3.alloc (.cells #[.slice ua c.pl uc] 26)
      have hs1 := HF.out.size
      have ho4 := own_keep HO.out hF4 (by simp)
      refine wpList_append_src _ rfl (Operand.tmp 29) (Operand.tmp 38) 56 rfl w.heap.size 26 j0 _ 1 24 Try.underlying56 hj0 hy0 hy1 hy2 rfl (by decide) (.slice va j vc) (.slice (some ⟨w3.heap.size, 0, none⟩) 1 1) j 1 vs [.slice ua c.pl uc] rfl (by kernel_rfl) ho4 (src_blk hnb (by simp) (by simp [Value.oneCell']) 1) (by unfold maxLen; omega) (by omega) (Nat.le_trans hs1 hF4.size) ?_
      intro v6 w6 ho6 hg6 hat6
      have hF46 := fr_grown hg6
      have hF6 := fr_own (HF.out.trans hF4 (by simp)) ho4 hg6 (Nat.le_refl _)
      have hu4 := own_fr (S := []) (own_weaken hu hs1) ((Fr.refl [] w3).alloc (.cells #[.slice ua c.pl uc] 26)) (by simp)
      have hu6 := own_keep hu4 hF46 (fun x hx hx2 => own_own hu4 ho4 (by decide) x hx (by simpa using hx2))
      have hvs6 : ∀ i, i < j + 1 → ∃ u, (vs ++ [.slice ua c.pl uc])[i]? = some u ∧ w6.ownsRow w.heap.size 66 4 u c.pl (rc ((rows.getD (fr.toNat + i) (0, fun _ => c0)).2) c.pl) := fun i hi => by
        have hlv : vs.length = j := by simpa using HO.out.1
        by_cases e : i < j
        · obtain ⟨u, e1, e2⟩ := HVS.out i e
          have e3 := own_keep e2 hF4 (by simp)
          exact ⟨u, by rw [List.getElem?_append_left (by omega)]; exact e1, own_keep e3 hF46 (fun x hx hx2 => own_own e3 ho4 (by decide) x hx (by simpa using hx2))⟩
        · have e1 : i = j := by omega
          subst e1
          have hkk := HK.out
          refine ⟨_, by rw [List.getElem?_append_right (by omega), hlv, Nat.sub_self]; rfl, ?_⟩
          have e4 : rows.getD (fr.toNat + i) (0, fun _ => c0) = r := by
            rw [show fr.toNat + i = k by omega, List.getD_eq_getElem?_getD, HR.out]; rfl
          rw [e4]; exact hu6
      have HO6 := Lib.hid ho6; have HF6 := Lib.hid hF6; have HVS6 := Lib.hid hvs6
      obtain ⟨va6, vc6, rfl, -, -⟩ := own_val ho6
      clear hnb hF4 ho4 hg6 hat6 hF46 hF6 hu4 hu6 hvs6 ho6 hF3 hu c10 d0 hs1
      go_wp2_with fail
      go_roundw
      case rel => exact ⟨j + 1, by have := HK.out; congr 1; omega, .inr ⟨by omega, by have := HK.out; omega, by omega⟩, ⟨_, HO6.out, HVS6.out⟩, HF6.out⟩
      case measure => simp; omega
    · have hn : nRows fr most L = j := by
        unfold nRows
        by_cases e : 0 ≤ fr
        · rw [if_pos e]
          rcases hj with e1 | ⟨-, e1, e2⟩ <;> omega
        · rw [if_neg e]
          rcases hj with e1 | ⟨e1, -, -⟩ <;> omega
      have hjm : j ≤ maxLen := by unfold maxLen; omega
      have HN := Lib.hid hn; have HO := Lib.hid ho; have HVS := Lib.hid hvs; have HF := Lib.hid hF
      clear ho hvs hF hn
      have hcs : fr + j < 0 ∨ (0 ≤ fr + j ∧ (L : Int) ≤ fr + j) ∨ (0 ≤ fr + j ∧ fr + j < L ∧ most ≤ (j : Int)) := by
        rcases hj with e1 | ⟨e0, e1, e2⟩ <;> omega
      clear hj q
      obtain ⟨k, hk⟩ : ∃ k, fr + (j : Int) = k := ⟨_, rfl⟩
      rw [hk] at hcs ⊢
      clear hk
      rcases hcs with e1 | ⟨e1, e2⟩ | ⟨e1, e2, e3⟩
      · go_wp2_with fail
        go_ret
        exact ⟨_, rfl, by rw [HN.out]; exact ⟨_, HO.out, HVS.out⟩, HF.out⟩
      · go_wp2_with fail
        go_ret
        exact ⟨_, rfl, by rw [HN.out]; exact ⟨_, HO.out, HVS.out⟩, HF.out⟩
      · go_wp2_with fail
        go_ret
        exact ⟨_, rfl, by rw [HN.out]; exact ⟨_, HO.out, HVS.out⟩, HF.out⟩
end Go.Proofs.Ytckodnogjedmnaa.Lo
