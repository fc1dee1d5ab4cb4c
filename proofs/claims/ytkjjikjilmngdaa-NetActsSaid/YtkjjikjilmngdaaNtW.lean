/- chapter 24: the reference's Deliver. -/
import Derived.Test.YtkjjikjilmngdaaNtY
import Derived.Test.YtkjjikjilmngdaaRg3
import Derived.Test.YtkjjikjilmngdaaNtU
namespace Go.Proofs.Ytkjjikjilmngdaa.Nt
open Go.RowKit Dt Go.Proofs.Ytkjjikjilmngdaa.Hd
set_option linter.unusedVariables false
set_option linter.unusedSimpArgs false

/-- what came, by the reference -/
def DgQ (w : World) (base : Nat) (v : Value) (l : List Fg) : Prop := ∃ V, w.ownsRow base 96 5 v l.length (rgC V) ∧ FlOk w (V.map RgV.v) l
def RDel (W : World) (K : List Nat) (w : World) (b : Nat) (s' : NetV) (no : Nat) (l : List Fg) (e : Ending) (w' : World) : Prop := ∃ ov, e = .returned ov ∧ HasR W K w' b s' no ∧ DgQ w' w.heap.size ov l ∧ Kp K w w'
set_option maxRecDepth 100000 in
set_option maxHeartbeats 6400000 in
theorem rdeliver {W w : World} {K : List Nat} {b no : Nat} {s : NetV} {tick : Int} (h : HasR W K w b s no) :
    Calls Try.prog 35 #[.pointer (some ⟨b, 0, none⟩), .int .i64 tick] w (RDel W K w b (deliverS s tick).2 no (deliverS s tick).1) := by
  obtain ⟨⟨vs, fv, dv, h1, h2, h3, h4⟩, hb, hb2, hK, hf⟩ := h
  obtain rfl := h2.hd
  obtain ⟨V, hV, hfl, hno⟩ := h2.do'
  obtain ⟨xa, xc, rfl, hx1, hx2⟩ := own_val hV
  obtain ⟨fl, hfl2⟩ : ∃ fl, s.fl = fl := ⟨_, rfl⟩
  obtain ⟨ct, hct⟩ : ∃ ct, clpI tick = ct := ⟨_, rfl⟩
  have hxb := h2.xb
  have c1 := Blk.cell (i := 1) h1 rfl
  simp only [List.getElem_toArray, List.getElem_cons_zero, List.getElem_cons_succ] at c1
  rw [hfl2] at hV hfl hxb c1 hx1 h1 h2 h4
  have HH := Lib.hid h1; have H2 := Lib.hid h2; have HV := Lib.hid hV; have HFL := Lib.hid hfl; have HNO := Lib.hid hno; have HCT := Lib.hid hct; have HSF := Lib.hid hfl2
  clear h1 h2 hV hfl hno hct hfl2
  go_enter Try.func35, Try.ntmps35
  go_wp2_with fail
  clear c1
  go_loopw [5, 6, 7] (fun ov lv iv wr => ∃ (i : Nat) (OV LV : List RgV), i ≤ fl.length ∧ iv = .int .i64 i ∧
    wr.ownsRow w.heap.size 96 5 ov (sortG ((fl.take i).filter fun x => decide (x.due ≤ ct))).length (rgC OV) ∧ FlOk wr (OV.map RgV.v) (sortG ((fl.take i).filter fun x => decide (x.due ≤ ct))) ∧
    (∀ x ∈ OV, ∃ (j : Nat) (y : RgV), j < i ∧ V[j]? = some y ∧ x.no = y.no) ∧
    wr.ownsRow w.heap.size 96 5 lv ((fl.take i).filter fun x => !decide (x.due ≤ ct)).length (rgC LV) ∧ FlOk wr (LV.map RgV.v) ((fl.take i).filter fun x => !decide (x.due ≤ ct)) ∧ LV.Sublist (V.take i) ∧
    (∀ g, ov.ownBlock = some g → lv.ownBlock ≠ some g) ∧ Fr [] w wr) (fun _ _ iv _ => fl.length - (intOf iv).toNat)
  case atStart => exact ⟨0, [], [], by omega, rfl, own_nil _ _ _ _, FlOk.nil _, fun x hx => by simp at hx, own_nil _ _ _ _, FlOk.nil _, List.Sublist.refl _, fun g h => by simp [Value.ownBlock] at h, Fr.refl _ _⟩
  case round =>
    obtain ⟨i, OV, LV, hi, rfl, ho, hof, hon, hl, hlf, hls, hne, hF⟩ := hrel
    have HO := Lib.hid ho; have HOF := Lib.hid hof; have HON := Lib.hid hon; have HLL := Lib.hid hl; have HLF := Lib.hid hlf; have HLS := Lib.hid hls; have HNE := Lib.hid hne; have HF := Lib.hid hF
    have hB := hF.blk HH.out (by simp)
    have c1 := Blk.cell (i := 1) hB rfl
    simp only [List.getElem_toArray, List.getElem_cons_zero, List.getElem_cons_succ] at c1
    have hVl : V.length = fl.length := by have := HFL.out.1; rw [List.length_map] at this; exact this
    have hlw : w.heap.size ≤ wr.heap.size := hF.size
    clear ho hof hon hl hlf hls hne hF hB
    by_cases hil : i < fl.length
    · have q1 : (i : Int) < fl.length := by omega
      obtain ⟨x, hx⟩ : ∃ x, fl[i]? = some x := ⟨_, List.getElem?_eq_getElem hil⟩
      obtain ⟨v, hv⟩ : ∃ v, V[i]? = some v := ⟨_, List.getElem?_eq_getElem (by omega)⟩
      obtain ⟨gx, cap, hge, hgb, hcp1, hcp2⟩ := own_form HV.out (by omega)
      cases hge
      have hown := own_keep HV.out HF.out (by simp)
      have d0 : wr.cell? ⟨gx, i * 5, none⟩ = some (.int .i64 v.v.src) := by rw [hown.cellAt _ (by omega)]; have := rgC_get hv (j := 0) (by decide); rw [Nat.add_zero] at this; exact this
      have d1 : wr.cell? ⟨gx, i * 5 + 1, none⟩ = some (.int .i64 v.v.dst) := by rw [hown.cellAt _ (by omega)]; exact rgC_get hv (j := 1) (by decide)
      have d2 : wr.cell? ⟨gx, i * 5 + 2, none⟩ = some (.slice v.v.a v.v.l v.v.c) := by rw [hown.cellAt _ (by omega)]; exact rgC_get hv (j := 2) (by decide)
      have d3 : wr.cell? ⟨gx, i * 5 + 3, none⟩ = some (.int .i64 v.v.due) := by rw [hown.cellAt _ (by omega)]; exact rgC_get hv (j := 3) (by decide)
      have d4 : wr.cell? ⟨gx, i * 5 + 4, none⟩ = some (.int .i64 v.no) := by rw [hown.cellAt _ (by omega)]; exact rgC_get hv (j := 4) (by decide)
      have hdue : v.v.due = x.due := (HFL.out.2 i v.v x (by rw [List.getElem?_map, hv]; rfl) hx).due
      have HX := Lib.hid hx; have HVV := Lib.hid hv
      clear hx hv hown
      go_upto_region 6 with (fail)
      have hD := Blk.new wr #[.int .i64 v.v.src, .int .i64 v.v.dst, .slice v.v.a v.v.l v.v.c, .int .i64 (x.due : Int), .int .i64 v.no] 96
      have hFD := (Fr.refl [] wr).alloc (.cells #[.int .i64 v.v.src, .int .i64 v.v.dst, .slice v.v.a v.v.l v.v.c, .int .i64 (x.due : Int), .int .i64 v.no] 96)
      obtain ⟨G, hG⟩ : ∃ G, wr.heap.size = G := ⟨_, rfl⟩
      rw [hG] at hD hlw ⊢
      generalize wr.alloc (.cells #[.int .i64 v.v.src, .int .i64 v.v.dst, .slice v.v.a v.v.l v.v.c, .int .i64 (x.due : Int), .int .i64 v.no] 96) = w1 at *
      have e3 := Blk.cell (i := 3) hD rfl
      simp only [List.getElem_toArray, List.getElem_cons_zero, List.getElem_cons_succ] at e3
      have hclp := rclock_any tick
      rw [HCT.out] at hclp
      have HCLP := Lib.hid hclp; have HD := Lib.hid hD; have HFD := Lib.hid hFD
      clear hclp hD hFD d0 d1 d2 d3 d4
      go_quiet ((go_at_call 65; exact Calls.quiet_of_same ((HCLP.out _).mono fun e w' h => ⟨h.1, h.2.symm⟩)))
      have HFD2 := Lib.hid (HFD.out.drewN nq); have HD2 := Lib.hid (HD.out.drewN nq)
      obtain ⟨w2, hw2⟩ : ∃ w2, w1.drewN nq = w2 := ⟨_, rfl⟩
      rw [hw2] at HFD2 HD2 ⊢
      clear e3 HFD HD hw2
      have hds := due_snoc HX.out ct
      by_cases hd : x.due ≤ ct
      · have q2 : decide (ct < x.due) = false := by simp; omega
        rw [q2]
        rw [if_pos hd, if_pos hd] at hds
        rw [List.append_nil] at hds
        obtain ⟨hds1, hds2⟩ := hds
        have hsn := sortG_snoc ((fl.take i).filter fun x => decide (x.due ≤ ct)) x
        rw [← hds1] at hsn
        obtain ⟨O, hOe⟩ : ∃ O, sortG ((fl.take i).filter fun x => decide (x.due ≤ ct)) = O := ⟨_, rfl⟩
        have hsrt : SrtG O := hOe ▸ SrtG.sortG _
        rw [hOe] at hsn
        have ho2 := own_keep HO.out HFD2.out (by simp)
        have hof2 := HOF.out.fr HFD2.out (NoU8.nil _)
        have hl2 := own_keep HLL.out HFD2.out (by simp)
        have hlf2 := HLF.out.fr HFD2.out (NoU8.nil _)
        have hf2 := HF.out.trans HFD2.out (by simp)
        rw [hOe] at ho2 hof2
        rw [← hds2] at hl2 hlf2
        have hnb : O.length ≤ 256 := by
          have h1 := List.length_filter_le (fun x : Fg => decide (x.due ≤ ct)) (fl.take i)
          have h2 : (fl.take i).length ≤ fl.length := by rw [List.length_take]; omega
          rw [← hOe, sortG_len]; omega
        obtain ⟨nb, hnbe⟩ : ∃ nb, O.length = nb := ⟨_, rfl⟩
        rw [hnbe] at ho2 hnb
        obtain ⟨oa, oc, rfl, ho3, ho4⟩ := own_val ho2
        have HSN := Lib.hid hsn; have HSRT := Lib.hid hsrt; have HO2 := Lib.hid ho2; have HOF2 := Lib.hid hof2; have HL2 := Lib.hid hl2; have HLF2 := Lib.hid hlf2; have HF2 := Lib.hid hf2; have HNB := Lib.hid hnbe; have HDS1 := Lib.hid hds1; have HDS2 := Lib.hid hds2
        clear hsn hsrt ho2 hof2 hl2 hlf2 hf2 hnbe hds1 hds2 hOe HO HOF HLL HLF HF HFD2
        go_wp2_with fail
        go_loopw [9] (fun kv wr => ∃ k, k ≤ nb ∧ kv = .int .i64 (k : Nat) ∧ (∀ t, k ≤ t → ∀ y, O[t]? = some y → x.due < y.due) ∧ Fr [] w2 wr) (fun kv _ => (intOf kv).toNat)
        case atStart => exact ⟨nb, Nat.le_refl _, rfl, fun t ht y hy => (by rw [List.getElem?_eq_none (by rw [HNB.out]; exact ht)] at hy; cases hy), Fr.refl _ _⟩
        case round =>
          obtain ⟨k, hk, rfl, hlater, hFk⟩ := hrel
          have hDk := hFk.blk HD2.out (by simp)
          have e3 := Blk.cell (i := 3) hDk rfl
          have e4 := Blk.cell (i := 4) hDk rfl
          simp only [List.getElem_toArray, List.getElem_cons_zero, List.getElem_cons_succ] at e3 e4
          have hok := own_keep HO2.out hFk (by simp)
          have HOK := Lib.hid hok; have HFK := Lib.hid hFk; have HLT := Lib.hid hlater
          clear hok hFk hlater hDk
          go_upto_region 9 with (fail)
          go_cut [71] from 37 to 70 (fun v wc => ∃ c, v = .bool c ∧ Fr [] wr wc ∧ (c = true → ∃ m, k = m + 1 ∧ ∀ y, O[m]? = some y → x.due < y.due) ∧ (c = false → ∀ m y, k = m + 1 → O[m]? = some y → y.due ≤ x.due))
          case first =>
            rcases Nat.eq_zero_or_pos k with h0 | h0
            · subst h0
              go_quiet (fail)
              go_wp2_with fail
              go_meet
              case rel => exact ⟨false, rfl, (Fr.refl [] wr).drewN nq, (fun h => by cases h), (fun _ m y h _ => by omega)⟩
            · obtain ⟨m, rfl⟩ : ∃ m, k = m + 1 := ⟨k - 1, by omega⟩
              have q4 : (0 : Int) < ((m + 1 : Nat) : Int) := by omega
              have q5 : (m : Int) < nb := by omega
              obtain ⟨go, oc', hoe, hob, hop1, hop2⟩ := own_form HOK.out (by omega)
              cases hoe
              obtain ⟨y, hy⟩ : ∃ y, O[m]? = some y := ⟨_, List.getElem?_eq_getElem (by rw [HNB.out]; omega)⟩
              obtain ⟨r, hr⟩ : ∃ r, OV[m]? = some r := ⟨_, List.getElem?_eq_getElem (by have := HOF2.out.1; rw [List.length_map, HNB.out] at this; omega)⟩
              have o3 : wr.cell? ⟨go, m * 5 + 3, none⟩ = some (.int .i64 r.v.due) := by rw [HOK.out.cellAt _ (by omega)]; exact rgC_get hr (j := 3) (by decide)
              have o4 : wr.cell? ⟨go, m * 5 + 4, none⟩ = some (.int .i64 r.no) := by rw [HOK.out.cellAt _ (by omega)]; exact rgC_get hr (j := 4) (by decide)
              have hrd : r.v.due = y.due := (HOF2.out.2 m r.v y (by rw [List.getElem?_map, hr]; rfl) hy).due
              rw [hrd] at o3
              have hrn : r.no < v.no := by
                obtain ⟨j, z, hj, hz, hzn⟩ := HON.out r (List.mem_of_getElem? hr)
                obtain ⟨a1, b1⟩ := List.getElem?_eq_some_iff.1 hz
                obtain ⟨a2, b2⟩ := List.getElem?_eq_some_iff.1 HVV.out
                have := List.pairwise_iff_getElem.1 HNO.out.1 j i a1 a2 hj
                rw [b1, b2] at this; rw [hzn]; exact this
              have HY := Lib.hid hy; have HRN := Lib.hid hrn
              clear hy hr hrd hrn
              rcases Nat.lt_trichotomy x.due y.due with c | c | c
              · have c1 : (x.due : Int) < y.due := by omega
                go_quiet (fail)
                go_wp2_with fail
                go_meet
                case rel => exact ⟨true, rfl, (Fr.refl [] wr).drewN nq, fun _ => ⟨m, rfl, fun y' h => by rw [HY.out] at h; cases h; exact c⟩, fun h => by cases h⟩
              · rw [← c] at o3
                have c1 := HRN.out
                go_quiet (fail)
                go_wp2_with fail
                go_meet
                case rel => exact ⟨_, rfl, (Fr.refl [] wr).drewN nq, (fun h => by have := HRN.out; simp at h; omega), (fun _ m' y' h1 h => by
                  obtain rfl : m' = m := (by omega)
                  rw [HY.out] at h; cases h; omega)⟩
              · have c2 : ¬ ((y.due : Int) = x.due) := by omega
                have c3 : ¬ (x.due : Int) < y.due := by omega
                have c4 : ((y.due : Int) == x.due) = false := by simp; omega
                have c5 : decide ((x.due : Int) < y.due) = false := by simp; omega
                have c6 : IntKind.i64.wrap (m : Int) = m := IntWalk.i64_in _ (by omega)
                have c1 : (y.due : Int) < x.due := by omega
                go_quiet (fail)
                go_wp2_with fail
                go_meet
                case rel => exact ⟨false, rfl, (Fr.refl [] wr).drewN nq, (fun h => by cases h), (fun _ m' y' h1 h => by
                  obtain rfl : m' = m := (by omega)
                  rw [HY.out] at h; cases h; omega)⟩
          case rest =>
            obtain ⟨c, rfl, hFc, hc1, hc2⟩ := hcut
            clear e3 e4
            cases c with
            | true =>
              obtain ⟨m, rfl, hc3⟩ := hc1 rfl
              have HC3 := Lib.hid hc3
              have HFC := Lib.hid (HFK.out.trans hFc (by simp))
              clear hc1 hc2 hc3 hFc
              go_wp2_with fail
              go_roundw
              case rel =>
                refine ⟨m, by omega, by go_num, fun t ht y hy => ?_, HFC.out⟩
                rcases Nat.lt_or_ge m t with h | h
                · exact HLT.out t (by omega) y hy
                · obtain rfl : t = m := by omega
                  exact HC3.out y hy
              case measure => simp [intOf]
            | false =>
              have HC2 := Lib.hid (hc2 rfl)
              have HFC := Lib.hid (HFK.out.trans hFc (by simp))
              clear hc1 hc2 hFc HFK HOK
              go_upto_region 11 with (fail)
              have q6 : (k : Int) ≤ oc := by omega
              have q7 : (k : Int) ≤ nb := by omega
              have q8 : (nb : Int) ≤ oc := by omega
              have hHQ1 : ∀ w, (Instr.sliceAt 91 (.slice oa nb oc) none (some (.int .i64 (k : Int))) none).run Try.prog w = .ok (sliced oa 0 k oc 5) w := fun w => by go_simp
              have HQ1 := Lib.hid hHQ1
              have hHQ2 : ∀ w, (Instr.sliceAt 91 (.slice oa nb oc) (some (.int .i64 (k : Int))) none none).run Try.prog w = .ok (sliced oa k nb oc 5) w := fun w => by go_simp
              have HQ2 := Lib.hid hHQ2
              have HS1 := Lib.hid (fun (w1 : World) (h : Fr [] w2 w1) => own_to (j := k) (own_keep HO2.out h (by simp)) (rgC_one OV) (by omega))
              have HS2 := Lib.hid (fun (w1 : World) (h : Fr [] w2 w1) => own_from (j := k) (own_keep HO2.out h (by simp)) (rgC_one OV) (by omega) (by decide))
              rw [rgC_take] at HS1
              rw [rgC_drop] at HS2
              obtain ⟨s1, hs1⟩ : ∃ s1, sliced oa 0 k oc 5 = s1 := ⟨_, rfl⟩
              obtain ⟨s2, hs2⟩ : ∃ s2, sliced oa k nb oc 5 = s2 := ⟨_, rfl⟩
              rw [hs1] at HS1 HQ1
              rw [hs2] at HS2 HQ2
              have hGw : w2.heap.size ≤ wc.heap.size := HFC.out.size
              have hFC := HFC.out
              obtain ⟨i0, hi0, hz0, hz1, hz2⟩ := info_parts infDgR
              clear hs1 hs2 hHQ1 hHQ2
              refine wp_region_M 12 (fun w' => Fr [] w2 w') (by kernel_rfl) (HFC.out.drew) (fun hS => ?_)
              try simp only [List.getElem_toArray, List.getElem_cons_succ, List.getElem_cons_zero, Act.put, List.setIfInBounds_toArray, List.set_cons_zero, List.set_cons_succ]
              generalize wc.drew = wz0 at *
              refine wpAnyM_take (i := 1) (v := ?_) rfl (by kernel_rfl) (by kernel_rfl) (by kernel_rfl) (by kernel_rfl) (fun _ _ _ h => h) (Or.inl ⟨by kernel_rfl, ?_⟩) hS ?_; rotate_left; (intro w hSw; have s0 := Blk.cell (i := 0) (hSw.blk HD2.out (by simp)) rfl; have s1 := Blk.cell (i := 1) (hSw.blk HD2.out (by simp)) rfl; have s2 := Blk.cell (i := 2) (hSw.blk HD2.out (by simp)) rfl; have s3 := Blk.cell (i := 3) (hSw.blk HD2.out (by simp)) rfl; have s4 := Blk.cell (i := 4) (hSw.blk HD2.out (by simp)) rfl; simp only [List.getElem_toArray, List.getElem_cons_zero, List.getElem_cons_succ] at s0 s1 s2 s3 s4; go_simp; try with_reducible rfl)
              try simp only [List.getElem_toArray, List.getElem_cons_succ, List.getElem_cons_zero, Act.put, List.setIfInBounds_toArray, List.set_cons_zero, List.set_cons_succ]
              refine wpAnyM_take (i := 2) (v := ?_) rfl (by kernel_rfl) (by kernel_rfl) (by kernel_rfl) (by kernel_rfl) (fun _ _ _ h => h) (Or.inl ⟨by kernel_rfl, ?_⟩) hS ?_; rotate_left; (intro w hSw; have s0 := Blk.cell (i := 0) (hSw.blk HD2.out (by simp)) rfl; have s1 := Blk.cell (i := 1) (hSw.blk HD2.out (by simp)) rfl; have s2 := Blk.cell (i := 2) (hSw.blk HD2.out (by simp)) rfl; have s3 := Blk.cell (i := 3) (hSw.blk HD2.out (by simp)) rfl; have s4 := Blk.cell (i := 4) (hSw.blk HD2.out (by simp)) rfl; simp only [List.getElem_toArray, List.getElem_cons_zero, List.getElem_cons_succ] at s0 s1 s2 s3 s4; go_simp; try with_reducible rfl)
              try simp only [List.getElem_toArray, List.getElem_cons_succ, List.getElem_cons_zero, Act.put, List.setIfInBounds_toArray, List.set_cons_zero, List.set_cons_succ]
              refine wpAnyM_take (i := 3) (v := s1) rfl (by kernel_rfl) (by kernel_rfl) (by kernel_rfl) (by kernel_rfl) (fun _ _ _ h => h) (Or.inl ⟨by kernel_rfl, ?_⟩) hS ?_; (intro w hSw; exact exec_slc (x' := .slice oa nb oc) (lo' := none) (hi' := some (.int .i64 (k : Int))) rfl (by kernel_rfl) (by kernel_rfl) (by kernel_rfl) HQ1.out _)
              try simp only [List.getElem_toArray, List.getElem_cons_succ, List.getElem_cons_zero, Act.put, List.setIfInBounds_toArray, List.set_cons_zero, List.set_cons_succ]
              refine wpAnyM_take (i := 5) (v := ?_) rfl (by kernel_rfl) (by kernel_rfl) (by kernel_rfl) (by kernel_rfl) (fun _ _ _ h => h) (Or.inl ⟨by kernel_rfl, ?_⟩) hS ?_; rotate_left; (intro w hSw; have s0 := Blk.cell (i := 0) (hSw.blk HD2.out (by simp)) rfl; have s1 := Blk.cell (i := 1) (hSw.blk HD2.out (by simp)) rfl; have s2 := Blk.cell (i := 2) (hSw.blk HD2.out (by simp)) rfl; have s3 := Blk.cell (i := 3) (hSw.blk HD2.out (by simp)) rfl; have s4 := Blk.cell (i := 4) (hSw.blk HD2.out (by simp)) rfl; simp only [List.getElem_toArray, List.getElem_cons_zero, List.getElem_cons_succ] at s0 s1 s2 s3 s4; go_simp; try with_reducible rfl)
              try simp only [List.getElem_toArray, List.getElem_cons_succ, List.getElem_cons_zero, Act.put, List.setIfInBounds_toArray, List.set_cons_zero, List.set_cons_succ]
              refine wpAnyM_take (i := 8) (v := ?_) rfl (by kernel_rfl) (by kernel_rfl) (by kernel_rfl) (by kernel_rfl) (fun _ _ _ h => h) (Or.inl ⟨by kernel_rfl, ?_⟩) hS ?_; rotate_left; (intro w hSw; have s0 := Blk.cell (i := 0) (hSw.blk HD2.out (by simp)) rfl; have s1 := Blk.cell (i := 1) (hSw.blk HD2.out (by simp)) rfl; have s2 := Blk.cell (i := 2) (hSw.blk HD2.out (by simp)) rfl; have s3 := Blk.cell (i := 3) (hSw.blk HD2.out (by simp)) rfl; have s4 := Blk.cell (i := 4) (hSw.blk HD2.out (by simp)) rfl; simp only [List.getElem_toArray, List.getElem_cons_zero, List.getElem_cons_succ] at s0 s1 s2 s3 s4; go_simp; try with_reducible rfl)
              try simp only [List.getElem_toArray, List.getElem_cons_succ, List.getElem_cons_zero, Act.put, List.setIfInBounds_toArray, List.set_cons_zero, List.set_cons_succ]
              refine wpAnyM_take (i := 9) (v := ?_) rfl (by kernel_rfl) (by kernel_rfl) (by kernel_rfl) (by kernel_rfl) (fun _ _ _ h => h) (Or.inl ⟨by kernel_rfl, ?_⟩) hS ?_; rotate_left; (intro w hSw; have s0 := Blk.cell (i := 0) (hSw.blk HD2.out (by simp)) rfl; have s1 := Blk.cell (i := 1) (hSw.blk HD2.out (by simp)) rfl; have s2 := Blk.cell (i := 2) (hSw.blk HD2.out (by simp)) rfl; have s3 := Blk.cell (i := 3) (hSw.blk HD2.out (by simp)) rfl; have s4 := Blk.cell (i := 4) (hSw.blk HD2.out (by simp)) rfl; simp only [List.getElem_toArray, List.getElem_cons_zero, List.getElem_cons_succ] at s0 s1 s2 s3 s4; go_simp; try with_reducible rfl)
              try simp only [List.getElem_toArray, List.getElem_cons_succ, List.getElem_cons_zero, Act.put, List.setIfInBounds_toArray, List.set_cons_zero, List.set_cons_succ]
              refine wpAnyM_take (i := 10) (v := s2) rfl (by kernel_rfl) (by kernel_rfl) (by kernel_rfl) (by kernel_rfl) (fun _ _ _ h => h) (Or.inl ⟨by kernel_rfl, ?_⟩) hS ?_; (intro w hSw; exact exec_slc (x' := .slice oa nb oc) (lo' := some (.int .i64 (k : Int))) (hi' := none) rfl (by kernel_rfl) (by kernel_rfl) (by kernel_rfl) HQ2.out _)
              try simp only [List.getElem_toArray, List.getElem_cons_succ, List.getElem_cons_zero, Act.put, List.setIfInBounds_toArray, List.set_cons_zero, List.set_cons_succ]
              refine wpAnyM_two (i := 0) (j := 6) (by kernel_rfl) rfl rfl (fun KK hK => ?_) (fun KK hK => ?_)
              · skip
                go_simp
                have hb0 := Blk.new wz0 #[] 96
                have hS2 := hS.alloc (.cells #[] 96)
                (try have H6 := Lib.hid (H6.out.alloc (.cells #[] 96)))
                have hg0b : w2.heap.size ≤ wz0.heap.size := hS.size
                (try have h6lt := H6lt.out)
                obtain ⟨g0, hg0⟩ : ∃ g0, wz0.heap.size = g0 := ⟨_, rfl⟩
                rw [hg0] at hb0 hg0b ⊢
                (try rw [hg0] at h6lt)
                generalize wz0.alloc (.cells #[] 96) = wz1 at *
                have H0 := Lib.hid (own_empty (sz := 5) (base := w2.heap.size) hb0 hg0b)
                refine hK.out _ _ (fun _ => hS2) (fun _ => ?_); clear hK KK hS hg0 hb0
                have hS := hS2
                clear hS2
                try simp only [List.getElem_toArray, List.getElem_cons_succ, List.getElem_cons_zero, Act.put, List.setIfInBounds_toArray, List.set_cons_zero, List.set_cons_succ]
                refine wpAnyM_two (i := 4) (j := 6) (by kernel_rfl) rfl rfl (fun KK hK => ?_) (fun KK hK => ?_)
                · skip
                  refine step_append_src _ rfl (Operand.tmp 74) (Operand.tmp 77) 91 rfl w2.heap.size 96 i0 _ 5 56 Try.underlying91 hi0 hz0 hz1 hz2 rfl (by decide) (.slice (some ⟨g0, 0, none⟩) 0 0) s1 0 k [] (rgC (OV.take k)) rfl (by kernel_rfl) H0.out (HS1.out _ hS) (by unfold maxLen; omega) (by omega) hS.size ?_
                  intro v78 wz2 ho4 hg4 hat4
                  have hS2 := fr_own hS H0.out hg4 (Nat.le_refl _)
                  (try have H6 := Lib.hid ((fr_grown hg4).blk H6.out (by simp [Value.ownBlock]; omega)))
                  simp only [Nat.zero_add, List.nil_append] at ho4
                  have H4 := Lib.hid ho4
                  clear ho4 hg4 hat4
                  refine hK.out _ _ (fun _ => hS2) (fun _ => ?_); clear hK KK hS
                  have hS := hS2
                  clear hS2
                  try simp only [List.getElem_toArray, List.getElem_cons_succ, List.getElem_cons_zero, Act.put, List.setIfInBounds_toArray, List.set_cons_zero, List.set_cons_succ]
                  refine wpAnyM_one (i := 6) (by kernel_rfl) rfl (fun KK hK => ?_)
                  go_simp
                  have hb6 := Blk.new wz2 #[.int .i64 v.v.src, .int .i64 v.v.dst, .slice v.v.a v.v.l v.v.c, .int .i64 (x.due : Int), .int .i64 v.no] 96
                  have hS2 := hS.alloc (.cells #[.int .i64 v.v.src, .int .i64 v.v.dst, .slice v.v.a v.v.l v.v.c, .int .i64 (x.due : Int), .int .i64 v.no] 96)
                  (try have h06 : g0 < wz2.heap.size := own_lt H0.out rfl)
                  (try have H0 := Lib.hid (own_keep H0.out ((Fr.refl [] wz2).alloc (.cells #[.int .i64 v.v.src, .int .i64 v.v.dst, .slice v.v.a v.v.l v.v.c, .int .i64 (x.due : Int), .int .i64 v.no] 96)) (by simp)))
                  (try have H4 := Lib.hid (own_keep H4.out ((Fr.refl [] wz2).alloc (.cells #[.int .i64 v.v.src, .int .i64 v.v.dst, .slice v.v.a v.v.l v.v.c, .int .i64 (x.due : Int), .int .i64 v.no] 96)) (by simp)))
                  obtain ⟨g6, hg6⟩ : ∃ g6, wz2.heap.size = g6 := ⟨_, rfl⟩
                  rw [hg6] at hb6 ⊢
                  (try rw [hg6] at h06)
                  generalize wz2.alloc (.cells #[.int .i64 v.v.src, .int .i64 v.v.dst, .slice v.v.a v.v.l v.v.c, .int .i64 (x.due : Int), .int .i64 v.no] 96) = wz3 at *
                  have H6 := Lib.hid hb6
                  have H6lt := Lib.hid hb6.lt
                  refine hK.out _ _ (fun _ => hS2) (fun _ => ?_); clear hK KK hS hg6 hb6
                  have hS := hS2
                  clear hS2
                  try simp only [List.getElem_toArray, List.getElem_cons_succ, List.getElem_cons_zero, Act.put, List.setIfInBounds_toArray, List.set_cons_zero, List.set_cons_succ]
                  refine wpAnyM_one (i := 7) (by kernel_rfl) rfl (fun KK hK => ?_)
                  refine step_append_src _ rfl (Operand.tmp 78) (Operand.tmp 80) 91 rfl w2.heap.size 96 i0 _ 5 56 Try.underlying91 hi0 hz0 hz1 hz2 rfl (by decide) v78 (.slice (some ⟨g6, 0, none⟩) 1 1) k 1 (rgC (OV.take k)) [.int .i64 v.v.src, .int .i64 v.v.dst, .slice v.v.a v.v.l v.v.c, .int .i64 (x.due : Int), .int .i64 v.no] rfl (by kernel_rfl) H4.out (src_blk H6.out (by simp) (by simp [Value.oneCell']) 1) (by unfold maxLen; omega) (by omega) hS.size ?_
                  intro v81 wz4 ho7 hg7 hat7
                  have hS2 := fr_own hS H4.out hg7 (Nat.le_refl _)
                  have hcs : rgC (OV.take k) ++ [.int .i64 v.v.src, .int .i64 v.v.dst, .slice v.v.a v.v.l v.v.c, .int .i64 (x.due : Int), .int .i64 v.no] = rgC (OV.take k ++ [v]) := by
                    rw [rgC_app]; show _ = _ ++ (v.cs ++ []); rw [List.append_nil]; unfold RgV.cs; rw [hdue]
                  rw [hcs] at ho7
                  have H7 := Lib.hid ho7
                  clear ho7 hg7 hat7 hcs H4 H6
                  refine hK.out _ _ (fun _ => hS2) (fun _ => ?_); clear hK KK hS
                  have hS := hS2
                  clear hS2
                  try simp only [List.getElem_toArray, List.getElem_cons_succ, List.getElem_cons_zero, Act.put, List.setIfInBounds_toArray, List.set_cons_zero, List.set_cons_succ]
                  refine wpAnyM_one (i := 11) (by kernel_rfl) rfl (fun KK hK => ?_)
                  refine step_append_src _ rfl (Operand.tmp 81) (Operand.tmp 84) 91 rfl w2.heap.size 96 i0 _ 5 56 Try.underlying91 hi0 hz0 hz1 hz2 rfl (by decide) v81 s2 (k + 1) (nb - k) (rgC (OV.take k ++ [v])) (rgC (OV.drop k)) rfl (by kernel_rfl) H7.out (HS2.out _ hS) (by unfold maxLen; omega) (by omega) hS.size ?_
                  intro v85 wz5 ho11 hg11 hat11
                  have hS2 := fr_own hS H7.out hg11 (Nat.le_refl _)
                  rw [← rgC_app, List.append_assoc, List.singleton_append, show k + 1 + (nb - k) = nb + 1 by omega] at ho11
                  have H11 := Lib.hid ho11
                  clear ho11 hg11 hat11 H7
                  refine hK.out _ _ (fun _ => hS2) (fun _ => ?_); clear hK KK hS
                  have hS := hS2
                  clear hS2
                  try simp only [List.getElem_toArray, List.getElem_cons_succ, List.getElem_cons_zero, Act.put, List.setIfInBounds_toArray, List.set_cons_zero, List.set_cons_succ]
                  refine wpAnyM_one (i := 12) (by kernel_rfl) rfl (fun KK hK => ?_)
                  go_simp
                  refine hK.out _ _ (fun h => absurd h (by decide)) (fun _ => ?_); clear hK KK
                  try simp only [List.getElem_toArray, List.getElem_cons_succ, List.getElem_cons_zero, Act.put, List.setIfInBounds_toArray, List.set_cons_zero, List.set_cons_succ]
                  refine wpAnyM_done (by kernel_rfl) ?_ _
                  try simp only [List.getElem_toArray, List.getElem_cons_succ, List.getElem_cons_zero, Act.put, List.setIfInBounds_toArray, List.set_cons_zero, List.set_cons_succ]
                  have hFw := HF2.out.trans hS (by simp)
                  have hol := own_keep HL2.out hS (by simp)
                  have hlf := HLF2.out.fr hS (NoU8.nil _)
                  have hof := HOF2.out.fr hS (NoU8.nil _)
                  have hxok := (HFL.out.fr hFw (NoU8.nil _)).2 i v.v x (by rw [List.getElem?_map, HVV.out]; rfl) HX.out
                  have hput := hof.put hxok k
                  have hoo := own_weaken H11.out (show w.heap.size ≤ w2.heap.size from HF2.out.size)
                  have hins := HSRT.out.ins (j := k) (by rw [HNB.out]; exact hk) HLT.out HC2.out
                  have hne : ∀ g, v85.ownBlock = some g → u6.ownBlock ≠ some g := fun g hg hg' => by
                    have h1 := own_base H11.out hg
                    have h2 := own_lt HL2.out hg'
                    omega
                  have hsn := HSN.out
                  rw [hins] at hsn
                  have hlen : (O.take k ++ x :: O.drop k).length = nb + 1 := by
                    rw [List.length_append, List.length_cons, List.length_take, List.length_drop, HNB.out]; omega
                  have HALL := Lib.hid (show _ ∧ _ ∧ _ ∧ _ ∧ _ ∧ _ ∧ _ ∧ _ from ⟨hFw, hol, hlf, hput, hoo, hne, hsn, hlen⟩)
                  clear hFw hol hlf hof hxok hput hoo hins hne hsn hlen hS H11
                  go_wp2_with fail
                  go_roundw
                  case rel =>
                    obtain ⟨hFw, hol, hlf, hput, hoo, hne, hsn, hlen⟩ := HALL.out
                    refine ⟨i + 1, OV.take k ++ v :: OV.drop k, LV, by omega, by go_num, ?_, ?_, ?_, hol, hlf, ?_, hne, hFw⟩
                    · rw [hsn, hlen]; exact hoo
                    · rw [hsn]; exact hput
                    · intro y hy
                      rcases List.mem_append.1 hy with h | h
                      · obtain ⟨j, z, a1, a2, a3⟩ := HON.out y (List.mem_of_mem_take h); exact ⟨j, z, by omega, a2, a3⟩
                      · rcases List.mem_cons.1 h with rfl | h
                        · exact ⟨i, _, by omega, HVV.out, rfl⟩
                        · obtain ⟨j, z, a1, a2, a3⟩ := HON.out y (List.mem_of_mem_drop h); exact ⟨j, z, by omega, a2, a3⟩
                    · rw [take_snoc HVV.out]; exact HLS.out.trans (List.sublist_append_left _ _)
                  case measure => simp [intOf]; omega
                  
                · skip
                  go_simp
                  have hb6 := Blk.new wz1 #[.int .i64 v.v.src, .int .i64 v.v.dst, .slice v.v.a v.v.l v.v.c, .int .i64 (x.due : Int), .int .i64 v.no] 96
                  have hS2 := hS.alloc (.cells #[.int .i64 v.v.src, .int .i64 v.v.dst, .slice v.v.a v.v.l v.v.c, .int .i64 (x.due : Int), .int .i64 v.no] 96)
                  (try have h06 : g0 < wz1.heap.size := own_lt H0.out rfl)
                  (try have H0 := Lib.hid (own_keep H0.out ((Fr.refl [] wz1).alloc (.cells #[.int .i64 v.v.src, .int .i64 v.v.dst, .slice v.v.a v.v.l v.v.c, .int .i64 (x.due : Int), .int .i64 v.no] 96)) (by simp)))
                  (try have H4 := Lib.hid (own_keep H4.out ((Fr.refl [] wz1).alloc (.cells #[.int .i64 v.v.src, .int .i64 v.v.dst, .slice v.v.a v.v.l v.v.c, .int .i64 (x.due : Int), .int .i64 v.no] 96)) (by simp)))
                  obtain ⟨g6, hg6⟩ : ∃ g6, wz1.heap.size = g6 := ⟨_, rfl⟩
                  rw [hg6] at hb6 ⊢
                  (try rw [hg6] at h06)
                  generalize wz1.alloc (.cells #[.int .i64 v.v.src, .int .i64 v.v.dst, .slice v.v.a v.v.l v.v.c, .int .i64 (x.due : Int), .int .i64 v.no] 96) = wz2 at *
                  have H6 := Lib.hid hb6
                  have H6lt := Lib.hid hb6.lt
                  refine hK.out _ _ (fun _ => hS2) (fun _ => ?_); clear hK KK hS hg6 hb6
                  have hS := hS2
                  clear hS2
                  try simp only [List.getElem_toArray, List.getElem_cons_succ, List.getElem_cons_zero, Act.put, List.setIfInBounds_toArray, List.set_cons_zero, List.set_cons_succ]
                  refine wpAnyM_one (i := 4) (by kernel_rfl) rfl (fun KK hK => ?_)
                  refine step_append_src _ rfl (Operand.tmp 74) (Operand.tmp 77) 91 rfl w2.heap.size 96 i0 _ 5 56 Try.underlying91 hi0 hz0 hz1 hz2 rfl (by decide) (.slice (some ⟨g0, 0, none⟩) 0 0) s1 0 k [] (rgC (OV.take k)) rfl (by kernel_rfl) H0.out (HS1.out _ hS) (by unfold maxLen; omega) (by omega) hS.size ?_
                  intro v78 wz3 ho4 hg4 hat4
                  have hS2 := fr_own hS H0.out hg4 (Nat.le_refl _)
                  (try have H6 := Lib.hid ((fr_grown hg4).blk H6.out (by simp [Value.ownBlock]; omega)))
                  simp only [Nat.zero_add, List.nil_append] at ho4
                  have H4 := Lib.hid ho4
                  clear ho4 hg4 hat4
                  refine hK.out _ _ (fun _ => hS2) (fun _ => ?_); clear hK KK hS
                  have hS := hS2
                  clear hS2
                  try simp only [List.getElem_toArray, List.getElem_cons_succ, List.getElem_cons_zero, Act.put, List.setIfInBounds_toArray, List.set_cons_zero, List.set_cons_succ]
                  refine wpAnyM_one (i := 7) (by kernel_rfl) rfl (fun KK hK => ?_)
                  refine step_append_src _ rfl (Operand.tmp 78) (Operand.tmp 80) 91 rfl w2.heap.size 96 i0 _ 5 56 Try.underlying91 hi0 hz0 hz1 hz2 rfl (by decide) v78 (.slice (some ⟨g6, 0, none⟩) 1 1) k 1 (rgC (OV.take k)) [.int .i64 v.v.src, .int .i64 v.v.dst, .slice v.v.a v.v.l v.v.c, .int .i64 (x.due : Int), .int .i64 v.no] rfl (by kernel_rfl) H4.out (src_blk H6.out (by simp) (by simp [Value.oneCell']) 1) (by unfold maxLen; omega) (by omega) hS.size ?_
                  intro v81 wz4 ho7 hg7 hat7
                  have hS2 := fr_own hS H4.out hg7 (Nat.le_refl _)
                  have hcs : rgC (OV.take k) ++ [.int .i64 v.v.src, .int .i64 v.v.dst, .slice v.v.a v.v.l v.v.c, .int .i64 (x.due : Int), .int .i64 v.no] = rgC (OV.take k ++ [v]) := by
                    rw [rgC_app]; show _ = _ ++ (v.cs ++ []); rw [List.append_nil]; unfold RgV.cs; rw [hdue]
                  rw [hcs] at ho7
                  have H7 := Lib.hid ho7
                  clear ho7 hg7 hat7 hcs H4 H6
                  refine hK.out _ _ (fun _ => hS2) (fun _ => ?_); clear hK KK hS
                  have hS := hS2
                  clear hS2
                  try simp only [List.getElem_toArray, List.getElem_cons_succ, List.getElem_cons_zero, Act.put, List.setIfInBounds_toArray, List.set_cons_zero, List.set_cons_succ]
                  refine wpAnyM_one (i := 11) (by kernel_rfl) rfl (fun KK hK => ?_)
                  refine step_append_src _ rfl (Operand.tmp 81) (Operand.tmp 84) 91 rfl w2.heap.size 96 i0 _ 5 56 Try.underlying91 hi0 hz0 hz1 hz2 rfl (by decide) v81 s2 (k + 1) (nb - k) (rgC (OV.take k ++ [v])) (rgC (OV.drop k)) rfl (by kernel_rfl) H7.out (HS2.out _ hS) (by unfold maxLen; omega) (by omega) hS.size ?_
                  intro v85 wz5 ho11 hg11 hat11
                  have hS2 := fr_own hS H7.out hg11 (Nat.le_refl _)
                  rw [← rgC_app, List.append_assoc, List.singleton_append, show k + 1 + (nb - k) = nb + 1 by omega] at ho11
                  have H11 := Lib.hid ho11
                  clear ho11 hg11 hat11 H7
                  refine hK.out _ _ (fun _ => hS2) (fun _ => ?_); clear hK KK hS
                  have hS := hS2
                  clear hS2
                  try simp only [List.getElem_toArray, List.getElem_cons_succ, List.getElem_cons_zero, Act.put, List.setIfInBounds_toArray, List.set_cons_zero, List.set_cons_succ]
                  refine wpAnyM_one (i := 12) (by kernel_rfl) rfl (fun KK hK => ?_)
                  go_simp
                  refine hK.out _ _ (fun h => absurd h (by decide)) (fun _ => ?_); clear hK KK
                  try simp only [List.getElem_toArray, List.getElem_cons_succ, List.getElem_cons_zero, Act.put, List.setIfInBounds_toArray, List.set_cons_zero, List.set_cons_succ]
                  refine wpAnyM_done (by kernel_rfl) ?_ _
                  try simp only [List.getElem_toArray, List.getElem_cons_succ, List.getElem_cons_zero, Act.put, List.setIfInBounds_toArray, List.set_cons_zero, List.set_cons_succ]
                  have hFw := HF2.out.trans hS (by simp)
                  have hol := own_keep HL2.out hS (by simp)
                  have hlf := HLF2.out.fr hS (NoU8.nil _)
                  have hof := HOF2.out.fr hS (NoU8.nil _)
                  have hxok := (HFL.out.fr hFw (NoU8.nil _)).2 i v.v x (by rw [List.getElem?_map, HVV.out]; rfl) HX.out
                  have hput := hof.put hxok k
                  have hoo := own_weaken H11.out (show w.heap.size ≤ w2.heap.size from HF2.out.size)
                  have hins := HSRT.out.ins (j := k) (by rw [HNB.out]; exact hk) HLT.out HC2.out
                  have hne : ∀ g, v85.ownBlock = some g → u6.ownBlock ≠ some g := fun g hg hg' => by
                    have h1 := own_base H11.out hg
                    have h2 := own_lt HL2.out hg'
                    omega
                  have hsn := HSN.out
                  rw [hins] at hsn
                  have hlen : (O.take k ++ x :: O.drop k).length = nb + 1 := by
                    rw [List.length_append, List.length_cons, List.length_take, List.length_drop, HNB.out]; omega
                  have HALL := Lib.hid (show _ ∧ _ ∧ _ ∧ _ ∧ _ ∧ _ ∧ _ ∧ _ from ⟨hFw, hol, hlf, hput, hoo, hne, hsn, hlen⟩)
                  clear hFw hol hlf hof hxok hput hoo hins hne hsn hlen hS H11
                  go_wp2_with fail
                  go_roundw
                  case rel =>
                    obtain ⟨hFw, hol, hlf, hput, hoo, hne, hsn, hlen⟩ := HALL.out
                    refine ⟨i + 1, OV.take k ++ v :: OV.drop k, LV, by omega, by go_num, ?_, ?_, ?_, hol, hlf, ?_, hne, hFw⟩
                    · rw [hsn, hlen]; exact hoo
                    · rw [hsn]; exact hput
                    · intro y hy
                      rcases List.mem_append.1 hy with h | h
                      · obtain ⟨j, z, a1, a2, a3⟩ := HON.out y (List.mem_of_mem_take h); exact ⟨j, z, by omega, a2, a3⟩
                      · rcases List.mem_cons.1 h with rfl | h
                        · exact ⟨i, _, by omega, HVV.out, rfl⟩
                        · obtain ⟨j, z, a1, a2, a3⟩ := HON.out y (List.mem_of_mem_drop h); exact ⟨j, z, by omega, a2, a3⟩
                    · rw [take_snoc HVV.out]; exact HLS.out.trans (List.sublist_append_left _ _)
                  case measure => simp [intOf]; omega
                  
              · skip
                go_simp
                have hb6 := Blk.new wz0 #[.int .i64 v.v.src, .int .i64 v.v.dst, .slice v.v.a v.v.l v.v.c, .int .i64 (x.due : Int), .int .i64 v.no] 96
                have hS2 := hS.alloc (.cells #[.int .i64 v.v.src, .int .i64 v.v.dst, .slice v.v.a v.v.l v.v.c, .int .i64 (x.due : Int), .int .i64 v.no] 96)
                (try have h06 : g0 < wz0.heap.size := own_lt H0.out rfl)
                (try have H0 := Lib.hid (own_keep H0.out ((Fr.refl [] wz0).alloc (.cells #[.int .i64 v.v.src, .int .i64 v.v.dst, .slice v.v.a v.v.l v.v.c, .int .i64 (x.due : Int), .int .i64 v.no] 96)) (by simp)))
                (try have H4 := Lib.hid (own_keep H4.out ((Fr.refl [] wz0).alloc (.cells #[.int .i64 v.v.src, .int .i64 v.v.dst, .slice v.v.a v.v.l v.v.c, .int .i64 (x.due : Int), .int .i64 v.no] 96)) (by simp)))
                obtain ⟨g6, hg6⟩ : ∃ g6, wz0.heap.size = g6 := ⟨_, rfl⟩
                rw [hg6] at hb6 ⊢
                (try rw [hg6] at h06)
                generalize wz0.alloc (.cells #[.int .i64 v.v.src, .int .i64 v.v.dst, .slice v.v.a v.v.l v.v.c, .int .i64 (x.due : Int), .int .i64 v.no] 96) = wz1 at *
                have H6 := Lib.hid hb6
                have H6lt := Lib.hid hb6.lt
                refine hK.out _ _ (fun _ => hS2) (fun _ => ?_); clear hK KK hS hg6 hb6
                have hS := hS2
                clear hS2
                try simp only [List.getElem_toArray, List.getElem_cons_succ, List.getElem_cons_zero, Act.put, List.setIfInBounds_toArray, List.set_cons_zero, List.set_cons_succ]
                refine wpAnyM_one (i := 0) (by kernel_rfl) rfl (fun KK hK => ?_)
                go_simp
                have hb0 := Blk.new wz1 #[] 96
                have hS2 := hS.alloc (.cells #[] 96)
                (try have H6 := Lib.hid (H6.out.alloc (.cells #[] 96)))
                have hg0b : w2.heap.size ≤ wz1.heap.size := hS.size
                (try have h6lt := H6lt.out)
                obtain ⟨g0, hg0⟩ : ∃ g0, wz1.heap.size = g0 := ⟨_, rfl⟩
                rw [hg0] at hb0 hg0b ⊢
                (try rw [hg0] at h6lt)
                generalize wz1.alloc (.cells #[] 96) = wz2 at *
                have H0 := Lib.hid (own_empty (sz := 5) (base := w2.heap.size) hb0 hg0b)
                refine hK.out _ _ (fun _ => hS2) (fun _ => ?_); clear hK KK hS hg0 hb0
                have hS := hS2
                clear hS2
                try simp only [List.getElem_toArray, List.getElem_cons_succ, List.getElem_cons_zero, Act.put, List.setIfInBounds_toArray, List.set_cons_zero, List.set_cons_succ]
                refine wpAnyM_one (i := 4) (by kernel_rfl) rfl (fun KK hK => ?_)
                refine step_append_src _ rfl (Operand.tmp 74) (Operand.tmp 77) 91 rfl w2.heap.size 96 i0 _ 5 56 Try.underlying91 hi0 hz0 hz1 hz2 rfl (by decide) (.slice (some ⟨g0, 0, none⟩) 0 0) s1 0 k [] (rgC (OV.take k)) rfl (by kernel_rfl) H0.out (HS1.out _ hS) (by unfold maxLen; omega) (by omega) hS.size ?_
                intro v78 wz3 ho4 hg4 hat4
                have hS2 := fr_own hS H0.out hg4 (Nat.le_refl _)
                (try have H6 := Lib.hid ((fr_grown hg4).blk H6.out (by simp [Value.ownBlock]; omega)))
                simp only [Nat.zero_add, List.nil_append] at ho4
                have H4 := Lib.hid ho4
                clear ho4 hg4 hat4
                refine hK.out _ _ (fun _ => hS2) (fun _ => ?_); clear hK KK hS
                have hS := hS2
                clear hS2
                try simp only [List.getElem_toArray, List.getElem_cons_succ, List.getElem_cons_zero, Act.put, List.setIfInBounds_toArray, List.set_cons_zero, List.set_cons_succ]
                refine wpAnyM_one (i := 7) (by kernel_rfl) rfl (fun KK hK => ?_)
                refine step_append_src _ rfl (Operand.tmp 78) (Operand.tmp 80) 91 rfl w2.heap.size 96 i0 _ 5 56 Try.underlying91 hi0 hz0 hz1 hz2 rfl (by decide) v78 (.slice (some ⟨g6, 0, none⟩) 1 1) k 1 (rgC (OV.take k)) [.int .i64 v.v.src, .int .i64 v.v.dst, .slice v.v.a v.v.l v.v.c, .int .i64 (x.due : Int), .int .i64 v.no] rfl (by kernel_rfl) H4.out (src_blk H6.out (by simp) (by simp [Value.oneCell']) 1) (by unfold maxLen; omega) (by omega) hS.size ?_
                intro v81 wz4 ho7 hg7 hat7
                have hS2 := fr_own hS H4.out hg7 (Nat.le_refl _)
                have hcs : rgC (OV.take k) ++ [.int .i64 v.v.src, .int .i64 v.v.dst, .slice v.v.a v.v.l v.v.c, .int .i64 (x.due : Int), .int .i64 v.no] = rgC (OV.take k ++ [v]) := by
                  rw [rgC_app]; show _ = _ ++ (v.cs ++ []); rw [List.append_nil]; unfold RgV.cs; rw [hdue]
                rw [hcs] at ho7
                have H7 := Lib.hid ho7
                clear ho7 hg7 hat7 hcs H4 H6
                refine hK.out _ _ (fun _ => hS2) (fun _ => ?_); clear hK KK hS
                have hS := hS2
                clear hS2
                try simp only [List.getElem_toArray, List.getElem_cons_succ, List.getElem_cons_zero, Act.put, List.setIfInBounds_toArray, List.set_cons_zero, List.set_cons_succ]
                refine wpAnyM_one (i := 11) (by kernel_rfl) rfl (fun KK hK => ?_)
                refine step_append_src _ rfl (Operand.tmp 81) (Operand.tmp 84) 91 rfl w2.heap.size 96 i0 _ 5 56 Try.underlying91 hi0 hz0 hz1 hz2 rfl (by decide) v81 s2 (k + 1) (nb - k) (rgC (OV.take k ++ [v])) (rgC (OV.drop k)) rfl (by kernel_rfl) H7.out (HS2.out _ hS) (by unfold maxLen; omega) (by omega) hS.size ?_
                intro v85 wz5 ho11 hg11 hat11
                have hS2 := fr_own hS H7.out hg11 (Nat.le_refl _)
                rw [← rgC_app, List.append_assoc, List.singleton_append, show k + 1 + (nb - k) = nb + 1 by omega] at ho11
                have H11 := Lib.hid ho11
                clear ho11 hg11 hat11 H7
                refine hK.out _ _ (fun _ => hS2) (fun _ => ?_); clear hK KK hS
                have hS := hS2
                clear hS2
                try simp only [List.getElem_toArray, List.getElem_cons_succ, List.getElem_cons_zero, Act.put, List.setIfInBounds_toArray, List.set_cons_zero, List.set_cons_succ]
                refine wpAnyM_one (i := 12) (by kernel_rfl) rfl (fun KK hK => ?_)
                go_simp
                refine hK.out _ _ (fun h => absurd h (by decide)) (fun _ => ?_); clear hK KK
                try simp only [List.getElem_toArray, List.getElem_cons_succ, List.getElem_cons_zero, Act.put, List.setIfInBounds_toArray, List.set_cons_zero, List.set_cons_succ]
                refine wpAnyM_done (by kernel_rfl) ?_ _
                try simp only [List.getElem_toArray, List.getElem_cons_succ, List.getElem_cons_zero, Act.put, List.setIfInBounds_toArray, List.set_cons_zero, List.set_cons_succ]
                have hFw := HF2.out.trans hS (by simp)
                have hol := own_keep HL2.out hS (by simp)
                have hlf := HLF2.out.fr hS (NoU8.nil _)
                have hof := HOF2.out.fr hS (NoU8.nil _)
                have hxok := (HFL.out.fr hFw (NoU8.nil _)).2 i v.v x (by rw [List.getElem?_map, HVV.out]; rfl) HX.out
                have hput := hof.put hxok k
                have hoo := own_weaken H11.out (show w.heap.size ≤ w2.heap.size from HF2.out.size)
                have hins := HSRT.out.ins (j := k) (by rw [HNB.out]; exact hk) HLT.out HC2.out
                have hne : ∀ g, v85.ownBlock = some g → u6.ownBlock ≠ some g := fun g hg hg' => by
                  have h1 := own_base H11.out hg
                  have h2 := own_lt HL2.out hg'
                  omega
                have hsn := HSN.out
                rw [hins] at hsn
                have hlen : (O.take k ++ x :: O.drop k).length = nb + 1 := by
                  rw [List.length_append, List.length_cons, List.length_take, List.length_drop, HNB.out]; omega
                have HALL := Lib.hid (show _ ∧ _ ∧ _ ∧ _ ∧ _ ∧ _ ∧ _ ∧ _ from ⟨hFw, hol, hlf, hput, hoo, hne, hsn, hlen⟩)
                clear hFw hol hlf hof hxok hput hoo hins hne hsn hlen hS H11
                go_wp2_with fail
                go_roundw
                case rel =>
                  obtain ⟨hFw, hol, hlf, hput, hoo, hne, hsn, hlen⟩ := HALL.out
                  refine ⟨i + 1, OV.take k ++ v :: OV.drop k, LV, by omega, by go_num, ?_, ?_, ?_, hol, hlf, ?_, hne, hFw⟩
                  · rw [hsn, hlen]; exact hoo
                  · rw [hsn]; exact hput
                  · intro y hy
                    rcases List.mem_append.1 hy with h | h
                    · obtain ⟨j, z, a1, a2, a3⟩ := HON.out y (List.mem_of_mem_take h); exact ⟨j, z, by omega, a2, a3⟩
                    · rcases List.mem_cons.1 h with rfl | h
                      · exact ⟨i, _, by omega, HVV.out, rfl⟩
                      · obtain ⟨j, z, a1, a2, a3⟩ := HON.out y (List.mem_of_mem_drop h); exact ⟨j, z, by omega, a2, a3⟩
                  · rw [take_snoc HVV.out]; exact HLS.out.trans (List.sublist_append_left _ _)
                case measure => simp [intOf]; omega
                
      · have q2 : decide (ct < x.due) = true := by simp; omega
        rw [q2]
        rw [if_neg hd, if_neg hd] at hds
        have HDS := Lib.hid hds
        clear hds
        go_upto_region 7 with (fail)
        have g0 := Blk.cell (i := 0) HD2.out rfl
        have g1 := Blk.cell (i := 1) HD2.out rfl
        have g2 := Blk.cell (i := 2) HD2.out rfl
        have g3 := Blk.cell (i := 3) HD2.out rfl
        have g4 := Blk.cell (i := 4) HD2.out rfl
        simp only [List.getElem_toArray, List.getElem_cons_zero, List.getElem_cons_succ] at g0 g1 g2 g3 g4
        apply wp_region_lit
        iterate 3 (refine wpList_plain rfl (fun K hK => ?_); go_simp; refine hK _ _ ?_; clear hK K)
        have hnb := Blk.new w2 #[.int .i64 v.v.src, .int .i64 v.v.dst, .slice v.v.a v.v.l v.v.c, .int .i64 (x.due : Int), .int .i64 v.no] 96
        have hF3 := (Fr.refl [] w2).alloc (.cells #[.int .i64 v.v.src, .int .i64 v.v.dst, .slice v.v.a v.v.l v.v.c, .int .i64 (x.due : Int), .int .i64 v.no] 96)
        generalize w2.alloc (.cells #[.int .i64 v.v.src, .int .i64 v.v.dst, .slice v.v.a v.v.l v.v.c, .int .i64 (x.due : Int), .int .i64 v.no] 96) = w3 at *
        have hFa := HFD2.out.trans hF3 (by simp)
        have hl3 := own_keep HLL.out hFa (by simp)
        have ho3 := own_keep HO.out hFa (by simp)
        have hlen : ((fl.take i).filter fun x => !decide (x.due ≤ ct)).length ≤ 256 := by
          have h1 := List.length_filter_le (fun x : Fg => !decide (x.due ≤ ct)) (fl.take i)
          have h2 : (fl.take i).length ≤ fl.length := by rw [List.length_take]; omega
          omega
        obtain ⟨nl, hnl⟩ : ∃ nl, ((fl.take i).filter fun x => !decide (x.due ≤ ct)).length = nl := ⟨_, rfl⟩
        rw [hnl] at hl3 hlen
        obtain ⟨i0, hi0, hz0, hz1, hz2⟩ := info_parts infDgR
        obtain ⟨la, lc, rfl, hl1, hl2⟩ := own_val hl3
        refine wpList_append_src _ rfl (Operand.tmp 31) (Operand.tmp 33) 91 rfl w.heap.size 96 i0 _ 5 56 Try.underlying91 hi0 hz0 hz1 hz2 rfl (by decide) (.slice la nl lc) (.slice (some ⟨w2.heap.size, 0, none⟩) 1 1) nl 1 (rgC LV) [.int .i64 v.v.src, .int .i64 v.v.dst, .slice v.v.a v.v.l v.v.c, .int .i64 (x.due : Int), .int .i64 v.no] rfl (by kernel_rfl) hl3 (src_blk hnb (by simp) (by simp [Value.oneCell']) 1) (by unfold maxLen; omega) (by omega) (by have := hFa.size; omega) ?_
        intro v4 w4 ho4 hg4 hat4
        have hfg := fr_grown hg4
        have hF4 := (HF.out.trans hFa (by simp)).trans hfg (fun y hy => .inr (by simp only [Option.mem_toList] at hy; exact own_base hl3 hy))
        have hcs : rgC LV ++ [.int .i64 v.v.src, .int .i64 v.v.dst, .slice v.v.a v.v.l v.v.c, .int .i64 (x.due : Int), .int .i64 v.no] = rgC (LV ++ [v]) := by
          rw [rgC_app]; show _ = _ ++ (v.cs ++ []); rw [List.append_nil]; unfold RgV.cs; rw [hdue]
        rw [hcs] at ho4
        have hu4 : NoU8 w3 (Value.slice la nl lc).ownBlock.toList := NoU8.own hl3 (by decide)
        have ho5 := own_keep ho3 hfg (fun g hg hx => by simp only [Option.mem_toList] at hx; exact HNE.out g hg hx)
        have hof5 := (HOF.out.fr hFa (NoU8.nil _)).fr hfg hu4
        have hlf5 := (HLF.out.fr hFa (NoU8.nil _)).fr hfg hu4
        have hxok := (HFL.out.fr hF4 (NoU8.nil _)).2 i v.v x (by rw [List.getElem?_map, HVV.out]; rfl) HX.out
        have hlf6 := hlf5.snoc hxok
        have hdis : ∀ g, u5.ownBlock = some g → v4.ownBlock ≠ some g := fun g hg hg4' => by
          rcases hat4 with e | e
          · rw [e] at hg4'; exact HNE.out g hg hg4'
          · rw [hg4'] at e; have := own_lt ho3 hg; simp at e; omega
        obtain ⟨e1, e2⟩ := HDS.out
        rw [List.append_nil] at e1
        have HA := Lib.hid (show _ ∧ _ ∧ _ ∧ _ ∧ _ from ⟨ho5, ho4, hof5, hlf6, hdis⟩); have HF4 := Lib.hid hF4; have HE := Lib.hid (And.intro e1 e2); have HNL := Lib.hid hnl
        clear hg4 hat4 hfg hF4 hcs ho4 hu4 ho5 hof5 hlf5 hxok hlf6 hdis e1 e2 hl3 ho3 hFa hF3 hnb hnl
        go_wp2_with fail
        go_roundw
        case rel =>
          refine ⟨i + 1, OV, LV ++ [v], by omega, by go_num, ?_, ?_, ?_, ?_, ?_, ?_, HA.out.2.2.2.2, HF4.out⟩
          · rw [HE.out.1]; exact HA.out.1
          · rw [HE.out.1]; exact HA.out.2.2.1
          · intro y hy; obtain ⟨j, z, a1, a2, a3⟩ := HON.out y hy; exact ⟨j, z, by omega, a2, a3⟩
          · rw [HE.out.2, List.length_append, HNL.out]; exact HA.out.2.1
          · rw [HE.out.2, List.map_append]; exact HA.out.2.2.2.1
          · rw [take_snoc HVV.out]; exact HLS.out.append (List.Sublist.refl _)
        case measure => simp [intOf]; omega
    · have hie : fl.take i = fl := List.take_of_length_le (by omega)
      have q1 : (fl.length : Int) ≤ i := by omega
      have HOF' := HOF.out; have HLF' := HLF.out; have HO' := HO.out; have HL' := HLL.out
      rw [hie] at HOF' HLF' HO' HL'
      have hSF := HSF.out
      obtain ⟨ov, hov⟩ : ∃ ov, u5 = ov := ⟨_, rfl⟩
      have hw5 := Fr.size HF.out
      have f1 := Blk.free (HF.out.blk HH.out (by simp)) 1
      have kB := (HF.out.blk HH.out (by simp)).set 1 u6
      have kF := (Fr.refl [b] wr).setCell (p := ⟨b, 1, none⟩) (.inl (by simp)) u6
      have kU : NoU8 wr [b] := NoU8.cons (HF.out.blk HH.out (by simp)) (by decide) (NoU8.nil _)
      have kUw : NoU8 w [b] := NoU8.cons HH.out (by decide) (NoU8.nil _)
      have kFw := (HF.out.mono (S' := [b]) (by simp)).trans kF (fun x hx => .inl hx)
      have hbw := HH.out.lt
      have hWw := hf.size
      have kN : NosOk LV no := ⟨HNO.out.1.sublist (HLS.out.trans (List.take_sublist _ _)), fun y hy => HNO.out.2 y (List.mem_of_mem_take (HLS.out.mem hy))⟩
      have e1 : (deliverS s tick).2 = ⟨s.fa, fl.filter (fun x => !decide (x.due ≤ ct)), s.lost⟩ := by unfold deliverS dueLater; rw [HCT.out, hSF]
      have e2 : (deliverS s tick).1 = sortG (fl.filter (fun x => decide (x.due ≤ ct))) := by unfold deliverS dueNow; rw [HCT.out, hSF]
      have kR : HasR W K (wr.setCell ⟨b, 1, none⟩ u6) b (deliverS s tick).2 no := by
        rw [e1]
        refine ⟨⟨_, fv, u6, kB, ⟨rfl, H2.out.fo.fr kFw (fun g hg hx => ?_), ⟨LV, own_keep (own_weaken HL' hWw) kF (fun g hg hx => ?_), HLF'.fr kF kU, kN⟩, H2.out.fb, ?_, H2.out.lb⟩, h3, fun g hg hx => ?_⟩, hb, hb2, fun g hg => Nat.lt_of_lt_of_le (hK g hg) kFw.size, hf.trans kFw (fun x hx => .inr (by simp at hx; omega))⟩
        · simp at hx; obtain ⟨-, cur, hB⟩ := H2.out.fo.blk hg; exact blk_blk hB HH.out (by decide) hx
        · simp at hx; have := own_base HL' hg; omega
        · exact Nat.le_trans (List.length_filter_le _ _) hxb
        · have := own_base HL' hg; have := hK g hx; omega
      have kD : DgQ (wr.setCell ⟨b, 1, none⟩ u6) w.heap.size u5 (deliverS s tick).1 := by
        rw [e2]
        exact ⟨OV, own_keep HO' kF (fun g hg hx => by simp at hx; have := own_base HO' hg; omega), HOF'.fr kF kU⟩
      have kK : Kp K w (wr.setCell ⟨b, 1, none⟩ u6) := Kp.of_fr kFw hK (fun g hg hx => by simp at hx; subst hx; exact hb hg) kUw
      have KALL := Lib.hid (show RDel W K w b (deliverS s tick).2 no (deliverS s tick).1 (.returned u5) (wr.setCell ⟨b, 1, none⟩ u6) from ⟨_, rfl, kR, kD, kK⟩)
      obtain ⟨la, lc, hu6, -, -⟩ := own_val HL'
      obtain ⟨nl, hnl⟩ : ∃ nl, (fl.filter fun x => !decide (x.due ≤ ct)).length = nl := ⟨_, rfl⟩
      rw [hnl] at hu6
      clear hnl
      subst hu6
      clear HOF' HLF' HO' HL' hSF hov kB kF kU kUw kFw kN e1 e2 kR kD kK hie
      go_wp2_with fail
      go_ret
      exact KALL.out
end Go.Proofs.Ytkjjikjilmngdaa.Nt
