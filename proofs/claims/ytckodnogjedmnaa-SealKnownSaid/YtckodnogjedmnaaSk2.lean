/- chapter 18: SealKnown. Written by wip/gensk.py. -/
import Derived.Test.YtckodnogjedmnaaOb
import Derived.Test.YtckodnogjedmnaaSk
namespace Go.Proofs.Ytckodnogjedmnaa.Lo
open Go.RowKit Dt Go.Proofs.Ytckodnogjedmnaa.Hd Go.Proofs.Ytckodnogjedmnaa.Cfg Go.Proofs.Ytckodnogjedmnaa.Jt Go.Proofs.Ytckodnogjedmnaa.FlW Ieee
set_option linter.unusedVariables false
set_option linter.unusedSimpArgs false
attribute [local go_sem] run_store_float

theorem RowsT.cells {w : World} {b t n p : Nat} {v : Value} {Rs : Nat → Row} (h : RowsT w b t v n p Rs) (hn : 0 < n) (hp : 0 < p) : ∃ g cap, v = .slice (some ⟨g, 0, none⟩) n cap ∧ ∀ i, i < n → ∃ gi ci, w.cell? ⟨g, i, none⟩ = some (.slice (some ⟨gi, 0, none⟩) p ci) ∧ ∀ t, t < p → ∀ j v, (c4 (Rs i t))[j]? = some v → w.cell? ⟨gi, t * 4 + j, none⟩ = some v := by
  obtain ⟨vs, ⟨h1, -⟩, h2⟩ := h
  obtain ⟨g, cap, rfl, -, -, -⟩ := own_form h1 hn
  refine ⟨g, cap, rfl, fun i hi => ?_⟩
  obtain ⟨u, e, h3, -⟩ := h2 i hi
  obtain ⟨gi, ci, rfl, h4⟩ := own_row h3 hp
  exact ⟨gi, ci, by rw [h1.cellAt _ (by omega)]; exact e, h4⟩
theorem off_to {w : World} {P : Nat → Prop} {B M n : Nat} {c : CfV} {rows : List (Nat × Row)} {R : Int → Row} (h : LogS w P B M c rows n R) (hn : n ≤ 1000000) (hP : ∀ x, w.heap.size ≤ x → P x) {pl fr L : Nat} (e1 : c.pl = pl) (e2 : c.fr = fr) (e3 : rows.length = L) {s f b x y k : Int} (hk : offerK pl fr L R s f b x y = k) {R' : Int → Row} (hR : offerR pl fr L R s f b x y = R') :
    Calls Try.prog 27 #[.pointer (some ⟨B, 0, none⟩), .int .i64 s, .int .i64 f, .agg #[.int .i64 b, .int .i64 x, .int .i64 y]] w fun e w' => e = .returned (.int .i64 k) ∧ LogS w' P B M c rows (n + 1) R' ∧ Wr P w w' := by
  subst e1 e2 e3 hk hR
  exact off_s h hn hP s f b x y
def kR0 : Int → Row := fun _ _ => c0
def kR1 : Int → Row := offerR 2 90 0 kR0 0 1 1 0 0
def kR2 : Int → Row := offerR 2 90 0 kR1 1 63 0 0 0
def kR3 : Int → Row := tickR kR2 2
def kR4 : Int → Row := offerR 2 90 2 kR3 0 64 0 0 0
def kR5 : Int → Row := tickR kR4 90

theorem kk_a : offerK 2 90 0 kR0 0 1 1 0 0 = 1 := by decide +kernel
theorem kr_a : offerR 2 90 0 kR0 0 1 1 0 0 = kR1 := rfl
theorem kk_b : offerK 2 90 0 kR1 0 1 2 0 0 = 4 := by decide +kernel
theorem kr_b : offerR 2 90 0 kR1 0 1 2 0 0 = kR1 := offerR_same (by rw [kk_b]; decide)
theorem kk_c : offerK 2 90 0 kR1 2 1 0 0 0 = 5 := by decide +kernel
theorem kr_c : offerR 2 90 0 kR1 2 1 0 0 0 = kR1 := offerR_same (by rw [kk_c]; decide)
theorem kk_d : offerK 2 90 0 kR1 0 90 0 0 0 = 5 := by decide +kernel
theorem kr_d : offerR 2 90 0 kR1 0 90 0 0 0 = kR1 := offerR_same (by rw [kk_d]; decide)
theorem kk_f : offerK 2 90 0 kR1 0 2 0 65 0 = 5 := by decide +kernel
theorem kr_f : offerR 2 90 0 kR1 0 2 0 65 0 = kR1 := offerR_same (by rw [kk_f]; decide)
theorem kk_g : offerK 2 90 0 kR1 0 64 0 0 0 = 3 := by decide +kernel
theorem kr_g : offerR 2 90 0 kR1 0 64 0 0 0 = kR1 := offerR_same (by rw [kk_g]; decide)
theorem kk_h : offerK 2 90 0 kR1 1 63 0 0 0 = 1 := by decide +kernel
theorem kr_h : offerR 2 90 0 kR1 1 63 0 0 0 = kR2 := rfl
theorem kk_i : offerK 2 90 2 kR3 1 0 0 0 0 = 2 := by decide +kernel
theorem kr_i : offerR 2 90 2 kR3 1 0 0 0 0 = kR3 := offerR_same (by rw [kk_i]; decide)
theorem kk_j : offerK 2 90 2 kR3 0 64 0 0 0 = 1 := by decide +kernel
theorem kr_j : offerR 2 90 2 kR3 0 64 0 0 0 = kR4 := rfl
theorem kw_2 : waitR kR2 0 2 = 2 := by decide +kernel
theorem kw_5 : waitR kR5 90 2 = 0 := by decide +kernel
theorem kc_00 : kR2 0 0 = (false, 0, 0, 0) := by decide +kernel
theorem kc_10 : kR2 1 0 = (true, 1, 0, 0) := by decide +kernel
theorem kc_11 : kR2 1 1 = (false, 0, 0, 0) := by decide +kernel
/-- a tick of the config of two -/
theorem dl_two (g : Nat) (k : Int) : dl (twoV g) k = 5 + k * 2 := by unfold dl twoV; show (1 : Int) + k * 2 + 4 = _; omega
set_option maxRecDepth 100000 in
set_option maxHeartbeats 6400000 in
theorem walk_known (W : World) : Calls Try.prog 8 #[] W fun e w' => e = .returned (.bool true) ∧ Below W.heap.size W w' := by
  go_enter Try.func8, Try.ntmps8
  go_wp2_with fail
  refine (two_any W).mono ?_; rintro e w1 ⟨g, rfl, hc, hF1⟩
  have hnew := lnew_s hc
  dsimp only [CfV.v, twoV] at hnew ⊢
  have HF1 := Lib.hid hF1; have HNW := Lib.hid hnew
  clear hc hF1 hnew
  go_wp2_with fail
  refine HNW.out.mono ?_; rintro e w2 ⟨B, M, rfl, hl2, hF2⟩
  change LogS w2 _ B M (twoV g) [] 0 kR0 at hl2
  have HF2 := Lib.hid (HF1.out.trans hF2 (by simp))
  have hge := HF1.out.size
  have HL2 := Lib.hid (hl2.wider (Q := fun x => W.heap.size ≤ x) (fun x hx => Nat.le_trans hge hx))
  clear hF2 hl2 HNW hge HF1
  go_wp2_with fail
  refine (lnew_zero _).mono ?_; rintro e w3 ⟨rfl, hF3⟩
  have HF3 := Lib.hid (HF2.out.trans hF3 (by simp)); have HL3 := Lib.hid (HL2.out.fr hF3 (by simp))
  clear hF3 HF2 HL2
  go_wp2_with fail
  refine (lknown_any _).mono ?_; rintro e w4 ⟨rfl, hF4⟩
  have HF4 := Lib.hid (HF3.out.trans hF4 (by simp)); have HL4 := Lib.hid (HL3.out.fr hF4 (by simp))
  clear hF4 HF3 HL3
  go_wp2_with fail
  refine (off_to HL4.out (by omega) (fun x hx => Nat.le_trans HF4.out.size hx) (pl := 2) (fr := 90) (L := 0) rfl rfl rfl kk_a kr_a).mono ?_; rintro e w5 ⟨rfl, hl, hW⟩
  have HL5 := Lib.hid hl; have HF5 := Lib.hid (Wr.fr hW HF4.out (Nat.le_refl _))
  clear hl hW HL4 HF4
  go_wp2_with fail
  refine (off_to HL5.out (by omega) (fun x hx => Nat.le_trans HF5.out.size hx) (pl := 2) (fr := 90) (L := 0) rfl rfl rfl kk_b kr_b).mono ?_; rintro e w6 ⟨rfl, hl, hW⟩
  have HL6 := Lib.hid hl; have HF6 := Lib.hid (Wr.fr hW HF5.out (Nat.le_refl _))
  clear hl hW HL5 HF5
  go_wp2_with fail
  refine (off_to HL6.out (by omega) (fun x hx => Nat.le_trans HF6.out.size hx) (pl := 2) (fr := 90) (L := 0) rfl rfl rfl kk_c kr_c).mono ?_; rintro e w7 ⟨rfl, hl, hW⟩
  have HL7 := Lib.hid hl; have HF7 := Lib.hid (Wr.fr hW HF6.out (Nat.le_refl _))
  clear hl hW HL6 HF6
  go_wp2_with fail
  refine (off_to HL7.out (by omega) (fun x hx => Nat.le_trans HF7.out.size hx) (pl := 2) (fr := 90) (L := 0) rfl rfl rfl kk_d kr_d).mono ?_; rintro e w8 ⟨rfl, hl, hW⟩
  have HL8 := Lib.hid hl; have HF8 := Lib.hid (Wr.fr hW HF7.out (Nat.le_refl _))
  clear hl hW HL7 HF7
  go_wp2_with fail
  refine (off_to HL8.out (by omega) (fun x hx => Nat.le_trans HF8.out.size hx) (pl := 2) (fr := 90) (L := 0) rfl rfl rfl kk_f kr_f).mono ?_; rintro e w9 ⟨rfl, hl, hW⟩
  have HL9 := Lib.hid hl; have HF9 := Lib.hid (Wr.fr hW HF8.out (Nat.le_refl _))
  clear hl hW HL8 HF8
  go_wp2_with fail
  refine (off_to HL9.out (by omega) (fun x hx => Nat.le_trans HF9.out.size hx) (pl := 2) (fr := 90) (L := 0) rfl rfl rfl kk_g kr_g).mono ?_; rintro e w10 ⟨rfl, hl, hW⟩
  have HL10 := Lib.hid hl; have HF10 := Lib.hid (Wr.fr hW HF9.out (Nat.le_refl _))
  clear hl hW HL9 HF9
  go_wp2_with fail
  refine (off_to HL10.out (by omega) (fun x hx => Nat.le_trans HF10.out.size hx) (pl := 2) (fr := 90) (L := 0) rfl rfl rfl kk_h kr_h).mono ?_; rintro e w11 ⟨rfl, hl, hW⟩
  have HL11 := Lib.hid hl; have HF11 := Lib.hid (Wr.fr hW HF10.out (Nat.le_refl _))
  clear hl hW HL10 HF10
  go_wp2_with fail
  have hw := waiting_s HL11.out
  change Calls _ _ _ _ (fun e w' => e = .returned (.int .i64 (waitR kR2 0 2 : Nat)) ∧ _) at hw
  rw [kw_2] at hw
  refine hw.mono ?_; rintro e w12 ⟨rfl, hF⟩
  have HL12 := Lib.hid (HL11.out.fr hF (by simp)); have HF12 := Lib.hid (HF11.out.trans hF (by simp))
  clear hw hF HL11 HF11
  go_wp2_with fail
  refine (tick_s HL12.out (fun x hx => Nat.le_trans HF12.out.size hx) 7).mono ?_; rintro e w13 ⟨rows5, rfl, hl, hW, hgot, hdue, hend⟩
  have h5 : rows5.length = 2 := by
    have h1 := hl.len
    simp only [List.nil_append, List.length_nil, Nat.zero_add, dl_two] at h1 hdue hend
    change rows5.length ≤ 90 at h1
    change rows5.length = 90 ∨ _ at hend
    rcases Nat.lt_or_ge 2 rows5.length with e | e
    · have := hdue 2 e; omega
    · omega
  have hl' : LogS w13 (fun x => W.heap.size ≤ x) B M (twoV g) rows5 7 kR3 := by
    rw [h5] at hl; exact hl
  have hg5 : ∀ i : Nat, i < 2 → (rows5.getD ((0 : Int).toNat + i) (0, fun _ => c0)).2 = kR2 i := fun i hi => by
    obtain ⟨r, hr⟩ : ∃ r, rows5[i]? = some r := ⟨_, List.getElem?_eq_getElem (by omega)⟩
    have h1 := hgot i r hr
    rw [show (0 : Int).toNat + i = i by simp, List.getD_eq_getElem?_getD, hr]
    simpa using h1
  have HL13 := Lib.hid hl'; have HF13 := Lib.hid (Wr.fr hW HF12.out (Nat.le_refl _)); have HG5 := Lib.hid hg5; have H5 := Lib.hid h5
  rw [h5]
  clear hl hW hgot hdue hend h5 hl' hg5 HL12 HF12
  go_wp2_with fail
  refine (off_to HL13.out (by omega) (fun x hx => Nat.le_trans HF13.out.size hx) (pl := 2) (fr := 90) (L := 2) rfl rfl H5.out kk_i kr_i).mono ?_; rintro e w14 ⟨rfl, hl, hW⟩
  have HL14 := Lib.hid hl; have HF14 := Lib.hid (Wr.fr hW HF13.out (Nat.le_refl _))
  clear hl hW HL13 HF13
  go_wp2_with fail
  have hl := HL14.out.there
  refine (rows_s HL14.out 0 9).mono ?_; rintro e w15 ⟨v, rfl, hV, hF⟩
  rw [show nRows 0 9 rows5.length = 2 by rw [H5.out]; decide] at hV
  have HL15 := Lib.hid ((hl.fr hF (by simp)).wider (Q := fun x => W.heap.size ≤ x ∧ (x < w14.heap.size ∨ w15.heap.size ≤ x)) (fun x hx => ⟨hx.1, .inl hx.2⟩)); have HF15 := Lib.hid (HF14.out.trans hF (by simp)); have HV := Lib.hid hV; have HSZ := Lib.hid hF.size
  obtain ⟨gv, cv, rfl, hcs⟩ := hV.cells (by decide) (by simp [twoV])
  obtain ⟨g0, c0', d0, -⟩ := hcs 0 (by decide)
  obtain ⟨g1, c1', d1, -⟩ := hcs 1 (by decide)
  dsimp only [twoV] at d0 d1
  clear hl hV hF hcs HL14 HF14
  go_wp2_with fail
  clear d0 d1
  refine (off_to HL15.out (by omega) (fun x hx => ⟨Nat.le_trans HF15.out.size hx, .inr hx⟩) (pl := 2) (fr := 90) (L := 2) rfl rfl H5.out kk_j kr_j).mono ?_; rintro e w16 ⟨rfl, hl, hW⟩
  have HL16 := Lib.hid hl; have HV2 := Lib.hid (HV.out.wr hW (fun x hx => hx.2))
  have HF16 := Lib.hid (Wr.fr (B := W.heap.size) (by obtain ⟨S, h1, h2⟩ := hW; exact ⟨S, fun x hx => (h1 x hx).1, h2⟩) HF15.out (Nat.le_refl _)); have HSZ2 := Lib.hid hW.size
  clear hl hW HL15 HF15 HV
  go_wp2_with fail
  refine (tick_s HL16.out (fun x hx => ⟨Nat.le_trans HF16.out.size hx, .inr (Nat.le_trans HSZ2.out hx)⟩) 1099511627776).mono ?_; rintro e w17 ⟨rows6, rfl, hl, hW, -, hdue, hend⟩
  have h6 : rows6.length = 88 := by
    have h1 := hl.len
    have h5 := H5.out
    rw [List.length_append] at h1
    change _ ≤ 90 at h1
    simp only [dl_two] at hdue hend
    change _ = 90 ∨ _ at hend
    omega
  have h7 : (rows5 ++ rows6).length = 90 := by rw [List.length_append, h6, H5.out]
  have hl' : LogS w17 (fun x => W.heap.size ≤ x ∧ (x < w14.heap.size ∨ w15.heap.size ≤ x)) B M (twoV g) (rows5 ++ rows6) 9 kR5 := by
    rw [h6, H5.out] at hl; exact hl
  have HL17 := Lib.hid hl'; have HV3 := Lib.hid (HV2.out.wr hW (fun x hx => hx.2))
  have HF17 := Lib.hid (Wr.fr (B := W.heap.size) (by obtain ⟨S, h1, h2⟩ := hW; exact ⟨S, fun x hx => (h1 x hx).1, h2⟩) HF16.out (Nat.le_refl _)); have H7 := Lib.hid h7
  rw [h6]
  clear hl hW hdue hend h6 h7 hl' HL16 HF16 HV2
  obtain ⟨gv', cv', hve, hcs⟩ := HV3.out.cells (by decide) (by simp [twoV])
  cases hve
  obtain ⟨g0, c0', d0, d0'⟩ := hcs 0 (by decide)
  obtain ⟨g1, c1', d1, d1'⟩ := hcs 1 (by decide)

  rw [HG5.out 0 (by decide)] at d0'
  rw [HG5.out 1 (by decide)] at d1'
  have e0 := d0' 0 (by simp [twoV])
  have e1 := d1' 0 (by simp [twoV])
  have e2 := d1' 1 (by simp [twoV])
  rw [show ((0 : Nat) : Int) = 0 from rfl, kc_00] at e0
  rw [show ((1 : Nat) : Int) = 1 from rfl, kc_10] at e1
  rw [show ((1 : Nat) : Int) = 1 from rfl, kc_11] at e2
  have a0 := e0 0 _ rfl
  have a1 := e0 1 _ rfl
  have a2 := e0 2 _ rfl
  have a3 := e0 3 _ rfl
  have b0 := e1 0 _ rfl
  have b1 := e1 1 _ rfl
  have b2 := e1 2 _ rfl
  have b3 := e1 3 _ rfl
  have b4 := e2 0 _ rfl
  simp only [Nat.zero_mul, Nat.one_mul, Nat.zero_add, Nat.add_zero] at a0 a1 a2 a3 b0 b1 b2 b3 b4
  dsimp only [twoV] at d0 d1
  clear hcs d0' d1' e0 e1 e2
  have hen := ended_s HL17.out
  rw [H7.out] at hen
  change Calls _ _ _ _ (fun e w' => e = .returned (.bool true) ∧ _) at hen
  have HEN := Lib.hid hen
  clear hen
  go_wp2_with fail
  refine HEN.out.mono ?_; rintro e wx ⟨rfl, k3, rfl⟩
  have hX : Fr [] w17 (w17.drewN k3) := (Fr.refl _ _).drewN k3
  have HL18 := Lib.hid (HL17.out.fr hX (by simp)); have HF18 := Lib.hid (HF17.out.trans hX (by simp))
  clear hX HL17 HF17 HEN a0 a1 a2 a3 b0 b1 b2 b3 b4 d0 d1 HV3
  generalize w17.drewN k3 = w18 at *
  go_wp2_with fail
  have hlen := len_s HL18.out
  rw [H7.out] at hlen
  refine hlen.mono ?_; rintro e w' ⟨rfl, rfl⟩
  clear hlen
  go_wp2_with fail
  have hd := deadline_s HL18.out (-1)
  rw [if_neg (by simp [twoV])] at hd
  refine hd.mono ?_; rintro e wx ⟨rfl, k3, rfl⟩
  have hX : Fr [] w18 (w18.drewN k3) := (Fr.refl _ _).drewN k3
  have HL19 := Lib.hid (HL18.out.fr hX (by simp)); have HF19 := Lib.hid (HF18.out.trans hX (by simp))
  clear hX HL18 HF18 hd
  generalize w18.drewN k3 = w19 at *
  go_wp2_with fail
  have hd := deadline_s HL19.out 90
  rw [if_neg (by simp [twoV])] at hd
  refine hd.mono ?_; rintro e wx ⟨rfl, k3, rfl⟩
  have hX : Fr [] w19 (w19.drewN k3) := (Fr.refl _ _).drewN k3
  have HL20 := Lib.hid (HL19.out.fr hX (by simp)); have HF20 := Lib.hid (HF19.out.trans hX (by simp))
  clear hX HL19 HF19 hd
  generalize w19.drewN k3 = w20 at *
  go_wp2_with fail
  refine (rows_s HL20.out 90 1).mono ?_; rintro e w21 ⟨v, rfl, hV, hF⟩
  rw [show nRows 90 1 (rows5 ++ rows6).length = 0 by rw [H7.out]; decide] at hV
  obtain ⟨vs, ⟨hV, -⟩, -⟩ := hV
  obtain ⟨va, vc, rfl, -, -⟩ := own_val hV
  have HL21 := Lib.hid (HL20.out.fr hF (by simp)); have HF21 := Lib.hid (HF20.out.trans hF (by simp))
  clear hV hF HL20 HF20
  go_wp2_with fail
  refine (rows_s HL21.out 88 7).mono ?_; rintro e w22 ⟨v, rfl, hV, hF⟩
  rw [show nRows 88 7 (rows5 ++ rows6).length = 2 by rw [H7.out]; decide] at hV
  obtain ⟨vs, ⟨hV, -⟩, -⟩ := hV
  obtain ⟨va, vc, rfl, -, -⟩ := own_val hV
  have HL22 := Lib.hid (HL21.out.fr hF (by simp)); have HF22 := Lib.hid (HF21.out.trans hF (by simp))
  clear hV hF HL21 HF21
  go_wp2_with fail
  refine (rows_s HL22.out 3 0).mono ?_; rintro e w23 ⟨v, rfl, hV, hF⟩
  rw [show nRows 3 0 (rows5 ++ rows6).length = 0 by rw [H7.out]; decide] at hV
  obtain ⟨vs, ⟨hV, -⟩, -⟩ := hV
  obtain ⟨va, vc, rfl, -, -⟩ := own_val hV
  have HL23 := Lib.hid (HL22.out.fr hF (by simp)); have HF23 := Lib.hid (HF22.out.trans hF (by simp))
  clear hV hF HL22 HF22
  go_wp2_with fail
  refine (rows_s HL23.out (-1) 2).mono ?_; rintro e w24 ⟨v, rfl, hV, hF⟩
  rw [show nRows (-1) 2 (rows5 ++ rows6).length = 0 by rw [H7.out]; decide] at hV
  obtain ⟨vs, ⟨hV, -⟩, -⟩ := hV
  obtain ⟨va, vc, rfl, -, -⟩ := own_val hV
  have HL24 := Lib.hid (HL23.out.fr hF (by simp)); have HF24 := Lib.hid (HF23.out.trans hF (by simp))
  clear hV hF HL23 HF23
  go_wp2_with fail
  have hw := waiting_s HL24.out
  rw [H7.out] at hw
  change Calls _ _ _ _ (fun e w' => e = .returned (.int .i64 (waitR kR5 90 2 : Nat)) ∧ _) at hw
  rw [kw_5] at hw
  refine hw.mono ?_; rintro e w' ⟨rfl, hF⟩
  have HFE := Lib.hid (HF24.out.trans hF (by simp))
  clear hw hF
  go_wp2_with fail
  go_ret
  exact ⟨rfl, HFE.out.below (Nat.le_refl _) (by simp)⟩
end Go.Proofs.Ytckodnogjedmnaa.Lo
