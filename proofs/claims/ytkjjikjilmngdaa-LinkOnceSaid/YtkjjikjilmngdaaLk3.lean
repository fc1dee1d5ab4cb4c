/- chapter 16: Take. -/
import Derived.Test.YtkjjikjilmngdaaLk2
namespace Go.Proofs.Ytkjjikjilmngdaa.Lk
open Go.RowKit Dt Go.Proofs.Ytkjjikjilmngdaa.Wn Go.Proofs.Ytkjjikjilmngdaa.Sq Go.Proofs.Ytkjjikjilmngdaa.Mt
set_option linter.unusedVariables false
set_option linter.unusedSimpArgs false

/-- a meter behind many samples -/
noncomputable def mf : List Nat → Nat × Nat × Nat → Nat × Nat × Nat
  | [], t => t
  | x :: l, t => mf l (t.1 + 1, nt t.1 t.2.1 t.2.2 x)
theorem mf_app (l r : List Nat) (t : Nat × Nat × Nat) : mf (l ++ r) t = mf r (mf l t) := by
  induction l generalizing t with
  | nil => rfl
  | cons x l ih => simp only [List.cons_append, mf]; exact ih _
theorem mf_ok : ∀ (l : List Nat) (t : Nat × Nat × Nat), MOk t.2.1 t.2.2 → (∀ x ∈ l, x ≤ 1000000) → t.1 + l.length ≤ 1000000 → MOk (mf l t).2.1 (mf l t).2.2 ∧ (mf l t).1 = t.1 + l.length
  | [], t, h, _, _ => ⟨h, by simp [mf]⟩
  | x :: l, t, h, hx, hl => by
    simp only [List.length_cons] at hl
    obtain ⟨h1, -, -⟩ := note_both (n := t.1) h (hx x (by simp)) (by omega)
    obtain ⟨h2, h3⟩ := mf_ok l (t.1 + 1, nt t.1 t.2.1 t.2.2 x) h1 (fun y hy => hx y (by simp [hy])) (by simp; omega)
    simp only [mf]
    exact ⟨h2, by rw [h3]; simp; omega⟩
/-- of those that are remembered: what came -/
def cameL (last : Int) (f : Nat → Bool) (q : List (Nat × Nat)) : List (Nat × Nat) := q.filter fun x => covS last f x.1
def leftL (last : Int) (f : Nat → Bool) (q : List (Nat × Nat)) : List (Nat × Nat) := q.filter fun x => !covS last f x.1
def waysL (tk : Int) (q : List (Nat × Nat)) : List Nat := q.map fun x => clp tk - x.2
theorem waysL_le (tk : Int) (q : List (Nat × Nat)) : ∀ x ∈ waysL tk q, x ≤ 1000000 := fun x hx => by
  simp only [waysL, List.mem_map] at hx
  obtain ⟨y, -, rfl⟩ := hx
  have := clp_le tk; omega
/-- the meter behind what came -/
noncomputable def meterL (last : Int) (f : Nat → Bool) (tk : Int) (q : List (Nat × Nat)) (t : Nat × Nat × Nat) : Nat × Nat × Nat := mf (waysL tk (cameL last f q)) t
theorem take_snoc {α : Type} {q : List α} {k : Nat} {x : α} (h : q[k]? = some x) : q.take (k + 1) = q.take k ++ [x] := by
  rw [List.take_add_one, h]; rfl
theorem cameL_snoc (last : Int) (f : Nat → Bool) (q : List (Nat × Nat)) (x : Nat × Nat) : cameL last f (q ++ [x]) = if covS last f x.1 = true then cameL last f q ++ [x] else cameL last f q := by
  unfold cameL; rw [List.filter_append]; by_cases h : covS last f x.1 = true <;> simp [h]
theorem leftL_snoc (last : Int) (f : Nat → Bool) (q : List (Nat × Nat)) (x : Nat × Nat) : leftL last f (q ++ [x]) = if covS last f x.1 = true then leftL last f q else leftL last f q ++ [x] := by
  unfold leftL; rw [List.filter_append]; by_cases h : covS last f x.1 = true <;> simp [h]
/-- what Take leaves -/
def TakeP (w : World) (b o base nx : Nat) (T : TypeId) (vs : Array Value) (wv : Value) (s : WS) (q : List (Nat × Nat)) (t : Nat × Nat × Nat) (p : Pk) (fa : Nat → Bool) (tk : Int) (e : Ending) (w' : World) : Prop :=
  ∃ (us : Array Value) (wv' : Value) (q' : List (Nat × Nat)) (t' : Nat × Nat × Nat), e = .returned (.bool (decide ((noteS s p.seq).1 = 1))) ∧
    (if (noteS s p.seq).1 = 1 ∧ p.any = true then q' = leftL p.last fa q ∧ t' = meterL p.last fa tk q t else q' = q ∧ t' = t) ∧
    Blk w' b us T ∧ LinkS us o nx wv' (noteS s p.seq).2 t'.1 t'.2.1 t'.2.2 ∧ Out vs us o 8 ∧ w'.ownsRow base 103 2 wv' q'.length (pr q') ∧ (wv' = wv ∨ ∀ g, wv'.ownBlock = some g → w.heap.size ≤ g) ∧ Fr [b] w w'
theorem take_same {w w2 : World} {b o base nx : Nat} {T : TypeId} {vs us : Array Value} {wv : Value} {s s' : WS} {q : List (Nat × Nat)} {t : Nat × Nat × Nat} {p : Pk} {fa : Nat → Bool} {tk : Int} {r : Bool} (hB : Blk w b vs T) (hd : Sub vs o [.int .i64 nx, wv]) (hm : MtrS vs (o + 5) t.1 t.2.1 t.2.2) (hown : w.ownsRow base 103 2 wv q.length (pr q)) (hT : T ≠ 103)
    (hB2 : Blk w2 b us T) (hW2 : WinS us (o + 2) s') (hO2 : Out vs us (o + 2) 3) (hF2 : Fr [b] w w2) (hs : (noteS s p.seq).2 = s') (hr : r = decide ((noteS s p.seq).1 = 1)) (hc : ¬ ((noteS s p.seq).1 = 1 ∧ p.any = true)) : TakeP w b o base nx T vs wv s q t p fa tk (.returned (.bool r)) w2 := by
  refine ⟨us, wv, q, t, by rw [hr], by rw [if_neg hc]; exact ⟨rfl, rfl⟩, hB2, ⟨hd.out hO2 (by simp), by rw [hs]; exact hW2, hm.out hO2 (by simp)⟩, hO2.wider (by omega) (by omega), own_keep hown hF2 (fun y hy => ?_), .inl rfl, hF2⟩
  have := own_notin hown hB hT
  simp only [Option.mem_toList] at this
  intro hx; simp at hx; subst hx; exact this hy
set_option maxRecDepth 100000 in
set_option maxHeartbeats 6400000 in
theorem take_any {w : World} {b o base nx : Nat} {T : TypeId} {vs : Array Value} {wv : Value} {s : WS} {q : List (Nat × Nat)} {t : Nat × Nat × Nat} {tk : Int} {fa : Nat → Bool} (h : Blk w b vs T) (H : LinkS vs o nx wv s t.1 t.2.1 t.2.2) (hT : T ≠ 103) (hown : w.ownsRow base 103 2 wv q.length (pr q)) (hbase : base ≤ w.heap.size) (hq : q.length ≤ 32) (htk : ∀ x ∈ q, x.2 ≤ 1000000000000) (ht : MOk t.2.1 t.2.2) (hn : t.1 ≤ 900000) (p : Pk) (hfa : Bt p.acks fa) :
    Calls Try.prog 14 #[.pointer (some ⟨b, o, none⟩), p.v, .int .i64 tk] w (TakeP w b o base nx T vs wv s q t p fa tk) := by
  obtain ⟨kind, slot, sq, last, pany, acks, got, first, ia, il, ic, pl, ra, rl, rcp, frame, mark⟩ := p
  dsimp only [Pk.v]
  obtain ⟨n0, m0, j0⟩ := t
  simp only at H ht hn
  obtain ⟨hd, hwin, hmtr⟩ := H
  have hlt := h.lt
  have HNOTE := Lib.hid (fun (w1 : World) (hF : Fr [] w w1) => note_at (n := sq) (hF.blk h (by simp)) hwin)
  have HB := Lib.hid h; have HD := Lib.hid hd; have HM := Lib.hid hmtr; have HO := Lib.hid hown; have HT := Lib.hid hT; have HFA := Lib.hid hfa; have HMO := Lib.hid ht
  have HTK := Lib.hid htk
  clear h hd hwin hmtr hown hT hfa ht htk
  obtain ⟨c, hc⟩ : ∃ c, (noteS s sq).1 = c := ⟨_, rfl⟩
  obtain ⟨s', hs'⟩ : ∃ s', (noteS s sq).2 = s' := ⟨_, rfl⟩
  have HC := Lib.hid hc; have HS' := Lib.hid hs'
  have HNOTE2 := Lib.hid (show ∀ (w1 : World), Fr [] w w1 → Calls Try.prog 44 #[.pointer (some ⟨b, o + 2, none⟩), .int .i64 sq] w1 fun e w' => e = .returned (.int .i64 c) ∧ (∃ us, Blk w' b us T ∧ WinS us (o + 2) s' ∧ Out vs us (o + 2) 3) ∧ Fr [b] w1 w' by rw [← hc, ← hs']; exact HNOTE.out)
  clear HNOTE hc hs'
  by_cases hc1 : c = 1
  · have q1 : (c != 1) = false := by simp [hc1]
    have HC1 := Lib.hid hc1
    clear hc1
    go_enter Try.func14, Try.ntmps14
    go_wp2_with fail
    have hP := Blk.new w #[.int .i64 kind, .int .i64 slot, .int .i64 sq, .int .i64 last, .bool pany, .int .u64 acks, .int .i64 got, .int .i64 first, .slice ia il ic, .int .i64 pl, .slice ra rl rcp, .int .i64 frame, .int .i64 mark] 38
    have hF1 := (Fr.refl [] w).alloc (.cells #[.int .i64 kind, .int .i64 slot, .int .i64 sq, .int .i64 last, .bool pany, .int .u64 acks, .int .i64 got, .int .i64 first, .slice ia il ic, .int .i64 pl, .slice ra rl rcp, .int .i64 frame, .int .i64 mark] 38)
    generalize w.alloc (.cells #[.int .i64 kind, .int .i64 slot, .int .i64 sq, .int .i64 last, .bool pany, .int .u64 acks, .int .i64 got, .int .i64 first, .slice ia il ic, .int .i64 pl, .slice ra rl rcp, .int .i64 frame, .int .i64 mark] 38) = w1 at *
    have p2 := Blk.cell (i := 2) hP rfl
    simp only [List.getElem_toArray, List.getElem_cons_zero, List.getElem_cons_succ] at p2
    go_still_tail 5, (by kernel_rfl)
    change wpList _ _ _ _ _ w1.drew
    go_wp2_with fail
    refine (HNOTE2.out _ hF1.drew).mono ?_; rintro e w2 ⟨rfl, ⟨us, hB2, hW2, hO2⟩, hF2⟩
    have HB2 := Lib.hid hB2; have HW2 := Lib.hid hW2; have HO2 := Lib.hid hO2; have HF2 := Lib.hid ((hF1.drew.mono (S' := [b]) (by simp)).trans hF2 (fun x hx => .inl hx))
    have HF2b := Lib.hid hF2; have HP := Lib.hid hP.drew
    clear hB2 hW2 hO2 hF2 p2 hP
    cases pany with
    | false =>
      have p4 := Blk.cell (i := 4) (HF2b.out.blk HP.out (by simp; omega)) rfl
      simp only [List.getElem_toArray, List.getElem_cons_zero, List.getElem_cons_succ] at p4
      go_wp2_with fail
      go_ret
      exact take_same HB.out HD.out HM.out HO.out HT.out HB2.out HW2.out HO2.out HF2.out HS'.out (by rw [HC.out]; exact (decide_eq_true HC1.out).symm) (fun h => by cases h.2)
    | true =>
      have hP2 := HF2b.out.blk HP.out (by simp; omega)
      have p4 := Blk.cell (i := 4) hP2 rfl
      simp only [List.getElem_toArray, List.getElem_cons_zero, List.getElem_cons_succ] at p4
      have hs1 := HD.out.out HO2.out (by simp)
      obtain ⟨wa, wc, rfl, hwc1, hwc2⟩ := own_val HO.out
      have c1 := Blk.cell HB2.out (hs1.at (i := 1) rfl)
      have HP2 := Lib.hid hP2; have HS1 := Lib.hid hs1; have HQ := Lib.hid hq; have HWC := Lib.hid (And.intro hwc1 hwc2)
      have hM2 := Sub.out HM.out HO2.out (by simp)
      have HMM := Lib.hid (show MtrS us (o + 5) n0 m0 j0 from hM2)
      have hnotb := own_notin HO.out HB.out HT.out
      have HOr := Lib.hid (fun (w' : World) (hF : Fr [b] w w') => own_keep HO.out hF (fun y hy hx => by
        simp only [Option.mem_toList] at hnotb
        simp at hx; subst hx; exact hnotb hy))
      have hqn : q.length ≤ maxLen := by unfold maxLen; omega
      have hsz : w.heap.size ≤ w2.heap.size := HF2.out.size
      have hsz1 : w.heap.size < w2.heap.size := HP2.out.lt
      obtain ⟨i0, hi0, hz0, hz1, hz2⟩ := info_parts infSent
      clear hP2 hs1 hwc1 hwc2 hM2 hnotb
      go_wp2_with fail
      clear p4 c1
      obtain ⟨g, hg⟩ : ∃ g, w.heap.size = g := ⟨_, rfl⟩
      rw [hg] at HP2 hsz hsz1 hlt hbase ⊢
      have HG := Lib.hid hg
      clear hg
      go_loopw [7, 25] (fun lv iv wr => ∃ (k : Nat) (ur : Array Value) (n m j : Nat), k ≤ q.length ∧ iv = .int .i64 k ∧ Blk wr b ur T ∧ Out us ur (o + 5) 3 ∧ MtrS ur (o + 5) n m j ∧ (n, m, j) = meterL last fa tk (q.take k) (n0, m0, j0) ∧ wr.ownsRow w2.heap.size 103 2 lv (leftL last fa (q.take k)).length (pr (leftL last fa (q.take k))) ∧ Fr [b] w2 wr) (fun _ iv _ => q.length - (intOf iv).toNat)
      case atStart => exact ⟨0, us, n0, m0, j0, Nat.zero_le _, rfl, HB2.out, Out.refl _ _ _, HMM.out, rfl, own_nil _ _ _ _, Fr.refl _ _⟩
      case round =>
        obtain ⟨k, ur, n, m, j, hk, rfl, hBr, hOr, hMr, hme, hlo, hFr⟩ := hrel
        by_cases hlt2 : k < q.length
        · have q3 : (k : Int) < q.length := by omega
          have q4 : (0 : Int) ≤ k := by omega
          have hqk : q[k]? = some q[k] := List.getElem?_eq_getElem hlt2
          obtain ⟨xs, hxs⟩ : ∃ xs, q[k] = xs := ⟨_, rfl⟩
          rw [hxs] at hqk
          obtain ⟨xa, xt⟩ := xs
          have hw9 := HOr.out wr (HF2.out.trans hFr (fun x hx => .inl hx))
          obtain ⟨g0, cap0, hv0, hg0, hcap0, hcap1⟩ := own_form hw9 (by omega)
          cases hv0
          obtain ⟨hp1, hp2⟩ := pr_get hqk
          have d1 : wr.cell? ⟨g0, k * 2, none⟩ = some (.int .i64 xa) := by rw [hw9.cellAt _ (by omega)]; exact hp1
          have d2 : wr.cell? ⟨g0, k * 2 + 1, none⟩ = some (.int .i64 xt) := by rw [hw9.cellAt _ (by omega)]; exact hp2
          have HPr := Lib.hid (hFr.blk HP2.out (by simp; omega))
          have l3 := Blk.cell (i := 3) HPr.out rfl
          have l5 := Blk.cell (i := 5) HPr.out rfl
          simp only [List.getElem_toArray, List.getElem_cons_zero, List.getElem_cons_succ] at l3 l5
          have l3' : ∀ ob, (wr.alloc ob).cell? ⟨g, 3, none⟩ = some (.int .i64 last) := fun ob => Blk.cell (HPr.out.alloc ob) rfl
          have l5' : ∀ ob, (wr.alloc ob).cell? ⟨g, 5, none⟩ = some (.int .u64 acks) := fun ob => Blk.cell (HPr.out.alloc ob) rfl
          have hszr : w2.heap.size ≤ wr.heap.size := hFr.size
          have HBr := Lib.hid hBr; have HOO := Lib.hid hOr; have HMr := Lib.hid hMr; have HME := Lib.hid hme; have HLO := Lib.hid hlo; have HFR := Lib.hid hFr; have HQK := Lib.hid hqk
          clear hBr hOr hMr hme hlo hFr hqk hxs hw9 hp1 hp2
          go_wp2_with fail
          refine (covers_any _ _ _ _ _ HFA.out).mono ?_; rintro e w' ⟨rfl, rfl⟩
          have hX := Blk.new wr #[.int .i64 xa, .int .i64 xt] 103
          have hF3 := (Fr.refl [] wr).alloc (.cells #[.int .i64 xa, .int .i64 xt] 103)
          have hts := take_snoc HQK.out
          have hcs := cameL_snoc last fa (q.take k) (xa, xt)
          have hls := leftL_snoc last fa (q.take k) (xa, xt)
          rw [← hts] at hcs hls
          have HCS := Lib.hid hcs; have HLS := Lib.hid hls
          clear hts hcs hls l3 l5 l3' l5' d1 d2
          obtain ⟨X, hXe⟩ : ∃ X, wr.heap.size = X := ⟨_, rfl⟩
          rw [hXe] at hX hszr ⊢
          have HXE := Lib.hid hXe
          have hmk := mf_ok (waysL tk (cameL last fa (q.take k))) (n0, m0, j0) HMO.out (waysL_le _ _) (by
            have h1 : (cameL last fa (q.take k)).length ≤ (q.take k).length := List.length_filter_le _ _
            have h2 : (waysL tk (cameL last fa (q.take k))).length = (cameL last fa (q.take k)).length := by simp [waysL]
            have h3 : (q.take k).length ≤ k := List.length_take_le _ _
            simp only; omega)
          have hnk : n ≤ 950000 ∧ MOk m j := by
            have e := HME.out
            unfold meterL at e
            rw [← e] at hmk
            simp only at hmk
            have h1 : (cameL last fa (q.take k)).length ≤ (q.take k).length := List.length_filter_le _ _
            have h2 : (waysL tk (cameL last fa (q.take k))).length = (cameL last fa (q.take k)).length := by simp [waysL]
            have h3 : (q.take k).length ≤ k := List.length_take_le _ _
            exact ⟨by omega, hmk.1⟩
          obtain ⟨hn1, hmok⟩ := hnk
          have HMOK := Lib.hid hmok
          clear hmk hmok hXe
          have hB3 := hF3.blk HBr.out (by simp)
          have HB3 := Lib.hid hB3
          have HLO3 := Lib.hid (own_fr (S := []) HLO.out hF3 (by simp))
          have HFR3 := Lib.hid (HFR.out.trans hF3 (by simp))
          clear hB3 hF3
          generalize wr.alloc (.cells #[.int .i64 xa, .int .i64 xt] 103) = w3 at *
          cases hcv : covS last fa (xa : Int) with
          | true =>
            have HCV := Lib.hid hcv
            clear hcv
            have x1 := Blk.cell (i := 1) hX rfl
            simp only [List.getElem_toArray, List.getElem_cons_zero, List.getElem_cons_succ] at x1
            obtain ⟨sn, hsn⟩ : ∃ sn, clp tk - xt = sn := ⟨_, rfl⟩
            have hsn2 : sn ≤ 1000000 := by have := clp_le tk; omega
            obtain ⟨d, hd⟩ : ∃ d, IntKind.i64.wrap ((clp tk : Int) - xt) = d := ⟨_, rfl⟩
            have hmx : (if 0 < d then d else 0) = (sn : Int) := by
              have := clp_le tk
              have hxt : xt ≤ 1000000000000 := HTK.out _ (List.mem_of_getElem? HQK.out)
              have e : d = (clp tk : Int) - xt := by rw [← hd]; exact IntWalk.i64_in _ (by omega)
              rw [e]; split <;> omega
            have HNB := Lib.hid (note_both (n := n) (m := m) (j := j) (s := sn) HMOK.out hsn2 (by omega))
            have HSN := Lib.hid hsn
            clear hsn hsn2
            go_upto_region 10 with (fail)
            go_still_tail 10, (by kernel_rfl)
            still_call ((clp_any tk _).mono fun _ _ ⟨a, b⟩ => (⟨a, b.symm⟩ : _ ∧ _))
            repeat still_step
            refine wpStill_nil ?_
            change wpList _ _ _ _ _ w3.drew
            clear hmx hd x1
            go_wp2_with fail
            refine (HNB.out.2.1 _ _ _ _ _ HB3.out.drew (HMr.out)).mono ?_; rintro e w4 ⟨rfl, ⟨us4, hB4, hM4, hO4⟩, hF4⟩
            have HB4 := Lib.hid hB4; have HM4 := Lib.hid hM4; have HO4 := Lib.hid hO4; have HF4 := Lib.hid hF4
            clear hB4 hM4 hO4 hF4 hX
            go_wp2_with fail
            go_roundw
            case rel =>
              have hnb : b ∉ (Value.ownBlock u7).toList := own_notin HLO3.out HB3.out HT.out
              refine ⟨k + 1, us4, n + 1, (nt n m j sn).1, (nt n m j sn).2, by omega, by go_num, HB4.out, HOO.out.trans HO4.out, by simpa using HM4.out, ?_, ?_, HFR3.out.drew.trans HF4.out (fun x hx => .inl hx)⟩
              · have e := HME.out
                unfold meterL at e ⊢
                rw [HCS.out, if_pos HCV.out]
                have e2 : waysL tk (cameL last fa (List.take k q) ++ [(xa, xt)]) = waysL tk (cameL last fa (List.take k q)) ++ [clp tk - xt] := by simp [waysL]
                rw [e2, mf_app, ← e, HSN.out]
                rfl
              · rw [HLS.out, if_pos HCV.out]
                exact own_keep HLO3.out ((Fr.refl [b] w3).drew.trans HF4.out (fun x hx => .inl hx)) (fun y hy hx => by
                  simp only [Option.mem_toList] at hnb
                  simp at hx; subst hx; exact hnb hy)
            case measure => simp [intOf]; omega
          | false =>
            have HCV := Lib.hid hcv
            clear hcv
            have x0 := Blk.cell (i := 0) hX rfl
            have x1 := Blk.cell (i := 1) hX rfl
            simp only [List.getElem_toArray, List.getElem_cons_zero, List.getElem_cons_succ] at x0 x1
            have hll : (leftL last fa (q.take k)).length ≤ 32 := by
              have h1 : (leftL last fa (q.take k)).length ≤ (q.take k).length := List.length_filter_le _ _
              have h3 : (q.take k).length ≤ k := List.length_take_le _ _
              omega
            go_upto_region 11 with (fail)
            apply wp_region_lit
            iterate 3 (refine wpList_plain rfl (fun K hK => ?_); go_simp; refine hK _ _ ?_; clear hK K)
            have hnb := Blk.new w3 #[.int .i64 xa, .int .i64 xt] 103
            have hF4 := (Fr.refl [] w3).alloc (.cells #[.int .i64 xa, .int .i64 xt] 103)
            have hlo4 := own_fr (S := []) HLO3.out hF4 (by simp)
            have hw24 : w2.heap.size ≤ (w3.alloc (.cells #[.int .i64 xa, .int .i64 xt] 103)).heap.size := Nat.le_trans HFR3.out.size hF4.size
            refine wpList_append_src _ rfl (Operand.tmp 47) (Operand.tmp 49) 24 rfl w2.heap.size 103 i0 _ 2 16 Try.underlying24 hi0 hz0 hz1 hz2 rfl (by decide) u7 (.slice (some ⟨w3.heap.size, 0, none⟩) 1 1) (leftL last fa (q.take k)).length 1 (pr (leftL last fa (q.take k))) (pr [(xa, xt)]) rfl (by kernel_rfl) hlo4 (src_blk hnb (by simp) (by simp [Value.oneCell']) 1) (by unfold maxLen; omega) (by omega) hw24 ?_
            intro v5 w5 ho5 hg5 hat5
            have hF5 := fr_own (HFR3.out.trans hF4 (by simp)) hlo4 hg5 (Nat.le_refl _)
            have hB5 := blk_own (hF4.blk HB3.out (by simp)) hlo4 hg5 (by have := HB2.out.lt; omega)
            rw [← pr_app] at ho5
            have HO5 := Lib.hid ho5; have HF5 := Lib.hid hF5; have HB5 := Lib.hid hB5
            clear hnb hF4 hlo4 hw24 ho5 hg5 hat5 hF5 hB5 hX x0 x1
            go_wp2_with fail
            go_roundw
            case rel =>
              refine ⟨k + 1, ur, n, m, j, by omega, by go_num, HB5.out, HOO.out, HMr.out, ?_, ?_, HF5.out⟩
              · have e := HME.out
                unfold meterL at e ⊢
                rw [HCS.out, if_neg (by rw [HCV.out]; decide)]; exact e
              · rw [HLS.out, if_neg (by rw [HCV.out]; decide), List.length_append]; exact HO5.out
            case measure => simp [intOf]; omega
        · have hke : k = q.length := by omega
          subst hke
          have q3 : ¬ ((q.length : Int) < q.length) := by omega
          rw [List.take_length] at hlo hme
          obtain ⟨la, lc, hu7, -, -⟩ := own_val hlo
          subst hu7
          have hs2 := HS1.out.out hOr (by simp)
          have c1 := Blk.cell hBr (hs2.at (i := 1) rfl)
          have f1 := Blk.free hBr (o + 1)
          have hB5 := hBr.set (o + 1) (Value.slice la (leftL last fa q).length lc)
          have hS5 := hs2.set (i := 1) (by simp) (Value.slice la (leftL last fa q).length lc)
          have hO5 := (Out.refl ur o 2).set (i := 1) (by decide) (Value.slice la (leftL last fa q).length lc)
          have hW5 := (HW2.out.out hOr (.inl (by omega))).out hO5 (.inr (by omega))
          have hM5 := Sub.out hMr hO5 (.inr (by omega))
          have hnb := own_notin hlo hBr HT.out
          have hL5 := own_keep hlo ((Fr.refl [b] wr).setCell (p := ⟨b, o + 1, none⟩) (.inl (by simp)) (Value.slice la (leftL last fa q).length lc)) (fun y hy hx => by
            simp only [Option.mem_toList] at hnb
            simp at hx; subst hx; exact hnb hy)
          have hF5 := (HF2.out.trans hFr (fun x hx => .inl hx)).setCell (p := ⟨b, o + 1, none⟩) (.inl (by simp)) (Value.slice la (leftL last fa q).length lc)
          have hlv : ∀ g', (Value.slice la (leftL last fa q).length lc).ownBlock = some g' → w.heap.size ≤ g' := fun g' hg' => by
            have := own_base hlo hg'
            rw [HG.out]; omega
          have HB5 := Lib.hid hB5; have HS5 := Lib.hid hS5; have HO5 := Lib.hid hO5; have HW5 := Lib.hid hW5; have HM5 := Lib.hid hM5; have HL5 := Lib.hid (own_weaken hL5 (by omega : base ≤ w2.heap.size)); have HF5 := Lib.hid hF5; have HLV := Lib.hid hlv; have HME := Lib.hid hme; have HOO := Lib.hid hOr
          clear hB5 hS5 hO5 hW5 hM5 hL5 hF5 hlv hme hOr hs2 hBr hMr hlo hFr hnb
          go_wp2_with fail
          go_ret
          have hcc : (noteS s sq).1 = 1 ∧ true = true := ⟨by rw [HC.out, HC1.out], rfl⟩
          have e := HME.out
          refine ⟨_, (Value.slice la (leftL last fa q).length lc), leftL last fa q, (n, m, j), by rw [HC.out, HC1.out]; rfl, ?_, HB5.out, ⟨HS5.out, by rw [HS'.out]; exact HW5.out, HM5.out⟩, ((HO2.out.wider (p := o) (m := 8) (by omega) (by omega)).trans (HOO.out.wider (by omega) (by omega))).trans (HO5.out.wider (Nat.le_refl _) (by omega)), HL5.out, .inr HLV.out, HF5.out⟩
          exact (if_pos hcc).mpr ⟨rfl, e⟩
  · have q1 : (c != 1) = true := by simp [hc1]
    have HC1 := Lib.hid hc1
    clear hc1
    go_enter Try.func14, Try.ntmps14
    go_wp2_with fail
    have hP := Blk.new w #[.int .i64 kind, .int .i64 slot, .int .i64 sq, .int .i64 last, .bool pany, .int .u64 acks, .int .i64 got, .int .i64 first, .slice ia il ic, .int .i64 pl, .slice ra rl rcp, .int .i64 frame, .int .i64 mark] 38
    have hF1 := (Fr.refl [] w).alloc (.cells #[.int .i64 kind, .int .i64 slot, .int .i64 sq, .int .i64 last, .bool pany, .int .u64 acks, .int .i64 got, .int .i64 first, .slice ia il ic, .int .i64 pl, .slice ra rl rcp, .int .i64 frame, .int .i64 mark] 38)
    generalize w.alloc (.cells #[.int .i64 kind, .int .i64 slot, .int .i64 sq, .int .i64 last, .bool pany, .int .u64 acks, .int .i64 got, .int .i64 first, .slice ia il ic, .int .i64 pl, .slice ra rl rcp, .int .i64 frame, .int .i64 mark] 38) = w1 at *
    have p2 := Blk.cell (i := 2) hP rfl
    simp only [List.getElem_toArray, List.getElem_cons_zero, List.getElem_cons_succ] at p2
    go_still_tail 5, (by kernel_rfl)
    change wpList _ _ _ _ _ w1.drew
    go_wp2_with fail
    refine (HNOTE2.out _ hF1.drew).mono ?_; rintro e w2 ⟨rfl, ⟨us, hB2, hW2, hO2⟩, hF2⟩
    have HB2 := Lib.hid hB2; have HW2 := Lib.hid hW2; have HO2 := Lib.hid hO2; have HF2 := Lib.hid ((hF1.drew.mono (S' := [b]) (by simp)).trans hF2 (fun x hx => .inl hx))
    clear hB2 hW2 hO2 hF2 p2
    go_wp2_with fail
    go_ret
    exact take_same HB.out HD.out HM.out HO.out HT.out HB2.out HW2.out HO2.out HF2.out HS'.out (by rw [HC.out]; exact (decide_eq_false HC1.out).symm) (fun h => HC1.out (by rw [← HC.out]; exact h.1))
end Go.Proofs.Ytkjjikjilmngdaa.Lk
