/- chapter 24: Send. -/
import Derived.Test.YtkjjikjilmngdaaNt8
namespace Go.Proofs.Ytkjjikjilmngdaa.Nt
open Go.RowKit Dt Go.Proofs.Ytkjjikjilmngdaa.Hd
set_option linter.unusedVariables false
set_option linter.unusedSimpArgs false

/-- a slice that reads as these bytes, apart from the blocks of X, and older than lo -/
structure AV (w : World) (X : List Nat) (lo : Nat) (a : Option Addr) (n c : Nat) (bs : List Nat) : Prop where
  ls : LS w (.slice a n c) (u8s bs)
  lt : ∀ x ∈ bs, x < 256
  ap : 0 < bs.length → ∀ g, (Value.slice a n c).ownBlock = some g → g ∉ X ∧ g < lo
theorem AV.len {w : World} {X : List Nat} {lo : Nat} {a : Option Addr} {n c : Nat} {bs : List Nat} (h : AV w X lo a n c bs) : n = bs.length := by have := h.ls.len; rwa [u8s_len] at this
theorem ls_empty {w w' : World} {a : Option Addr} {n c : Nat} {bs : List Nat} (h : LS w (.slice a n c) (u8s bs)) (h0 : bs.length = 0) : LS w' (.slice a n c) (u8s bs) := by
  have : bs = [] := List.eq_nil_of_length_eq_zero h0
  subst this
  obtain ⟨a', cap, e, hl, hm, hn, hc⟩ := h.ex
  exact ⟨a', cap, e, hl, hm, hn, fun h => by simp [u8s] at h⟩
theorem AV.fr {S : List Nat} {w w' : World} {X : List Nat} {lo : Nat} {a : Option Addr} {n c : Nat} {bs : List Nat} (h : AV w X lo a n c bs) (hF : Fr S w w') (hS : ∀ x ∈ S, x ∈ X ∨ lo ≤ x) : AV w' X lo a n c bs := by
  refine ⟨?_, h.lt, h.ap⟩
  rcases Nat.eq_zero_or_pos bs.length with h0 | h0
  · exact ls_empty h.ls h0
  · exact h.ls.fr hF (fun g hg hx => by
      obtain ⟨k1, k2⟩ := h.ap h0 g hg
      rcases hS g hx with e | e
      · exact k1 e
      · omega)
/-- a datagram as a value -/
def dgC (src dst : Int) (a : Option Addr) (l c : Nat) : Array Value := #[.int .i64 src, .int .i64 dst, .slice a l c]
def CopyP (w : World) (src dst : Int) (bs : List Nat) (e : Ending) (w' : World) : Prop := ∃ a c, e = .returned (.agg (dgC src dst a bs.length c)) ∧ BV w' a bs.length c bs ∧ Fr [] w w'
set_option maxRecDepth 100000 in
set_option maxHeartbeats 3200000 in
theorem copied_any {w : World} {src dst : Int} {a : Option Addr} {l c : Nat} {bs : List Nat} (h : LS w (.slice a l c) (u8s bs)) (hlt : ∀ x ∈ bs, x < 256) (hn : bs.length ≤ 140737488351232) :
    Calls Try.prog 61 #[.agg (dgC src dst a l c)] w (CopyP w src dst bs) := by
  obtain rfl : l = bs.length := by have := h.len; rwa [u8s_len] at this
  unfold dgC
  have HB := Lib.hid h
  clear h
  go_enter Try.func61, Try.ntmps61
  go_wp2_with fail
  have hX := (Blk.new w #[.int .i64 src, .int .i64 dst, .slice a bs.length c] 75).alloc (.cells #[.int .i64 0, .int .i64 0, .slice none 0 0] 75)
  have hR := Blk.new (w.alloc (.cells #[.int .i64 src, .int .i64 dst, .slice a bs.length c] 75)) #[.int .i64 0, .int .i64 0, .slice none 0 0] 75
  rw [show (w.alloc (.cells #[.int .i64 src, .int .i64 dst, .slice a bs.length c] 75)).heap.size = w.heap.size + 1 by simp] at hR
  have hF := ((Fr.refl [] w).alloc (.cells #[.int .i64 src, .int .i64 dst, .slice a bs.length c] 75)).alloc (.cells #[.int .i64 0, .int .i64 0, .slice none 0 0] 75)
  generalize (w.alloc (.cells #[.int .i64 src, .int .i64 dst, .slice a bs.length c] 75)).alloc (.cells #[.int .i64 0, .int .i64 0, .slice none 0 0] 75) = w1 at *
  have hv := HB.out.fr0 hF
  have hsrc := hv.src (u8s_one _)
  rw [u8s_len] at hsrc
  refine (clone_U8 (n := bs.length) (xs := u8s bs) hsrc (fun g hg h0 => hv.lt hg h0) hn).mono ?_; rintro e w2 ⟨v2, rfl, hown, hF2⟩
  have hw1 := hF.size
  have hl2 := hR.lt
  obtain ⟨a2, c2, rfl, hbv⟩ := BV.of_own hown hlt
  have hX2 := hF2.blk hX (by simp)
  have hR2 := hF2.blk hR (by simp)
  have hF3 := hF.trans hF2 (by simp)
  have hob := fun g hg => own_base (g := g) hown hg
  clear hX hR hF hF2 hsrc hv hown
  have x0 := Blk.cell (i := 0) hX2 rfl
  have x1 := Blk.cell (i := 1) hX2 rfl
  have x2 := Blk.cell (i := 2) hX2 rfl
  have fx2 := Blk.free hX2 2
  simp only [List.getElem_toArray, List.getElem_cons_zero, List.getElem_cons_succ] at x0 x1 x2
  have HX := Lib.hid hX2; have HR := Lib.hid hR2; have HF := Lib.hid hF3; have HV := Lib.hid hbv; have HOB := Lib.hid hob
  clear hX2 hR2 hF3 hbv hob
  go_upto_region 2 with (fail)
  have hX4 := (HX.out.set 2 (.slice a2 bs.length c2)).eq (us := #[.int .i64 src, .int .i64 dst, .slice a2 bs.length c2]) (by simp)
  have hR4 := HR.out.other (a := ⟨w.heap.size, 2, none⟩) (by simp) (.slice a2 bs.length c2)
  have hF4' := (Fr.refl [w.heap.size] w2).setCell (p := ⟨w.heap.size, 2, none⟩) (.inl (by simp)) (.slice a2 bs.length c2)
  have hF4 := HF.out.trans hF4' (fun x hx => .inr (by simp at hx; omega))
  have hV4 := HV.out.fr hF4' (NoU8.cons HX.out (by decide) (NoU8.nil _))
  clear x0 x1 x2 fx2 HX HR HF HV hF4'
  generalize w2.setCell ⟨w.heap.size, 2, none⟩ (.slice a2 bs.length c2) = w3 at *
  have x0 := Blk.cell (i := 0) hX4 rfl
  have x1 := Blk.cell (i := 1) hX4 rfl
  have x2 := Blk.cell (i := 2) hX4 rfl
  have r0 := Blk.cell (i := 0) hR4 rfl
  have r1 := Blk.cell (i := 1) hR4 rfl
  have r2 := Blk.cell (i := 2) hR4 rfl
  have g0 := Blk.free hR4 0
  have g1 := Blk.free hR4 1
  have g2 := Blk.free hR4 2
  simp only [List.getElem_toArray, List.getElem_cons_zero, List.getElem_cons_succ] at x0 x1 x2 r0 r1 r2
  have HR := Lib.hid hR4; have HF := Lib.hid hF4; have HV := Lib.hid hV4
  clear hX4 hR4 hF4 hV4
  go_wp2_with fail
  have hR5 : Blk (((w3.setCell ⟨w.heap.size + 1, 0, none⟩ (.int .i64 src)).setCell ⟨w.heap.size + 1, 1, none⟩ (.int .i64 dst)).setCell ⟨w.heap.size + 1, 2, none⟩ (.slice a2 bs.length c2)) (w.heap.size + 1) #[.int .i64 src, .int .i64 dst, .slice a2 bs.length c2] 75 := (((HR.out.set 0 (.int .i64 src)).set 1 (.int .i64 dst)).set 2 (.slice a2 bs.length c2)).eq (by simp)
  have hF5 : Fr [w.heap.size + 1] w3 (((w3.setCell ⟨w.heap.size + 1, 0, none⟩ (.int .i64 src)).setCell ⟨w.heap.size + 1, 1, none⟩ (.int .i64 dst)).setCell ⟨w.heap.size + 1, 2, none⟩ (.slice a2 bs.length c2)) := (((Fr.refl [w.heap.size + 1] w3).setCell (p := ⟨w.heap.size + 1, 0, none⟩) (.inl (by simp)) _).setCell (p := ⟨w.heap.size + 1, 1, none⟩) (.inl (by simp)) _).setCell (p := ⟨w.heap.size + 1, 2, none⟩) (.inl (by simp)) _
  clear x0 x1 x2 r0 r1 r2 g0 g1 g2
  generalize ((w3.setCell ⟨w.heap.size + 1, 0, none⟩ (.int .i64 src)).setCell ⟨w.heap.size + 1, 1, none⟩ (.int .i64 dst)).setCell ⟨w.heap.size + 1, 2, none⟩ (.slice a2 bs.length c2) = w5 at *
  have r0 := Blk.cell (i := 0) hR5 rfl
  have r1 := Blk.cell (i := 1) hR5 rfl
  have r2 := Blk.cell (i := 2) hR5 rfl
  simp only [List.getElem_toArray, List.getElem_cons_zero, List.getElem_cons_succ] at r0 r1 r2
  refine bodyPost_ret (v := .agg (dgC src dst a2 bs.length c2)) (by simp [results, Try.results61, go_sem, r0, r1, r2, dgC]) rfl ?_
  exact ⟨_, _, rfl, HV.out.fr hF5 (NoU8.cons HR.out (by decide) (NoU8.nil _)), HF.out.trans hF5 (fun x hx => .inr (by simp at hx; omega))⟩
theorem NetS.lost1 {w : World} {b o base : Nat} {T : TypeId} {vs : Array Value} {fv xv : Value} {s : NetV} (h : Blk w b vs T) (H : NetS w vs o base fv xv s) (hT : T ≠ 86) (hT2 : T ≠ 115) (hT3 : T ≠ 5) (hl : s.lost + 1 ≤ 4000000000000000000) :
    NetS (w.setCell ⟨b, o + 2, none⟩ (.int .i64 ((s.lost : Int) + 1))) (vs.setIfInBounds (o + 2) (.int .i64 ((s.lost : Int) + 1))) o base fv xv { s with lost := s.lost + 1 } := by
  have hF := (Fr.refl [b] w).setCell (p := ⟨b, o + 2, none⟩) (.inl (by simp)) (.int .i64 ((s.lost : Int) + 1))
  have hun : NoU8 w [b] := NoU8.cons h hT3 (NoU8.nil _)
  obtain ⟨h1, h2, ⟨V, hV, hfl⟩, hfb, hxb, hlb⟩ := H
  have hfn := own_blk (g := 0) h2 h hT.symm
  have hxn := own_blk (g := 0) hV h hT2.symm
  exact ⟨h1.set (i := 2) (by simp) _, own_keep h2 hF (fun y hy hx => by simp at hx; exact hfn y hy hx), ⟨V, own_keep hV hF (fun y hy hx => by simp at hx; exact hxn y hy hx), hfl.fr hF hun⟩, hfb, hxb, hl⟩
theorem infFl : (Try.prog.info? 115).map (fun i => (i.zero, i.size, i.bytes)) = some (some (.agg #[.int .i64 0, .int .i64 0, .int .i64 0, .slice none 0 0]), 4, 48) := by kernel_rfl
set_option maxRecDepth 100000 in
set_option maxHeartbeats 6400000 in
theorem send_any {w : World} {b o base : Nat} {T : TypeId} {vs : Array Value} {fv xv : Value} {s : NetV} {src dst tick : Int} {a : Option Addr} {l c : Nat} {bs : List Nat} (h : Blk w b vs T) (H : NetS w vs o base fv xv s) (hT : T ≠ 86) (hT2 : T ≠ 115) (hT3 : T ≠ 5) (hbase : base ≤ w.heap.size) (hb : AV w (b :: xv.ownBlock.toList) w.heap.size a l c bs) (hn : bs.length ≤ 140737488351232) (hl : s.lost ≤ 3000000000000000000) :
    Calls Try.prog 27 #[.pointer (some ⟨b, o, none⟩), .agg (dgC src dst a l c), .int .i64 tick] w (NetP w b o base T vs fv xv (.tuple #[]) (sendS s src dst bs tick) (b :: xv.ownBlock.toList)) := by
  obtain ⟨V0, hV0, -⟩ := H.xo
  obtain rfl := hb.len
  have hlt := h.lt
  have HXL := Lib.hid (fun g (hg : xv.ownBlock = some g) => own_lt hV0 hg)
  have HH := Lib.hid h; have HN := Lib.hid H; have HB := Lib.hid hb
  clear h H hb hV0
  unfold dgC
  go_enter Try.func27, Try.ntmps27
  go_wp2_with fail
  have hX := Blk.new w #[.int .i64 src, .int .i64 dst, .slice a bs.length c] 75
  have hF := (Fr.refl [] w).alloc (.cells #[.int .i64 src, .int .i64 dst, .slice a bs.length c] 75)
  generalize w.alloc (.cells #[.int .i64 src, .int .i64 dst, .slice a bs.length c] 75) = w1 at *
  have hsz1 := hF.size
  refine (fate_any (hF.blk HH.out (by simp)) (HN.out.fr0 hF) hT hT2 hT3 (Nat.le_trans hbase hsz1)).mono ?_; rintro e w2 ⟨rfl, ⟨us, fv2, xv2, hB2, hN2, hO2, hfv, hxv⟩, hF2⟩
  have hXl := hX.lt
  have hX2 := hF2.blk hX (by simp; omega)
  have hF3 := (hF.mono (S' := b :: xv.ownBlock.toList) (by simp)).trans (hF2.mono (S' := b :: xv.ownBlock.toList) (by simp)) (fun x hx => .inl hx)
  have hbv2 := (HB.out.fr hF (by simp)).fr hF2 (fun x hx => .inl (by simp at hx; simp [hx]))
  have HX := Lib.hid hX2; have HB2 := Lib.hid hB2; have HN2 := Lib.hid hN2; have HO2 := Lib.hid hO2; have HF := Lib.hid hF3; have HBV := Lib.hid hbv2
  have HFV := Lib.hid (show fv2 = fv ∨ ∀ g, fv2.ownBlock = some g → fv.ownBlock = some g ∨ w.heap.size ≤ g from hfv.imp id (fun h g hg => (h g hg).imp id (by omega)))
  have HXV := Lib.hid (show xv2 = xv ∨ ∀ g, xv2.ownBlock = some g → xv.ownBlock = some g ∨ w.heap.size ≤ g from hxv.imp id (fun h g hg => (h g hg).imp id (by omega)))
  have hsz2 := hF3.size
  clear hX hF hF2 hX2 hB2 hN2 hO2 hF3 hbv2 hfv hxv
  obtain ⟨f, hf⟩ : ∃ f, s.fa.headD fa0 = f := ⟨_, rfl⟩
  rw [hf]
  have HFD := Lib.hid hf
  obtain ⟨drop, copies, delay⟩ := f
  unfold Fa.v
  dsimp only
  have c2 := Blk.cell HB2.out (HN2.out.hd.at (i := 2) rfl)
  have f2 := Blk.free HB2.out (o + 2)
  have hbl := HB2.out.lt
  simp only at c2
  clear hf
  cases drop with
  | true =>
    go_wp2_with fail
    have hN4 := (NetS.lost1 HB2.out HN2.out hT hT2 hT3 (by show s.lost + 1 ≤ _; omega)).fr0 ((Fr.refl [] _).alloc (.cells #[.bool true, .int .i64 copies, .int .i64 delay] 86))
    have hB4 := (HB2.out.set (o + 2) (.int .i64 ((s.lost : Int) + 1))).alloc (.cells #[.bool true, .int .i64 copies, .int .i64 delay] 86)
    have hO4 := HO2.out.set (i := 2) (by decide) (.int .i64 ((s.lost : Int) + 1))
    have hF4 := (HF.out.setCell (p := ⟨b, o + 2, none⟩) (.inl (by simp)) (.int .i64 ((s.lost : Int) + 1))).alloc (.cells #[.bool true, .int .i64 copies, .int .i64 delay] 86)
    refine bodyPost_ret (results_none rfl _ _ _) rfl ?_
    have e : sendS s src dst bs tick = { s with fa := s.fa.tail, lost := s.lost + 1 } := by unfold sendS; rw [HFD.out]; simp
    rw [e]
    exact ⟨rfl, ⟨_, _, _, hB4, hN4, hO4, HFV.out, HXV.out⟩, hF4⟩
  | false =>
    clear c2 f2
    go_upto_region 4 with (fail)
    have hD := Blk.new w2 #[.bool false, .int .i64 copies, .int .i64 delay] 86
    have hFD := (Fr.refl [] w2).alloc (.cells #[.bool false, .int .i64 copies, .int .i64 delay] 86)
    obtain ⟨g1, hg1⟩ : ∃ g1, w2.heap.size = g1 := ⟨_, rfl⟩
    rw [hg1] at hD ⊢
    generalize w2.alloc (.cells #[.bool false, .int .i64 copies, .int .i64 delay] 86) = w3 at *
    obtain ⟨due, hdue⟩ : ∃ due : Nat, clpI tick + 1 + delayN delay = due := ⟨_, rfl⟩
    obtain ⟨n, hn2⟩ : ∃ n : Nat, copiesN copies = n := ⟨_, rfl⟩
    have hclp := clip_any tick
    obtain ⟨ct, hct⟩ : ∃ ct, clpI tick = ct := ⟨_, rfl⟩
    rw [hct] at hclp hdue
    have hct2 : ct ≤ 1000000 := by rw [← hct]; exact clpI_le _
    have HCLP := Lib.hid hclp; have HDUE := Lib.hid hdue; have HNN := Lib.hid hn2; have HCT := Lib.hid hct; have HD := Lib.hid hD; have HFD2 := Lib.hid hFD; have HG1 := Lib.hid hg1
    clear hclp hdue hn2 hct hD hFD hg1
    go_cut [7] from 19 to 26 (fun v wc => v = .int .i64 due ∧ Fr [] w3 wc)
    case first =>
      have d2 := Blk.cell (i := 2) HD.out rfl
      simp only [List.getElem_toArray, List.getElem_cons_zero, List.getElem_cons_succ] at d2
      rcases (show delay ≤ 0 ∨ (0 < delay ∧ delay ≤ 20) ∨ 20 < delay by omega) with c | ⟨c, c'⟩ | c
      all_goals
        go_quiet ((go_at_call 60; exact Calls.quiet_of_same ((HCLP.out _).mono fun e w' h => ⟨h.1, h.2.symm⟩)))
        go_wp2_with fail
        go_meet
        case rel =>
          refine ⟨?_, (Fr.refl [] w3).drewN nq⟩
          have := HDUE.out
          unfold delayN at this
          congr 1
          (try split) <;> omega
    case rest =>
      obtain ⟨rfl, hfc⟩ := hcut
      have HFC := Lib.hid hfc
      clear hfc
      go_upto_region 5 with (fail)
      go_cut [31, 32] from 27 to 31 (fun v z wd => v = .int .i64 n ∧ z = .int .i64 0 ∧ wc = wd)
      case first =>
        have d1 := Blk.cell (i := 1) (HFC.out.blk HD.out (by simp)) rfl
        simp only [List.getElem_toArray, List.getElem_cons_zero, List.getElem_cons_succ] at d1
        rcases (show copies ≤ 0 ∨ (0 < copies ∧ copies ≤ 2) ∨ 2 < copies by omega) with c | ⟨c, c'⟩ | c
        all_goals
          go_wp2_with fail
          go_meet
          case rel =>
            refine ⟨?_, rfl, rfl⟩
            have := HNN.out
            unfold copiesN at this
            congr 1
            (try split) <;> omega
      case rest =>
        obtain ⟨rfl, rfl, rfl⟩ := hcut
        have hg0 := HX.out.lt
        have hg1s : w2.heap.size ≤ w3.heap.size := HFD2.out.size
        have hF23 : Fr [] w2 wc := HFD2.out.trans HFC.out (by simp)
        have hn3 : n ≤ 3 := by have := HNN.out; have := (copiesN_le copies).2; omega
        have HB4 := Lib.hid (hF23.blk HB2.out (by simp)); have HN4 := Lib.hid (HN2.out.fr0 hF23); have HX4 := Lib.hid (hF23.blk HX.out (by simp)); have HF4 := Lib.hid (HF.out.trans (hF23.mono (S' := b :: xv.ownBlock.toList) (by simp)) (fun x hx => .inl hx)); have HV4 := Lib.hid (HBV.out.fr hF23 (by simp))
        obtain ⟨s1, hs1⟩ : ∃ s1 : NetV, s1 = { s with fa := s.fa.tail } := ⟨_, rfl⟩
        have hs1l : s1.lost = s.lost := by rw [hs1]
        have HS1 := Lib.hid hs1
        rw [← hs1] at HN4
        clear HB2 HN2 HX HF HBV HFC HFD2 hF23 hs1
        have HSZ := Lib.hid HF4.out.size
        have hne : b ≠ w.heap.size := by omega
        go_wp2_with fail
        go_loopw [32] (fun kv wr => ∃ (k : Nat) (ur : Array Value) (xr : Value), k ≤ n ∧ kv = .int .i64 k ∧ Blk wr b ur T ∧ NetS wr ur o base fv2 xr (pushS k ⟨due, src, dst, bs⟩ s1) ∧ Out vs ur o 3 ∧ (xr = xv ∨ ∀ g, xr.ownBlock = some g → xv.ownBlock = some g ∨ w.heap.size ≤ g) ∧ Blk wr w.heap.size #[.int .i64 src, .int .i64 dst, .slice a bs.length c] 75 ∧ AV wr (b :: xv.ownBlock.toList) w.heap.size a bs.length c bs ∧ Fr (b :: xv.ownBlock.toList) w wr) (fun kv _ => n - (intOf kv).toNat)
        case atStart => exact ⟨0, us, xv2, by omega, rfl, HB4.out, HN4.out, HO2.out, HXV.out, HX4.out, HV4.out, HF4.out⟩
        case round =>
          obtain ⟨k, ur, xr, hk, rfl, hB, hN, hO, hxr, hX, hV, hF⟩ := hrel
          clear HB4 HN4 HX4 HF4 HV4 HO2 HXV
          have HB := Lib.hid hB; have HN2 := Lib.hid hN; have HO := Lib.hid hO; have HXR := Lib.hid hxr; have HX := Lib.hid hX; have HV := Lib.hid hV; have HF := Lib.hid hF
          have hbl2 := hB.lt; have hgl2 := hX.lt; have hsz := hF.size
          clear hB hN hO hxr hX hV hF
          by_cases hlt : k < n
          · have q1 : (k : Int) < n := by omega
            obtain ⟨V, hVo, -⟩ := HN2.out.xo
            obtain ⟨xa, xc, rfl, hxc1, hxc2⟩ := own_val hVo
            have c1 := Blk.cell HB.out (HN2.out.hd.at (i := 1) rfl)
            have hlb := pushS_lost k ⟨due, src, dst, bs⟩ s1
            obtain ⟨sk, hsk⟩ : ∃ sk, pushS k ⟨due, src, dst, bs⟩ s1 = sk := ⟨_, rfl⟩
            rw [hsk] at HN2 c1 hxc1 hlb HXR
            have hxb := HN2.out.xb
            have HSK := Lib.hid hsk
            clear hVo
            by_cases hfull : 256 ≤ sk.fl.length
            · have q2 : (256 : Int) ≤ sk.fl.length := by omega
              have c2 := Blk.cell HB.out (HN2.out.hd.at (i := 2) rfl)
              have f2 := Blk.free HB.out (o + 2)
              go_wp2_with fail
              have HN5 := Lib.hid (NetS.lost1 HB.out HN2.out hT hT2 hT3 (by omega))
              have HB5 := Lib.hid (HB.out.set (o + 2) (.int .i64 ((sk.lost : Int) + 1)))
              have HO5 := Lib.hid (HO.out.set (i := 2) (by decide) (.int .i64 ((sk.lost : Int) + 1)))
              have hF5' := (Fr.refl [b] wr).setCell (p := ⟨b, o + 2, none⟩) (.inl (by simp)) (.int .i64 ((sk.lost : Int) + 1))
              have HF5 := Lib.hid (HF.out.trans hF5' (fun x hx => .inl (by simp at hx; simp [hx])))
              have HX5 := Lib.hid (hF5'.blk HX.out (by simp; omega))
              have HV5 := Lib.hid (HV.out.fr hF5' (fun x hx => .inl (by simp at hx; simp [hx])))
              clear c1 c2 f2 hF5'
              generalize wr.setCell ⟨b, o + 2, none⟩ (.int .i64 ((sk.lost : Int) + 1)) = w5 at *
              go_roundw
              case rel =>
                refine ⟨k + 1, _, _, by omega, by go_num, HB5.out, ?_, HO5.out, HXR.out, HX5.out, HV5.out, HF5.out⟩
                rw [pushS_snoc, HSK.out]
                dsimp only
                rw [if_pos hfull]
                exact HN5.out
              case measure => simp [intOf]; omega
            · have q2 : decide ((256 : Int) ≤ sk.fl.length) = false := decide_eq_false (by omega)
              obtain ⟨V, hVo, hfl⟩ := HN2.out.xo
              have HVO := Lib.hid hVo; have HFL := Lib.hid hfl
              clear hVo hfl
              go_upto_region 9 with (fail)
              clear c1
              obtain ⟨i0, hi0, hz0, hz1, hz2⟩ := info_parts infFl
              have e1 : wr.drew.cell? ⟨b, o + 1, none⟩ = some (.slice xa sk.fl.length xc) := Blk.cell HB.out (HN2.out.hd.at (i := 1) rfl)
              have e2 : wr.drew.cell? ⟨w.heap.size, 0, none⟩ = some (.int .i64 src) := Blk.cell HX.out rfl
              have e3 : wr.drew.cell? ⟨w.heap.size, 1, none⟩ = some (.int .i64 dst) := Blk.cell HX.out rfl
              have e4 : wr.drew.cell? ⟨w.heap.size, 2, none⟩ = some (.slice a bs.length c) := Blk.cell HX.out rfl
              refine wp_region_M 11 (fun w' => w'.cell? ⟨b, o + 1, none⟩ = some (.slice xa sk.fl.length xc) ∧ w'.cell? ⟨w.heap.size, 0, none⟩ = some (.int .i64 src) ∧ w'.cell? ⟨w.heap.size, 1, none⟩ = some (.int .i64 dst) ∧ w'.cell? ⟨w.heap.size, 2, none⟩ = some (.slice a bs.length c)) (by kernel_rfl) (⟨e1, e2, e3, e4⟩) (fun hS => ?_)
              try simp only [List.getElem_toArray, List.getElem_cons_succ, List.getElem_cons_zero, Act.put, List.setIfInBounds_toArray, List.set_cons_zero, List.set_cons_succ]
              refine wpAnyM_take (i := 0) (v := ?_) rfl (by kernel_rfl) (by kernel_rfl) (by kernel_rfl) (by kernel_rfl) (fun _ _ _ h => h) (Or.inl ⟨by kernel_rfl, ?_⟩) hS ?_; rotate_left; (intro w hSw; obtain ⟨hS1, hS2, hS3, hS4⟩ := hSw; go_simp; try with_reducible rfl)
              try simp only [List.getElem_toArray, List.getElem_cons_succ, List.getElem_cons_zero, Act.put, List.setIfInBounds_toArray, List.set_cons_zero, List.set_cons_succ]
              refine wpAnyM_take (i := 1) (v := ?_) rfl (by kernel_rfl) (by kernel_rfl) (by kernel_rfl) (by kernel_rfl) (fun _ _ _ h => h) (Or.inl ⟨by kernel_rfl, ?_⟩) hS ?_; rotate_left; (intro w hSw; obtain ⟨hS1, hS2, hS3, hS4⟩ := hSw; go_simp; try with_reducible rfl)
              try simp only [List.getElem_toArray, List.getElem_cons_succ, List.getElem_cons_zero, Act.put, List.setIfInBounds_toArray, List.set_cons_zero, List.set_cons_succ]
              refine wpAnyM_take (i := 2) (v := ?_) rfl (by kernel_rfl) (by kernel_rfl) (by kernel_rfl) (by kernel_rfl) (fun _ _ _ h => h) (Or.inl ⟨by kernel_rfl, ?_⟩) hS ?_; rotate_left; (intro w hSw; obtain ⟨hS1, hS2, hS3, hS4⟩ := hSw; go_simp; try with_reducible rfl)
              try simp only [List.getElem_toArray, List.getElem_cons_succ, List.getElem_cons_zero, Act.put, List.setIfInBounds_toArray, List.set_cons_zero, List.set_cons_succ]
              refine wpAnyM_take (i := 3) (v := ?_) rfl (by kernel_rfl) (by kernel_rfl) (by kernel_rfl) (by kernel_rfl) (fun _ _ _ h => h) (Or.inl ⟨by kernel_rfl, ?_⟩) hS ?_; rotate_left; (intro w hSw; obtain ⟨hS1, hS2, hS3, hS4⟩ := hSw; go_simp; try with_reducible rfl)
              try simp only [List.getElem_toArray, List.getElem_cons_succ, List.getElem_cons_zero, Act.put, List.setIfInBounds_toArray, List.set_cons_zero, List.set_cons_succ]
              refine wpAnyM_take (i := 4) (v := ?_) rfl (by kernel_rfl) (by kernel_rfl) (by kernel_rfl) (by kernel_rfl) (fun _ _ _ h => h) (Or.inl ⟨by kernel_rfl, ?_⟩) hS ?_; rotate_left; (intro w hSw; obtain ⟨hS1, hS2, hS3, hS4⟩ := hSw; go_simp; try with_reducible rfl)
              try simp only [List.getElem_toArray, List.getElem_cons_succ, List.getElem_cons_zero, Act.put, List.setIfInBounds_toArray, List.set_cons_zero, List.set_cons_succ]
              refine wpAnyM_take (i := 5) (v := ?_) rfl (by kernel_rfl) (by kernel_rfl) (by kernel_rfl) (by kernel_rfl) (fun _ _ _ h => h) (Or.inl ⟨by kernel_rfl, ?_⟩) hS ?_; rotate_left; (intro w hSw; obtain ⟨hS1, hS2, hS3, hS4⟩ := hSw; go_simp; try with_reducible rfl)
              try simp only [List.getElem_toArray, List.getElem_cons_succ, List.getElem_cons_zero, Act.put, List.setIfInBounds_toArray, List.set_cons_zero, List.set_cons_succ]
              refine wpAnyM_take (i := 6) (v := ?_) rfl (by kernel_rfl) (by kernel_rfl) (by kernel_rfl) (by kernel_rfl) (fun _ _ _ h => h) (Or.inl ⟨by kernel_rfl, ?_⟩) hS ?_; rotate_left; (intro w hSw; obtain ⟨hS1, hS2, hS3, hS4⟩ := hSw; go_simp; try with_reducible rfl)
              try simp only [List.getElem_toArray, List.getElem_cons_succ, List.getElem_cons_zero, Act.put, List.setIfInBounds_toArray, List.set_cons_zero, List.set_cons_succ]
              refine wpAnyM_one (i := 7) (by kernel_rfl) rfl (fun KK hK => ?_)
              go_simp
              refine (copied_any (w := wr.drew) (src := src) (dst := dst) (HV.out.fr (Fr.refl [] wr).drew (by simp)).ls HV.out.lt hn).mono ?_; rintro e w7 ⟨a2, c2, rfl, hbv, hf7⟩
              have hF7 : Fr [] wr w7 := (Fr.refl [] wr).drew.trans hf7 (by simp)
              have HB7 := Lib.hid (hF7.blk HB.out (by simp)); have HX7 := Lib.hid (hF7.blk HX.out (by simp)); have HV7 := Lib.hid (HV.out.fr hF7 (by simp)); have HVO7 := Lib.hid (own_fr HVO.out hF7 (by simp)); have HFL7 := Lib.hid (HFL.out.fr hF7 (NoU8.nil _)); have HN7 := Lib.hid (HN2.out.fr0 hF7)
              have HF7 := Lib.hid (HF.out.trans (hF7.mono (S' := b :: xv.ownBlock.toList) (by simp)) (fun x hx => .inl hx)); have HBV7 := Lib.hid hbv
              have e1 : w7.cell? ⟨b, o + 1, none⟩ = some (.slice xa sk.fl.length xc) := Blk.cell HB7.out (HN2.out.hd.at (i := 1) rfl)
              have e2 : w7.cell? ⟨w.heap.size, 0, none⟩ = some (.int .i64 src) := Blk.cell HX7.out rfl
              have e3 : w7.cell? ⟨w.heap.size, 1, none⟩ = some (.int .i64 dst) := Blk.cell HX7.out rfl
              have e4 : w7.cell? ⟨w.heap.size, 2, none⟩ = some (.slice a bs.length c) := Blk.cell HX7.out rfl
              have hS2 := And.intro e1 (And.intro e2 (And.intro e3 e4))
              clear hf7 hF7 hbv e1 e2 e3 e4
              unfold dgC
              (try dsimp only); refine hK.out _ _ (fun _ => hS2) (fun _ => ?_); clear hK KK hS; have hS := hS2
              try simp only [List.getElem_toArray, List.getElem_cons_succ, List.getElem_cons_zero, Act.put, List.setIfInBounds_toArray, List.set_cons_zero, List.set_cons_succ]
              refine wpAnyM_take (i := 8) (v := ?_) rfl (by kernel_rfl) (by kernel_rfl) (by kernel_rfl) (by kernel_rfl) (fun _ _ _ h => h) (Or.inl ⟨by kernel_rfl, ?_⟩) hS ?_; rotate_left; (intro w hSw; obtain ⟨hS1, hS2, hS3, hS4⟩ := hSw; go_simp; try with_reducible rfl)
              try simp only [List.getElem_toArray, List.getElem_cons_succ, List.getElem_cons_zero, Act.put, List.setIfInBounds_toArray, List.set_cons_zero, List.set_cons_succ]
              refine wpAnyM_one (i := 9) (by kernel_rfl) rfl (fun KK hK => ?_)
              go_simp
              have hnb := Blk.new w7 #[.int .i64 due, .int .i64 src, .int .i64 dst, .slice a2 bs.length c2] 115
              have hF8 := (Fr.refl [] w7).alloc (.cells #[.int .i64 due, .int .i64 src, .int .i64 dst, .slice a2 bs.length c2] 115)
              obtain ⟨gn, hgn⟩ : ∃ gn, w7.heap.size = gn := ⟨_, rfl⟩
              rw [hgn] at hnb ⊢
              have hgn2 : w.heap.size ≤ gn := by rw [← hgn]; exact HF7.out.size
              generalize w7.alloc (.cells #[.int .i64 due, .int .i64 src, .int .i64 dst, .slice a2 bs.length c2] 115) = w8 at *
              have HB8 := Lib.hid (hF8.blk HB7.out (by simp)); have HX8 := Lib.hid (hF8.blk HX7.out (by simp)); have HV8 := Lib.hid (HV7.out.fr hF8 (by simp)); have HVO8 := Lib.hid (own_fr HVO7.out hF8 (by simp)); have HFL8 := Lib.hid (HFL7.out.fr hF8 (NoU8.nil _)); have HN8 := Lib.hid (HN7.out.fr0 hF8)
              have HF8 := Lib.hid (HF7.out.trans (hF8.mono (S' := b :: xv.ownBlock.toList) (by simp)) (fun x hx => .inl hx)); have HBV8 := Lib.hid (HBV7.out.fr hF8 (NoU8.nil _)); have HNB := Lib.hid hnb
              have e1 : w8.cell? ⟨b, o + 1, none⟩ = some (.slice xa sk.fl.length xc) := Blk.cell HB8.out (HN2.out.hd.at (i := 1) rfl)
              have e2 : w8.cell? ⟨w.heap.size, 0, none⟩ = some (.int .i64 src) := Blk.cell HX8.out rfl
              have e3 : w8.cell? ⟨w.heap.size, 1, none⟩ = some (.int .i64 dst) := Blk.cell HX8.out rfl
              have e4 : w8.cell? ⟨w.heap.size, 2, none⟩ = some (.slice a bs.length c) := Blk.cell HX8.out rfl
              have hS2 := And.intro e1 (And.intro e2 (And.intro e3 e4))
              clear hF8 hnb e1 e2 e3 e4 HB7 HX7 HV7 HVO7 HFL7 HN7 HF7 HBV7
              (try dsimp only); refine hK.out _ _ (fun _ => hS2) (fun _ => ?_); clear hK KK hS; have hS := hS2
              try simp only [List.getElem_toArray, List.getElem_cons_succ, List.getElem_cons_zero, Act.put, List.setIfInBounds_toArray, List.set_cons_zero, List.set_cons_succ]
              refine wpAnyM_one (i := 10) (by kernel_rfl) rfl (fun KK hK => ?_)
              have hbase8 : base ≤ w8.heap.size := by have := HF8.out.size; omega
              refine step_append_src _ rfl (Operand.tmp 51) (Operand.tmp 56) 69 rfl base 115 i0 _ 4 48 Try.underlying69 hi0 hz0 hz1 hz2 rfl (by decide) (.slice xa sk.fl.length xc) (.slice (some ⟨gn, 0, none⟩) 1 1) sk.fl.length 1 (flC V) (flC [⟨due, src, dst, a2, bs.length, c2⟩]) rfl (by kernel_rfl) HVO8.out (src_blk HNB.out (by simp) (by simp [Value.oneCell']) 1) (by unfold maxLen; omega) (by omega) hbase8 ?_
              intro v9 w9 ho9 hg9 hat9
              have hnob := own_notin HVO8.out HB8.out hT2
              have hnog := own_notin HVO8.out HX8.out (by decide)
              have hfg := fr_grown hg9
              have hun : NoU8 w8 (Value.slice xa sk.fl.length xc).ownBlock.toList := NoU8.own HVO8.out (by decide)
              have hsub : ∀ x ∈ (Value.slice xa sk.fl.length xc).ownBlock.toList, x ∈ (b :: xv.ownBlock.toList) ∨ w.heap.size ≤ x := fun x hx => by
                simp only [Option.mem_toList] at hx
                rcases HXR.out with e | e
                · rw [e] at hx; exact .inl (by simp only [List.mem_cons, Option.mem_toList]; exact .inr hx)
                · rcases e x hx with e | e
                  · exact .inl (by simp only [List.mem_cons, Option.mem_toList]; exact .inr e)
                  · exact .inr e
              have HB9 := Lib.hid (hfg.blk HB8.out hnob); have HX9 := Lib.hid (hfg.blk HX8.out hnog); have HV9 := Lib.hid (HV8.out.fr hfg hsub); have HFL9 := Lib.hid (HFL8.out.fr hfg hun); have HBV9 := Lib.hid (HBV8.out.fr hfg hun)
              have hfo8 := HN8.out.fo
              have HFO9 := Lib.hid (own_keep hfo8 hfg (fun y hy hx => by simp only [Option.mem_toList] at hx; exact own_own hfo8 HVO8.out (by decide) y hy hx))
              have HF9 := Lib.hid (HF8.out.trans hfg hsub)
              rw [← flC_app] at ho9
              obtain ⟨xa9, xc9, rfl, hx91, hx92⟩ := own_val ho9
              have HO9 := Lib.hid ho9
              have HAT9 := Lib.hid (show ∀ g, (Value.slice xa9 (sk.fl.length + 1) xc9).ownBlock = some g → xv.ownBlock = some g ∨ w.heap.size ≤ g from fun g hg => by
                rcases hat9 with e | e
                · rw [hg] at e
                  rcases HXR.out with k1 | k1
                  · rw [k1] at e; exact .inl e.symm
                  · exact k1 g e.symm
                · rw [hg] at e; simp at e; have := HF8.out.size; exact .inr (by omega))
              have e1 : w9.cell? ⟨b, o + 1, none⟩ = some (.slice xa sk.fl.length xc) := Blk.cell HB9.out (HN2.out.hd.at (i := 1) rfl)
              have e2 : w9.cell? ⟨w.heap.size, 0, none⟩ = some (.int .i64 src) := Blk.cell HX9.out rfl
              have e3 : w9.cell? ⟨w.heap.size, 1, none⟩ = some (.int .i64 dst) := Blk.cell HX9.out rfl
              have e4 : w9.cell? ⟨w.heap.size, 2, none⟩ = some (.slice a bs.length c) := Blk.cell HX9.out rfl
              have hS2 := And.intro e1 (And.intro e2 (And.intro e3 e4))
              clear hnob hnog hfg hun hsub hfo8 ho9 hat9 hg9 e2 e3 e4 HB8 HX8 HV8 HVO8 HFL8 HN8 HF8 HBV8 HNB
              (try dsimp only); refine hK.out _ _ (fun _ => hS2) (fun _ => ?_); clear hK KK hS; have hS := hS2
              have f1 := Blk.free HB9.out (o + 1)
              
              try simp only [List.getElem_toArray, List.getElem_cons_succ, List.getElem_cons_zero, Act.put, List.setIfInBounds_toArray, List.set_cons_zero, List.set_cons_succ]
              refine wpAnyM_one (i := 11) (by kernel_rfl) rfl (fun KK hK => ?_)
              go_simp
              refine hK.out _ _ (fun h => absurd h (by decide)) (fun _ => ?_); clear hK KK
              try simp only [List.getElem_toArray, List.getElem_cons_succ, List.getElem_cons_zero, Act.put, List.setIfInBounds_toArray, List.set_cons_zero, List.set_cons_succ]
              refine wpAnyM_one (i := 12) (by kernel_rfl) rfl (fun KK hK => ?_)
              go_simp
              refine hK.out _ _ (fun h => absurd h (by decide)) (fun _ => ?_); clear hK KK
              try simp only [List.getElem_toArray, List.getElem_cons_succ, List.getElem_cons_zero, Act.put, List.setIfInBounds_toArray, List.set_cons_zero, List.set_cons_succ]
              refine wpAnyM_one (i := 13) (by kernel_rfl) rfl (fun KK hK => ?_)
              go_simp
              refine hK.out _ _ (fun h => absurd h (by decide)) (fun _ => ?_); clear hK KK
              try simp only [List.getElem_toArray, List.getElem_cons_succ, List.getElem_cons_zero, Act.put, List.setIfInBounds_toArray, List.set_cons_zero, List.set_cons_succ]
              refine wpAnyM_done (by kernel_rfl) ?_ _
              try simp only [List.getElem_toArray, List.getElem_cons_succ, List.getElem_cons_zero, Act.put, List.setIfInBounds_toArray, List.set_cons_zero, List.set_cons_succ]
              clear hS
              clear e1
              have HF5b := (Fr.refl [b] w9).setCell (p := ⟨b, o + 1, none⟩) (.inl (by simp)) (.slice xa9 (sk.fl.length + 1) xc9)
              have hun9 : NoU8 w9 [b] := NoU8.cons HB9.out hT3 (NoU8.nil _)
              have HB5 := Lib.hid (HB9.out.set (o + 1) (.slice xa9 (sk.fl.length + 1) xc9))
              have HO5 := Lib.hid (HO.out.set (i := 1) (by decide) (.slice xa9 (sk.fl.length + 1) xc9))
              have HF5 := Lib.hid (HF9.out.trans HF5b (fun x hx => .inl (by simp at hx; simp [hx])))
              have HX5 := Lib.hid (HF5b.blk HX9.out (by simp; omega))
              have HV5 := Lib.hid (HV9.out.fr HF5b (fun x hx => .inl (by simp at hx; simp [hx])))
              have hfn := own_blk (g := 0) HFO9.out HB9.out hT.symm
              have hxn := own_blk (g := 0) HO9.out HB9.out hT2.symm
              have HN5 := Lib.hid (show NetS (w9.setCell ⟨b, o + 1, none⟩ (.slice xa9 (sk.fl.length + 1) xc9)) (ur.setIfInBounds (o + 1) (.slice xa9 (sk.fl.length + 1) xc9)) o base fv2 (.slice xa9 (sk.fl.length + 1) xc9) { sk with fl := sk.fl ++ [⟨due, src, dst, bs⟩] } from by
                refine ⟨HN2.out.hd.set (i := 1) (by simp) _, own_keep HFO9.out HF5b (fun y hy hx => by simp at hx; exact hfn y hy hx), ⟨V ++ [⟨due, src, dst, a2, bs.length, c2⟩], ?_, ?_⟩, HN2.out.fb, by simp; omega, HN2.out.lb⟩
                · have := own_keep HO9.out HF5b (fun y hy hx => by simp at hx; exact hxn y hy hx)
                  simpa using this
                · exact (HFL9.out.fr HF5b hun9).snoc ⟨rfl, rfl, rfl, HBV9.out.fr HF5b hun9⟩)
              clear HF5b hun9 hfn hxn HB9 HX9 HV9 HFL9 HBV9 HFO9 HF9 HO9 HN2 HB HX HV HVO HFL HF HO
              generalize w9.setCell ⟨b, o + 1, none⟩ (.slice xa9 (sk.fl.length + 1) xc9) = w10 at *
              go_wp2_with fail
              go_roundw
              case rel =>
                refine ⟨k + 1, _, _, by omega, by go_num, HB5.out, ?_, HO5.out, .inr HAT9.out, HX5.out, HV5.out, HF5.out⟩
                rw [pushS_snoc, HSK.out]
                dsimp only
                rw [if_neg hfull]
                exact HN5.out
              case measure => simp [intOf]; omega
          · have hkn : k = n := by omega
            subst hkn
            have q1 : decide ((k : Int) < (k : Int)) = false := by simp
            go_wp2_with fail
            (try simp only [Exit.inBlock, Exit.then])
            refine bodyPost_ret (results_none rfl _ _ _) rfl ?_
            have e : sendS s src dst bs tick = pushS k ⟨due, src, dst, bs⟩ s1 := by
              unfold sendS
              rw [HFD.out]
              dsimp only
              rw [if_neg (by decide), HNN.out, HCT.out, HDUE.out, HS1.out]
            rw [e]
            exact ⟨rfl, ⟨_, _, _, HB.out, HN2.out, HO.out, HFV.out, HXR.out⟩, HF.out⟩
end Go.Proofs.Ytkjjikjilmngdaa.Nt
