/- chapter 24: the reference's Send. -/
import Derived.Test.YtkjjikjilmngdaaNtU
import Derived.Test.YtkjjikjilmngdaaNtY
import Derived.Test.YtkjjikjilmngdaaRg3
namespace Go.Proofs.Ytkjjikjilmngdaa.Nt
open Go.RowKit Dt Go.Proofs.Ytkjjikjilmngdaa.Hd
set_option linter.unusedVariables false
set_option linter.unusedSimpArgs false

theorem HasR.monoK {W w : World} {K K' : List Nat} {b no : Nat} {s : NetV} (h : HasR W K w b s no) (hs : ∀ x ∈ K', x ∈ K) : HasR W K' w b s no := by
  obtain ⟨⟨vs, fv, dv, q1, q2, q3, q4⟩, qb, qb2, qK, qf⟩ := h
  exact ⟨⟨vs, fv, dv, q1, q2, fun g hg hx => q3 g hg (hs g hx), fun g hg hx => q4 g hg (hs g hx)⟩, fun hx => qb (hs b hx), qb2, fun g hg => qK g (hs g hg), qf⟩
/-- one more is lost -/
theorem HasR.lost1 {W w : World} {K : List Nat} {b no : Nat} {s : NetV} (h : HasR W K w b s no) (hl : s.lost + 1 ≤ 4000000000000000000) : (∃ v, w.cell? ⟨b, 2, none⟩ = some v ∧ v = .int .i64 (s.lost : Int)) ∧ w.frozen? ⟨b, 2, none⟩ = false ∧ HasR W K (w.setCell ⟨b, 2, none⟩ (.int .i64 ((s.lost : Int) + 1))) b { s with lost := s.lost + 1 } no ∧ Kp K w (w.setCell ⟨b, 2, none⟩ (.int .i64 ((s.lost : Int) + 1))) := by
  obtain ⟨⟨vs, fv, dv, q1, q2, q3, q4⟩, qb, qb2, qK, qf⟩ := h
  obtain rfl := q2.hd
  have hF := (Fr.refl [b] w).setCell (p := ⟨b, 2, none⟩) (.inl (by simp)) (.int .i64 ((s.lost : Int) + 1))
  have hu : NoU8 w [b] := NoU8.cons q1 (by decide) (NoU8.nil _)
  obtain ⟨V, x1, x2, x3⟩ := q2.do'
  refine ⟨⟨_, Blk.cell (i := 2) q1 rfl, rfl⟩, Blk.free q1 2, ⟨⟨_, fv, dv, q1.set 2 _, ⟨rfl, q2.fo.fr hF (fun g hg hx => ?_), ⟨V, own_keep x1 hF (fun g hg hx => ?_), x2.fr hF hu, x3⟩, q2.fb, q2.xb, hl⟩, q3, q4⟩, qb, qb2, fun g hg => Nat.lt_of_lt_of_le (qK g hg) hF.size, qf.trans hF (fun x hx => .inr (by simp at hx; omega))⟩, Kp.of_fr hF qK (fun g hg hx => by simp at hx; subst hx; exact qb hg) hu⟩
  · simp at hx; obtain ⟨-, cur, hB⟩ := q2.fo.blk hg; exact blk_blk hB q1 (by decide) hx
  · simp at hx; exact own_blk (g := 0) x1 q1 (by decide) g hg hx
/-- behind Send: at most so many numbers are given -/
def RSP (W : World) (K : List Nat) (w : World) (b : Nat) (s' : NetV) (no : Nat) (e : Ending) (w' : World) : Prop := e = .returned (.tuple #[]) ∧ ∃ no', no' ≤ no + 3 ∧ HasR W K w' b s' no' ∧ Kp K w w'
set_option maxRecDepth 100000 in
set_option maxHeartbeats 6400000 in
theorem rsend {W w : World} {K : List Nat} {b no : Nat} {s : NetV} {src dst tick : Int} {a : Option Addr} {l c : Nat} {bs : List Nat} (h : HasR W K w b s no) (hbv : LS W (.slice a l c) (u8s bs)) (hb256 : ∀ x ∈ bs, x < 256) (hbl : bs.length ≤ 140737488355000) (hlo : s.lost ≤ 3000000000000000000) (hno : no ≤ 3000000000000000000) :
    Calls Try.prog 37 #[.pointer (some ⟨b, 0, none⟩), .int .i64 src, .int .i64 dst, .slice a l c, .int .i64 tick] w (RSP W K w b (sendS s src dst bs tick) no) := by
  obtain ⟨⟨vs, fv, dv, h1, h2, h3, h4⟩, hb, hb2, hK, hf⟩ := h
  obtain ⟨fa, fc, rfl, hf1, hf2⟩ := h2.fo.val
  obtain rfl := h2.hd
  have hWw := hf.size
  have hbw := h1.lt
  obtain ⟨sfa, sfl, slost⟩ := s
  simp only at h1 h3 hf1 hlo
  have hR0 := Blk.new w #[.bool false, .int .i64 0, .int .i64 0] 98
  have hF1 := (Fr.refl [] w).alloc (.cells #[.bool false, .int .i64 0, .int .i64 0] 98)
  have HH := Lib.hid h1; have H2 := Lib.hid h2; have HBV := Lib.hid hbv; have HB256 := Lib.hid hb256
  clear h1 h2 hbv hb256
  go_enter Try.func37, Try.ntmps37
  have c1 := Blk.cell (i := 0) (hF1.blk HH.out (by simp)) rfl
  simp only [List.getElem_toArray, List.getElem_cons_zero] at c1
  obtain ⟨t, ht⟩ : ∃ t, decide ((0 : Int) < sfa.length) = t := ⟨_, rfl⟩
  go_upto_if 18 with (fail)
  have HTT := Lib.hid ht
  clear ht
  obtain ⟨G, hG⟩ : ∃ G, w.heap.size = G := ⟨_, rfl⟩
  have hs1 := hF1.size
  rw [hG] at hR0 hs1 hbw hWw ⊢
  generalize w.alloc (.cells #[.bool false, .int .i64 0, .int .i64 0] 98) = w1 at *
  have hB1 := hF1.blk HH.out (by simp)
  have hN1 : RNS w1 _ W.heap.size (.slice fa sfa.length fc) dv ⟨sfa, sfl, slost⟩ no := ⟨rfl, H2.out.fo.fr hF1 (by simp), by obtain ⟨V, x1, x2, x3⟩ := H2.out.do'; exact ⟨V, own_keep x1 hF1 (by simp), x2.fr hF1 (NoU8.nil _), x3⟩, H2.out.fb, H2.out.xb, H2.out.lb⟩
  have HF1 := Lib.hid hF1; have HB1 := Lib.hid hB1; have HN1 := Lib.hid hN1; have HGG := Lib.hid hG; have HR0 := Lib.hid hR0
  clear hF1 hB1 hN1 hG hR0 c1
  go_cut [] from 19 to 32 (fun wc => HasR W (G :: K) wc b ⟨sfa.tail, sfl, slost⟩ no ∧ Blk wc G #[.bool (sfa.headD fa0).drop, .int .i64 (sfa.headD fa0).copies, .int .i64 (sfa.headD fa0).delay] 98 ∧ Kp K w wc)
  case first =>
    have c1 := Blk.cell (i := 0) HB1.out rfl
    have f1 := Blk.free HB1.out 0
    simp only [List.getElem_toArray, List.getElem_cons_zero] at c1
    have hR0 := HR0.out
    cases sfa with
    | nil =>
      obtain rfl : t = false := by rw [← HTT.out]; simp
      have kF := HF1.out
      have KEY := Lib.hid (show HasR W (G :: K) w1 b ⟨[], sfl, slost⟩ no ∧ Kp K w w1 from by
        obtain ⟨V, x1, x2, x3⟩ := HN1.out.do'
        refine ⟨⟨⟨_, _, dv, HB1.out, HN1.out, fun x hx hm => ?_, fun x hx hm => ?_⟩, fun hm => ?_, hb2, fun x hx => ?_, hf.trans kF (by simp)⟩, Kp.of_fr kF hK (by simp) (NoU8.nil _)⟩
        · rcases List.mem_cons.1 hm with h | h
          · obtain ⟨-, cur, hg⟩ := H2.out.fo.blk hx
            have := hg.lt; have := HGG.out; omega
          · exact h3 x hx h
        · rcases List.mem_cons.1 hm with h | h
          · exact own_blk (g := 0) x1 HR0.out (by decide) x hx h
          · exact h4 x hx h
        · rcases List.mem_cons.1 hm with h | h
          · omega
          · exact hb h
        · rcases List.mem_cons.1 hx with rfl | h
          · exact HR0.out.lt
          · have := hK x h; have := HGG.out; omega)
      clear kF h3 h4 hb hK hf
      simp only [List.length_nil] at c1
      go_wp2_with fail
      go_meet
      case rel => exact ⟨KEY.out.1, HR0.out, KEY.out.2⟩
    | cons f l' =>
      obtain rfl : t = true := by rw [← HTT.out]; simp
      have hfo := HN1.out.fo
      obtain ⟨n, hn⟩ : ∃ n, (f :: l').length = n := ⟨_, rfl⟩
      simp only [hn] at c1 hfo hf1
      obtain ⟨hnl, hft, g, o, rfl, d0, d1, d2⟩ := hfo.tail
      have q1 : (0 : Int) < n := by omega
      have q2 : 0 < n := by omega
      have q3 : (1 : Int) ≤ n := by omega
      have q4 : (1 : Int) ≤ fc := by omega
      have q5 : (n : Int) ≤ fc := by omega
      have r0 := Blk.cell (i := 0) hR0 rfl
      have r1 := Blk.cell (i := 1) hR0 rfl
      have r2 := Blk.cell (i := 2) hR0 rfl
      have t0 := Blk.free hR0 0
      have t1 := Blk.free hR0 1
      have t2 := Blk.free hR0 2
      have HNL := Lib.hid hnl; have HFT := Lib.hid hft; have HNN := Lib.hid hn
      have hbG : ¬ b = G := by omega
      clear hnl hft hn hfo hR0
      have hgG : g < G := by
        have h0 := H2.out.fo
        obtain ⟨-, cur, hg⟩ := h0.blk (g := g) rfl
        have := hg.lt
        have := HGG.out
        omega
      have hgb : ¬ g = b := by
        obtain ⟨-, cur, hg⟩ := HN1.out.fo.blk (g := g) rfl
        exact blk_blk hg HB1.out (by decide)
      have key : ∀ sv, sliced (some ⟨g, o, none⟩) 1 n fc 3 = sv → HasR W (G :: K) ((((w1.setCell ⟨G, 0, none⟩ (.bool f.drop)).setCell ⟨G, 1, none⟩ (.int .i64 f.copies)).setCell ⟨G, 2, none⟩ (.int .i64 f.delay)).setCell ⟨b, 0, none⟩ sv) b ⟨l', sfl, slost⟩ no ∧ Blk ((((w1.setCell ⟨G, 0, none⟩ (.bool f.drop)).setCell ⟨G, 1, none⟩ (.int .i64 f.copies)).setCell ⟨G, 2, none⟩ (.int .i64 f.delay)).setCell ⟨b, 0, none⟩ sv) G #[.bool f.drop, .int .i64 f.copies, .int .i64 f.delay] 98 ∧ Kp K w ((((w1.setCell ⟨G, 0, none⟩ (.bool f.drop)).setCell ⟨G, 1, none⟩ (.int .i64 f.copies)).setCell ⟨G, 2, none⟩ (.int .i64 f.delay)).setCell ⟨b, 0, none⟩ sv) := by
        intro sv hsv
        have kF : Fr [G, b] w1 ((((w1.setCell ⟨G, 0, none⟩ (.bool f.drop)).setCell ⟨G, 1, none⟩ (.int .i64 f.copies)).setCell ⟨G, 2, none⟩ (.int .i64 f.delay)).setCell ⟨b, 0, none⟩ sv) :=
          ((((Fr.refl [G, b] w1).setCell (p := ⟨G, 0, none⟩) (.inl (by simp)) _).setCell (p := ⟨G, 1, none⟩) (.inl (by simp)) _).setCell (p := ⟨G, 2, none⟩) (.inl (by simp)) _).setCell (p := ⟨b, 0, none⟩) (.inl (by simp)) _
        have kB := ((((HB1.out.other (a := ⟨G, 0, none⟩) hbG (.bool f.drop)).other (a := ⟨G, 1, none⟩) hbG (.int .i64 f.copies)).other (a := ⟨G, 2, none⟩) hbG (.int .i64 f.delay)).set 0 sv)
        have kG := ((((HR0.out.set 0 (.bool f.drop)).set 1 (.int .i64 f.copies)).set 2 (.int .i64 f.delay)).other (a := ⟨b, 0, none⟩) (fun h => hbG h.symm) sv)
        have kU : NoU8 w1 [G, b] := NoU8.cons HR0.out (by decide) (NoU8.cons HB1.out (by decide) (NoU8.nil _))
        have kft := HFT.out
        rw [hsv] at kft
        have kown : ∀ x, sv.ownBlock = some x → x = g := fun x hx => by
          rw [← hsv] at hx; unfold sliced at hx
          split at hx <;> simp [Value.ownBlock, Dt.Addr.add_mid'] at hx <;> exact hx.symm
        have kfs := kft.fr kF (fun x hx hm => by have := kown x hx; subst this; simp at hm; omega)
        obtain ⟨V, x1, x2, x3⟩ := HN1.out.do'
        have kdv : ∀ x, dv.ownBlock = some x → x ≠ G ∧ x ≠ b := fun x hx => ⟨own_blk (g := 0) x1 HR0.out (by decide) x hx, own_blk (g := 0) x1 HB1.out (by decide) x hx⟩
        have kK := Kp.of_fr (HF1.out.mono (S' := [G, b]) (by simp) |>.trans kF (fun x hx => .inl hx)) hK (fun x hx hm => by
          have := hK x hx; have := HGG.out
          simp at hm; rcases hm with rfl | rfl
          · omega
          · exact hb hx) (S := [G, b]) (fun x hx cur fr hh => by
          have hlt := lt_of_block hh
          have := HGG.out
          simp at hx; rcases hx with rfl | rfl
          · omega
          · have := HH.out; unfold Blk at this; rw [this] at hh; simp at hh)
        refine ⟨⟨⟨_, sv, dv, kB, ⟨rfl, kfs, ⟨V, own_keep x1 kF (fun x hx hm => by have := kdv x hx; simp at hm; omega), x2.fr kF kU, x3⟩, ?_, HN1.out.xb, HN1.out.lb⟩, fun x hx hm => ?_, fun x hx hm => ?_⟩, fun hm => ?_, hb2, fun x hx => ?_, ?_⟩, kG, kK⟩
        · have := HN1.out.fb; show l'.length ≤ 1000; simp at this; omega
        · have := kown x hx; subst this
          rcases List.mem_cons.1 hm with h | h
          · omega
          · exact h3 x rfl h
        · rcases List.mem_cons.1 hm with h | h
          · exact (kdv x hx).1 h
          · exact h4 x hx h
        · rcases List.mem_cons.1 hm with h | h
          · exact hbG h
          · exact hb h
        · have hsz := kF.size
          rcases List.mem_cons.1 hx with rfl | h
          · exact Nat.lt_of_lt_of_le HR0.out.lt hsz
          · have := hK x h; have := HGG.out; omega
        · exact (hf.trans HF1.out (by simp)).trans kF (fun x hx => .inr (by simp at hx; have := HGG.out; omega))
      have KEY := Lib.hid key
      clear key h3 h4 hb hK hf
      by_cases hfc : fc = 1
      · subst hfc
        go_wp2_with fail
        all_goals first
          | (rename_i hx; exact absurd (show 0 < (f :: l').length by simp) hx)
          | (go_meet
             case rel => exact KEY.out _ (by unfold sliced; simp; omega))
      · go_wp2_with fail
        all_goals first
          | (rename_i hx; exact absurd (show 0 < (f :: l').length by simp) hx)
          | (go_meet
             case rel => exact KEY.out _ (by unfold sliced; rw [if_neg hfc]; simp [Dt.Addr.add_mid']))
  case rest =>
    obtain ⟨hR, hB, hk⟩ := hcut
    obtain ⟨f, hfd⟩ : ∃ f, sfa.headD fa0 = f := ⟨_, rfl⟩
    rw [hfd] at hB
    obtain ⟨drop, copies, delay⟩ := f
    have d0 := Blk.cell (i := 0) hB rfl
    simp only [List.getElem_toArray, List.getElem_cons_zero] at d0
    obtain ⟨⟨v2, c2, hv2⟩, f2, hL, hkL⟩ := hR.lost1 (by show slost + 1 ≤ _; omega)
    subst hv2
    dsimp only at c2 hL hkL
    have HR := Lib.hid hR; have HB := Lib.hid hB; have HK := Lib.hid hk; have HL := Lib.hid (HasR.monoK (K' := K) hL (fun x hx => List.mem_cons_of_mem _ hx)); have HKL := Lib.hid (hk.trans (hkL.mono (fun x hx => List.mem_cons_of_mem _ hx))); have HFD := Lib.hid hfd
    clear hR hB hk hL hkL hfd HN1 HB1 HR0 h3 h4 hb hK hf
    cases drop with
    | true =>
      go_wp2_with fail
      refine bodyPost_ret (results_none rfl _ _ _) rfl ?_
      have e : sendS ⟨sfa, sfl, slost⟩ src dst bs tick = ⟨sfa.tail, sfl, slost + 1⟩ := by unfold sendS; dsimp only; rw [HFD.out]; simp
      rw [e]
      exact ⟨rfl, no, by omega, HL.out, HKL.out⟩
    | false =>
      clear c2 f2 HL HKL
      obtain ⟨s1, hs1e⟩ : ∃ s1 : NetV, s1 = ⟨sfa.tail, sfl, slost⟩ := ⟨_, rfl⟩
      have hs1l : s1.lost = slost := by rw [hs1e]
      rw [← hs1e] at HR
      obtain ⟨due, hdue⟩ : ∃ due : Nat, clpI tick + 1 + delayN delay = due := ⟨_, rfl⟩
      obtain ⟨m, hm⟩ : ∃ m : Nat, copiesN copies = m := ⟨_, rfl⟩
      have hm3 : m ≤ 3 := by rw [← hm]; exact (copiesN_le copies).2
      have HS1 := Lib.hid hs1e; have HDUE := Lib.hid hdue; have HM := Lib.hid hm
      clear hs1e hdue hm
      go_wp2_with fail
      clear d0
      go_loopw [11] (fun jv wr => ∃ (j no' : Nat), j ≤ m ∧ no' ≤ no + j ∧ jv = .int .i64 j ∧ HasR W (G :: K) wr b (pushS j ⟨due, src, dst, bs⟩ s1) no' ∧ Blk wr G #[.bool false, .int .i64 copies, .int .i64 delay] 98 ∧ Kp K w wr) (fun jv _ => m - (intOf jv).toNat)
      case atStart => exact ⟨0, no, by omega, by omega, rfl, HR.out, HB.out, HK.out⟩
      case round =>
        obtain ⟨j, no', hj, hno', rfl, hR, hB, hk⟩ := hrel
        have d1 := Blk.cell (i := 1) hB rfl
        have d2 := Blk.cell (i := 2) hB rfl
        simp only [List.getElem_toArray, List.getElem_cons_zero, List.getElem_cons_succ] at d1 d2
        clear HR HB HK
        have HR := Lib.hid hR; have HB := Lib.hid hB; have HK := Lib.hid hk
        clear hR hB hk
        go_upto_region 7 with (fail)
        go_cut [47] from 42 to 46 (fun v wc => v = .bool (decide (j < m)) ∧ wr = wc)
        case first =>
          have HMM := Lib.hid (show (m : Int) = 1 + max 0 (min copies 2) by have := HM.out; unfold copiesN at this; omega)
          rcases (show copies < 0 ∨ copies = 0 ∨ (0 < copies ∧ copies < 2) ∨ copies = 2 ∨ 2 < copies by omega) with c | c | ⟨c, c'⟩ | c | c
          all_goals
            (try subst c)
            go_wp2_with fail
            go_meet
            case rel =>
              refine ⟨?_, rfl⟩
              have := HMM.out
              congr 1
              exact decide_eq_decide.2 (by omega)
        case rest =>
          obtain ⟨rfl, hw⟩ := hcut
          subst hw
          clear d1 d2
          by_cases hjm : j < m
          · have q1 : decide (j < m) = true := by simp; omega
            rw [q1]
            obtain ⟨s2, hs2⟩ : ∃ s2, pushS j ⟨due, src, dst, bs⟩ s1 = s2 := ⟨_, rfl⟩
            rw [hs2] at HR
            have hlo2 : s2.lost ≤ slost + j := by have := pushS_lost j ⟨due, src, dst, bs⟩ s1; rw [hs2, hs1l] at this; exact this
            have hsn := pushS_snoc j ⟨due, src, dst, bs⟩ s1
            rw [hs2] at hsn
            dsimp only at hsn
            have HSN := Lib.hid hsn
            clear hsn hs2
            obtain ⟨⟨v2, c2, hv2⟩, f2, hL, hkL⟩ := HR.out.lost1 (by omega)
            subst hv2
            have hbG : ¬ G = b := fun h => HR.out.hb (by rw [h]; simp)
            have HLB := Lib.hid (HB.out.other (a := ⟨b, 2, none⟩) hbG (.int .i64 ((s2.lost : Int) + 1)))
            have HL := Lib.hid hL; have HKL := Lib.hid (HK.out.trans (hkL.mono (fun x hx => List.mem_cons_of_mem _ hx)))
            clear hL hkL
            obtain ⟨⟨vs2, fv2, dv2, r1, r2, r3, r4⟩, rb, rb2, rK, rf⟩ := HR.out
            obtain rfl := r2.hd
            obtain ⟨V, x1, x2, x3⟩ := r2.do'
            obtain ⟨n2, hn2⟩ : ∃ n2, s2.fl.length = n2 := ⟨_, rfl⟩
            rw [hn2] at x1 HSN
            obtain ⟨da, dc, rfl, hdc1, hdc2⟩ := own_val x1
            have c1 := Blk.cell (i := 1) r1 rfl
            simp only [List.getElem_toArray, List.getElem_cons_zero, List.getElem_cons_succ] at c1
            have hn256 : n2 ≤ 256 := by have := r2.xb; omega
            have HX1 := Lib.hid x1; have HX2 := Lib.hid x2; have HX3 := Lib.hid x3; have HR1 := Lib.hid r1; have HR2 := Lib.hid r2; have HN2 := Lib.hid hn2; have HR3 := Lib.hid r3
            clear x1 x2 x3 r1 r2 r3 r4 rb rK rf hn2
            rcases Nat.lt_or_ge n2 256 with hfull | hfull
            · have q2 : (n2 : Int) < 256 := by omega
              clear c2 f2
              go_upto_region 11 with (fail)
              obtain ⟨ck, hck⟩ : ∃ ck, clpI tick = ck := ⟨_, rfl⟩
              have hckl : ck ≤ 1000000 := hck ▸ clpI_le tick
              obtain ⟨dn, hdn⟩ : ∃ dn, delayN delay = dn := ⟨_, rfl⟩
              have hdnl : dn ≤ 20 := by rw [← hdn]; unfold delayN; omega
              have hdu := HDUE.out
              rw [hck, hdn] at hdu
              have HDU := Lib.hid (show (due : Int) = (ck : Int) + 1 + dn by omega)
              obtain ⟨d17, hd17⟩ : ∃ d17 : Int, d17 = min 20 delay := ⟨_, rfl⟩
              have HD17 := Lib.hid hd17
              have HD18 := Lib.hid (show (dn : Int) = max 0 d17 by rw [← hdn, hd17]; unfold delayN; omega)
              have HCLK := Lib.hid (fun w1 => hck ▸ rclock_any tick w1)
              have hw1 : IntKind.i64.wrap ((ck : Int) + 1) = (ck : Int) + 1 := IntWalk.i64_in _ (by omega)
              have hw2 : IntKind.i64.wrap ((ck : Int) + 1 + dn) = (ck : Int) + 1 + dn := IntWalk.i64_in _ (by omega)
              have HBR := Lib.hid (HBV.out.fr0 HR.out.fr)
              have HBL := Lib.hid (show l = bs.length by have := HBV.out.len; rwa [u8s_len] at this)
              have hll : l ≤ 140737488355000 := by have := HBL.out; omega
              obtain ⟨i0, hi0, hz0, hz1, hz2⟩ := info_parts infDgR
              obtain ⟨iu, hiu, hu0, hu1, hu2⟩ := info_parts infU8
              clear hck hdn hdu hd17
              refine wp_region_M 27 (fun w' => Fr [] wr w') (by kernel_rfl) ((Fr.refl [] wr).drew) (fun hS => ?_)
              try simp only [List.getElem_toArray, List.getElem_cons_succ, List.getElem_cons_zero, Act.put, List.setIfInBounds_toArray, List.set_cons_zero, List.set_cons_succ]
              generalize wr.drew = wz0 at *
              refine wpAnyM_take (i := 0) (v := ?_) rfl (by kernel_rfl) (by kernel_rfl) (by kernel_rfl) (by kernel_rfl) (fun _ _ _ h => h) (Or.inl ⟨by kernel_rfl, ?_⟩) hS ?_; rotate_left; (intro w hSw; have s1 := Blk.cell (i := 1) (hSw.blk HR1.out (by simp)) rfl; have s3 := Blk.cell (i := 3) (hSw.blk HR1.out (by simp)) rfl; have s2 := Blk.cell (i := 2) (hSw.blk HB.out (by simp)) rfl; simp only [List.getElem_toArray, List.getElem_cons_zero, List.getElem_cons_succ] at s1 s2 s3; go_simp; try with_reducible rfl)
              try simp only [List.getElem_toArray, List.getElem_cons_succ, List.getElem_cons_zero, Act.put, List.setIfInBounds_toArray, List.set_cons_zero, List.set_cons_succ]
              refine wpAnyM_take (i := 2) (v := ?_) rfl (by kernel_rfl) (by kernel_rfl) (by kernel_rfl) (by kernel_rfl) (fun _ _ _ h => h) (Or.inl ⟨by kernel_rfl, ?_⟩) hS ?_; rotate_left; (intro w hSw; have s1 := Blk.cell (i := 1) (hSw.blk HR1.out (by simp)) rfl; have s3 := Blk.cell (i := 3) (hSw.blk HR1.out (by simp)) rfl; have s2 := Blk.cell (i := 2) (hSw.blk HB.out (by simp)) rfl; simp only [List.getElem_toArray, List.getElem_cons_zero, List.getElem_cons_succ] at s1 s2 s3; go_simp; try with_reducible rfl)
              try simp only [List.getElem_toArray, List.getElem_cons_succ, List.getElem_cons_zero, Act.put, List.setIfInBounds_toArray, List.set_cons_zero, List.set_cons_succ]
              refine wpAnyM_take (i := 3) (v := ?_) rfl (by kernel_rfl) (by kernel_rfl) (by kernel_rfl) (by kernel_rfl) (fun _ _ _ h => h) (Or.inl ⟨by kernel_rfl, ?_⟩) hS ?_; rotate_left; (intro w hSw; have s1 := Blk.cell (i := 1) (hSw.blk HR1.out (by simp)) rfl; have s3 := Blk.cell (i := 3) (hSw.blk HR1.out (by simp)) rfl; have s2 := Blk.cell (i := 2) (hSw.blk HB.out (by simp)) rfl; simp only [List.getElem_toArray, List.getElem_cons_zero, List.getElem_cons_succ] at s1 s2 s3; go_simp; try with_reducible rfl)
              try simp only [List.getElem_toArray, List.getElem_cons_succ, List.getElem_cons_zero, Act.put, List.setIfInBounds_toArray, List.set_cons_zero, List.set_cons_succ]
              refine wpAnyM_take (i := 4) (v := ?_) rfl (by kernel_rfl) (by kernel_rfl) (by kernel_rfl) (by kernel_rfl) (fun _ _ _ h => h) (Or.inl ⟨by kernel_rfl, ?_⟩) hS ?_; rotate_left; (intro w hSw; have s1 := Blk.cell (i := 1) (hSw.blk HR1.out (by simp)) rfl; have s3 := Blk.cell (i := 3) (hSw.blk HR1.out (by simp)) rfl; have s2 := Blk.cell (i := 2) (hSw.blk HB.out (by simp)) rfl; simp only [List.getElem_toArray, List.getElem_cons_zero, List.getElem_cons_succ] at s1 s2 s3; go_simp; try with_reducible rfl)
              try simp only [List.getElem_toArray, List.getElem_cons_succ, List.getElem_cons_zero, Act.put, List.setIfInBounds_toArray, List.set_cons_zero, List.set_cons_succ]
              refine wpAnyM_take (i := 5) (v := ?_) rfl (by kernel_rfl) (by kernel_rfl) (by kernel_rfl) (by kernel_rfl) (fun _ _ _ h => h) (Or.inl ⟨by kernel_rfl, ?_⟩) hS ?_; rotate_left; (intro w hSw; have s1 := Blk.cell (i := 1) (hSw.blk HR1.out (by simp)) rfl; have s3 := Blk.cell (i := 3) (hSw.blk HR1.out (by simp)) rfl; have s2 := Blk.cell (i := 2) (hSw.blk HB.out (by simp)) rfl; simp only [List.getElem_toArray, List.getElem_cons_zero, List.getElem_cons_succ] at s1 s2 s3; go_simp; try with_reducible rfl)
              try simp only [List.getElem_toArray, List.getElem_cons_succ, List.getElem_cons_zero, Act.put, List.setIfInBounds_toArray, List.set_cons_zero, List.set_cons_succ]
              refine wpAnyM_take (i := 7) (v := ?_) rfl (by kernel_rfl) (by kernel_rfl) (by kernel_rfl) (by kernel_rfl) (fun _ _ _ h => h) (Or.inl ⟨by kernel_rfl, ?_⟩) hS ?_; rotate_left; (intro w hSw; have s1 := Blk.cell (i := 1) (hSw.blk HR1.out (by simp)) rfl; have s3 := Blk.cell (i := 3) (hSw.blk HR1.out (by simp)) rfl; have s2 := Blk.cell (i := 2) (hSw.blk HB.out (by simp)) rfl; simp only [List.getElem_toArray, List.getElem_cons_zero, List.getElem_cons_succ] at s1 s2 s3; go_simp; try with_reducible rfl)
              try simp only [List.getElem_toArray, List.getElem_cons_succ, List.getElem_cons_zero, Act.put, List.setIfInBounds_toArray, List.set_cons_zero, List.set_cons_succ]
              refine wpAnyM_take (i := 8) (v := ?_) rfl (by kernel_rfl) (by kernel_rfl) (by kernel_rfl) (by kernel_rfl) (fun _ _ _ h => h) (Or.inl ⟨by kernel_rfl, ?_⟩) hS ?_; rotate_left; (intro w hSw; have s1 := Blk.cell (i := 1) (hSw.blk HR1.out (by simp)) rfl; have s3 := Blk.cell (i := 3) (hSw.blk HR1.out (by simp)) rfl; have s2 := Blk.cell (i := 2) (hSw.blk HB.out (by simp)) rfl; simp only [List.getElem_toArray, List.getElem_cons_zero, List.getElem_cons_succ] at s1 s2 s3; go_simp; try with_reducible rfl)
              try simp only [List.getElem_toArray, List.getElem_cons_succ, List.getElem_cons_zero, Act.put, List.setIfInBounds_toArray, List.set_cons_zero, List.set_cons_succ]
              refine wpAnyM_take (i := 10) (v := ?_) rfl (by kernel_rfl) (by kernel_rfl) (by kernel_rfl) (by kernel_rfl) (fun _ _ _ h => h) (Or.inl ⟨by kernel_rfl, ?_⟩) hS ?_; rotate_left; (intro w hSw; have s1 := Blk.cell (i := 1) (hSw.blk HR1.out (by simp)) rfl; have s3 := Blk.cell (i := 3) (hSw.blk HR1.out (by simp)) rfl; have s2 := Blk.cell (i := 2) (hSw.blk HB.out (by simp)) rfl; simp only [List.getElem_toArray, List.getElem_cons_zero, List.getElem_cons_succ] at s1 s2 s3; go_simp; try with_reducible rfl)
              try simp only [List.getElem_toArray, List.getElem_cons_succ, List.getElem_cons_zero, Act.put, List.setIfInBounds_toArray, List.set_cons_zero, List.set_cons_succ]
              refine wpAnyM_take (i := 12) (v := ?_) rfl (by kernel_rfl) (by kernel_rfl) (by kernel_rfl) (by kernel_rfl) (fun _ _ _ h => h) (Or.inl ⟨by kernel_rfl, ?_⟩) hS ?_; rotate_left; (intro w hSw; have s1 := Blk.cell (i := 1) (hSw.blk HR1.out (by simp)) rfl; have s3 := Blk.cell (i := 3) (hSw.blk HR1.out (by simp)) rfl; have s2 := Blk.cell (i := 2) (hSw.blk HB.out (by simp)) rfl; simp only [List.getElem_toArray, List.getElem_cons_zero, List.getElem_cons_succ] at s1 s2 s3; go_simp; try with_reducible rfl)
              try simp only [List.getElem_toArray, List.getElem_cons_succ, List.getElem_cons_zero, Act.put, List.setIfInBounds_toArray, List.set_cons_zero, List.set_cons_succ]
              refine wpAnyM_take (i := 15) (v := ?_) rfl (by kernel_rfl) (by kernel_rfl) (by kernel_rfl) (by kernel_rfl) (fun _ _ _ h => h) (Or.inl ⟨by kernel_rfl, ?_⟩) hS ?_; rotate_left; (intro w hSw; have s1 := Blk.cell (i := 1) (hSw.blk HR1.out (by simp)) rfl; have s3 := Blk.cell (i := 3) (hSw.blk HR1.out (by simp)) rfl; have s2 := Blk.cell (i := 2) (hSw.blk HB.out (by simp)) rfl; simp only [List.getElem_toArray, List.getElem_cons_zero, List.getElem_cons_succ] at s1 s2 s3; go_simp; try with_reducible rfl)
              try simp only [List.getElem_toArray, List.getElem_cons_succ, List.getElem_cons_zero, Act.put, List.setIfInBounds_toArray, List.set_cons_zero, List.set_cons_succ]
              refine wpAnyM_take (i := 16) (v := ?_) rfl (by kernel_rfl) (by kernel_rfl) (by kernel_rfl) (by kernel_rfl) (fun _ _ _ h => h) (Or.inl ⟨by kernel_rfl, ?_⟩) hS ?_; rotate_left; (intro w hSw; have s1 := Blk.cell (i := 1) (hSw.blk HR1.out (by simp)) rfl; have s3 := Blk.cell (i := 3) (hSw.blk HR1.out (by simp)) rfl; have s2 := Blk.cell (i := 2) (hSw.blk HB.out (by simp)) rfl; simp only [List.getElem_toArray, List.getElem_cons_zero, List.getElem_cons_succ] at s1 s2 s3; go_simp; try with_reducible rfl)
              try simp only [List.getElem_toArray, List.getElem_cons_succ, List.getElem_cons_zero, Act.put, List.setIfInBounds_toArray, List.set_cons_zero, List.set_cons_succ]
              refine wpAnyM_take (i := 17) (v := (.int .i64 d17)) rfl (by kernel_rfl) (by kernel_rfl) (by kernel_rfl) (by kernel_rfl) (fun _ _ _ h => h) (Or.inl ⟨by kernel_rfl, ?_⟩) hS ?_; (intro w hSw; (focus (rcases Int.lt_trichotomy delay 20 with h | h | h <;> (first | rw [show d17 = delay from (by have := HD17.out; omega)] | rw [show d17 = 20 from (by have := HD17.out; omega)]) <;> go_simp <;> (try with_reducible rfl) <;> (try (intros; omega)); done)))
              try simp only [List.getElem_toArray, List.getElem_cons_succ, List.getElem_cons_zero, Act.put, List.setIfInBounds_toArray, List.set_cons_zero, List.set_cons_succ]
              refine wpAnyM_take (i := 18) (v := (.int .i64 (dn : Int))) rfl (by kernel_rfl) (by kernel_rfl) (by kernel_rfl) (by kernel_rfl) (fun _ _ _ h => h) (Or.inl ⟨by kernel_rfl, ?_⟩) hS ?_; (intro w hSw; (focus (rcases Int.lt_trichotomy d17 0 with h | h | h <;> (first | rw [show (dn : Int) = d17 from (by have := HD18.out; omega)] | rw [show (dn : Int) = 0 from (by have := HD18.out; omega)]) <;> go_simp <;> (try with_reducible rfl) <;> (try (intros; omega)); done)))
              try simp only [List.getElem_toArray, List.getElem_cons_succ, List.getElem_cons_zero, Act.put, List.setIfInBounds_toArray, List.set_cons_zero, List.set_cons_succ]
              refine wpAnyM_take (i := 20) (v := ?_) rfl (by kernel_rfl) (by kernel_rfl) (by kernel_rfl) (by kernel_rfl) (fun _ _ _ h => h) (Or.inl ⟨by kernel_rfl, ?_⟩) hS ?_; rotate_left; (intro w hSw; have s1 := Blk.cell (i := 1) (hSw.blk HR1.out (by simp)) rfl; have s3 := Blk.cell (i := 3) (hSw.blk HR1.out (by simp)) rfl; have s2 := Blk.cell (i := 2) (hSw.blk HB.out (by simp)) rfl; simp only [List.getElem_toArray, List.getElem_cons_zero, List.getElem_cons_succ] at s1 s2 s3; go_simp; try with_reducible rfl)
              try simp only [List.getElem_toArray, List.getElem_cons_succ, List.getElem_cons_zero, Act.put, List.setIfInBounds_toArray, List.set_cons_zero, List.set_cons_succ]
              refine wpAnyM_take (i := 21) (v := ?_) rfl (by kernel_rfl) (by kernel_rfl) (by kernel_rfl) (by kernel_rfl) (fun _ _ _ h => h) (Or.inl ⟨by kernel_rfl, ?_⟩) hS ?_; rotate_left; (intro w hSw; have s1 := Blk.cell (i := 1) (hSw.blk HR1.out (by simp)) rfl; have s3 := Blk.cell (i := 3) (hSw.blk HR1.out (by simp)) rfl; have s2 := Blk.cell (i := 2) (hSw.blk HB.out (by simp)) rfl; simp only [List.getElem_toArray, List.getElem_cons_zero, List.getElem_cons_succ] at s1 s2 s3; go_simp; try with_reducible rfl)
              try simp only [List.getElem_toArray, List.getElem_cons_succ, List.getElem_cons_zero, Act.put, List.setIfInBounds_toArray, List.set_cons_zero, List.set_cons_succ]
              refine wpAnyM_take (i := 22) (v := ?_) rfl (by kernel_rfl) (by kernel_rfl) (by kernel_rfl) (by kernel_rfl) (fun _ _ _ h => h) (Or.inl ⟨by kernel_rfl, ?_⟩) hS ?_; rotate_left; (intro w hSw; have s1 := Blk.cell (i := 1) (hSw.blk HR1.out (by simp)) rfl; have s3 := Blk.cell (i := 3) (hSw.blk HR1.out (by simp)) rfl; have s2 := Blk.cell (i := 2) (hSw.blk HB.out (by simp)) rfl; simp only [List.getElem_toArray, List.getElem_cons_zero, List.getElem_cons_succ] at s1 s2 s3; go_simp; try with_reducible rfl)
              try simp only [List.getElem_toArray, List.getElem_cons_succ, List.getElem_cons_zero, Act.put, List.setIfInBounds_toArray, List.set_cons_zero, List.set_cons_succ]
              refine wpAnyM_take (i := 23) (v := ?_) rfl (by kernel_rfl) (by kernel_rfl) (by kernel_rfl) (by kernel_rfl) (fun _ _ _ h => h) (Or.inl ⟨by kernel_rfl, ?_⟩) hS ?_; rotate_left; (intro w hSw; have s1 := Blk.cell (i := 1) (hSw.blk HR1.out (by simp)) rfl; have s3 := Blk.cell (i := 3) (hSw.blk HR1.out (by simp)) rfl; have s2 := Blk.cell (i := 2) (hSw.blk HB.out (by simp)) rfl; simp only [List.getElem_toArray, List.getElem_cons_zero, List.getElem_cons_succ] at s1 s2 s3; go_simp; try with_reducible rfl)
              try simp only [List.getElem_toArray, List.getElem_cons_succ, List.getElem_cons_zero, Act.put, List.setIfInBounds_toArray, List.set_cons_zero, List.set_cons_succ]
              refine wpAnyM_two (i := 1) (j := 9) (by kernel_rfl) rfl rfl (fun KK hK => ?_) (fun KK hK => ?_)
              · skip
                go_simp
                have hb0 := Blk.new wz0 #[] 96
                have hS2 := hS.alloc (.cells #[] 96)
                (try have H9 := Lib.hid (own_keep H9.out ((Fr.refl [] wz0).alloc (.cells #[] 96)) (by simp)))
                have hg0b : wr.heap.size ≤ wz0.heap.size := hS.size
                obtain ⟨g0, hg0⟩ : ∃ g0, wz0.heap.size = g0 := ⟨_, rfl⟩
                rw [hg0] at hb0 hg0b ⊢
                generalize wz0.alloc (.cells #[] 96) = wz1 at *
                have H0 := Lib.hid (own_empty (sz := 5) (base := wr.heap.size) hb0 hg0b)
                refine hK.out _ _ (fun _ => hS2) (fun _ => ?_); clear hK KK hS hg0 hb0
                have hS := hS2
                clear hS2
                try simp only [List.getElem_toArray, List.getElem_cons_succ, List.getElem_cons_zero, Act.put, List.setIfInBounds_toArray, List.set_cons_zero, List.set_cons_succ]
                refine wpAnyM_two (i := 6) (j := 9) (by kernel_rfl) rfl rfl (fun KK hK => ?_) (fun KK hK => ?_)
                · skip
                  refine step_append_src _ rfl (Operand.tmp 64) (Operand.tmp 68) 91 rfl wr.heap.size 96 i0 _ 5 56 Try.underlying91 hi0 hz0 hz1 hz2 rfl (by decide) (.slice (some ⟨g0, 0, none⟩) 0 0) (.slice da n2 dc) 0 n2 [] (rgC V) rfl (by kernel_rfl) H0.out (own_src (own_keep HX1.out hS (by simp)) (rgC_one V)) (by unfold maxLen; omega) (by omega) hS.size ?_
                  intro v69 wz2 ho6 hg6 hat6
                  have hS2 := fr_own hS H0.out hg6 (Nat.le_refl _)
                  (try have H9 := Lib.hid (own_keep H9.out (fr_grown hg6) (fun g hg hx => by simp only [Option.mem_toList] at hx; exact own_own H9.out H0.out (by decide) g hg hx)))
                  simp only [Nat.zero_add, List.nil_append] at ho6
                  have H6 := Lib.hid ho6
                  clear ho6 hg6 hat6
                  refine hK.out _ _ (fun _ => hS2) (fun _ => ?_); clear hK KK hS H0
                  have hS := hS2
                  clear hS2
                  try simp only [List.getElem_toArray, List.getElem_cons_succ, List.getElem_cons_zero, Act.put, List.setIfInBounds_toArray, List.set_cons_zero, List.set_cons_succ]
                  refine wpAnyM_one (i := 9) (by kernel_rfl) rfl (fun KK hK => ?_)
                  go_simp
                  have hb9 := Blk.new wz2 #[] 5
                  have hS2 := hS.alloc (.cells #[] 5)
                  (try have H0 := Lib.hid (own_keep H0.out ((Fr.refl [] wz2).alloc (.cells #[] 5)) (by simp)))
                  (try have H6 := Lib.hid (own_keep H6.out ((Fr.refl [] wz2).alloc (.cells #[] 5)) (by simp)))
                  have hg9b : wr.heap.size ≤ wz2.heap.size := hS.size
                  obtain ⟨g9, hg9⟩ : ∃ g9, wz2.heap.size = g9 := ⟨_, rfl⟩
                  rw [hg9] at hb9 hg9b ⊢
                  generalize wz2.alloc (.cells #[] 5) = wz3 at *
                  have H9 := Lib.hid (own_empty (sz := 1) (base := wr.heap.size) hb9 hg9b)
                  refine hK.out _ _ (fun _ => hS2) (fun _ => ?_); clear hK KK hS hg9 hb9
                  have hS := hS2
                  clear hS2
                  try simp only [List.getElem_toArray, List.getElem_cons_succ, List.getElem_cons_zero, Act.put, List.setIfInBounds_toArray, List.set_cons_zero, List.set_cons_succ]
                  refine wpAnyM_one (i := 11) (by kernel_rfl) rfl (fun KK hK => ?_)
                  refine step_append_src _ rfl (Operand.tmp 72) (Operand.tmp 73) 73 rfl wr.heap.size 5 iu _ 1 1 Try.underlying73 hiu hu0 hu1 hu2 rfl (by decide) (.slice (some ⟨g9, 0, none⟩) 0 0) (.slice a l c) 0 l [] (u8s bs) rfl (by kernel_rfl) H9.out (by have := (HBR.out.fr0 hS).src (u8s_one bs); rwa [u8s_len, ← HBL.out] at this) (by unfold maxLen; omega) (by omega) hS.size ?_
                  intro v74 wz4 ho11 hg11 hat11
                  have hS2 := fr_own hS H9.out hg11 (Nat.le_refl _)
                  have H6 := Lib.hid (own_keep H6.out (fr_grown hg11) (fun g hg hx => by simp only [Option.mem_toList] at hx; exact own_own H6.out H9.out (by decide) g hg hx))
                  simp only [Nat.zero_add, List.nil_append] at ho11
                  obtain ⟨ba, bc, rfl, hbv11⟩ := BV.of_own ho11 HB256.out
                  have H11 := Lib.hid hbv11
                  rw [← HBL.out] at H11 ⊢
                  clear ho11 hg11 hat11 hbv11
                  refine hK.out _ _ (fun _ => hS2) (fun _ => ?_); clear hK KK hS H9
                  have hS := hS2
                  clear hS2
                  try simp only [List.getElem_toArray, List.getElem_cons_succ, List.getElem_cons_zero, Act.put, List.setIfInBounds_toArray, List.set_cons_zero, List.set_cons_succ]
                  refine wpAnyM_call (i := 13) (v := (.int .i64 (ck : Int))) rfl rfl Try.func65 (by kernel_rfl) (by kernel_rfl) (by kernel_rfl) (by kernel_rfl) (by kernel_rfl) (by kernel_rfl) (fun _ _ _ h => h) (by kernel_rfl) (by kernel_rfl) (fun w hSw => (HCLK.out _).mono (fun e w' h => ⟨h.1, h.2.symm⟩)) hS ?_
                  try simp only [List.getElem_toArray, List.getElem_cons_succ, List.getElem_cons_zero, Act.put, List.setIfInBounds_toArray, List.set_cons_zero, List.set_cons_succ]
                  refine wpAnyM_take (i := 14) (v := ?_) rfl (by kernel_rfl) (by kernel_rfl) (by kernel_rfl) (by kernel_rfl) (fun _ _ _ h => h) (Or.inl ⟨by kernel_rfl, ?_⟩) hS ?_; rotate_left; (intro w hSw; have s1 := Blk.cell (i := 1) (hSw.blk HR1.out (by simp)) rfl; have s3 := Blk.cell (i := 3) (hSw.blk HR1.out (by simp)) rfl; have s2 := Blk.cell (i := 2) (hSw.blk HB.out (by simp)) rfl; simp only [List.getElem_toArray, List.getElem_cons_zero, List.getElem_cons_succ] at s1 s2 s3; go_simp; try with_reducible rfl)
                  try simp only [List.getElem_toArray, List.getElem_cons_succ, List.getElem_cons_zero, Act.put, List.setIfInBounds_toArray, List.set_cons_zero, List.set_cons_succ]
                  refine wpAnyM_take (i := 19) (v := (.int .i64 (due : Int))) rfl (by kernel_rfl) (by kernel_rfl) (by kernel_rfl) (by kernel_rfl) (fun _ _ _ h => h) (Or.inl ⟨by kernel_rfl, ?_⟩) hS ?_; (intro w hSw; (rw [HDU.out]; go_simp; try with_reducible rfl))
                  try simp only [List.getElem_toArray, List.getElem_cons_succ, List.getElem_cons_zero, Act.put, List.setIfInBounds_toArray, List.set_cons_zero, List.set_cons_succ]
                  refine wpAnyM_take (i := 24) (v := ?_) rfl (by kernel_rfl) (by kernel_rfl) (by kernel_rfl) (by kernel_rfl) (fun _ _ _ h => h) (Or.inl ⟨by kernel_rfl, ?_⟩) hS ?_; rotate_left; (intro w hSw; have s1 := Blk.cell (i := 1) (hSw.blk HR1.out (by simp)) rfl; have s3 := Blk.cell (i := 3) (hSw.blk HR1.out (by simp)) rfl; have s2 := Blk.cell (i := 2) (hSw.blk HB.out (by simp)) rfl; simp only [List.getElem_toArray, List.getElem_cons_zero, List.getElem_cons_succ] at s1 s2 s3; go_simp; try with_reducible rfl)
                  try simp only [List.getElem_toArray, List.getElem_cons_succ, List.getElem_cons_zero, Act.put, List.setIfInBounds_toArray, List.set_cons_zero, List.set_cons_succ]
                  refine wpAnyM_one (i := 25) (by kernel_rfl) rfl (fun KK hK => ?_)
                  go_simp
                  have hb25 := Blk.new wz4 #[.int .i64 src, .int .i64 dst, .slice ba l bc, .int .i64 (due : Int), .int .i64 (no' : Int)] 96
                  have hS2 := hS.alloc (.cells #[.int .i64 src, .int .i64 dst, .slice ba l bc, .int .i64 (due : Int), .int .i64 (no' : Int)] 96)
                  have H6 := Lib.hid (own_keep H6.out ((Fr.refl [] wz4).alloc (.cells #[.int .i64 src, .int .i64 dst, .slice ba l bc, .int .i64 (due : Int), .int .i64 (no' : Int)] 96)) (by simp))
                  have H11 := Lib.hid (H11.out.fr ((Fr.refl [] wz4).alloc (.cells #[.int .i64 src, .int .i64 dst, .slice ba l bc, .int .i64 (due : Int), .int .i64 (no' : Int)] 96)) (NoU8.nil _))
                  obtain ⟨g25, hg25⟩ : ∃ g25, wz4.heap.size = g25 := ⟨_, rfl⟩
                  rw [hg25] at hb25 ⊢
                  generalize wz4.alloc (.cells #[.int .i64 src, .int .i64 dst, .slice ba l bc, .int .i64 (due : Int), .int .i64 (no' : Int)] 96) = wz5 at *
                  have H25 := Lib.hid hb25
                  refine hK.out _ _ (fun _ => hS2) (fun _ => ?_); clear hK KK hS hg25 hb25
                  have hS := hS2
                  clear hS2
                  try simp only [List.getElem_toArray, List.getElem_cons_succ, List.getElem_cons_zero, Act.put, List.setIfInBounds_toArray, List.set_cons_zero, List.set_cons_succ]
                  refine wpAnyM_one (i := 26) (by kernel_rfl) rfl (fun KK hK => ?_)
                  refine step_append_src _ rfl (Operand.tmp 69) (Operand.tmp 88) 91 rfl wr.heap.size 96 i0 _ 5 56 Try.underlying91 hi0 hz0 hz1 hz2 rfl (by decide) v69 (.slice (some ⟨g25, 0, none⟩) 1 1) n2 1 (rgC V) [.int .i64 src, .int .i64 dst, .slice ba l bc, .int .i64 (due : Int), .int .i64 (no' : Int)] rfl (by kernel_rfl) H6.out (src_blk H25.out (by simp) (by simp [Value.oneCell']) 1) (by unfold maxLen; omega) (by omega) hS.size ?_
                  intro v89 wz6 ho26 hg26 hat26
                  have hS2 := fr_own hS H6.out hg26 (Nat.le_refl _)
                  have H11 := Lib.hid (H11.out.fr (fr_grown hg26) (NoU8.own H6.out (by decide)))
                  have hcs : rgC V ++ [.int .i64 src, .int .i64 dst, .slice ba l bc, .int .i64 (due : Int), .int .i64 (no' : Int)] = rgC (V ++ [⟨⟨due, src, dst, ba, l, bc⟩, no'⟩]) := by
                    rw [rgC_app]; rfl
                  rw [hcs] at ho26
                  obtain ⟨za, zc, rfl, hzc1, hzc2⟩ := own_val ho26
                  have H26 := Lib.hid ho26
                  clear ho26 hg26 hat26 hcs H6 H25
                  refine hK.out _ _ (fun _ => hS2) (fun _ => ?_); clear hK KK hS
                  have hS := hS2
                  clear hS2
                  have f29 := Blk.free (hS.blk HR1.out (by simp)) 1
                  have c29 := Blk.cell (i := 1) (hS.blk HR1.out (by simp)) rfl
                  simp only [List.getElem_toArray, List.getElem_cons_zero, List.getElem_cons_succ] at c29
                  have HFZ := Lib.hid hS
                  try simp only [List.getElem_toArray, List.getElem_cons_succ, List.getElem_cons_zero, Act.put, List.setIfInBounds_toArray, List.set_cons_zero, List.set_cons_succ]
                  refine wpAnyM_one (i := 27) (by kernel_rfl) rfl (fun KK hK => ?_)
                  go_simp
                  refine hK.out _ _ (fun h => absurd h (by decide)) (fun _ => ?_); clear hK KK
                  try simp only [List.getElem_toArray, List.getElem_cons_succ, List.getElem_cons_zero, Act.put, List.setIfInBounds_toArray, List.set_cons_zero, List.set_cons_succ]
                  refine wpAnyM_one (i := 28) (by kernel_rfl) rfl (fun KK hK => ?_)
                  go_simp
                  refine hK.out _ _ (fun h => absurd h (by decide)) (fun _ => ?_); clear hK KK
                  try simp only [List.getElem_toArray, List.getElem_cons_succ, List.getElem_cons_zero, Act.put, List.setIfInBounds_toArray, List.set_cons_zero, List.set_cons_succ]
                  refine wpAnyM_one (i := 29) (by kernel_rfl) rfl (fun KK hK => ?_)
                  go_simp
                  refine hK.out _ _ (fun h => absurd h (by decide)) (fun _ => ?_); clear hK KK
                  try simp only [List.getElem_toArray, List.getElem_cons_succ, List.getElem_cons_zero, Act.put, List.setIfInBounds_toArray, List.set_cons_zero, List.set_cons_succ]
                  refine wpAnyM_done (by kernel_rfl) ?_ _
                  try simp only [List.getElem_toArray, List.getElem_cons_succ, List.getElem_cons_zero, Act.put, List.setIfInBounds_toArray, List.set_cons_zero, List.set_cons_succ]
                  clear f29 c29 hS
                  obtain ⟨sl, hsl⟩ : ∃ sl, Value.slice za (n2 + 1) zc = sl := ⟨_, rfl⟩
                  have hB0 := HFZ.out.blk HR1.out (by simp)
                  have hB1 := hB0.set 1 sl
                  have hF1 := (Fr.refl [b] wz6).setCell (p := ⟨b, 1, none⟩) (.inl (by simp)) sl
                  rw [← hsl] at hB1 hF1
                  have hU0 : NoU8 wz6 [b] := NoU8.cons hB0 (by decide) (NoU8.nil _)
                  have hFA := (HFZ.out.mono (S' := [b]) (by simp)).trans hF1 (fun x hx => .inl hx)
                  generalize hwy : wz6.setCell ⟨b, 1, none⟩ (.slice za (n2 + 1) zc) = wy at *
                  have c3 : wy.cell? ⟨b, 3, none⟩ = some (.int .i64 (no' : Int)) := Blk.cell (i := 3) hB1 rfl
                  have f3 := Blk.free hB1 3
                  have hB2 := hB1.set 3 (.int .i64 ((no' : Int) + 1))
                  have hF2 := (Fr.refl [b] wy).setCell (p := ⟨b, 3, none⟩) (.inl (by simp)) (.int .i64 ((no' : Int) + 1))
                  have hU1 : NoU8 wy [b] := NoU8.cons hB1 (by decide) (NoU8.nil _)
                  have hUr : NoU8 wr [b] := NoU8.cons HR1.out (by decide) (NoU8.nil _)
                  have hFB := hFA.trans hF2 (fun x hx => .inl hx)
                  obtain ⟨⟨vs3, fv3, dv3, k1, k2, k3, k4⟩, rb, rb2, rK, rf⟩ := HR.out
                  have hWr := rf.size
                  have hs3 := HSN.out
                  rw [if_neg (show ¬ 256 ≤ n2 by omega)] at hs3
                  have KEY0 : HasR W (G :: K) (wy.setCell ⟨b, 3, none⟩ (.int .i64 ((no' : Int) + 1))) b (pushS (j + 1) ⟨due, src, dst, bs⟩ s1) (no' + 1) ∧ Blk (wy.setCell ⟨b, 3, none⟩ (.int .i64 ((no' : Int) + 1))) G #[.bool false, .int .i64 copies, .int .i64 delay] 98 ∧ Kp K w (wy.setCell ⟨b, 3, none⟩ (.int .i64 ((no' : Int) + 1))) := by
                    have hx : HasR W (G :: K) wr b s2 no' := HR.out
                    rw [hs3]
                    have hown := own_weaken H26.out hWr
                    have hbase : ∀ g, (Value.slice za (n2 + 1) zc).ownBlock = some g → wr.heap.size ≤ g := fun g hg => own_base H26.out hg
                    have hN : (s2.fl ++ [(⟨due, src, dst, bs⟩ : Fg)]).length = n2 + 1 := by rw [List.length_append, HN2.out]; rfl
                    have hU1z : ∀ g, (Value.slice za (n2 + 1) zc).ownBlock = some g → g ∉ [b] := fun g hg hx => by
                      simp at hx; subst hx; have := hbase g hg; have := HR1.out.lt; omega
                    have hfl : FlOk wr (V.map RgV.v) s2.fl := HX2.out
                    have hfb := (H11.out.fr hF1 hU0).fr hF2 hU1
                    have hnew : FgOk (wy.setCell ⟨b, 3, none⟩ (.int .i64 ((no' : Int) + 1))) ⟨due, src, dst, ba, l, bc⟩ ⟨due, src, dst, bs⟩ := ⟨rfl, rfl, rfl, hfb⟩
                    have hflz := (hfl.fr hFB hUr).snoc hnew
                    have hKr : ∀ g ∈ K, g < wr.heap.size := fun g hg => rK g (List.mem_cons_of_mem _ hg)
                    have hbK : b ∉ K := fun hx => rb (List.mem_cons_of_mem _ hx)
                    refine ⟨⟨⟨_, fv2, .slice za (n2 + 1) zc, hB2, ⟨rfl, HR2.out.fo.fr hFB (fun g hg hx => ?_), ⟨V ++ [⟨⟨due, src, dst, ba, l, bc⟩, no'⟩], ?_, ?_, HX3.out.snoc _⟩, HR2.out.fb, ?_, HR2.out.lb⟩, fun g hg hx => ?_, fun g hg hx => ?_⟩, rb, rb2, fun g hg => Nat.lt_of_lt_of_le (rK g hg) hFB.size, rf.trans hFB (fun x hx => .inr (by simp at hx; omega))⟩, hFB.blk HB.out (by simp; exact hbG), HK.out.trans (Kp.of_fr hFB hKr (fun g hg hx => by simp at hx; subst hx; exact hbK hg) hUr)⟩
                    · simp at hx; obtain ⟨-, cur, hB⟩ := HR2.out.fo.blk hg; exact blk_blk hB HR1.out (by decide) hx
                    · rw [hN]; exact own_keep (own_keep hown hF1 hU1z) hF2 hU1z
                    · rw [List.map_append]; exact hflz
                    · rw [hN]; omega
                    · exact HR3.out g hg hx
                    · have := hbase g hg; have := rK g hx; omega
                  have KEY := Lib.hid KEY0
                  clear KEY0
                  clear hB0 hB1 hF1 hU0 hFA hB2 hF2 hU1 hUr hFB k1 k2 k3 k4 rb rb2 rK rf hWr hs3 hsl hwy
                  go_wp2_with fail
                  go_roundw
                  case rel => exact ⟨j + 1, no' + 1, by omega, by omega, by go_num, KEY.out.1, KEY.out.2.1, KEY.out.2.2⟩
                  case measure => simp [intOf]; omega
                  
                · skip
                  go_simp
                  have hb9 := Blk.new wz1 #[] 5
                  have hS2 := hS.alloc (.cells #[] 5)
                  (try have H0 := Lib.hid (own_keep H0.out ((Fr.refl [] wz1).alloc (.cells #[] 5)) (by simp)))
                  (try have H6 := Lib.hid (own_keep H6.out ((Fr.refl [] wz1).alloc (.cells #[] 5)) (by simp)))
                  have hg9b : wr.heap.size ≤ wz1.heap.size := hS.size
                  obtain ⟨g9, hg9⟩ : ∃ g9, wz1.heap.size = g9 := ⟨_, rfl⟩
                  rw [hg9] at hb9 hg9b ⊢
                  generalize wz1.alloc (.cells #[] 5) = wz2 at *
                  have H9 := Lib.hid (own_empty (sz := 1) (base := wr.heap.size) hb9 hg9b)
                  refine hK.out _ _ (fun _ => hS2) (fun _ => ?_); clear hK KK hS hg9 hb9
                  have hS := hS2
                  clear hS2
                  try simp only [List.getElem_toArray, List.getElem_cons_succ, List.getElem_cons_zero, Act.put, List.setIfInBounds_toArray, List.set_cons_zero, List.set_cons_succ]
                  refine wpAnyM_one (i := 6) (by kernel_rfl) rfl (fun KK hK => ?_)
                  refine step_append_src _ rfl (Operand.tmp 64) (Operand.tmp 68) 91 rfl wr.heap.size 96 i0 _ 5 56 Try.underlying91 hi0 hz0 hz1 hz2 rfl (by decide) (.slice (some ⟨g0, 0, none⟩) 0 0) (.slice da n2 dc) 0 n2 [] (rgC V) rfl (by kernel_rfl) H0.out (own_src (own_keep HX1.out hS (by simp)) (rgC_one V)) (by unfold maxLen; omega) (by omega) hS.size ?_
                  intro v69 wz3 ho6 hg6 hat6
                  have hS2 := fr_own hS H0.out hg6 (Nat.le_refl _)
                  (try have H9 := Lib.hid (own_keep H9.out (fr_grown hg6) (fun g hg hx => by simp only [Option.mem_toList] at hx; exact own_own H9.out H0.out (by decide) g hg hx)))
                  simp only [Nat.zero_add, List.nil_append] at ho6
                  have H6 := Lib.hid ho6
                  clear ho6 hg6 hat6
                  refine hK.out _ _ (fun _ => hS2) (fun _ => ?_); clear hK KK hS H0
                  have hS := hS2
                  clear hS2
                  try simp only [List.getElem_toArray, List.getElem_cons_succ, List.getElem_cons_zero, Act.put, List.setIfInBounds_toArray, List.set_cons_zero, List.set_cons_succ]
                  refine wpAnyM_one (i := 11) (by kernel_rfl) rfl (fun KK hK => ?_)
                  refine step_append_src _ rfl (Operand.tmp 72) (Operand.tmp 73) 73 rfl wr.heap.size 5 iu _ 1 1 Try.underlying73 hiu hu0 hu1 hu2 rfl (by decide) (.slice (some ⟨g9, 0, none⟩) 0 0) (.slice a l c) 0 l [] (u8s bs) rfl (by kernel_rfl) H9.out (by have := (HBR.out.fr0 hS).src (u8s_one bs); rwa [u8s_len, ← HBL.out] at this) (by unfold maxLen; omega) (by omega) hS.size ?_
                  intro v74 wz4 ho11 hg11 hat11
                  have hS2 := fr_own hS H9.out hg11 (Nat.le_refl _)
                  have H6 := Lib.hid (own_keep H6.out (fr_grown hg11) (fun g hg hx => by simp only [Option.mem_toList] at hx; exact own_own H6.out H9.out (by decide) g hg hx))
                  simp only [Nat.zero_add, List.nil_append] at ho11
                  obtain ⟨ba, bc, rfl, hbv11⟩ := BV.of_own ho11 HB256.out
                  have H11 := Lib.hid hbv11
                  rw [← HBL.out] at H11 ⊢
                  clear ho11 hg11 hat11 hbv11
                  refine hK.out _ _ (fun _ => hS2) (fun _ => ?_); clear hK KK hS H9
                  have hS := hS2
                  clear hS2
                  try simp only [List.getElem_toArray, List.getElem_cons_succ, List.getElem_cons_zero, Act.put, List.setIfInBounds_toArray, List.set_cons_zero, List.set_cons_succ]
                  refine wpAnyM_call (i := 13) (v := (.int .i64 (ck : Int))) rfl rfl Try.func65 (by kernel_rfl) (by kernel_rfl) (by kernel_rfl) (by kernel_rfl) (by kernel_rfl) (by kernel_rfl) (fun _ _ _ h => h) (by kernel_rfl) (by kernel_rfl) (fun w hSw => (HCLK.out _).mono (fun e w' h => ⟨h.1, h.2.symm⟩)) hS ?_
                  try simp only [List.getElem_toArray, List.getElem_cons_succ, List.getElem_cons_zero, Act.put, List.setIfInBounds_toArray, List.set_cons_zero, List.set_cons_succ]
                  refine wpAnyM_take (i := 14) (v := ?_) rfl (by kernel_rfl) (by kernel_rfl) (by kernel_rfl) (by kernel_rfl) (fun _ _ _ h => h) (Or.inl ⟨by kernel_rfl, ?_⟩) hS ?_; rotate_left; (intro w hSw; have s1 := Blk.cell (i := 1) (hSw.blk HR1.out (by simp)) rfl; have s3 := Blk.cell (i := 3) (hSw.blk HR1.out (by simp)) rfl; have s2 := Blk.cell (i := 2) (hSw.blk HB.out (by simp)) rfl; simp only [List.getElem_toArray, List.getElem_cons_zero, List.getElem_cons_succ] at s1 s2 s3; go_simp; try with_reducible rfl)
                  try simp only [List.getElem_toArray, List.getElem_cons_succ, List.getElem_cons_zero, Act.put, List.setIfInBounds_toArray, List.set_cons_zero, List.set_cons_succ]
                  refine wpAnyM_take (i := 19) (v := (.int .i64 (due : Int))) rfl (by kernel_rfl) (by kernel_rfl) (by kernel_rfl) (by kernel_rfl) (fun _ _ _ h => h) (Or.inl ⟨by kernel_rfl, ?_⟩) hS ?_; (intro w hSw; (rw [HDU.out]; go_simp; try with_reducible rfl))
                  try simp only [List.getElem_toArray, List.getElem_cons_succ, List.getElem_cons_zero, Act.put, List.setIfInBounds_toArray, List.set_cons_zero, List.set_cons_succ]
                  refine wpAnyM_take (i := 24) (v := ?_) rfl (by kernel_rfl) (by kernel_rfl) (by kernel_rfl) (by kernel_rfl) (fun _ _ _ h => h) (Or.inl ⟨by kernel_rfl, ?_⟩) hS ?_; rotate_left; (intro w hSw; have s1 := Blk.cell (i := 1) (hSw.blk HR1.out (by simp)) rfl; have s3 := Blk.cell (i := 3) (hSw.blk HR1.out (by simp)) rfl; have s2 := Blk.cell (i := 2) (hSw.blk HB.out (by simp)) rfl; simp only [List.getElem_toArray, List.getElem_cons_zero, List.getElem_cons_succ] at s1 s2 s3; go_simp; try with_reducible rfl)
                  try simp only [List.getElem_toArray, List.getElem_cons_succ, List.getElem_cons_zero, Act.put, List.setIfInBounds_toArray, List.set_cons_zero, List.set_cons_succ]
                  refine wpAnyM_one (i := 25) (by kernel_rfl) rfl (fun KK hK => ?_)
                  go_simp
                  have hb25 := Blk.new wz4 #[.int .i64 src, .int .i64 dst, .slice ba l bc, .int .i64 (due : Int), .int .i64 (no' : Int)] 96
                  have hS2 := hS.alloc (.cells #[.int .i64 src, .int .i64 dst, .slice ba l bc, .int .i64 (due : Int), .int .i64 (no' : Int)] 96)
                  have H6 := Lib.hid (own_keep H6.out ((Fr.refl [] wz4).alloc (.cells #[.int .i64 src, .int .i64 dst, .slice ba l bc, .int .i64 (due : Int), .int .i64 (no' : Int)] 96)) (by simp))
                  have H11 := Lib.hid (H11.out.fr ((Fr.refl [] wz4).alloc (.cells #[.int .i64 src, .int .i64 dst, .slice ba l bc, .int .i64 (due : Int), .int .i64 (no' : Int)] 96)) (NoU8.nil _))
                  obtain ⟨g25, hg25⟩ : ∃ g25, wz4.heap.size = g25 := ⟨_, rfl⟩
                  rw [hg25] at hb25 ⊢
                  generalize wz4.alloc (.cells #[.int .i64 src, .int .i64 dst, .slice ba l bc, .int .i64 (due : Int), .int .i64 (no' : Int)] 96) = wz5 at *
                  have H25 := Lib.hid hb25
                  refine hK.out _ _ (fun _ => hS2) (fun _ => ?_); clear hK KK hS hg25 hb25
                  have hS := hS2
                  clear hS2
                  try simp only [List.getElem_toArray, List.getElem_cons_succ, List.getElem_cons_zero, Act.put, List.setIfInBounds_toArray, List.set_cons_zero, List.set_cons_succ]
                  refine wpAnyM_one (i := 26) (by kernel_rfl) rfl (fun KK hK => ?_)
                  refine step_append_src _ rfl (Operand.tmp 69) (Operand.tmp 88) 91 rfl wr.heap.size 96 i0 _ 5 56 Try.underlying91 hi0 hz0 hz1 hz2 rfl (by decide) v69 (.slice (some ⟨g25, 0, none⟩) 1 1) n2 1 (rgC V) [.int .i64 src, .int .i64 dst, .slice ba l bc, .int .i64 (due : Int), .int .i64 (no' : Int)] rfl (by kernel_rfl) H6.out (src_blk H25.out (by simp) (by simp [Value.oneCell']) 1) (by unfold maxLen; omega) (by omega) hS.size ?_
                  intro v89 wz6 ho26 hg26 hat26
                  have hS2 := fr_own hS H6.out hg26 (Nat.le_refl _)
                  have H11 := Lib.hid (H11.out.fr (fr_grown hg26) (NoU8.own H6.out (by decide)))
                  have hcs : rgC V ++ [.int .i64 src, .int .i64 dst, .slice ba l bc, .int .i64 (due : Int), .int .i64 (no' : Int)] = rgC (V ++ [⟨⟨due, src, dst, ba, l, bc⟩, no'⟩]) := by
                    rw [rgC_app]; rfl
                  rw [hcs] at ho26
                  obtain ⟨za, zc, rfl, hzc1, hzc2⟩ := own_val ho26
                  have H26 := Lib.hid ho26
                  clear ho26 hg26 hat26 hcs H6 H25
                  refine hK.out _ _ (fun _ => hS2) (fun _ => ?_); clear hK KK hS
                  have hS := hS2
                  clear hS2
                  have f29 := Blk.free (hS.blk HR1.out (by simp)) 1
                  have c29 := Blk.cell (i := 1) (hS.blk HR1.out (by simp)) rfl
                  simp only [List.getElem_toArray, List.getElem_cons_zero, List.getElem_cons_succ] at c29
                  have HFZ := Lib.hid hS
                  try simp only [List.getElem_toArray, List.getElem_cons_succ, List.getElem_cons_zero, Act.put, List.setIfInBounds_toArray, List.set_cons_zero, List.set_cons_succ]
                  refine wpAnyM_one (i := 27) (by kernel_rfl) rfl (fun KK hK => ?_)
                  go_simp
                  refine hK.out _ _ (fun h => absurd h (by decide)) (fun _ => ?_); clear hK KK
                  try simp only [List.getElem_toArray, List.getElem_cons_succ, List.getElem_cons_zero, Act.put, List.setIfInBounds_toArray, List.set_cons_zero, List.set_cons_succ]
                  refine wpAnyM_one (i := 28) (by kernel_rfl) rfl (fun KK hK => ?_)
                  go_simp
                  refine hK.out _ _ (fun h => absurd h (by decide)) (fun _ => ?_); clear hK KK
                  try simp only [List.getElem_toArray, List.getElem_cons_succ, List.getElem_cons_zero, Act.put, List.setIfInBounds_toArray, List.set_cons_zero, List.set_cons_succ]
                  refine wpAnyM_one (i := 29) (by kernel_rfl) rfl (fun KK hK => ?_)
                  go_simp
                  refine hK.out _ _ (fun h => absurd h (by decide)) (fun _ => ?_); clear hK KK
                  try simp only [List.getElem_toArray, List.getElem_cons_succ, List.getElem_cons_zero, Act.put, List.setIfInBounds_toArray, List.set_cons_zero, List.set_cons_succ]
                  refine wpAnyM_done (by kernel_rfl) ?_ _
                  try simp only [List.getElem_toArray, List.getElem_cons_succ, List.getElem_cons_zero, Act.put, List.setIfInBounds_toArray, List.set_cons_zero, List.set_cons_succ]
                  clear f29 c29 hS
                  obtain ⟨sl, hsl⟩ : ∃ sl, Value.slice za (n2 + 1) zc = sl := ⟨_, rfl⟩
                  have hB0 := HFZ.out.blk HR1.out (by simp)
                  have hB1 := hB0.set 1 sl
                  have hF1 := (Fr.refl [b] wz6).setCell (p := ⟨b, 1, none⟩) (.inl (by simp)) sl
                  rw [← hsl] at hB1 hF1
                  have hU0 : NoU8 wz6 [b] := NoU8.cons hB0 (by decide) (NoU8.nil _)
                  have hFA := (HFZ.out.mono (S' := [b]) (by simp)).trans hF1 (fun x hx => .inl hx)
                  generalize hwy : wz6.setCell ⟨b, 1, none⟩ (.slice za (n2 + 1) zc) = wy at *
                  have c3 : wy.cell? ⟨b, 3, none⟩ = some (.int .i64 (no' : Int)) := Blk.cell (i := 3) hB1 rfl
                  have f3 := Blk.free hB1 3
                  have hB2 := hB1.set 3 (.int .i64 ((no' : Int) + 1))
                  have hF2 := (Fr.refl [b] wy).setCell (p := ⟨b, 3, none⟩) (.inl (by simp)) (.int .i64 ((no' : Int) + 1))
                  have hU1 : NoU8 wy [b] := NoU8.cons hB1 (by decide) (NoU8.nil _)
                  have hUr : NoU8 wr [b] := NoU8.cons HR1.out (by decide) (NoU8.nil _)
                  have hFB := hFA.trans hF2 (fun x hx => .inl hx)
                  obtain ⟨⟨vs3, fv3, dv3, k1, k2, k3, k4⟩, rb, rb2, rK, rf⟩ := HR.out
                  have hWr := rf.size
                  have hs3 := HSN.out
                  rw [if_neg (show ¬ 256 ≤ n2 by omega)] at hs3
                  have KEY0 : HasR W (G :: K) (wy.setCell ⟨b, 3, none⟩ (.int .i64 ((no' : Int) + 1))) b (pushS (j + 1) ⟨due, src, dst, bs⟩ s1) (no' + 1) ∧ Blk (wy.setCell ⟨b, 3, none⟩ (.int .i64 ((no' : Int) + 1))) G #[.bool false, .int .i64 copies, .int .i64 delay] 98 ∧ Kp K w (wy.setCell ⟨b, 3, none⟩ (.int .i64 ((no' : Int) + 1))) := by
                    have hx : HasR W (G :: K) wr b s2 no' := HR.out
                    rw [hs3]
                    have hown := own_weaken H26.out hWr
                    have hbase : ∀ g, (Value.slice za (n2 + 1) zc).ownBlock = some g → wr.heap.size ≤ g := fun g hg => own_base H26.out hg
                    have hN : (s2.fl ++ [(⟨due, src, dst, bs⟩ : Fg)]).length = n2 + 1 := by rw [List.length_append, HN2.out]; rfl
                    have hU1z : ∀ g, (Value.slice za (n2 + 1) zc).ownBlock = some g → g ∉ [b] := fun g hg hx => by
                      simp at hx; subst hx; have := hbase g hg; have := HR1.out.lt; omega
                    have hfl : FlOk wr (V.map RgV.v) s2.fl := HX2.out
                    have hfb := (H11.out.fr hF1 hU0).fr hF2 hU1
                    have hnew : FgOk (wy.setCell ⟨b, 3, none⟩ (.int .i64 ((no' : Int) + 1))) ⟨due, src, dst, ba, l, bc⟩ ⟨due, src, dst, bs⟩ := ⟨rfl, rfl, rfl, hfb⟩
                    have hflz := (hfl.fr hFB hUr).snoc hnew
                    have hKr : ∀ g ∈ K, g < wr.heap.size := fun g hg => rK g (List.mem_cons_of_mem _ hg)
                    have hbK : b ∉ K := fun hx => rb (List.mem_cons_of_mem _ hx)
                    refine ⟨⟨⟨_, fv2, .slice za (n2 + 1) zc, hB2, ⟨rfl, HR2.out.fo.fr hFB (fun g hg hx => ?_), ⟨V ++ [⟨⟨due, src, dst, ba, l, bc⟩, no'⟩], ?_, ?_, HX3.out.snoc _⟩, HR2.out.fb, ?_, HR2.out.lb⟩, fun g hg hx => ?_, fun g hg hx => ?_⟩, rb, rb2, fun g hg => Nat.lt_of_lt_of_le (rK g hg) hFB.size, rf.trans hFB (fun x hx => .inr (by simp at hx; omega))⟩, hFB.blk HB.out (by simp; exact hbG), HK.out.trans (Kp.of_fr hFB hKr (fun g hg hx => by simp at hx; subst hx; exact hbK hg) hUr)⟩
                    · simp at hx; obtain ⟨-, cur, hB⟩ := HR2.out.fo.blk hg; exact blk_blk hB HR1.out (by decide) hx
                    · rw [hN]; exact own_keep (own_keep hown hF1 hU1z) hF2 hU1z
                    · rw [List.map_append]; exact hflz
                    · rw [hN]; omega
                    · exact HR3.out g hg hx
                    · have := hbase g hg; have := rK g hx; omega
                  have KEY := Lib.hid KEY0
                  clear KEY0
                  clear hB0 hB1 hF1 hU0 hFA hB2 hF2 hU1 hUr hFB k1 k2 k3 k4 rb rb2 rK rf hWr hs3 hsl hwy
                  go_wp2_with fail
                  go_roundw
                  case rel => exact ⟨j + 1, no' + 1, by omega, by omega, by go_num, KEY.out.1, KEY.out.2.1, KEY.out.2.2⟩
                  case measure => simp [intOf]; omega
                  
              · skip
                go_simp
                have hb9 := Blk.new wz0 #[] 5
                have hS2 := hS.alloc (.cells #[] 5)
                (try have H0 := Lib.hid (own_keep H0.out ((Fr.refl [] wz0).alloc (.cells #[] 5)) (by simp)))
                (try have H6 := Lib.hid (own_keep H6.out ((Fr.refl [] wz0).alloc (.cells #[] 5)) (by simp)))
                have hg9b : wr.heap.size ≤ wz0.heap.size := hS.size
                obtain ⟨g9, hg9⟩ : ∃ g9, wz0.heap.size = g9 := ⟨_, rfl⟩
                rw [hg9] at hb9 hg9b ⊢
                generalize wz0.alloc (.cells #[] 5) = wz1 at *
                have H9 := Lib.hid (own_empty (sz := 1) (base := wr.heap.size) hb9 hg9b)
                refine hK.out _ _ (fun _ => hS2) (fun _ => ?_); clear hK KK hS hg9 hb9
                have hS := hS2
                clear hS2
                try simp only [List.getElem_toArray, List.getElem_cons_succ, List.getElem_cons_zero, Act.put, List.setIfInBounds_toArray, List.set_cons_zero, List.set_cons_succ]
                refine wpAnyM_one (i := 1) (by kernel_rfl) rfl (fun KK hK => ?_)
                go_simp
                have hb0 := Blk.new wz1 #[] 96
                have hS2 := hS.alloc (.cells #[] 96)
                (try have H9 := Lib.hid (own_keep H9.out ((Fr.refl [] wz1).alloc (.cells #[] 96)) (by simp)))
                have hg0b : wr.heap.size ≤ wz1.heap.size := hS.size
                obtain ⟨g0, hg0⟩ : ∃ g0, wz1.heap.size = g0 := ⟨_, rfl⟩
                rw [hg0] at hb0 hg0b ⊢
                generalize wz1.alloc (.cells #[] 96) = wz2 at *
                have H0 := Lib.hid (own_empty (sz := 5) (base := wr.heap.size) hb0 hg0b)
                refine hK.out _ _ (fun _ => hS2) (fun _ => ?_); clear hK KK hS hg0 hb0
                have hS := hS2
                clear hS2
                try simp only [List.getElem_toArray, List.getElem_cons_succ, List.getElem_cons_zero, Act.put, List.setIfInBounds_toArray, List.set_cons_zero, List.set_cons_succ]
                refine wpAnyM_one (i := 6) (by kernel_rfl) rfl (fun KK hK => ?_)
                refine step_append_src _ rfl (Operand.tmp 64) (Operand.tmp 68) 91 rfl wr.heap.size 96 i0 _ 5 56 Try.underlying91 hi0 hz0 hz1 hz2 rfl (by decide) (.slice (some ⟨g0, 0, none⟩) 0 0) (.slice da n2 dc) 0 n2 [] (rgC V) rfl (by kernel_rfl) H0.out (own_src (own_keep HX1.out hS (by simp)) (rgC_one V)) (by unfold maxLen; omega) (by omega) hS.size ?_
                intro v69 wz3 ho6 hg6 hat6
                have hS2 := fr_own hS H0.out hg6 (Nat.le_refl _)
                (try have H9 := Lib.hid (own_keep H9.out (fr_grown hg6) (fun g hg hx => by simp only [Option.mem_toList] at hx; exact own_own H9.out H0.out (by decide) g hg hx)))
                simp only [Nat.zero_add, List.nil_append] at ho6
                have H6 := Lib.hid ho6
                clear ho6 hg6 hat6
                refine hK.out _ _ (fun _ => hS2) (fun _ => ?_); clear hK KK hS H0
                have hS := hS2
                clear hS2
                try simp only [List.getElem_toArray, List.getElem_cons_succ, List.getElem_cons_zero, Act.put, List.setIfInBounds_toArray, List.set_cons_zero, List.set_cons_succ]
                refine wpAnyM_one (i := 11) (by kernel_rfl) rfl (fun KK hK => ?_)
                refine step_append_src _ rfl (Operand.tmp 72) (Operand.tmp 73) 73 rfl wr.heap.size 5 iu _ 1 1 Try.underlying73 hiu hu0 hu1 hu2 rfl (by decide) (.slice (some ⟨g9, 0, none⟩) 0 0) (.slice a l c) 0 l [] (u8s bs) rfl (by kernel_rfl) H9.out (by have := (HBR.out.fr0 hS).src (u8s_one bs); rwa [u8s_len, ← HBL.out] at this) (by unfold maxLen; omega) (by omega) hS.size ?_
                intro v74 wz4 ho11 hg11 hat11
                have hS2 := fr_own hS H9.out hg11 (Nat.le_refl _)
                have H6 := Lib.hid (own_keep H6.out (fr_grown hg11) (fun g hg hx => by simp only [Option.mem_toList] at hx; exact own_own H6.out H9.out (by decide) g hg hx))
                simp only [Nat.zero_add, List.nil_append] at ho11
                obtain ⟨ba, bc, rfl, hbv11⟩ := BV.of_own ho11 HB256.out
                have H11 := Lib.hid hbv11
                rw [← HBL.out] at H11 ⊢
                clear ho11 hg11 hat11 hbv11
                refine hK.out _ _ (fun _ => hS2) (fun _ => ?_); clear hK KK hS H9
                have hS := hS2
                clear hS2
                try simp only [List.getElem_toArray, List.getElem_cons_succ, List.getElem_cons_zero, Act.put, List.setIfInBounds_toArray, List.set_cons_zero, List.set_cons_succ]
                refine wpAnyM_call (i := 13) (v := (.int .i64 (ck : Int))) rfl rfl Try.func65 (by kernel_rfl) (by kernel_rfl) (by kernel_rfl) (by kernel_rfl) (by kernel_rfl) (by kernel_rfl) (fun _ _ _ h => h) (by kernel_rfl) (by kernel_rfl) (fun w hSw => (HCLK.out _).mono (fun e w' h => ⟨h.1, h.2.symm⟩)) hS ?_
                try simp only [List.getElem_toArray, List.getElem_cons_succ, List.getElem_cons_zero, Act.put, List.setIfInBounds_toArray, List.set_cons_zero, List.set_cons_succ]
                refine wpAnyM_take (i := 14) (v := ?_) rfl (by kernel_rfl) (by kernel_rfl) (by kernel_rfl) (by kernel_rfl) (fun _ _ _ h => h) (Or.inl ⟨by kernel_rfl, ?_⟩) hS ?_; rotate_left; (intro w hSw; have s1 := Blk.cell (i := 1) (hSw.blk HR1.out (by simp)) rfl; have s3 := Blk.cell (i := 3) (hSw.blk HR1.out (by simp)) rfl; have s2 := Blk.cell (i := 2) (hSw.blk HB.out (by simp)) rfl; simp only [List.getElem_toArray, List.getElem_cons_zero, List.getElem_cons_succ] at s1 s2 s3; go_simp; try with_reducible rfl)
                try simp only [List.getElem_toArray, List.getElem_cons_succ, List.getElem_cons_zero, Act.put, List.setIfInBounds_toArray, List.set_cons_zero, List.set_cons_succ]
                refine wpAnyM_take (i := 19) (v := (.int .i64 (due : Int))) rfl (by kernel_rfl) (by kernel_rfl) (by kernel_rfl) (by kernel_rfl) (fun _ _ _ h => h) (Or.inl ⟨by kernel_rfl, ?_⟩) hS ?_; (intro w hSw; (rw [HDU.out]; go_simp; try with_reducible rfl))
                try simp only [List.getElem_toArray, List.getElem_cons_succ, List.getElem_cons_zero, Act.put, List.setIfInBounds_toArray, List.set_cons_zero, List.set_cons_succ]
                refine wpAnyM_take (i := 24) (v := ?_) rfl (by kernel_rfl) (by kernel_rfl) (by kernel_rfl) (by kernel_rfl) (fun _ _ _ h => h) (Or.inl ⟨by kernel_rfl, ?_⟩) hS ?_; rotate_left; (intro w hSw; have s1 := Blk.cell (i := 1) (hSw.blk HR1.out (by simp)) rfl; have s3 := Blk.cell (i := 3) (hSw.blk HR1.out (by simp)) rfl; have s2 := Blk.cell (i := 2) (hSw.blk HB.out (by simp)) rfl; simp only [List.getElem_toArray, List.getElem_cons_zero, List.getElem_cons_succ] at s1 s2 s3; go_simp; try with_reducible rfl)
                try simp only [List.getElem_toArray, List.getElem_cons_succ, List.getElem_cons_zero, Act.put, List.setIfInBounds_toArray, List.set_cons_zero, List.set_cons_succ]
                refine wpAnyM_one (i := 25) (by kernel_rfl) rfl (fun KK hK => ?_)
                go_simp
                have hb25 := Blk.new wz4 #[.int .i64 src, .int .i64 dst, .slice ba l bc, .int .i64 (due : Int), .int .i64 (no' : Int)] 96
                have hS2 := hS.alloc (.cells #[.int .i64 src, .int .i64 dst, .slice ba l bc, .int .i64 (due : Int), .int .i64 (no' : Int)] 96)
                have H6 := Lib.hid (own_keep H6.out ((Fr.refl [] wz4).alloc (.cells #[.int .i64 src, .int .i64 dst, .slice ba l bc, .int .i64 (due : Int), .int .i64 (no' : Int)] 96)) (by simp))
                have H11 := Lib.hid (H11.out.fr ((Fr.refl [] wz4).alloc (.cells #[.int .i64 src, .int .i64 dst, .slice ba l bc, .int .i64 (due : Int), .int .i64 (no' : Int)] 96)) (NoU8.nil _))
                obtain ⟨g25, hg25⟩ : ∃ g25, wz4.heap.size = g25 := ⟨_, rfl⟩
                rw [hg25] at hb25 ⊢
                generalize wz4.alloc (.cells #[.int .i64 src, .int .i64 dst, .slice ba l bc, .int .i64 (due : Int), .int .i64 (no' : Int)] 96) = wz5 at *
                have H25 := Lib.hid hb25
                refine hK.out _ _ (fun _ => hS2) (fun _ => ?_); clear hK KK hS hg25 hb25
                have hS := hS2
                clear hS2
                try simp only [List.getElem_toArray, List.getElem_cons_succ, List.getElem_cons_zero, Act.put, List.setIfInBounds_toArray, List.set_cons_zero, List.set_cons_succ]
                refine wpAnyM_one (i := 26) (by kernel_rfl) rfl (fun KK hK => ?_)
                refine step_append_src _ rfl (Operand.tmp 69) (Operand.tmp 88) 91 rfl wr.heap.size 96 i0 _ 5 56 Try.underlying91 hi0 hz0 hz1 hz2 rfl (by decide) v69 (.slice (some ⟨g25, 0, none⟩) 1 1) n2 1 (rgC V) [.int .i64 src, .int .i64 dst, .slice ba l bc, .int .i64 (due : Int), .int .i64 (no' : Int)] rfl (by kernel_rfl) H6.out (src_blk H25.out (by simp) (by simp [Value.oneCell']) 1) (by unfold maxLen; omega) (by omega) hS.size ?_
                intro v89 wz6 ho26 hg26 hat26
                have hS2 := fr_own hS H6.out hg26 (Nat.le_refl _)
                have H11 := Lib.hid (H11.out.fr (fr_grown hg26) (NoU8.own H6.out (by decide)))
                have hcs : rgC V ++ [.int .i64 src, .int .i64 dst, .slice ba l bc, .int .i64 (due : Int), .int .i64 (no' : Int)] = rgC (V ++ [⟨⟨due, src, dst, ba, l, bc⟩, no'⟩]) := by
                  rw [rgC_app]; rfl
                rw [hcs] at ho26
                obtain ⟨za, zc, rfl, hzc1, hzc2⟩ := own_val ho26
                have H26 := Lib.hid ho26
                clear ho26 hg26 hat26 hcs H6 H25
                refine hK.out _ _ (fun _ => hS2) (fun _ => ?_); clear hK KK hS
                have hS := hS2
                clear hS2
                have f29 := Blk.free (hS.blk HR1.out (by simp)) 1
                have c29 := Blk.cell (i := 1) (hS.blk HR1.out (by simp)) rfl
                simp only [List.getElem_toArray, List.getElem_cons_zero, List.getElem_cons_succ] at c29
                have HFZ := Lib.hid hS
                try simp only [List.getElem_toArray, List.getElem_cons_succ, List.getElem_cons_zero, Act.put, List.setIfInBounds_toArray, List.set_cons_zero, List.set_cons_succ]
                refine wpAnyM_one (i := 27) (by kernel_rfl) rfl (fun KK hK => ?_)
                go_simp
                refine hK.out _ _ (fun h => absurd h (by decide)) (fun _ => ?_); clear hK KK
                try simp only [List.getElem_toArray, List.getElem_cons_succ, List.getElem_cons_zero, Act.put, List.setIfInBounds_toArray, List.set_cons_zero, List.set_cons_succ]
                refine wpAnyM_one (i := 28) (by kernel_rfl) rfl (fun KK hK => ?_)
                go_simp
                refine hK.out _ _ (fun h => absurd h (by decide)) (fun _ => ?_); clear hK KK
                try simp only [List.getElem_toArray, List.getElem_cons_succ, List.getElem_cons_zero, Act.put, List.setIfInBounds_toArray, List.set_cons_zero, List.set_cons_succ]
                refine wpAnyM_one (i := 29) (by kernel_rfl) rfl (fun KK hK => ?_)
                go_simp
                refine hK.out _ _ (fun h => absurd h (by decide)) (fun _ => ?_); clear hK KK
                try simp only [List.getElem_toArray, List.getElem_cons_succ, List.getElem_cons_zero, Act.put, List.setIfInBounds_toArray, List.set_cons_zero, List.set_cons_succ]
                refine wpAnyM_done (by kernel_rfl) ?_ _
                try simp only [List.getElem_toArray, List.getElem_cons_succ, List.getElem_cons_zero, Act.put, List.setIfInBounds_toArray, List.set_cons_zero, List.set_cons_succ]
                clear f29 c29 hS
                obtain ⟨sl, hsl⟩ : ∃ sl, Value.slice za (n2 + 1) zc = sl := ⟨_, rfl⟩
                have hB0 := HFZ.out.blk HR1.out (by simp)
                have hB1 := hB0.set 1 sl
                have hF1 := (Fr.refl [b] wz6).setCell (p := ⟨b, 1, none⟩) (.inl (by simp)) sl
                rw [← hsl] at hB1 hF1
                have hU0 : NoU8 wz6 [b] := NoU8.cons hB0 (by decide) (NoU8.nil _)
                have hFA := (HFZ.out.mono (S' := [b]) (by simp)).trans hF1 (fun x hx => .inl hx)
                generalize hwy : wz6.setCell ⟨b, 1, none⟩ (.slice za (n2 + 1) zc) = wy at *
                have c3 : wy.cell? ⟨b, 3, none⟩ = some (.int .i64 (no' : Int)) := Blk.cell (i := 3) hB1 rfl
                have f3 := Blk.free hB1 3
                have hB2 := hB1.set 3 (.int .i64 ((no' : Int) + 1))
                have hF2 := (Fr.refl [b] wy).setCell (p := ⟨b, 3, none⟩) (.inl (by simp)) (.int .i64 ((no' : Int) + 1))
                have hU1 : NoU8 wy [b] := NoU8.cons hB1 (by decide) (NoU8.nil _)
                have hUr : NoU8 wr [b] := NoU8.cons HR1.out (by decide) (NoU8.nil _)
                have hFB := hFA.trans hF2 (fun x hx => .inl hx)
                obtain ⟨⟨vs3, fv3, dv3, k1, k2, k3, k4⟩, rb, rb2, rK, rf⟩ := HR.out
                have hWr := rf.size
                have hs3 := HSN.out
                rw [if_neg (show ¬ 256 ≤ n2 by omega)] at hs3
                have KEY0 : HasR W (G :: K) (wy.setCell ⟨b, 3, none⟩ (.int .i64 ((no' : Int) + 1))) b (pushS (j + 1) ⟨due, src, dst, bs⟩ s1) (no' + 1) ∧ Blk (wy.setCell ⟨b, 3, none⟩ (.int .i64 ((no' : Int) + 1))) G #[.bool false, .int .i64 copies, .int .i64 delay] 98 ∧ Kp K w (wy.setCell ⟨b, 3, none⟩ (.int .i64 ((no' : Int) + 1))) := by
                  have hx : HasR W (G :: K) wr b s2 no' := HR.out
                  rw [hs3]
                  have hown := own_weaken H26.out hWr
                  have hbase : ∀ g, (Value.slice za (n2 + 1) zc).ownBlock = some g → wr.heap.size ≤ g := fun g hg => own_base H26.out hg
                  have hN : (s2.fl ++ [(⟨due, src, dst, bs⟩ : Fg)]).length = n2 + 1 := by rw [List.length_append, HN2.out]; rfl
                  have hU1z : ∀ g, (Value.slice za (n2 + 1) zc).ownBlock = some g → g ∉ [b] := fun g hg hx => by
                    simp at hx; subst hx; have := hbase g hg; have := HR1.out.lt; omega
                  have hfl : FlOk wr (V.map RgV.v) s2.fl := HX2.out
                  have hfb := (H11.out.fr hF1 hU0).fr hF2 hU1
                  have hnew : FgOk (wy.setCell ⟨b, 3, none⟩ (.int .i64 ((no' : Int) + 1))) ⟨due, src, dst, ba, l, bc⟩ ⟨due, src, dst, bs⟩ := ⟨rfl, rfl, rfl, hfb⟩
                  have hflz := (hfl.fr hFB hUr).snoc hnew
                  have hKr : ∀ g ∈ K, g < wr.heap.size := fun g hg => rK g (List.mem_cons_of_mem _ hg)
                  have hbK : b ∉ K := fun hx => rb (List.mem_cons_of_mem _ hx)
                  refine ⟨⟨⟨_, fv2, .slice za (n2 + 1) zc, hB2, ⟨rfl, HR2.out.fo.fr hFB (fun g hg hx => ?_), ⟨V ++ [⟨⟨due, src, dst, ba, l, bc⟩, no'⟩], ?_, ?_, HX3.out.snoc _⟩, HR2.out.fb, ?_, HR2.out.lb⟩, fun g hg hx => ?_, fun g hg hx => ?_⟩, rb, rb2, fun g hg => Nat.lt_of_lt_of_le (rK g hg) hFB.size, rf.trans hFB (fun x hx => .inr (by simp at hx; omega))⟩, hFB.blk HB.out (by simp; exact hbG), HK.out.trans (Kp.of_fr hFB hKr (fun g hg hx => by simp at hx; subst hx; exact hbK hg) hUr)⟩
                  · simp at hx; obtain ⟨-, cur, hB⟩ := HR2.out.fo.blk hg; exact blk_blk hB HR1.out (by decide) hx
                  · rw [hN]; exact own_keep (own_keep hown hF1 hU1z) hF2 hU1z
                  · rw [List.map_append]; exact hflz
                  · rw [hN]; omega
                  · exact HR3.out g hg hx
                  · have := hbase g hg; have := rK g hx; omega
                have KEY := Lib.hid KEY0
                clear KEY0
                clear hB0 hB1 hF1 hU0 hFA hB2 hF2 hU1 hUr hFB k1 k2 k3 k4 rb rb2 rK rf hWr hs3 hsl hwy
                go_wp2_with fail
                go_roundw
                case rel => exact ⟨j + 1, no' + 1, by omega, by omega, by go_num, KEY.out.1, KEY.out.2.1, KEY.out.2.2⟩
                case measure => simp [intOf]; omega
                
            · have hf6 : n2 = 256 := by omega
              have q2 : (256 : Int) ≤ n2 := by omega
              have hs3 := HSN.out
              rw [if_pos hfull] at hs3
              have HS3 := Lib.hid hs3
              clear hs3 hf6
              go_wp2_with fail
              go_roundw
              case rel => exact ⟨j + 1, no', by omega, by omega, by go_num, by rw [HS3.out]; exact HL.out, HLB.out, HKL.out⟩
              case measure => simp [intOf]; omega
          · obtain rfl : j = m := by omega
            have q1 : decide (j < j) = false := by simp
            rw [q1]
            have HRm := Lib.hid (HasR.monoK (K' := K) HR.out (fun x hx => List.mem_cons_of_mem _ hx))
            have e : sendS ⟨sfa, sfl, slost⟩ src dst bs tick = pushS j ⟨due, src, dst, bs⟩ s1 := by
              unfold sendS; dsimp only
              rw [HFD.out, if_neg (by simp), HS1.out, HM.out, HDUE.out]
            have HE := Lib.hid e
            clear e
            go_wp2_with fail
            go_end0
            rw [HE.out]
            exact ⟨rfl, no', by omega, HRm.out, HK.out⟩
end Go.Proofs.Ytkjjikjilmngdaa.Nt
