/- chapter 24: the bound. -/
import Derived.Test.YtkjjikjilmngdaaNtL
namespace Go.Proofs.Ytkjjikjilmngdaa.Nt
open Go.RowKit Dt Go.Proofs.Ytkjjikjilmngdaa.Hd
set_option linter.unusedVariables false
set_option linter.unusedSimpArgs false

/-- behind m sends (cc to each number) -/
structure BS (s : NetV) (cc m : Nat) : Prop where
  fa : s.fa = []
  len : s.fl.length = min m 256
  lost : s.lost = m - 256
  at' : ∀ (t : Nat) (x : Fg), s.fl[t]? = some x → x.due = 1 ∧ x.src = ((t / cc % 256 : Nat) : Int) ∧ x.dst = ((t / cc % 256 : Nat) : Int) + 1 ∧ x.bs = [byt ((t / cc % 256 : Nat) : Int)]
set_option maxRecDepth 100000 in
theorem BS.push {cc i : Nat} (hcc : 0 < cc) : ∀ (k : Nat) (s : NetV), k ≤ cc → BS s cc (i * cc) → BS (pushS k ⟨1, ((i % 256 : Nat) : Int), ((i % 256 : Nat) : Int) + 1, [byt ((i % 256 : Nat) : Int)]⟩ s) cc (i * cc + k)
  | 0, s, _, h => h
  | k + 1, s, hk, h => by
    have ih := BS.push hcc k s (by omega) h
    rw [pushS_snoc]
    dsimp only
    obtain ⟨p, hp⟩ : ∃ p, i * cc = p := ⟨_, rfl⟩
    rw [hp] at ih ⊢
    obtain ⟨h1, h2, h3, h4⟩ := ih
    clear h
    generalize pushS k ⟨1, ((i % 256 : Nat) : Int), ((i % 256 : Nat) : Int) + 1, [byt ((i % 256 : Nat) : Int)]⟩ s = s1 at *
    by_cases hf : 256 ≤ s1.fl.length
    · rw [if_pos hf]
      have hl1 : s1.fl.length = min (p + (k + 1)) 256 := by omega
      have hl2 : s1.lost + 1 = p + (k + 1) - 256 := by omega
      exact ⟨h1, hl1, hl2, h4⟩
    · rw [if_neg hf]
      have hl1 : ∀ y : Fg, (s1.fl ++ [y]).length = min (p + (k + 1)) 256 := fun y => by rw [List.length_append, List.length_singleton]; omega
      have hl2 : s1.lost = p + (k + 1) - 256 := by omega
      refine ⟨h1, hl1 _, hl2, fun t x hx => ?_⟩
      replace hx : (s1.fl ++ [_])[t]? = some x := hx
      rcases Nat.lt_or_ge t s1.fl.length with ht | ht
      · rw [List.getElem?_append_left ht] at hx; exact h4 t x hx
      · rw [List.getElem?_append_right ht] at hx
        have h0 : t - s1.fl.length = 0 := by
          rcases Nat.eq_zero_or_pos (t - s1.fl.length) with c | c
          · exact c
          · rw [List.getElem?_eq_none (by rw [List.length_singleton]; omega)] at hx; cases hx
        rw [h0] at hx
        simp only [List.getElem?_cons_zero, Option.some.injEq] at hx; subst hx
        have e : t / cc = i := by
          have e1 : t = cc * i + k := by rw [Nat.mul_comm cc i]; omega
          rw [e1, Nat.mul_add_div hcc, Nat.div_eq_of_lt (by omega), Nat.add_zero]
        rw [e]
        exact ⟨rfl, rfl, rfl, rfl⟩
theorem BS.step {s : NetV} {cc i c : Nat} (hc : c ≤ 2) (hcc : cc = 1 + c) (h : BS s cc (i * cc)) : BS (sendS (fatesS s [⟨false, c, 0⟩]) ((i % 256 : Nat) : Int) (((i % 256 : Nat) : Int) + 1) [byt ((i % 256 : Nat) : Int)] 0) cc ((i + 1) * cc) := by
  obtain ⟨fa, fl, lost⟩ := s
  have h1 := h.fa
  simp only at h1
  subst h1
  have e : sendS (fatesS ⟨[], fl, lost⟩ [⟨false, c, 0⟩]) ((i % 256 : Nat) : Int) (((i % 256 : Nat) : Int) + 1) [byt ((i % 256 : Nat) : Int)] 0 = pushS (copiesN c) ⟨clpI 0 + 1 + delayN 0, ((i % 256 : Nat) : Int), ((i % 256 : Nat) : Int) + 1, [byt ((i % 256 : Nat) : Int)]⟩ ⟨[], fl, lost⟩ := rfl
  have e1 : copiesN (c : Int) = cc := by unfold copiesN; omega
  have e2 : clpI 0 + 1 + delayN 0 = 1 := rfl
  rw [e, e1, e2, Nat.succ_mul]
  exact BS.push (by omega) cc _ (Nat.le_refl _) h
theorem BS.deliver {s : NetV} {cc m : Nat} (h : BS s cc m) : deliverS s 1 = (s.fl, { s with fl := [] }) := by
  have h1 : ∀ x ∈ s.fl, x.due ≤ 1 := fun x hx => by
    obtain ⟨u, hu⟩ := List.getElem?_of_mem hx
    rw [(h.at' u x hu).1]; exact Nat.le_refl _
  have e1 : clpI 1 = 1 := rfl
  unfold deliverS dueNow dueLater
  rw [e1, List.filter_eq_self.2 (fun x hx => by simpa using h1 x hx), List.filter_eq_nil_iff.2 (fun x hx => by simpa using h1 x hx)]
  rw [sortG_self (fun u v huv hv => by
    have a := List.getElem?_eq_getElem (show u < s.fl.length by omega)
    have b := List.getElem?_eq_getElem hv
    rw [dueAt_at a, dueAt_at b, (h.at' u _ a).1, (h.at' v _ b).1]; exact Int.le_refl _)]
set_option maxRecDepth 100000 in
set_option maxHeartbeats 12800000 in
theorem walk_bound (a0 a1 : Int) (W : World) (w0 : (Lit.int .i64 a0).wf = true) (w1 : (Lit.int .i64 a1).wf = true) :
    Calls Try.prog 9 #[.int .i64 a0, .int .i64 a1] W fun e w' => e = .returned (.bool true) ∧ Below W.heap.size W w' := by
  have hN := HasN.new W (K := []) W (by simp) (Fr.refl [] W)
  obtain ⟨n, hn⟩ : ∃ n : Nat, a0 % 400 = n := ⟨(a0 % 400).toNat, by have := Int.emod_nonneg a0 (show (400 : Int) ≠ 0 by decide); omega⟩
  obtain ⟨c, hc⟩ : ∃ c : Nat, a1 % 3 = c := ⟨(a1 % 3).toNat, by have := Int.emod_nonneg a1 (show (3 : Int) ≠ 0 by decide); omega⟩
  have hn4 : n < 400 := by have := Int.emod_lt_of_pos a0 (show (0 : Int) < 400 by decide); omega
  have hc2 : c ≤ 2 := by have := Int.emod_lt_of_pos a1 (show (0 : Int) < 3 by decide); omega
  have HNN := Lib.hid hn; have HCC := Lib.hid hc
  clear hn hc w0 w1
  go_enter Try.func9, Try.ntmps9
  go_wp2_with fail
  obtain ⟨B, hB⟩ : ∃ B, W.heap.size = B := ⟨_, rfl⟩
  rw [hB] at hN ⊢
  have HB := Lib.hid hB
  clear hB
  generalize W.alloc (.cells #[.slice none 0 0, .slice none 0 0, .int .i64 0] 71) = wa at *
  refine (known_any _).mono ?_; rintro e wb ⟨rfl, hF⟩
  have HN0 := Lib.hid (hN.fr0 hF).1
  clear hN hF
  go_wp2_with fail
  refine (pick_any _ _ _ (by decide) (by decide)).mono ?_; rintro e w' ⟨rfl, rfl⟩
  rw [HNN.out]
  go_wp2_with fail
  refine (pick_any _ _ _ (by decide) (by decide)).mono ?_; rintro e w' ⟨rfl, rfl⟩
  rw [HCC.out]
  obtain ⟨cc, hcc⟩ : ∃ cc, cc = 1 + c := ⟨_, rfl⟩
  have hcc1 : 1 ≤ cc := by omega
  have hcc3 : cc ≤ 3 := by omega
  have HC1 := Lib.hid hcc
  clear hcc
  go_wp2_with fail
  go_loopw [6, 7] (fun av iv wr => ∃ (i m : Nat) (s : NetV), i ≤ n ∧ m ≤ 3 * i ∧ m = i * cc ∧ av = .int .i64 m ∧ iv = .int .i64 i ∧ HasN W [] wr B s ∧ BS s cc m) (fun _ iv _ => n - (intOf iv).toNat)
  case atStart => exact ⟨0, 0, _, by omega, by omega, by simp, rfl, rfl, HN0.out, ⟨rfl, rfl, rfl, fun t x h => by simp at h⟩⟩
  case round =>
    obtain ⟨i, m, s, hi, hm3, hm, rfl, rfl, hN, hO⟩ := hrel
    have HN := Lib.hid hN; have HO := Lib.hid hO; have HM := Lib.hid hm
    clear HN0 hN hO hm
    by_cases hin : i < n
    · have q1 : (i : Int) < n := by omega
      obtain ⟨r, hr⟩ : ∃ r, i % 256 = r := ⟨_, rfl⟩
      have q2 : (i : Int) % 256 = (r : Int) := by omega
      have hr2 : r < 256 := by omega
      have HR := Lib.hid hr
      clear hr
      go_wp2_with fail
      have hD := Blk.new wr #[.bool false, .int .i64 c, .int .i64 0] 86
      have hF := (Fr.refl [] wr).alloc (.cells #[.bool false, .int .i64 c, .int .i64 0] 86)
      generalize wr.alloc (.cells #[.bool false, .int .i64 c, .int .i64 0] 86) = w2 at *
      have hdl := hD.lt
      refine (hfates (l := [⟨false, c, 0⟩]) (HN.out.fr0 hF).1 (src_blk hD (by simp) (by simp [Value.oneCell']) 1) rfl (Nat.le_refl _) (by decide) (by simp [Value.ownBlock]; exact hdl)).mono ?_; rintro e w3 ⟨rfl, hN3, -⟩
      have HN3 := Lib.hid hN3
      clear hD hF hN3 hdl HN
      go_wp2_with fail
      refine (one_any (r : Int) _).mono ?_; rintro e w4 ⟨a, rfl, hbv, hF⟩
      have HN4 := Lib.hid (HN3.out.fr0 hF).1
      have HBV := Lib.hid hbv
      rw [IntWalk.wrap64_in ((r : Int) + 1) (by omega)]
      clear hF hbv HN3
      go_wp2_with fail
      refine (hsend (src := (r : Int)) (dst := (r : Int) + 1) (tick := 0) HN4.out HBV.out (by simp) (by have := HO.out.lost; show s.lost ≤ _; omega)).mono ?_; rintro e w5 ⟨rfl, hN5, -⟩
      have hO5 := (show BS s cc (i * cc) by rw [← HM.out]; exact HO.out).step hc2 HC1.out
      rw [HR.out] at hO5
      obtain ⟨s5, hs5⟩ : ∃ s5, sendS (fatesS s [⟨false, c, 0⟩]) (r : Int) ((r : Int) + 1) [byt (r : Int)] 0 = s5 := ⟨_, rfl⟩
      rw [hs5] at hN5 hO5
      obtain ⟨m5, hm5⟩ : ∃ m5, (i + 1) * cc = m5 := ⟨_, rfl⟩
      rw [hm5] at hO5
      have hm6 : m5 = m + 1 + c := by have := HM.out; have := HC1.out; rw [← hm5, Nat.succ_mul]; omega
      have e5 : (m : Int) + 1 + c = (m5 : Int) := by omega
      have HN5 := Lib.hid hN5; have HO5 := Lib.hid hO5; have HM5 := Lib.hid hm5
      have hl5 := hO5.len; have ho5 := hO5.lost
      have hmb : m5 ≤ 3 * (i + 1) := by omega
      have HFLI := Lib.hid (hflight HN5.out); have HLOS := Lib.hid (hlost HN5.out)
      clear hN5 hO5 hs5 hm5 hm6 HN4 HBV HO
      go_upto_region 13 with (fail)
      clear e5
      rcases Nat.lt_trichotomy m5 256 with hlt | hlt | hlt
      · have q3 : (m5 : Int) < 256 := by omega
        rw [Nat.min_eq_left (by omega)] at hl5
        rw [hl5] at HFLI
        rw [show m5 - 256 = 0 by omega] at ho5
        rw [ho5] at HLOS
        clear hl5 ho5
        go_wp2_with fail
        refine HFLI.out.mono ?_; rintro e w7 ⟨rfl, rfl⟩
        go_wp2_with fail
        refine HLOS.out.mono ?_; rintro e w7 ⟨rfl, rfl⟩
        go_wp2_with fail
        go_roundw
        case rel => exact ⟨i + 1, m5, _, by omega, hmb, HM5.out.symm, rfl, by go_num, HN5.out, HO5.out⟩
        case measure => simp [intOf]; omega
      · subst hlt
        rw [Nat.min_eq_left (by omega)] at hl5
        rw [hl5] at HFLI
        rw [Nat.sub_self] at ho5
        rw [ho5] at HLOS
        clear hl5 ho5
        go_wp2_with fail
        refine HFLI.out.mono ?_; rintro e w7 ⟨rfl, rfl⟩
        go_wp2_with fail
        refine HLOS.out.mono ?_; rintro e w7 ⟨rfl, rfl⟩
        go_wp2_with fail
        go_roundw
        case rel => exact ⟨i + 1, 256, _, by omega, hmb, HM5.out.symm, rfl, by go_num, HN5.out, HO5.out⟩
        case measure => simp [intOf]; omega
      · have q3 : (256 : Int) < m5 := by omega
        rw [Nat.min_eq_right (by omega)] at hl5
        rw [hl5] at HFLI
        rw [ho5] at HLOS
        obtain ⟨d, hd⟩ : ∃ d, m5 - 256 = d := ⟨_, rfl⟩
        rw [hd] at HLOS
        have ed : (m5 : Int) - 256 = (d : Int) := by omega
        have hd0 : (0 : Int) < d := by omega
        clear hl5 ho5 hd
        go_wp2_with fail
        refine HFLI.out.mono ?_; rintro e w7 ⟨rfl, rfl⟩
        go_wp2_with fail
        refine HLOS.out.mono ?_; rintro e w7 ⟨rfl, rfl⟩
        go_wp2_with fail
        clear ed
        go_roundw
        case rel => exact ⟨i + 1, m5, _, by omega, hmb, HM5.out.symm, rfl, by go_num, HN5.out, HO5.out⟩
        case measure => simp [intOf]; omega
    · have hin2 : i = n := by omega
      have q1 : decide ((i : Int) < n) = false := decide_eq_false (by omega)
      go_wp2_with fail
      refine (hdeliver HN.out 1).mono ?_; rintro e w4 ⟨ov, rfl, hN4, hD4, -⟩
      rw [HO.out.deliver] at hN4 hD4
      simp only at hN4 hD4
      obtain ⟨a4, c4, rfl⟩ := hD4.val
      obtain ⟨L, hL⟩ : ∃ L, s.fl.length = L := ⟨_, rfl⟩
      have hLm := HO.out.len
      rw [hL] at hLm
      rw [hL]
      have HL := Lib.hid hL; have HD4 := Lib.hid hD4; have HLM := Lib.hid hLm
      have hfr4 := hN4.fr
      have HFR4 := Lib.hid hfr4
      have hL256 : L ≤ 256 := by omega
      clear hN4 hD4 hL HN hLm hfr4
      go_wp2_with fail
      go_loopw [9, 47] (fun _ xv wr => ∃ (j : Nat), j ≤ L ∧ xv = .int .i64 j ∧ Fr [] w4 wr) (fun _ xv _ => L - (intOf xv).toNat)
      case atStart => exact ⟨0, by omega, rfl, Fr.refl _ _⟩
      case round =>
        obtain ⟨j, hj, rfl, hF⟩ := hrel
        have HF5 := Lib.hid hF
        by_cases hjl : j < L
        · have q6 : (j : Int) < L := by omega
          have hx := List.getElem?_eq_getElem (show j < s.fl.length by rw [HL.out]; exact hjl)
          obtain ⟨x, hxe⟩ : ∃ x, s.fl[j]'(by rw [HL.out]; exact hjl) = x := ⟨_, rfl⟩
          rw [hxe] at hx
          obtain ⟨g, cap, a5, c5, hv, hc1, hc2', d0, d1, d2, hbv⟩ := (HD4.out.fr hF (by simp) (NoU8.nil _)).at hx
          rw [HL.out] at hv hc1
          cases hv
          obtain ⟨-, k1, k2, k3⟩ := HO.out.at' j x hx
          rw [k1] at d0; rw [k2] at d1
          have hbl : x.bs.length = 1 := by rw [k3]; rfl
          rw [hbl] at d2
          rw [k3] at hbv
          obtain ⟨q, hq⟩ : ∃ q, j / cc = q := ⟨_, rfl⟩
          obtain ⟨r, hr⟩ : ∃ r, q % 256 = r := ⟨_, rfl⟩
          have hr2 : r < 256 := by omega
          rw [hq, hr] at d0 d1 hbv
          have HBV := Lib.hid (show BV wr a5 1 c5 [byt (r : Int)] from hbv)
          have e0 : (1 : Int) + c = (cc : Int) := by have := HC1.out; omega
          have e0z : ¬ cc = 0 := by omega
          have e0y : ¬ (cc : Int) = -1 := by omega
          have e1 : (j : Int).tdiv cc = (q : Int) := by rw [← hq]; rfl
          have e2 : (q : Int).tmod 256 = (r : Int) := by rw [← hr]; rfl
          have e3 : (q : Int) % 256 = (r : Int) := by omega
          have ew0 : IntKind.i64.wrap (cc : Int) = (cc : Int) := IntWalk.i64_in _ (by omega)
          have ew2 : IntKind.i64.wrap (r : Int) = (r : Int) := IntWalk.i64_in _ (by omega)
          have hqj : q ≤ j := by rw [← hq]; exact Nat.div_le_self _ _
          have ew1 : IntKind.i64.wrap (q : Int) = (q : Int) := IntWalk.i64_in _ (by omega)
          clear hF hx hxe hbv k1 k2 k3 hq hr
          go_upto_region 19 with (fail)
          go_still_tail 9, (by kernel_rfl)
          change wpList _ _ _ _ _ wr.drew
          go_wp2_with fail
          refine (is_yes (n := (r : Int)) (m := (r : Int) + 1) rfl (HBV.out.fr (Fr.refl [] wr).drew (NoU8.nil _)) (by omega) (by omega)).mono ?_; rintro e w6 ⟨rfl, hF6⟩
          have HF6 := Lib.hid (HF5.out.drew.trans hF6 (by simp))
          clear d0 d1 d2 hF6 HBV HF5 e0 e0z e0y e1 e2 e3 ew0 ew1 ew2
          go_wp2_with fail
          go_roundw
          case rel => exact ⟨j + 1, by omega, by go_num, HF6.out⟩
          case measure => simp [intOf]; omega
        · have hjl2 : j = L := by omega
          subst hjl2
          clear hF
          have q6 : decide ((j : Int) < (j : Int)) = false := by simp
          have hfrf := HFR4.out.trans HF5.out (by simp)
          rcases Nat.lt_or_ge m 256 with hlt | hlt
          · have q7 : (m : Int) < 256 := by omega
            have q8 : ((j : Int) == (m : Int)) = true := by have := HLM.out; simp; omega
            go_wp2_with fail
            go_ret
            exact ⟨rfl, hfrf.below (Nat.le_refl _) (by simp)⟩
          · rcases Nat.lt_or_ge 256 m with hgt | hgt
            · have q7 : (256 : Int) < (m : Int) := by omega
              have q8 : ((j : Int) == 256) = true := by have := HLM.out; simp; omega
              go_wp2_with fail
              go_ret
              exact ⟨rfl, hfrf.below (Nat.le_refl _) (by simp)⟩
            · have hm256 : m = 256 := by omega
              subst hm256
              have q8 : ((j : Int) == 256) = true := by have := HLM.out; simp; omega
              go_wp2_with fail
              go_ret
              exact ⟨rfl, hfrf.below (Nat.le_refl _) (by simp)⟩
end Go.Proofs.Ytkjjikjilmngdaa.Nt
