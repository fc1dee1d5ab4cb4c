/- chapter 24: in order. -/
import Derived.Test.YtkjjikjilmngdaaNtL
import Derived.Test.YtkjjikjilmngdaaSl
namespace Go.Proofs.Ytkjjikjilmngdaa.Nt
open Go.RowKit Dt Go.Proofs.Ytkjjikjilmngdaa.Hd
set_option linter.unusedVariables false
set_option linter.unusedSimpArgs false

/-- what is under way are the numbers from came to sent, one behind the other, none due behind the next tick -/
structure OS (s : NetV) (came sent tick : Nat) : Prop where
  fa : s.fa = []
  lost : s.lost = 0
  len : came + s.fl.length = sent
  at' : ∀ (t : Nat) (x : Fg), s.fl[t]? = some x → x.src = (came + t : Nat) ∧ x.dst = (came + t : Nat) + 1 ∧ x.bs = [byt (came + t : Nat)] ∧ x.due ≤ tick + 1
  mono : ∀ (t u : Nat) (x y : Fg), t < u → s.fl[t]? = some x → s.fl[u]? = some y → x.due ≤ y.due
theorem OS.zero : OS ⟨[], [], 0⟩ 0 0 0 := ⟨rfl, rfl, rfl, fun t x h => by simp at h, fun t u x y _ h => by simp at h⟩
theorem OS.tick {s : NetV} {c n t : Nat} (h : OS s c n t) : OS s c n (t + 1) := ⟨h.fa, h.lost, h.len, fun u x hx => by have := h.at' u x hx; exact ⟨this.1, this.2.1, this.2.2.1, by omega⟩, h.mono⟩
theorem clpI_nat {t : Nat} (h : t ≤ 1000000) : clpI (t : Int) = t := by unfold clpI; omega
theorem OS.send {s : NetV} {c n t : Nat} (h : OS s c n t) (ht : t ≤ 1000000) (hl : s.fl.length < 256) : OS (sendS s (n : Nat) ((n : Nat) + 1) [byt (n : Nat)] (t : Nat)) c (n + 1) t ∧ (sendS s (n : Nat) ((n : Nat) + 1) [byt (n : Nat)] (t : Nat)).fl.length = s.fl.length + 1 := by
  obtain ⟨fa, fl, lost⟩ := s
  obtain ⟨h1, h2, h3, h4, h5⟩ := h
  simp only at h1 h2 h3 h4 h5 hl
  subst h1 h2
  have e : sendS ⟨[], fl, 0⟩ (n : Nat) ((n : Nat) + 1) [byt (n : Nat)] (t : Nat) = ⟨[], fl ++ [⟨t + 1, (n : Nat), (n : Nat) + 1, [byt (n : Nat)]⟩], 0⟩ := by
    unfold sendS
    have e1 : copiesN fa0.copies = 1 := by unfold copiesN fa0; rfl
    have e2 : delayN fa0.delay = 0 := by unfold delayN fa0; rfl
    show (if fa0.drop = true then _ else pushS (copiesN fa0.copies) ⟨clpI (t : Nat) + 1 + delayN fa0.delay, _, _, _⟩ _) = _
    rw [if_neg (by unfold fa0; decide), e1, e2, clpI_nat ht]
    show (if 256 ≤ fl.length then _ else _) = _
    rw [if_neg (by omega)]; rfl
  rw [e]
  refine ⟨⟨rfl, rfl, by simp; omega, fun u x hx => ?_, fun u v x y huv hx hy => ?_⟩, by simp⟩
  · simp only at hx
    rcases Nat.lt_or_ge u fl.length with hu | hu
    · rw [List.getElem?_append_left hu] at hx; exact h4 u x hx
    · rw [List.getElem?_append_right hu] at hx
      have : u - fl.length = 0 := by
        rcases Nat.eq_zero_or_pos (u - fl.length) with k | k
        · exact k
        · rw [List.getElem?_eq_none (by simp; omega)] at hx; cases hx
      rw [this] at hx
      simp at hx; subst hx
      have : c + u = n := by omega
      rw [this]; exact ⟨rfl, rfl, rfl, Nat.le_refl _⟩
  · simp only at hx hy
    have hv := (List.getElem?_eq_some_iff.1 hy).1
    simp at hv
    rw [List.getElem?_append_left (by omega)] at hx
    rcases Nat.lt_or_ge v fl.length with hv2 | hv2
    · rw [List.getElem?_append_left hv2] at hy; exact h5 u v x y huv hx hy
    · rw [List.getElem?_append_right hv2, show v - fl.length = 0 by omega] at hy
      simp at hy; subst hy
      exact (h4 u x hx).2.2.2
theorem dueAt_of {l : List Fg} {t : Nat} {x : Fg} (h : l[t]? = some x) : dueAt l t = x.due := by unfold dueAt; simp [List.getD, h]
theorem OS.deliver {s : NetV} {c n t : Nat} (h : OS s c n t) (ht : t + 1 ≤ 1000000) : deliverS s ((t + 1 : Nat) : Int) = (s.fl, { s with fl := [] }) := by
  have h1 : ∀ x ∈ s.fl, x.due ≤ t + 1 := fun x hx => by
    obtain ⟨u, hu⟩ := List.getElem?_of_mem hx
    exact (h.at' u x hu).2.2.2
  unfold deliverS dueNow dueLater
  rw [clpI_nat ht, List.filter_eq_self.2 (fun x hx => by simpa using h1 x hx), List.filter_eq_nil_iff.2 (fun x hx => by simpa using h1 x hx)]
  rw [sortG_self (fun u v huv hv => by
    have a := List.getElem?_eq_getElem (show u < s.fl.length by omega)
    have b := List.getElem?_eq_getElem hv
    rw [dueAt_of a, dueAt_of b]
    have := h.mono u v _ _ huv a b
    omega)]
theorem OS.done {s : NetV} {c n t : Nat} (h : OS s c n t) (t' : Nat) : OS { s with fl := [] } n n t' := ⟨h.fa, h.lost, by simp, fun u x hx => by simp at hx, fun u v x y _ hx => by simp at hx⟩
theorem hlost_any' {W w : World} {K : List Nat} {b : Nat} {s : NetV} (h : HasN W K w b s) (hl : s.lost = 0) : Calls Try.prog 32 #[.pointer (some ⟨b, 0, none⟩)] w fun e w' => e = .returned (.int .i64 0) ∧ w = w' := by
  have := hlost h
  rw [hl] at this
  exact this
set_option maxRecDepth 100000 in
set_option maxHeartbeats 12800000 in
theorem walk_order (a0 : Option Addr) (len0 cap0 : Nat) (z0 : Nat → Int) (a1 : Option Addr) (len1 cap1 : Nat) (z1 : Nat → Int) (W : World) (w0 : SlI .i64 W a0 len0 cap0 z0) (w1 : SlI .i64 W a1 len1 cap1 z1) :
    Calls Try.prog 7 #[.slice a0 len0 cap0, .slice a1 len1 cap1] W fun e w' => e = .returned (.bool true) ∧ Below W.heap.size W w' := by
  obtain ⟨⟨hle0, -, hre0, hcells0⟩, hwf0⟩ := w0
  obtain ⟨⟨hle1, -, hre1, hcells1⟩, hwf1⟩ := w1
  have HC0 := Lib.hid hcells0; have HC1 := Lib.hid hcells1
  clear hcells0 hcells1 hwf0 hwf1
  have hN := HasN.new W (K := []) W (by simp) (Fr.refl [] W)
  go_enter Try.func7, Try.ntmps7
  go_wp2_with fail
  obtain ⟨B, hB⟩ : ∃ B, W.heap.size = B := ⟨_, rfl⟩
  rw [hB] at hN ⊢
  have HB := Lib.hid hB
  generalize W.alloc (.cells #[.slice none 0 0, .slice none 0 0, .int .i64 0] 71) = wa at *
  refine (known_any _).mono ?_; rintro e wb ⟨rfl, hF⟩
  have HN0 := Lib.hid (hN.fr0 hF).1
  clear hN hF
  go_wp2_with fail
  go_loopw [6, 7, 8, 9, 10, 11, 12] (fun sv cv tv iv _ _ _ wr => ∃ (i c n : Nat) (s : NetV), i ≤ len0 ∧ i ≤ 40 ∧ n ≤ 4 * i ∧ sv = .int .i64 n ∧ cv = .int .i64 c ∧ tv = .int .i64 i ∧ iv = .int .i64 i ∧ HasN W [] wr B s ∧ OS s c n i) (fun _ _ _ iv _ _ _ _ => len0 - (intOf iv).toNat)
  case atStart => exact ⟨0, 0, 0, _, by omega, by omega, by omega, rfl, rfl, rfl, rfl, HN0.out, OS.zero⟩
  case round =>
    obtain ⟨i, c, n, s, hi, hi2, hn, rfl, rfl, rfl, rfl, hN, hO⟩ := hrel
    have HN := Lib.hid hN; have HO := Lib.hid hO
    clear HN0 hN hO
    by_cases hc : i < len0 ∧ i < 40
    · obtain ⟨hi3, hi4⟩ := hc
      obtain ⟨b0, off0, rfl, hb0, hcc⟩ := HC0.out (by omega)
      have hcell := hcc i hi3
      obtain ⟨m, hm⟩ : ∃ m : Nat, z0 i % 5 = m := ⟨(z0 i % 5).toNat, by have := Int.emod_nonneg (z0 i) (show (5 : Int) ≠ 0 by decide); omega⟩
      have hm5 : m < 5 := by have := Int.emod_lt_of_pos (z0 i) (show (0 : Int) < 5 by decide); omega
      have q1 : (i : Int) < len0 := by omega
      have q2 : (i : Int) < 40 := by omega
      have HCELL := Lib.hid hcell; have HM := Lib.hid hm
      clear hcc hcell hm
      go_wp2_with fail
      go_loopw [6, 10] (fun sv kv wr => ∃ (k n' : Nat) (s' : NetV), k ≤ m ∧ n' = n + k ∧ sv = .int .i64 n' ∧ kv = .int .i64 k ∧ HasN W [] wr B s' ∧ OS s' c n' i) (fun _ kv _ => m - (intOf kv).toNat)
      case atStart => exact ⟨0, n, s, by omega, rfl, rfl, rfl, HN.out, HO.out⟩
      case round =>
        obtain ⟨k, n', s', hk, hn', rfl, rfl, hN, hO⟩ := hrel
        have hcell := (hN.fr.cell (p := ⟨b0, off0 + i, none⟩) hb0 (by simp)).trans HCELL.out
        have HN2 := Lib.hid hN; have HO2 := Lib.hid hO
        have hnb : n' ≤ 164 := by omega
        have hlen := hO.len
        have HNP := Lib.hid hn'
        clear hN hO HN HO hn'
        have HLEN := Lib.hid hlen; clear hlen
        by_cases hkm : k < m
        · have q3 : (k : Int) < m := by omega
          go_wp2_with fail
          refine (pick_any _ _ _ (by decide) (by decide)).mono ?_; rintro e w' ⟨rfl, rfl⟩
          rw [HM.out]
          clear hcell
          go_wp2_with fail
          refine (one_any n' _).mono ?_; rintro e w2 ⟨a, rfl, hbv, hF⟩
          have HN3 := Lib.hid (HN2.out.fr0 hF).1
          have HBV := Lib.hid hbv
          clear hF hbv
          rw [IntWalk.wrap64_in ((n' : Int) + 1) (by omega)]
          go_wp2_with fail
          have hlost := HO2.out.lost
          refine (hsend (src := (n' : Int)) (dst := (n' : Int) + 1) (tick := (i : Int)) HN3.out HBV.out (by simp) (by omega)).mono ?_; rintro e w3 ⟨rfl, hN4, -⟩
          obtain ⟨hO4, -⟩ := HO2.out.send (by omega) (by have := HLEN.out; omega)
          have HN4 := Lib.hid hN4; have HO4 := Lib.hid hO4
          clear hN4 hO4 hlost HN3 HBV HN2 HO2
          go_wp2_with fail
          go_roundw
          case rel => exact ⟨k + 1, n' + 1, _, by omega, by have := HNP.out; omega, by go_num, by go_num, HN4.out, HO4.out⟩
          case measure => simp [intOf]; omega
        · have hkm2 : k = m := by omega
          have q3 : decide ((k : Int) < m) = false := decide_eq_false (by omega)
          go_wp2_with fail
          refine (pick_any _ _ _ (by decide) (by decide)).mono ?_; rintro e w' ⟨rfl, rfl⟩
          rw [HM.out]
          clear hcell
          -- a gap or not
          by_cases hg : i < len1 ∧ (z1 i).tmod 3 = 0
          · obtain ⟨hg1, hg2⟩ := hg
            obtain ⟨b1, off1, rfl, hb1, hcc⟩ := HC1.out (by omega)
            have hcell := (HN2.out.fr.cell (p := ⟨b1, off1 + i, none⟩) hb1 (by simp)).trans (hcc i hg1)
            have q4 : (i : Int) < len1 := by omega
            have q5 : ((z1 i).tmod 3 == 0) = true := by simp [hg2]
            clear hcc
            go_wp2_with fail
            clear hcell
            go_roundw
            case rel => exact ⟨i + 1, c, n', s', by omega, by omega, by have := HNP.out; omega, rfl, rfl, by go_num, by go_num, HN2.out, HO2.out.tick⟩
            case measure => simp [intOf]; omega
          · have hfin : ∀ w5 s5, HasN W [] w5 B s5 → OS s5 n' n' (i + 1) → HasN W [] w5 B s5 ∧ OS s5 n' n' (i + 1) := fun _ _ h k => ⟨h, k⟩
            clear hfin
            by_cases h1 : i < len1
            · have hg2 : ¬ (z1 i).tmod 3 = 0 := fun h => hg ⟨h1, h⟩
              obtain ⟨b1, off1, rfl, hb1, hcc⟩ := HC1.out (by omega)
              have hcell := (HN2.out.fr.cell (p := ⟨b1, off1 + i, none⟩) hb1 (by simp)).trans (hcc i h1)
              have q4 : (i : Int) < len1 := by omega
              have q5 : ((z1 i).tmod 3 == 0) = false := by simp [hg2]
              clear hcc hg hg2
              go_upto_region 17 with (fail)
              clear hcell
              go_wp2_with fail
              refine (hdeliver HN2.out ((i : Int) + 1)).mono ?_; rintro e w4 ⟨ov, rfl, hN4, hD4, -⟩
              rw [show ((i : Int) + 1) = ((i + 1 : Nat) : Int) by omega, HO2.out.deliver (by omega)] at hN4 hD4
              simp only at hN4 hD4
              obtain ⟨a4, c4, rfl⟩ := hD4.val
              obtain ⟨L, hL⟩ : ∃ L, s'.fl.length = L := ⟨_, rfl⟩
              have hcL : c + L = n' := by have := HLEN.out; omega
              rw [hL]
              have HL := Lib.hid hL; have HN4 := Lib.hid hN4; have HD4 := Lib.hid hD4; have HCL := Lib.hid hcL
              clear hN4 hD4 hL HN2 hcL
              go_wp2_with fail
              go_loopw [7, 12, 58] (fun cv _ xv wr => ∃ (j : Nat), j ≤ L ∧ cv = .int .i64 ((c : Int) + j) ∧ xv = .int .i64 j ∧ HasN W [] wr B { s' with fl := [] } ∧ Fr [] w4 wr) (fun _ _ xv _ => L - (intOf xv).toNat)
              case atStart => exact ⟨0, by omega, by simp, rfl, HN4.out, Fr.refl _ _⟩
              case round =>
                obtain ⟨j, hj, rfl, rfl, hN, hF⟩ := hrel
                clear HN4
                have HN5 := Lib.hid hN; have HF5 := Lib.hid hF
                by_cases hjl : j < L
                · have q6 : (j : Int) < L := by omega
                  have hx := List.getElem?_eq_getElem (show j < s'.fl.length by rw [HL.out]; exact hjl)
                  obtain ⟨x, hxe⟩ : ∃ x, s'.fl[j]'(by rw [HL.out]; exact hjl) = x := ⟨_, rfl⟩
                  rw [hxe] at hx
                  obtain ⟨g, cap, a5, c5, hv, hc1, hc2, d0, d1, d2, hbv⟩ := (HD4.out.fr hF (by simp) (NoU8.nil _)).at hx
                  rw [HL.out] at hv hc1
                  cases hv
                  obtain ⟨k1, k2, k3, k4⟩ := HO2.out.at' j x hx
                  rw [k1] at d0; rw [k2] at d1
                  rw [k3] at hbv
                  have hcj : ((c + j : Nat) : Int) = (c : Int) + j := by omega
                  rw [hcj] at d0 d1 hbv
                  have HBV := Lib.hid (show BV wr a5 1 c5 [byt ((c : Int) + j)] from hbv)
                  have hb1 : c + j ≤ 164 := by have := HCL.out; omega
                  have hbl : x.bs.length = 1 := by rw [k3]; rfl
                  rw [hbl] at d2
                  clear hN hF hx hxe hbv k1 k2 k3 k4 hcj
                  go_wp2_with fail
                  refine (is_yes (n := (c : Int) + j) (m := (c : Int) + j + 1) rfl HBV.out (by omega) (by omega)).mono ?_; rintro e w6 ⟨rfl, hF6⟩
                  have HN6 := Lib.hid (HN5.out.fr0 hF6).1; have HF6 := Lib.hid (HF5.out.trans hF6 (by simp))
                  clear d0 d1 d2 hF6 HBV HN5 HF5
                  go_wp2_with fail
                  go_roundw
                  case rel => exact ⟨j + 1, by omega, by go_num, by go_num, HN6.out, HF6.out⟩
                  case measure => simp [intOf]; omega
                · have hjl2 : j = L := by omega
                  subst hjl2
                  clear hN hF
                  have q6 : decide ((j : Int) < (j : Int)) = false := by simp
                  have q7 : ((c : Int) + j != (n' : Int)) = false := by have := HCL.out; simp; omega
                  go_wp2_with fail
                  refine (hflight HN5.out).mono ?_; rintro e w7 ⟨rfl, rfl⟩
                  go_wp2_with fail
                  go_roundw
                  case rel => exact ⟨i + 1, n', n', _, by omega, by omega, by have := HNP.out; omega, rfl, by have := HCL.out; congr 1; omega, by go_num, by go_num, HN5.out, HO2.out.done _⟩
                  case measure => simp [intOf]; omega
            · have q4 : decide ((i : Int) < len1) = false := decide_eq_false (by omega)
              clear hg
              go_upto_region 17 with (fail)
              go_wp2_with fail
              refine (hdeliver HN2.out ((i : Int) + 1)).mono ?_; rintro e w4 ⟨ov, rfl, hN4, hD4, -⟩
              rw [show ((i : Int) + 1) = ((i + 1 : Nat) : Int) by omega, HO2.out.deliver (by omega)] at hN4 hD4
              simp only at hN4 hD4
              obtain ⟨a4, c4, rfl⟩ := hD4.val
              obtain ⟨L, hL⟩ : ∃ L, s'.fl.length = L := ⟨_, rfl⟩
              have hcL : c + L = n' := by have := HLEN.out; omega
              rw [hL]
              have HL := Lib.hid hL; have HN4 := Lib.hid hN4; have HD4 := Lib.hid hD4; have HCL := Lib.hid hcL
              clear hN4 hD4 hL HN2 hcL
              go_wp2_with fail
              go_loopw [7, 12, 58] (fun cv _ xv wr => ∃ (j : Nat), j ≤ L ∧ cv = .int .i64 ((c : Int) + j) ∧ xv = .int .i64 j ∧ HasN W [] wr B { s' with fl := [] } ∧ Fr [] w4 wr) (fun _ _ xv _ => L - (intOf xv).toNat)
              case atStart => exact ⟨0, by omega, by simp, rfl, HN4.out, Fr.refl _ _⟩
              case round =>
                obtain ⟨j, hj, rfl, rfl, hN, hF⟩ := hrel
                clear HN4
                have HN5 := Lib.hid hN; have HF5 := Lib.hid hF
                by_cases hjl : j < L
                · have q6 : (j : Int) < L := by omega
                  have hx := List.getElem?_eq_getElem (show j < s'.fl.length by rw [HL.out]; exact hjl)
                  obtain ⟨x, hxe⟩ : ∃ x, s'.fl[j]'(by rw [HL.out]; exact hjl) = x := ⟨_, rfl⟩
                  rw [hxe] at hx
                  obtain ⟨g, cap, a5, c5, hv, hc1, hc2, d0, d1, d2, hbv⟩ := (HD4.out.fr hF (by simp) (NoU8.nil _)).at hx
                  rw [HL.out] at hv hc1
                  cases hv
                  obtain ⟨k1, k2, k3, k4⟩ := HO2.out.at' j x hx
                  rw [k1] at d0; rw [k2] at d1
                  rw [k3] at hbv
                  have hcj : ((c + j : Nat) : Int) = (c : Int) + j := by omega
                  rw [hcj] at d0 d1 hbv
                  have HBV := Lib.hid (show BV wr a5 1 c5 [byt ((c : Int) + j)] from hbv)
                  have hb1 : c + j ≤ 164 := by have := HCL.out; omega
                  have hbl : x.bs.length = 1 := by rw [k3]; rfl
                  rw [hbl] at d2
                  clear hN hF hx hxe hbv k1 k2 k3 k4 hcj
                  go_wp2_with fail
                  refine (is_yes (n := (c : Int) + j) (m := (c : Int) + j + 1) rfl HBV.out (by omega) (by omega)).mono ?_; rintro e w6 ⟨rfl, hF6⟩
                  have HN6 := Lib.hid (HN5.out.fr0 hF6).1; have HF6 := Lib.hid (HF5.out.trans hF6 (by simp))
                  clear d0 d1 d2 hF6 HBV HN5 HF5
                  go_wp2_with fail
                  go_roundw
                  case rel => exact ⟨j + 1, by omega, by go_num, by go_num, HN6.out, HF6.out⟩
                  case measure => simp [intOf]; omega
                · have hjl2 : j = L := by omega
                  subst hjl2
                  clear hN hF
                  have q6 : decide ((j : Int) < (j : Int)) = false := by simp
                  have q7 : ((c : Int) + j != (n' : Int)) = false := by have := HCL.out; simp; omega
                  go_wp2_with fail
                  refine (hflight HN5.out).mono ?_; rintro e w7 ⟨rfl, rfl⟩
                  go_wp2_with fail
                  go_roundw
                  case rel => exact ⟨i + 1, n', n', _, by omega, by omega, by have := HNP.out; omega, rfl, by have := HCL.out; congr 1; omega, by go_num, by go_num, HN5.out, HO2.out.done _⟩
                  case measure => simp [intOf]; omega
    · obtain ⟨L, hL⟩ : ∃ L, s.fl.length = L := ⟨_, rfl⟩
      have hlen := HO.out.len
      have hlost := HO.out.lost
      rw [hL] at hlen
      have hcn : c ≤ n := by omega
      have hn160 : n ≤ 160 := by omega
      have q9 : ((L : Int) == (n : Int) - c) = true := by simp; omega
      have HLEN := Lib.hid hlen; have HL := Lib.hid hL
      have hfl := hflight HN.out
      rw [hL] at hfl
      have hlo := hlost_any' HN.out hlost
      have HFL := Lib.hid hfl; have HLO := Lib.hid hlo
      have hfr := HN.out.fr
      clear hlen hlost hL hfl hlo
      by_cases h1 : i < len0
      · have h2 : i = 40 := by omega
        subst h2
        have q1 : ((40 : Nat) : Int) < len0 := by omega
        go_wp2_with fail
        refine HFL.out.mono ?_; rintro e w7 ⟨rfl, rfl⟩
        go_wp2_with fail
        refine HLO.out.mono ?_; rintro e w7 ⟨rfl, rfl⟩
        go_wp2_with fail
        go_ret
        exact ⟨rfl, hfr.below (Nat.le_refl _) (by simp)⟩
      · have q1 : decide ((i : Int) < len0) = false := decide_eq_false (by omega)
        go_wp2_with fail
        refine HFL.out.mono ?_; rintro e w7 ⟨rfl, rfl⟩
        go_wp2_with fail
        refine HLO.out.mono ?_; rintro e w7 ⟨rfl, rfl⟩
        go_wp2_with fail
        go_ret
        exact ⟨rfl, hfr.below (Nat.le_refl _) (by simp)⟩
end Go.Proofs.Ytkjjikjilmngdaa.Nt
