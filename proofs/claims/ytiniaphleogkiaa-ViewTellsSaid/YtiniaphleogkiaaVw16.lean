import Derived.Test.YtiniaphleogkiaaVw14
import Derived.Test.YtiniaphleogkiaaVw15
namespace Go.Proofs.Ytiniaphleogkiaa.Vw
open Go.RowKit Dt Go.Proofs.Ytiniaphleogkiaa.Hd Go.Proofs.Ytiniaphleogkiaa.Ma Ieee
set_option linter.unusedVariables false
set_option linter.unusedSimpArgs false

theorem intsF_one (d : Nat → Nat) (n : Nat) : ∀ u ∈ intsF d n, u.oneCell' = true := fun u hu => by
  unfold intsF at hu
  obtain ⟨t, -, rfl⟩ := List.mem_map.1 hu
  rfl
theorem intsF_len (d : Nat → Nat) (n : Nat) : (intsF d n).length = n := by unfold intsF; simp
theorem intsF_get (d : Nat → Nat) {n t : Nat} (h : t < n) : (intsF d n)[t]? = some (.int .i64 ((d t : Nat) : Int)) := by
  unfold intsF
  rw [List.getElem?_map, List.getElem?_range h]; rfl
/-- what stands ahead, the new place, what stands behind -/
theorem intsF_ins {P : Nat → Nat} {i j : Nat} (hj : j ≤ i) : (intsF P i).take j ++ [.int .i64 (i : Int)] ++ (intsF P i).drop j = intsF (insF P i j) (i + 1) := by
  refine List.ext_getElem? fun t => ?_
  have l1 : ((intsF P i).take j).length = j := by rw [List.length_take, intsF_len]; omega
  by_cases ht : t < i + 1
  · rw [intsF_get _ ht]
    by_cases c1 : t < j
    · rw [List.append_assoc, List.getElem?_append_left (by omega), List.getElem?_take_of_lt c1, intsF_get _ (by omega)]
      unfold insF; rw [if_pos c1]
    · rw [List.append_assoc, List.getElem?_append_right (by omega), l1]
      by_cases c2 : t = j
      · subst c2; rw [Nat.sub_self]
        unfold insF; rw [if_neg c1, if_pos rfl]; rfl
      · rw [List.getElem?_append_right (by simp; omega)]
        simp only [List.length_singleton]
        rw [List.getElem?_drop, intsF_get _ (by omega)]
        unfold insF; rw [if_neg c1, if_neg c2, if_pos (by omega)]
        congr 4; omega
  · rw [List.getElem?_eq_none (by simp [intsF_len]; omega), List.getElem?_eq_none (by rw [intsF_len]; omega)]
theorem exec_slice {P : Program} {o : Oper} {a : Act} {t : TypeId} {x : Operand} {lo hi : Option Operand} {x' : Value} {lo' hi' : Option Value} {v : Value} (ho : o.op = .slice t x lo hi none) (e1 : a.eval x = x') (e2 : lo.map a.eval = lo') (e3 : hi.map a.eval = hi') (h : ∀ w, (Instr.sliceAt t x' lo' hi' none).run P w = .ok v w) (w : World) : (execOp a.eval o).run P w = .ok (.value v) w := by
  subst e1 e2 e3
  unfold execOp
  simp only [ho, Sem.run_bind, Option.map_none, h w]
  rfl
section
open Dt
theorem own_lo {w : World} {base n cap j : Nat} {e : TypeId} {a : Option Addr} {xs : List Value} (h : w.ownsRow base e 1 (.slice a n cap) n xs) (h3 : ∀ u ∈ xs, u.oneCell' = true) (hj : j ≤ n) : Src w (sliced a 0 j cap 1) 1 j (xs.take j) := by
  rcases h.2 with ⟨hv, h0⟩ | ⟨g, cap', cur, hv, hb, hg, hc, hm, hs, ht⟩
  · have : a = none ∧ n = 0 ∧ cap = 0 := by simpa using hv
    obtain ⟨rfl, rfl, rfl⟩ := this
    have : j = 0 := by omega
    subst this
    exact Src.nil w 1 none 0 (fun _ => rfl)
  · have : a = some ⟨g, 0, none⟩ ∧ cap = cap' := by simpa using hv
    obtain ⟨rfl, rfl⟩ := this
    have h4 := own_piece (lo := 0) (hi := j) h (Nat.zero_le _) hj h3 (if cap = 0 then ⟨g, 0, none⟩ else ⟨g, 0 * 1, none⟩) (fun _ => by split <;> rfl) cap
    have e1 : sliced (some ⟨g, 0, none⟩) 0 j cap 1 = .slice (some (if cap = 0 then ⟨g, 0, none⟩ else ⟨g, 0 * 1, none⟩)) (j - 0) cap := by
      unfold sliced
      by_cases c : cap = 0
      · rw [if_pos c, if_pos c]; rfl
      · rw [if_neg c, if_neg c]; rfl
    rw [e1]
    simpa using h4
theorem own_hi {w : World} {base n cap j : Nat} {e : TypeId} {a : Option Addr} {xs : List Value} (h : w.ownsRow base e 1 (.slice a n cap) n xs) (h3 : ∀ u ∈ xs, u.oneCell' = true) (hj : j ≤ n) : Src w (sliced a j n cap 1) 1 (n - j) (xs.drop j) := by
  have hl : xs.length = n * 1 := h.1
  rcases h.2 with ⟨hv, h0⟩ | ⟨g, cap', cur, hv, hb, hg, hc, hm, hs, ht⟩
  · have : a = none ∧ n = 0 ∧ cap = 0 := by simpa using hv
    obtain ⟨rfl, rfl, rfl⟩ := this
    have : j = 0 := by omega
    subst this
    have : xs = [] := List.eq_nil_of_length_eq_zero (by simpa using hl)
    subst this
    exact Src.nil w 1 none 0 (fun _ => rfl)
  · have : a = some ⟨g, 0, none⟩ ∧ cap = cap' := by simpa using hv
    obtain ⟨rfl, rfl⟩ := this
    have h4 := own_piece (lo := j) (hi := n) h hj (Nat.le_refl _) h3 (if cap = j then ⟨g, 0, none⟩ else ⟨g, j * 1, none⟩) (fun h => by rw [if_neg (by omega)]) (cap - j)
    have e1 : sliced (some ⟨g, 0, none⟩) j n cap 1 = .slice (some (if cap = j then ⟨g, 0, none⟩ else ⟨g, j * 1, none⟩)) (n - j) (cap - j) := by
      unfold sliced
      by_cases c : cap = j
      · rw [if_pos c, if_pos c]
      · rw [if_neg c, if_neg c]
        simp [Addr.add_mid']
    rw [e1]
    have e2 : (xs.drop (j * 1)).take ((n - j) * 1) = xs.drop j := by
      rw [Nat.mul_one, Nat.mul_one, List.take_of_length_le (by rw [List.length_drop]; omega)]
    rw [e2] at h4
    exact h4
end
set_option maxRecDepth 100000 in
set_option maxHeartbeats 6400000 in
theorem rorder_any {w : World} {a : Option Addr} {n cap : Nat} {d : Nat → Nat} (hs : 0 < n → ∃ b off, a = some ⟨b, off, none⟩ ∧ b < w.heap.size ∧ ∀ t, t < n → w.cell? ⟨b, off + t, none⟩ = some (.float .f64 (d t))) (hw : ∀ t, d t < 18446744073709551616) (hn : n ≤ 20) :
    Calls Try.prog 39 #[.slice a n cap] w fun e w' => ∃ v X, e = .returned v ∧ OrdF (fun t => rk (d t)) n X ∧ IntS w' w.heap.size v n X ∧ Fr [] w w' := by
  obtain ⟨i0, hi0, hz0, hz1, hz2⟩ := info_parts inf3
  have HS := Lib.hid hs; clear hs
  go_enter Try.func39, Try.ntmps39
  go_wp2_with fail
  go_loopw [3, 4] (fun ov iv wr => ∃ (i : Nat) (P : Nat → Nat), i ≤ n ∧ iv = .int .i64 i ∧ OrdF (fun t => rk (d t)) i P ∧ wr.ownsRow w.heap.size 3 1 ov i (intsF P i) ∧ Fr [] w wr) (fun _ iv _ => n - (intOf iv).toNat)
  case atStart => exact ⟨0, fun t => t, by omega, rfl, OrdF.zero _ _, own_nil _ _ _ _, Fr.refl _ _⟩
  case round =>
    obtain ⟨i, P, hi, rfl, hO, hown, hFr⟩ := hrel
    by_cases hlt : i < n
    · have q1 : (i : Int) < n := by omega
      have q0 : (0 : Int) ≤ i := by omega
      obtain ⟨b, off, rfl, hbl, hcs⟩ := HS.out (by omega)
      obtain ⟨va, vc, rfl, hvn, hvm, hvz, hvg⟩ := own_any hown
      have HVN := Lib.hid hvn; have HVM := Lib.hid hvm; have HVG := Lib.hid hvg
      have HO := Lib.hid hO; have HCS := Lib.hid hcs; have HOWN := Lib.hid hown; have HFR := Lib.hid hFr
      clear hO hcs hown hFr hvn hvm hvz hvg
      go_wp2_with fail
      go_loopw [5] (fun jv wq => ∃ (j m : Nat), j ≤ i ∧ jv = .int .i64 j ∧ (∀ t, j ≤ t → t < i → rk (d (P t)) < rk (d i)) ∧ wq = wr.drewN m) (fun jv _ => (intOf jv).toNat)
      case atStart => exact ⟨i, 0, Nat.le_refl _, rfl, fun t h1 h2 => by omega, rfl⟩
      case round =>
        obtain ⟨j, m, hji, rfl, hls, rfl⟩ := hrel
        have HLS := Lib.hid hls; clear hls
        by_cases hj0 : 0 < j
        · obtain ⟨k, rfl⟩ : ∃ k, j = k + 1 := ⟨j - 1, by omega⟩
          obtain ⟨g, rfl, hgb⟩ := HVG.out (by omega)
          obtain ⟨p, hp⟩ : ∃ p, P k = p := ⟨_, rfl⟩
          have hpi : p < i := by rw [← hp]; exact HO.out.lt k (by omega)
          have l1 : wr.cell? ⟨b, off + i, none⟩ = some (.float .f64 (d i)) := (HFR.out.cell (p := ⟨b, off + i, none⟩) hbl (by simp)).trans (HCS.out i hlt)
          have l2 : wr.cell? ⟨b, off + p, none⟩ = some (.float .f64 (d p)) := (HFR.out.cell (p := ⟨b, off + p, none⟩) hbl (by simp)).trans (HCS.out p (by omega))
          have l3 : wr.cell? ⟨g, k, none⟩ = some (.int .i64 p) := by
            have h := HOWN.out.cellAt k (by omega)
            rw [intsF_get P (show k < i by omega), hp] at h
            exact h
          have q2 : (0 : Int) < ((k + 1 : Nat) : Int) := by omega
          have em : ((k + 1 : Nat) : Int) - 1 = (k : Int) := by omega
          have q3 : (p : Int) < n := by omega
          have q4 : (0 : Int) ≤ p := by omega
          have q5 : (k : Int) < i := by omega
          have q6 : (0 : Int) ≤ k := by omega
          have q7 : (k : Int) ≤ 1000 := by omega
          change (wr.drewN m).cell? _ = _ at l1 l2 l3
          obtain ⟨wm, hwm⟩ : ∃ wm, wr.drewN m = wm := ⟨_, rfl⟩
          rw [hwm] at l1 l2 l3 ⊢
          have HWM := Lib.hid hwm; clear hwm
          have hso := fun x => rsooner_any (d i) (d p) (hw i) (hw p) x
          rw [soonB_rk] at hso
          have HP := Lib.hid hp
          clear hp
          by_cases hs : rk (d p) < rk (d i)
          · rw [decide_eq_true hs] at hso
            have HSO := Lib.hid hso; clear hso
            go_wp2_with fail
            go_quiet ((go_at_call 37; exact Calls.quiet_of_same ((HSO.out _).mono fun e w' h => ⟨h.1, h.2.symm⟩)))
            go_wp2_with fail
            go_roundw
            case rel =>
              refine ⟨k, m + nq, by omega, by go_num, fun t h1 h2 => ?_, by rw [← HWM.out, World.drewN_drewN]⟩
              rcases Nat.lt_or_eq_of_le h1 with h3 | h3
              · exact HLS.out t h3 h2
              · subst h3; rw [HP.out]; exact hs
            case measure => simp [intOf]
          · rw [decide_eq_false hs] at hso
            have HSO := Lib.hid hso; clear hso
            have hkl : 0 < k + 1 → ¬ rk (d (P (k + 1 - 1))) < rk (d i) := fun _ => by rw [show k + 1 - 1 = k by omega, HP.out]; exact hs
            have HKL := Lib.hid hkl; clear hkl
            go_wp2_with fail
            go_quiet ((go_at_call 37; exact Calls.quiet_of_same ((HSO.out _).mono fun e w' h => ⟨h.1, h.2.symm⟩)))
            have HO1 := Lib.hid (HO.out.ins (j := k + 1) hji HLS.out HKL.out)
            clear HLS HKL HO HP l1 l2 l3 HSO em hpi hs
            rw [← HWM.out, World.drewN_drewN]
            clear HWM
            generalize m + nq = mm
            clear q2 q5 q6 q7
            generalize hkj : k + 1 = j at *
            clear hkj
            have hownx : (wr.drewN mm).ownsRow w.heap.size 3 1 (.slice (some ⟨g, 0, none⟩) i vc) i (intsF P i) := HOWN.out
            have hfrx := HFR.out.drewN mm
            generalize wr.drewN mm = wx at *
            have hvc := HVN.out
            have hjv : (j : Int) ≤ (vc : Int) := by omega
            have hji2 : (j : Int) ≤ (i : Int) := by omega
            have hs1 : ∀ w, (Instr.sliceAt 39 (.slice (some ⟨g, 0, none⟩) i vc) none (some (.int .i64 (j : Int))) none).run Try.prog w = .ok (sliced (some ⟨g, 0, none⟩) 0 j vc 1) w := fun w => by go_simp
            have hs2 : ∀ w, (Instr.sliceAt 39 (.slice (some ⟨g, 0, none⟩) i vc) (some (.int .i64 (j : Int))) none none).run Try.prog w = .ok (sliced (some ⟨g, 0, none⟩) j i vc 1) w := fun w => by go_simp
            have HS1 := Lib.hid (fun (w1 : World) (h : Fr [] wx w1) => own_lo (j := j) (own_fr hownx h (by simp)) (intsF_one P i) hji)
            have HS2 := Lib.hid (fun (w1 : World) (h : Fr [] wx w1) => own_hi (j := j) (own_fr hownx h (by simp)) (intsF_one P i) hji)
            have HFX := Lib.hid hfrx
            have HQ1 := Lib.hid hs1; have HQ2 := Lib.hid hs2
            clear hownx hfrx HFR HOWN hs1 hs2 HCS
            generalize sliced (some ⟨g, 0, none⟩) 0 j vc 1 = s1 at *
            generalize sliced (some ⟨g, 0, none⟩) j i vc 1 = s2 at *
            go_upto_region 8 with (fail)
            refine wp_region_any (by kernel_rfl) ?_
            try (change wpAny _ _ _ _ _ _ _ (World.drew _))
            have hx0 : Fr [] wx wx.drew := (Fr.refl [] wx).drew
            refine wpAny_take (i := 1) (v := ?_) rfl (by kernel_rfl) (by kernel_rfl) (by kernel_rfl) (fun _ _ _ h => h) (Or.inl ⟨by kernel_rfl, ?_⟩) ?_; rotate_left; (intro w; go_simp; try with_reducible rfl)
            refine wpAny_take (i := 2) (v := ?_) rfl (by kernel_rfl) (by kernel_rfl) (by kernel_rfl) (fun _ _ _ h => h) (Or.inl ⟨by kernel_rfl, ?_⟩) ?_; rotate_left; (intro w; go_simp; try with_reducible rfl)
            refine wpAny_take (i := 3) (v := s1) rfl (by kernel_rfl) (by kernel_rfl) (by kernel_rfl) (fun _ _ _ h => h) (Or.inl ⟨by kernel_rfl, ?_⟩) ?_; exact exec_slice (x' := .slice (some ⟨g, 0, none⟩) i vc) (lo' := none) (hi' := some (.int .i64 (j : Int))) rfl (by kernel_rfl) (by kernel_rfl) (by kernel_rfl) HQ1.out
            refine wpAny_take (i := 5) (v := ?_) rfl (by kernel_rfl) (by kernel_rfl) (by kernel_rfl) (fun _ _ _ h => h) (Or.inl ⟨by kernel_rfl, ?_⟩) ?_; rotate_left; (intro w; go_simp; try with_reducible rfl)
            refine wpAny_take (i := 8) (v := ?_) rfl (by kernel_rfl) (by kernel_rfl) (by kernel_rfl) (fun _ _ _ h => h) (Or.inl ⟨by kernel_rfl, ?_⟩) ?_; rotate_left; (intro w; go_simp; try with_reducible rfl)
            refine wpAny_take (i := 9) (v := ?_) rfl (by kernel_rfl) (by kernel_rfl) (by kernel_rfl) (fun _ _ _ h => h) (Or.inl ⟨by kernel_rfl, ?_⟩) ?_; rotate_left; (intro w; go_simp; try with_reducible rfl)
            refine wpAny_take (i := 10) (v := s2) rfl (by kernel_rfl) (by kernel_rfl) (by kernel_rfl) (fun _ _ _ h => h) (Or.inl ⟨by kernel_rfl, ?_⟩) ?_; exact exec_slice (x' := .slice (some ⟨g, 0, none⟩) i vc) (lo' := some (.int .i64 (j : Int))) (hi' := none) rfl (by kernel_rfl) (by kernel_rfl) (by kernel_rfl) HQ2.out
            refine wpAny_ready (rs := [0, 6]) (by kernel_rfl) (by simp) ?_
            refine AllReady.cons rfl (fun K hK => ?_) (AllReady.cons rfl (fun K hK => ?_) (AllReady.nil))
            · go_simp; refine hK _ _ ?_; clear hK K
              have hx1 : Fr [] wx (wx.drew.alloc (.cells #[] 3)) := hx0.alloc _
              have hoE := own_empty (sz := 1) (base := wx.heap.size) (Blk.new wx.drew #[] 3) (Nat.le_refl _)
              refine wpAny_ready (rs := [4, 6]) (by kernel_rfl) (by simp) ?_
              refine AllReady.cons rfl (fun K hK => ?_) (AllReady.cons rfl (fun K hK => ?_) (AllReady.nil))
              · refine step_append_src _ rfl (Operand.tmp 33) (Operand.tmp 36) 39 rfl wx.heap.size 3 i0 (.int .i64 0) 1 8 Try.underlying39 hi0 hz0 hz1 hz2 rfl (by decide) (.slice (some ⟨wx.heap.size, 0, none⟩) 0 0) s1 0 j [] ((intsF P i).take j) rfl rfl hoE (HS1.out _ hx1) (by unfold maxLen; omega) (by omega) (by simp) ?_
                intro v1 w1 ho1 hg1 hat1
                have hr1 : Fr [] wx w1 := fr_own hx1 hoE hg1 (Nat.le_refl _)
                refine hK _ _ ?_; clear hK K
                refine wpAny_ready (rs := [6]) (by kernel_rfl) (by simp) ?_
                refine AllReady.cons rfl (fun K hK => ?_) (AllReady.nil)
                go_simp; refine hK _ _ ?_; clear hK K
                have hb := Blk.new w1 #[.int .i64 (i : Int)] 3
                have hr2 : Fr [] wx (w1.alloc (.cells #[.int .i64 (i : Int)] 3)) := hr1.alloc _
                have ho2 := own_fr ho1 ((Fr.refl [] w1).alloc (.cells #[.int .i64 (i : Int)] 3)) (by simp)
                refine wpAny_ready (rs := [7]) (by kernel_rfl) (by simp) ?_
                refine AllReady.cons rfl (fun K hK => ?_) (AllReady.nil)
                refine step_append_src _ rfl (Operand.tmp 37) (Operand.tmp 39) 39 rfl wx.heap.size 3 i0 (.int .i64 0) 1 8 Try.underlying39 hi0 hz0 hz1 hz2 rfl (by decide) v1 (.slice (some ⟨w1.heap.size, 0, none⟩) 1 1) (0 + j) 1 ([] ++ (intsF P i).take j) [.int .i64 (i : Int)] rfl rfl ho2 (src_blk (sz := 1) (m := 1) (vs := #[.int .i64 (i : Int)]) hb rfl (by simp; rfl) 1) (by unfold maxLen; omega) (by omega) (by have := hr2.size; omega) ?_
                intro v2 w2 ho3 hg3 hat3
                refine hK _ _ ?_; clear hK K
                have hr3 : Fr [] wx w2 := fr_own hr2 ho2 hg3 (Nat.le_refl _)
                refine wpAny_ready (rs := [11]) (by kernel_rfl) (by simp) ?_
                refine AllReady.cons rfl (fun K hK => ?_) (AllReady.nil)
                refine step_append_src _ rfl (Operand.tmp 40) (Operand.tmp 43) 39 rfl wx.heap.size 3 i0 (.int .i64 0) 1 8 Try.underlying39 hi0 hz0 hz1 hz2 rfl (by decide) v2 s2 (0 + j + 1) (i - j) ([] ++ (intsF P i).take j ++ [.int .i64 (i : Int)]) ((intsF P i).drop j) rfl rfl ho3 (HS2.out _ hr3) (by unfold maxLen; omega) (by omega) hr3.size ?_
                intro v3 w3 ho4 hg4 hat4
                refine hK _ _ ?_; clear hK K
                have hr4 : Fr [] w w3 := HFX.out.trans (fr_own hr3 ho3 hg4 (Nat.le_refl _)) (by simp)
                have ho5 := own_weaken (base' := w.heap.size) ho4 HFX.out.size
                rw [List.nil_append, intsF_ins hji, show 0 + j + 1 + (i - j) = i + 1 by omega] at ho5
                clear ho2 hr2 ho3 hg3 hat3 hr3 ho4 hg4 hat4
                refine wpAny_take (i := 12) (v := ?_) rfl (by kernel_rfl) (by kernel_rfl) (by kernel_rfl) (fun _ _ _ h => h) (Or.inl ⟨by kernel_rfl, ?_⟩) ?_; rotate_left; (intro w; go_simp; try with_reducible rfl)
                refine wpAny_done (by kernel_rfl) ?_ _
                go_wp2_with fail
                go_roundw
                case rel => exact ⟨i + 1, _, by omega, by go_num, HO1.out, ho5, hr4⟩
                case measure => simp [intOf]; omega
              · go_simp; refine hK _ _ ?_; clear hK K
                have hx2 : Fr [] wx ((wx.drew.alloc (.cells #[] 3)).alloc (.cells #[.int .i64 (i : Int)] 3)) := hx1.alloc _
                have hb0 : Blk ((wx.drew.alloc (.cells #[] 3)).alloc (.cells #[.int .i64 (i : Int)] 3)) (wx.heap.size + 1) #[.int .i64 (i : Int)] 3 := by simpa using Blk.new (wx.drew.alloc (.cells #[] 3)) #[.int .i64 (i : Int)] 3
                have hoE2 := own_fr hoE ((Fr.refl [] (wx.drew.alloc (.cells #[] 3))).alloc (.cells #[.int .i64 (i : Int)] 3)) (by simp)
                refine wpAny_ready (rs := [4]) (by kernel_rfl) (by simp) ?_
                refine AllReady.cons rfl (fun K hK => ?_) (AllReady.nil)
                refine step_append_src _ rfl (Operand.tmp 33) (Operand.tmp 36) 39 rfl wx.heap.size 3 i0 (.int .i64 0) 1 8 Try.underlying39 hi0 hz0 hz1 hz2 rfl (by decide) (.slice (some ⟨wx.heap.size, 0, none⟩) 0 0) s1 0 j [] ((intsF P i).take j) rfl rfl hoE2 (HS1.out _ hx2) (by unfold maxLen; omega) (by omega) (by simp; omega) ?_
                intro v1 w1 ho1 hg1 hat1
                have hr1 : Fr [] wx w1 := fr_own hx2 hoE2 hg1 (Nat.le_refl _)
                refine hK _ _ ?_; clear hK K
                have hb := (fr_grown hg1).blk hb0 (notin_row (by simp))
                have hr2 := hr1; have ho2 := ho1
                refine wpAny_ready (rs := [7]) (by kernel_rfl) (by simp) ?_
                refine AllReady.cons rfl (fun K hK => ?_) (AllReady.nil)
                refine step_append_src _ rfl (Operand.tmp 37) (Operand.tmp 39) 39 rfl wx.heap.size 3 i0 (.int .i64 0) 1 8 Try.underlying39 hi0 hz0 hz1 hz2 rfl (by decide) v1 (.slice (some ⟨wx.heap.size + 1, 0, none⟩) 1 1) (0 + j) 1 ([] ++ (intsF P i).take j) [.int .i64 (i : Int)] rfl rfl ho2 (src_blk (sz := 1) (m := 1) (vs := #[.int .i64 (i : Int)]) hb rfl (by simp; rfl) 1) (by unfold maxLen; omega) (by omega) (by have := hr2.size; omega) ?_
                intro v2 w2 ho3 hg3 hat3
                refine hK _ _ ?_; clear hK K
                have hr3 : Fr [] wx w2 := fr_own hr2 ho2 hg3 (Nat.le_refl _)
                refine wpAny_ready (rs := [11]) (by kernel_rfl) (by simp) ?_
                refine AllReady.cons rfl (fun K hK => ?_) (AllReady.nil)
                refine step_append_src _ rfl (Operand.tmp 40) (Operand.tmp 43) 39 rfl wx.heap.size 3 i0 (.int .i64 0) 1 8 Try.underlying39 hi0 hz0 hz1 hz2 rfl (by decide) v2 s2 (0 + j + 1) (i - j) ([] ++ (intsF P i).take j ++ [.int .i64 (i : Int)]) ((intsF P i).drop j) rfl rfl ho3 (HS2.out _ hr3) (by unfold maxLen; omega) (by omega) hr3.size ?_
                intro v3 w3 ho4 hg4 hat4
                refine hK _ _ ?_; clear hK K
                have hr4 : Fr [] w w3 := HFX.out.trans (fr_own hr3 ho3 hg4 (Nat.le_refl _)) (by simp)
                have ho5 := own_weaken (base' := w.heap.size) ho4 HFX.out.size
                rw [List.nil_append, intsF_ins hji, show 0 + j + 1 + (i - j) = i + 1 by omega] at ho5
                clear ho2 hr2 ho3 hg3 hat3 hr3 ho4 hg4 hat4
                refine wpAny_take (i := 12) (v := ?_) rfl (by kernel_rfl) (by kernel_rfl) (by kernel_rfl) (fun _ _ _ h => h) (Or.inl ⟨by kernel_rfl, ?_⟩) ?_; rotate_left; (intro w; go_simp; try with_reducible rfl)
                refine wpAny_done (by kernel_rfl) ?_ _
                go_wp2_with fail
                go_roundw
                case rel => exact ⟨i + 1, _, by omega, by go_num, HO1.out, ho5, hr4⟩
                case measure => simp [intOf]; omega
            · go_simp; refine hK _ _ ?_; clear hK K
              have hx1 : Fr [] wx (wx.drew.alloc (.cells #[.int .i64 (i : Int)] 3)) := hx0.alloc _
              have hb0 := Blk.new wx.drew #[.int .i64 (i : Int)] 3
              refine wpAny_ready (rs := [0]) (by kernel_rfl) (by simp) ?_
              refine AllReady.cons rfl (fun K hK => ?_) (AllReady.nil)
              go_simp; refine hK _ _ ?_; clear hK K
              have hx2 : Fr [] wx ((wx.drew.alloc (.cells #[.int .i64 (i : Int)] 3)).alloc (.cells #[] 3)) := hx1.alloc _
              have hoE := own_empty (sz := 1) (base := wx.heap.size) (show Blk ((wx.drew.alloc (.cells #[.int .i64 (i : Int)] 3)).alloc (.cells #[] 3)) (wx.heap.size + 1) #[] 3 by simpa using Blk.new (wx.drew.alloc (.cells #[.int .i64 (i : Int)] 3)) #[] 3) (by omega)
              have hb1 := ((Fr.refl [] (wx.drew.alloc (.cells #[.int .i64 (i : Int)] 3))).alloc (.cells #[] 3)).blk hb0 (by simp)
              refine wpAny_ready (rs := [4]) (by kernel_rfl) (by simp) ?_
              refine AllReady.cons rfl (fun K hK => ?_) (AllReady.nil)
              refine step_append_src _ rfl (Operand.tmp 33) (Operand.tmp 36) 39 rfl wx.heap.size 3 i0 (.int .i64 0) 1 8 Try.underlying39 hi0 hz0 hz1 hz2 rfl (by decide) (.slice (some ⟨wx.heap.size + 1, 0, none⟩) 0 0) s1 0 j [] ((intsF P i).take j) rfl rfl hoE (HS1.out _ hx2) (by unfold maxLen; omega) (by omega) (by simp; omega) ?_
              intro v1 w1 ho1 hg1 hat1
              have hr1 : Fr [] wx w1 := fr_own hx2 hoE hg1 (Nat.le_refl _)
              refine hK _ _ ?_; clear hK K
              have hb := (fr_grown hg1).blk hb1 (notin_row (by simp))
              have hr2 := hr1; have ho2 := ho1
              refine wpAny_ready (rs := [7]) (by kernel_rfl) (by simp) ?_
              refine AllReady.cons rfl (fun K hK => ?_) (AllReady.nil)
              refine step_append_src _ rfl (Operand.tmp 37) (Operand.tmp 39) 39 rfl wx.heap.size 3 i0 (.int .i64 0) 1 8 Try.underlying39 hi0 hz0 hz1 hz2 rfl (by decide) v1 (.slice (some ⟨wx.heap.size, 0, none⟩) 1 1) (0 + j) 1 ([] ++ (intsF P i).take j) [.int .i64 (i : Int)] rfl rfl ho2 (src_blk (sz := 1) (m := 1) (vs := #[.int .i64 (i : Int)]) hb rfl (by simp; rfl) 1) (by unfold maxLen; omega) (by omega) (by have := hr2.size; omega) ?_
              intro v2 w2 ho3 hg3 hat3
              refine hK _ _ ?_; clear hK K
              have hr3 : Fr [] wx w2 := fr_own hr2 ho2 hg3 (Nat.le_refl _)
              refine wpAny_ready (rs := [11]) (by kernel_rfl) (by simp) ?_
              refine AllReady.cons rfl (fun K hK => ?_) (AllReady.nil)
              refine step_append_src _ rfl (Operand.tmp 40) (Operand.tmp 43) 39 rfl wx.heap.size 3 i0 (.int .i64 0) 1 8 Try.underlying39 hi0 hz0 hz1 hz2 rfl (by decide) v2 s2 (0 + j + 1) (i - j) ([] ++ (intsF P i).take j ++ [.int .i64 (i : Int)]) ((intsF P i).drop j) rfl rfl ho3 (HS2.out _ hr3) (by unfold maxLen; omega) (by omega) hr3.size ?_
              intro v3 w3 ho4 hg4 hat4
              refine hK _ _ ?_; clear hK K
              have hr4 : Fr [] w w3 := HFX.out.trans (fr_own hr3 ho3 hg4 (Nat.le_refl _)) (by simp)
              have ho5 := own_weaken (base' := w.heap.size) ho4 HFX.out.size
              rw [List.nil_append, intsF_ins hji, show 0 + j + 1 + (i - j) = i + 1 by omega] at ho5
              clear ho2 hr2 ho3 hg3 hat3 hr3 ho4 hg4 hat4
              refine wpAny_take (i := 12) (v := ?_) rfl (by kernel_rfl) (by kernel_rfl) (by kernel_rfl) (fun _ _ _ h => h) (Or.inl ⟨by kernel_rfl, ?_⟩) ?_; rotate_left; (intro w; go_simp; try with_reducible rfl)
              refine wpAny_done (by kernel_rfl) ?_ _
              go_wp2_with fail
              go_roundw
              case rel => exact ⟨i + 1, _, by omega, by go_num, HO1.out, ho5, hr4⟩
              case measure => simp [intOf]; omega
        · have hdj : decide ((0 : Int) < (j : Int)) = false := by simp; omega
          have HO1 := Lib.hid (HO.out.ins (j := j) hji HLS.out (fun h => absurd h hj0))
          go_wp2_with fail
          go_quiet (fail)
          clear HLS HO
          rw [World.drewN_drewN]
          generalize m + nq = mm
          have hownx : (wr.drewN mm).ownsRow w.heap.size 3 1 (.slice va i vc) i (intsF P i) := HOWN.out
          have hfrx := HFR.out.drewN mm
          generalize wr.drewN mm = wx at *
          have hvc := HVN.out
          have hjv : (j : Int) ≤ (vc : Int) := by omega
          have hji2 : (j : Int) ≤ (i : Int) := by omega
          have hs1 : ∀ w, (Instr.sliceAt 39 (.slice va i vc) none (some (.int .i64 (j : Int))) none).run Try.prog w = .ok (sliced va 0 j vc 1) w := fun w => by go_simp
          have hs2 : ∀ w, (Instr.sliceAt 39 (.slice va i vc) (some (.int .i64 (j : Int))) none none).run Try.prog w = .ok (sliced va j i vc 1) w := fun w => by go_simp
          have HS1 := Lib.hid (fun (w1 : World) (h : Fr [] wx w1) => own_lo (j := j) (own_fr hownx h (by simp)) (intsF_one P i) hji)
          have HS2 := Lib.hid (fun (w1 : World) (h : Fr [] wx w1) => own_hi (j := j) (own_fr hownx h (by simp)) (intsF_one P i) hji)
          have HFX := Lib.hid hfrx
          have HQ1 := Lib.hid hs1; have HQ2 := Lib.hid hs2
          clear hownx hfrx HFR HOWN hs1 hs2 HCS
          generalize sliced va 0 j vc 1 = s1 at *
          generalize sliced va j i vc 1 = s2 at *
          go_upto_region 8 with (fail)
          refine wp_region_any (by kernel_rfl) ?_
          try (change wpAny _ _ _ _ _ _ _ (World.drew _))
          have hx0 : Fr [] wx wx.drew := (Fr.refl [] wx).drew
          refine wpAny_take (i := 1) (v := ?_) rfl (by kernel_rfl) (by kernel_rfl) (by kernel_rfl) (fun _ _ _ h => h) (Or.inl ⟨by kernel_rfl, ?_⟩) ?_; rotate_left; (intro w; go_simp; try with_reducible rfl)
          refine wpAny_take (i := 2) (v := ?_) rfl (by kernel_rfl) (by kernel_rfl) (by kernel_rfl) (fun _ _ _ h => h) (Or.inl ⟨by kernel_rfl, ?_⟩) ?_; rotate_left; (intro w; go_simp; try with_reducible rfl)
          refine wpAny_take (i := 3) (v := s1) rfl (by kernel_rfl) (by kernel_rfl) (by kernel_rfl) (fun _ _ _ h => h) (Or.inl ⟨by kernel_rfl, ?_⟩) ?_; exact exec_slice (x' := .slice va i vc) (lo' := none) (hi' := some (.int .i64 (j : Int))) rfl (by kernel_rfl) (by kernel_rfl) (by kernel_rfl) HQ1.out
          refine wpAny_take (i := 5) (v := ?_) rfl (by kernel_rfl) (by kernel_rfl) (by kernel_rfl) (fun _ _ _ h => h) (Or.inl ⟨by kernel_rfl, ?_⟩) ?_; rotate_left; (intro w; go_simp; try with_reducible rfl)
          refine wpAny_take (i := 8) (v := ?_) rfl (by kernel_rfl) (by kernel_rfl) (by kernel_rfl) (fun _ _ _ h => h) (Or.inl ⟨by kernel_rfl, ?_⟩) ?_; rotate_left; (intro w; go_simp; try with_reducible rfl)
          refine wpAny_take (i := 9) (v := ?_) rfl (by kernel_rfl) (by kernel_rfl) (by kernel_rfl) (fun _ _ _ h => h) (Or.inl ⟨by kernel_rfl, ?_⟩) ?_; rotate_left; (intro w; go_simp; try with_reducible rfl)
          refine wpAny_take (i := 10) (v := s2) rfl (by kernel_rfl) (by kernel_rfl) (by kernel_rfl) (fun _ _ _ h => h) (Or.inl ⟨by kernel_rfl, ?_⟩) ?_; exact exec_slice (x' := .slice va i vc) (lo' := some (.int .i64 (j : Int))) (hi' := none) rfl (by kernel_rfl) (by kernel_rfl) (by kernel_rfl) HQ2.out
          refine wpAny_ready (rs := [0, 6]) (by kernel_rfl) (by simp) ?_
          refine AllReady.cons rfl (fun K hK => ?_) (AllReady.cons rfl (fun K hK => ?_) (AllReady.nil))
          · go_simp; refine hK _ _ ?_; clear hK K
            have hx1 : Fr [] wx (wx.drew.alloc (.cells #[] 3)) := hx0.alloc _
            have hoE := own_empty (sz := 1) (base := wx.heap.size) (Blk.new wx.drew #[] 3) (Nat.le_refl _)
            refine wpAny_ready (rs := [4, 6]) (by kernel_rfl) (by simp) ?_
            refine AllReady.cons rfl (fun K hK => ?_) (AllReady.cons rfl (fun K hK => ?_) (AllReady.nil))
            · refine step_append_src _ rfl (Operand.tmp 33) (Operand.tmp 36) 39 rfl wx.heap.size 3 i0 (.int .i64 0) 1 8 Try.underlying39 hi0 hz0 hz1 hz2 rfl (by decide) (.slice (some ⟨wx.heap.size, 0, none⟩) 0 0) s1 0 j [] ((intsF P i).take j) rfl rfl hoE (HS1.out _ hx1) (by unfold maxLen; omega) (by omega) (by simp) ?_
              intro v1 w1 ho1 hg1 hat1
              have hr1 : Fr [] wx w1 := fr_own hx1 hoE hg1 (Nat.le_refl _)
              refine hK _ _ ?_; clear hK K
              refine wpAny_ready (rs := [6]) (by kernel_rfl) (by simp) ?_
              refine AllReady.cons rfl (fun K hK => ?_) (AllReady.nil)
              go_simp; refine hK _ _ ?_; clear hK K
              have hb := Blk.new w1 #[.int .i64 (i : Int)] 3
              have hr2 : Fr [] wx (w1.alloc (.cells #[.int .i64 (i : Int)] 3)) := hr1.alloc _
              have ho2 := own_fr ho1 ((Fr.refl [] w1).alloc (.cells #[.int .i64 (i : Int)] 3)) (by simp)
              refine wpAny_ready (rs := [7]) (by kernel_rfl) (by simp) ?_
              refine AllReady.cons rfl (fun K hK => ?_) (AllReady.nil)
              refine step_append_src _ rfl (Operand.tmp 37) (Operand.tmp 39) 39 rfl wx.heap.size 3 i0 (.int .i64 0) 1 8 Try.underlying39 hi0 hz0 hz1 hz2 rfl (by decide) v1 (.slice (some ⟨w1.heap.size, 0, none⟩) 1 1) (0 + j) 1 ([] ++ (intsF P i).take j) [.int .i64 (i : Int)] rfl rfl ho2 (src_blk (sz := 1) (m := 1) (vs := #[.int .i64 (i : Int)]) hb rfl (by simp; rfl) 1) (by unfold maxLen; omega) (by omega) (by have := hr2.size; omega) ?_
              intro v2 w2 ho3 hg3 hat3
              refine hK _ _ ?_; clear hK K
              have hr3 : Fr [] wx w2 := fr_own hr2 ho2 hg3 (Nat.le_refl _)
              refine wpAny_ready (rs := [11]) (by kernel_rfl) (by simp) ?_
              refine AllReady.cons rfl (fun K hK => ?_) (AllReady.nil)
              refine step_append_src _ rfl (Operand.tmp 40) (Operand.tmp 43) 39 rfl wx.heap.size 3 i0 (.int .i64 0) 1 8 Try.underlying39 hi0 hz0 hz1 hz2 rfl (by decide) v2 s2 (0 + j + 1) (i - j) ([] ++ (intsF P i).take j ++ [.int .i64 (i : Int)]) ((intsF P i).drop j) rfl rfl ho3 (HS2.out _ hr3) (by unfold maxLen; omega) (by omega) hr3.size ?_
              intro v3 w3 ho4 hg4 hat4
              refine hK _ _ ?_; clear hK K
              have hr4 : Fr [] w w3 := HFX.out.trans (fr_own hr3 ho3 hg4 (Nat.le_refl _)) (by simp)
              have ho5 := own_weaken (base' := w.heap.size) ho4 HFX.out.size
              rw [List.nil_append, intsF_ins hji, show 0 + j + 1 + (i - j) = i + 1 by omega] at ho5
              clear ho2 hr2 ho3 hg3 hat3 hr3 ho4 hg4 hat4
              refine wpAny_take (i := 12) (v := ?_) rfl (by kernel_rfl) (by kernel_rfl) (by kernel_rfl) (fun _ _ _ h => h) (Or.inl ⟨by kernel_rfl, ?_⟩) ?_; rotate_left; (intro w; go_simp; try with_reducible rfl)
              refine wpAny_done (by kernel_rfl) ?_ _
              go_wp2_with fail
              go_roundw
              case rel => exact ⟨i + 1, _, by omega, by go_num, HO1.out, ho5, hr4⟩
              case measure => simp [intOf]; omega
            · go_simp; refine hK _ _ ?_; clear hK K
              have hx2 : Fr [] wx ((wx.drew.alloc (.cells #[] 3)).alloc (.cells #[.int .i64 (i : Int)] 3)) := hx1.alloc _
              have hb0 : Blk ((wx.drew.alloc (.cells #[] 3)).alloc (.cells #[.int .i64 (i : Int)] 3)) (wx.heap.size + 1) #[.int .i64 (i : Int)] 3 := by simpa using Blk.new (wx.drew.alloc (.cells #[] 3)) #[.int .i64 (i : Int)] 3
              have hoE2 := own_fr hoE ((Fr.refl [] (wx.drew.alloc (.cells #[] 3))).alloc (.cells #[.int .i64 (i : Int)] 3)) (by simp)
              refine wpAny_ready (rs := [4]) (by kernel_rfl) (by simp) ?_
              refine AllReady.cons rfl (fun K hK => ?_) (AllReady.nil)
              refine step_append_src _ rfl (Operand.tmp 33) (Operand.tmp 36) 39 rfl wx.heap.size 3 i0 (.int .i64 0) 1 8 Try.underlying39 hi0 hz0 hz1 hz2 rfl (by decide) (.slice (some ⟨wx.heap.size, 0, none⟩) 0 0) s1 0 j [] ((intsF P i).take j) rfl rfl hoE2 (HS1.out _ hx2) (by unfold maxLen; omega) (by omega) (by simp; omega) ?_
              intro v1 w1 ho1 hg1 hat1
              have hr1 : Fr [] wx w1 := fr_own hx2 hoE2 hg1 (Nat.le_refl _)
              refine hK _ _ ?_; clear hK K
              have hb := (fr_grown hg1).blk hb0 (notin_row (by simp))
              have hr2 := hr1; have ho2 := ho1
              refine wpAny_ready (rs := [7]) (by kernel_rfl) (by simp) ?_
              refine AllReady.cons rfl (fun K hK => ?_) (AllReady.nil)
              refine step_append_src _ rfl (Operand.tmp 37) (Operand.tmp 39) 39 rfl wx.heap.size 3 i0 (.int .i64 0) 1 8 Try.underlying39 hi0 hz0 hz1 hz2 rfl (by decide) v1 (.slice (some ⟨wx.heap.size + 1, 0, none⟩) 1 1) (0 + j) 1 ([] ++ (intsF P i).take j) [.int .i64 (i : Int)] rfl rfl ho2 (src_blk (sz := 1) (m := 1) (vs := #[.int .i64 (i : Int)]) hb rfl (by simp; rfl) 1) (by unfold maxLen; omega) (by omega) (by have := hr2.size; omega) ?_
              intro v2 w2 ho3 hg3 hat3
              refine hK _ _ ?_; clear hK K
              have hr3 : Fr [] wx w2 := fr_own hr2 ho2 hg3 (Nat.le_refl _)
              refine wpAny_ready (rs := [11]) (by kernel_rfl) (by simp) ?_
              refine AllReady.cons rfl (fun K hK => ?_) (AllReady.nil)
              refine step_append_src _ rfl (Operand.tmp 40) (Operand.tmp 43) 39 rfl wx.heap.size 3 i0 (.int .i64 0) 1 8 Try.underlying39 hi0 hz0 hz1 hz2 rfl (by decide) v2 s2 (0 + j + 1) (i - j) ([] ++ (intsF P i).take j ++ [.int .i64 (i : Int)]) ((intsF P i).drop j) rfl rfl ho3 (HS2.out _ hr3) (by unfold maxLen; omega) (by omega) hr3.size ?_
              intro v3 w3 ho4 hg4 hat4
              refine hK _ _ ?_; clear hK K
              have hr4 : Fr [] w w3 := HFX.out.trans (fr_own hr3 ho3 hg4 (Nat.le_refl _)) (by simp)
              have ho5 := own_weaken (base' := w.heap.size) ho4 HFX.out.size
              rw [List.nil_append, intsF_ins hji, show 0 + j + 1 + (i - j) = i + 1 by omega] at ho5
              clear ho2 hr2 ho3 hg3 hat3 hr3 ho4 hg4 hat4
              refine wpAny_take (i := 12) (v := ?_) rfl (by kernel_rfl) (by kernel_rfl) (by kernel_rfl) (fun _ _ _ h => h) (Or.inl ⟨by kernel_rfl, ?_⟩) ?_; rotate_left; (intro w; go_simp; try with_reducible rfl)
              refine wpAny_done (by kernel_rfl) ?_ _
              go_wp2_with fail
              go_roundw
              case rel => exact ⟨i + 1, _, by omega, by go_num, HO1.out, ho5, hr4⟩
              case measure => simp [intOf]; omega
          · go_simp; refine hK _ _ ?_; clear hK K
            have hx1 : Fr [] wx (wx.drew.alloc (.cells #[.int .i64 (i : Int)] 3)) := hx0.alloc _
            have hb0 := Blk.new wx.drew #[.int .i64 (i : Int)] 3
            refine wpAny_ready (rs := [0]) (by kernel_rfl) (by simp) ?_
            refine AllReady.cons rfl (fun K hK => ?_) (AllReady.nil)
            go_simp; refine hK _ _ ?_; clear hK K
            have hx2 : Fr [] wx ((wx.drew.alloc (.cells #[.int .i64 (i : Int)] 3)).alloc (.cells #[] 3)) := hx1.alloc _
            have hoE := own_empty (sz := 1) (base := wx.heap.size) (show Blk ((wx.drew.alloc (.cells #[.int .i64 (i : Int)] 3)).alloc (.cells #[] 3)) (wx.heap.size + 1) #[] 3 by simpa using Blk.new (wx.drew.alloc (.cells #[.int .i64 (i : Int)] 3)) #[] 3) (by omega)
            have hb1 := ((Fr.refl [] (wx.drew.alloc (.cells #[.int .i64 (i : Int)] 3))).alloc (.cells #[] 3)).blk hb0 (by simp)
            refine wpAny_ready (rs := [4]) (by kernel_rfl) (by simp) ?_
            refine AllReady.cons rfl (fun K hK => ?_) (AllReady.nil)
            refine step_append_src _ rfl (Operand.tmp 33) (Operand.tmp 36) 39 rfl wx.heap.size 3 i0 (.int .i64 0) 1 8 Try.underlying39 hi0 hz0 hz1 hz2 rfl (by decide) (.slice (some ⟨wx.heap.size + 1, 0, none⟩) 0 0) s1 0 j [] ((intsF P i).take j) rfl rfl hoE (HS1.out _ hx2) (by unfold maxLen; omega) (by omega) (by simp; omega) ?_
            intro v1 w1 ho1 hg1 hat1
            have hr1 : Fr [] wx w1 := fr_own hx2 hoE hg1 (Nat.le_refl _)
            refine hK _ _ ?_; clear hK K
            have hb := (fr_grown hg1).blk hb1 (notin_row (by simp))
            have hr2 := hr1; have ho2 := ho1
            refine wpAny_ready (rs := [7]) (by kernel_rfl) (by simp) ?_
            refine AllReady.cons rfl (fun K hK => ?_) (AllReady.nil)
            refine step_append_src _ rfl (Operand.tmp 37) (Operand.tmp 39) 39 rfl wx.heap.size 3 i0 (.int .i64 0) 1 8 Try.underlying39 hi0 hz0 hz1 hz2 rfl (by decide) v1 (.slice (some ⟨wx.heap.size, 0, none⟩) 1 1) (0 + j) 1 ([] ++ (intsF P i).take j) [.int .i64 (i : Int)] rfl rfl ho2 (src_blk (sz := 1) (m := 1) (vs := #[.int .i64 (i : Int)]) hb rfl (by simp; rfl) 1) (by unfold maxLen; omega) (by omega) (by have := hr2.size; omega) ?_
            intro v2 w2 ho3 hg3 hat3
            refine hK _ _ ?_; clear hK K
            have hr3 : Fr [] wx w2 := fr_own hr2 ho2 hg3 (Nat.le_refl _)
            refine wpAny_ready (rs := [11]) (by kernel_rfl) (by simp) ?_
            refine AllReady.cons rfl (fun K hK => ?_) (AllReady.nil)
            refine step_append_src _ rfl (Operand.tmp 40) (Operand.tmp 43) 39 rfl wx.heap.size 3 i0 (.int .i64 0) 1 8 Try.underlying39 hi0 hz0 hz1 hz2 rfl (by decide) v2 s2 (0 + j + 1) (i - j) ([] ++ (intsF P i).take j ++ [.int .i64 (i : Int)]) ((intsF P i).drop j) rfl rfl ho3 (HS2.out _ hr3) (by unfold maxLen; omega) (by omega) hr3.size ?_
            intro v3 w3 ho4 hg4 hat4
            refine hK _ _ ?_; clear hK K
            have hr4 : Fr [] w w3 := HFX.out.trans (fr_own hr3 ho3 hg4 (Nat.le_refl _)) (by simp)
            have ho5 := own_weaken (base' := w.heap.size) ho4 HFX.out.size
            rw [List.nil_append, intsF_ins hji, show 0 + j + 1 + (i - j) = i + 1 by omega] at ho5
            clear ho2 hr2 ho3 hg3 hat3 hr3 ho4 hg4 hat4
            refine wpAny_take (i := 12) (v := ?_) rfl (by kernel_rfl) (by kernel_rfl) (by kernel_rfl) (fun _ _ _ h => h) (Or.inl ⟨by kernel_rfl, ?_⟩) ?_; rotate_left; (intro w; go_simp; try with_reducible rfl)
            refine wpAny_done (by kernel_rfl) ?_ _
            go_wp2_with fail
            go_roundw
            case rel => exact ⟨i + 1, _, by omega, by go_num, HO1.out, ho5, hr4⟩
            case measure => simp [intOf]; omega
    · have hin2 : i = n := by omega
      subst hin2
      have q1 : ¬ (i : Int) < i := by omega
      have hR := intsF_s hown
      go_wp2_with fail
      go_ret
      exact ⟨_, rfl, P, hO, hR, hFr⟩
end Go.Proofs.Ytiniaphleogkiaa.Vw
