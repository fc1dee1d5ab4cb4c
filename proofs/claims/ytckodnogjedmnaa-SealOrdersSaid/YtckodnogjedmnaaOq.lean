/- chapter 18: SealOrders. Written by wip/genparts.py. -/
import Derived.Test.YtckodnogjedmnaaAd
import Derived.Test.YtckodnogjedmnaaSlAc
import Derived.Test.YtckodnogjedmnaaRg2
import Derived.Test.YtckodnogjedmnaaOwn
import Derived.Deep.CutBlock
import Derived.Deep.DeepCutAuto
import Derived.Laws.EntriesVeiled
namespace Go.Proofs.Ytckodnogjedmnaa.Lo
open Go.RowKit Dt Go.Proofs.Ytckodnogjedmnaa.Hd Go.Proofs.Ytckodnogjedmnaa.Cfg Go.Proofs.Ytckodnogjedmnaa.Jt Go.Proofs.Ytckodnogjedmnaa.FlW Ieee
set_option linter.unusedVariables false
set_option linter.unusedSimpArgs false
attribute [local go_sem] run_store_float
theorem infAct : (Try.prog.info? 60).map (fun i => (i.zero, i.size, i.bytes)) = some (some (.agg #[.int .i64 0, .int .i64 0, .int .i64 0, .int .i64 0, .int .i64 0, .int .i64 0, .int .i64 0, .int .i64 0]), 8, 64) := by kernel_rfl
/-- the law's own map: which cells were offered -/
def hadB (l : List O5) (x : Int) : Bool := l.any fun o => decide (x = (o.2.1 : Int) * 8 + o.1)
def hadF (l : List O5) (x : Int) : Option Value := if hadB l x = true then some (.bool true) else none
theorem hadB_app (l : List O5) (o : O5) (x : Int) : hadB (l ++ [o]) x = (hadB l x || decide (x = (o.2.1 : Int) * 8 + o.1)) := by unfold hadB; rw [List.any_append]; simp
theorem hadF_app (l : List O5) (o : O5) (x : Int) : hadF (l ++ [o]) x = if x = (o.2.1 : Int) * 8 + o.1 then some (.bool true) else hadF l x := by
  unfold hadF
  rw [hadB_app]
  by_cases e : x = (o.2.1 : Int) * 8 + o.1
  · rw [if_pos e]; simp [e]
  · rw [if_neg e]; simp [e]
theorem Okl.snoc {pl fr : Nat} {l : List O5} {o : O5} (h : Okl pl fr l) (hp : pl ≤ 8) (h1 : o.1 < pl ∧ o.2.1 < fr ∧ o.2.1 < 64 ∧ inB o.2.2.1 o.2.2.2.1 o.2.2.2.2 = true) (h2 : hadB l ((o.2.1 : Int) * 8 + o.1) = false) : Okl pl fr (l ++ [o]) := by
  refine ⟨?_, fun q hq => ?_⟩
  · rw [List.map_append, List.nodup_append]
    refine ⟨h.nd, by simp, fun a ha b hb e => ?_⟩
    subst e
    have hb' : a = ky o := by simpa using hb
    obtain ⟨q, hq, hqe⟩ := List.mem_map.1 ha
    rw [hb'] at hqe
    unfold ky at hqe
    injection hqe with e1 e2
    have h3 : hadB l ((o.2.1 : Int) * 8 + o.1) = true := by
      unfold hadB
      rw [List.any_eq_true]
      exact ⟨q, hq, by rw [e1, e2]; simp⟩
    rw [h2] at h3; exact absurd h3 (by decide)
  · rcases List.mem_append.1 hq with h3 | h3
    · exact h.ok q h3
    · have : q = o := by simpa using h3
      rw [this]; exact h1
theorem Okl.rev {pl fr : Nat} {l : List O5} (h : Okl pl fr l) (j : Nat) : Okl pl fr (l.take j).reverse := by
  refine ⟨?_, fun q hq => h.ok q (List.mem_of_mem_take (List.mem_reverse.1 hq))⟩
  exact (((List.reverse_perm (l.take j)).map ky).nodup_iff).2 (h.nd.sublist ((List.take_sublist j l).map ky))
theorem rev_succ {l : List O5} {j : Nat} {o : O5} (h : l[j]? = some o) : (l.take (j + 1)).reverse = o :: (l.take j).reverse := by
  rw [List.take_add_one, h]; simp
set_option maxRecDepth 100000 in
set_option maxHeartbeats 51200000 in
theorem walk_orders (xp xq xg xs xf xd xr : Int) (ra : Option Addr) (rl rc : Nat) (z0 : Nat → Int × Int × Int) (a1 : Option Addr) (len1 cap1 : Nat) (z1 : Nat → A8) (a2 : Option Addr) (len2 cap2 : Nat) (z2 : Nat → Int) (W : World) (s0 : SlR W ra rl rc z0) (s1 : SlAc W a1 len1 cap1 z1) (s2 : SlI .i64 W a2 len2 cap2 z2) :
    Calls Try.prog 10 #[.agg #[.int .i64 xp, .int .i64 xq, .int .i64 xg, .int .i64 xs, .int .i64 xf, .int .i64 xd, .int .i64 xr, .slice ra rl rc], .slice a1 len1 cap1, .slice a2 len2 cap2] W fun e w' => e = .returned (.bool true) ∧ Below W.heap.size W w' := by
  have HS1 := Lib.hid s1
  have hlm1 : len1 ≤ maxLen := Nat.le_trans s1.le s1.max
  have hmm := @run_makeMap Try.prog
  have HC2' := Lib.hid s2.1.cells
  have hlm2 : len2 ≤ maxLen := by have := s2.1.reach; have := s2.1.le; unfold maxLen; omega
  obtain ⟨i0, hi0, hz0, hz1, hz2⟩ := info_parts infAct
  have hF0 := (Fr.refl [] W).alloc (.cells #[.int .i64 xp, .int .i64 xq, .int .i64 xg, .int .i64 xs, .int .i64 xf, .int .i64 xd, .int .i64 xr, .slice ra rl rc] 42)
  have hs5 : SlR (W.alloc (.cells #[.int .i64 xp, .int .i64 xq, .int .i64 xg, .int .i64 xs, .int .i64 xf, .int .i64 xd, .int .i64 xr, .slice ra rl rc] 42)) ra rl rc z0 := by
    obtain ⟨h1, h2, h3, h4⟩ := s0
    refine ⟨h1, h2, h3, fun hp => ?_⟩
    obtain ⟨b, off, e1, e2, e3⟩ := h4 hp
    refine ⟨b, off, e1, Nat.lt_of_lt_of_le e2 hF0.size, fun i hi => ?_⟩
    obtain ⟨k1, k2, k3⟩ := e3 i hi
    exact ⟨(hF0.cell (p := ⟨b, off + i * 3, none⟩) e2 (by simp)).trans k1, (hF0.cell (p := ⟨b, off + (i * 3 + 1), none⟩) e2 (by simp)).trans k2, (hF0.cell (p := ⟨b, off + (i * 3 + 2), none⟩) e2 (by simp)).trans k3⟩
  clear s0 s1
  have HF0 := Lib.hid hF0; have HS5 := Lib.hid hs5
  clear hF0 hs5
  go_enter Try.func10, Try.ntmps10
  go_wp2_with fail
  refine (config_any HS5.out).mono ?_; rintro e w2 ⟨c, l, tk, rfl, hc, hf5, hf94, hF2⟩
  have HF2 := Lib.hid (HF0.out.trans hF2 (by simp))
  have HC := Lib.hid hc
  dsimp only [CfV.v]
  clear hc hF2 HF0 HS5
  go_upto_region 2 with (fail)
  have hX := Blk.new w2 (cfgC c) 46
  have hF3 := (Fr.refl [] w2).alloc (.cells (cfgC c) 46)
  have hc3 := HC.out.fr hF3 (by simp) (by simp)
  have HF3 := Lib.hid (HF2.out.trans hF3 (by simp))
  obtain ⟨g, hg⟩ : ∃ g, w2.heap.size = g := ⟨_, rfl⟩
  rw [hg] at hX ⊢
  have hgs : W.heap.size ≤ g := by rw [← hg]; exact HF2.out.size
  clear hg hF3 HF2 HC
  dsimp only [cfgC] at hX hc3 HF3
  generalize w2.alloc (.cells #[.int .i64 c.pl, .int .i64 c.per, .int .i64 c.gr, .int .i64 c.st, .int .i64 c.fr, .int .i64 c.seed, .float .f64 c.rate, .float .f64 c.depth, .slice c.ra c.rl c.rc, .slice c.ta c.tl c.tc] 46) = w3 at *
  have x0 := Blk.cell (i := 0) hX rfl
  have x1 := Blk.cell (i := 1) hX rfl
  have x2 := Blk.cell (i := 2) hX rfl
  have x3 := Blk.cell (i := 3) hX rfl
  have x4 := Blk.cell (i := 4) hX rfl
  have x5 := Blk.cell (i := 5) hX rfl
  have x6 := Blk.cell (i := 6) hX rfl
  have x7 := Blk.cell (i := 7) hX rfl
  have x8 := Blk.cell (i := 8) hX rfl
  have x9 := Blk.cell (i := 9) hX rfl
  simp only [List.getElem_toArray, List.getElem_cons_zero, List.getElem_cons_succ] at x0 x1 x2 x3 x4 x5 x6 x7 x8 x9
  have hnew := lnew_s hc3
  dsimp only [CfV.v] at hnew
  have HNEW := Lib.hid hnew; have HX := Lib.hid hX; have HC3 := Lib.hid hc3
  clear hnew hX hc3
  go_wp2_with fail
  refine HNEW.out.mono ?_; rintro e w4 ⟨A, MA, rfl, hlA, hF4⟩
  have HA4 := Lib.hid hlA.there
  have HF4 := Lib.hid hF4
  have hX := hF4.blk HX.out (by simp)
  have hnew := lnew_s (HC3.out.fr hF4 (by simp) (by simp))
  dsimp only [CfV.v] at hnew
  have HNEW := Lib.hid hnew
  have hg3 := HX.out.lt
  clear x0 x1 x2 x3 x4 x5 x6 x7 x8 x9 hnew hlA hF4
  have x0 := Blk.cell (i := 0) hX rfl
  have x1 := Blk.cell (i := 1) hX rfl
  have x2 := Blk.cell (i := 2) hX rfl
  have x3 := Blk.cell (i := 3) hX rfl
  have x4 := Blk.cell (i := 4) hX rfl
  have x5 := Blk.cell (i := 5) hX rfl
  have x6 := Blk.cell (i := 6) hX rfl
  have x7 := Blk.cell (i := 7) hX rfl
  have x8 := Blk.cell (i := 8) hX rfl
  have x9 := Blk.cell (i := 9) hX rfl
  simp only [List.getElem_toArray, List.getElem_cons_zero, List.getElem_cons_succ] at x0 x1 x2 x3 x4 x5 x6 x7 x8 x9
  have HX4 := Lib.hid hX
  clear hX
  go_wp2_with fail
  refine HNEW.out.mono ?_; rintro e w5 ⟨B, MB, rfl, hlB, hF5⟩
  have HB5 := Lib.hid hlB.there
  have HF5 := Lib.hid hF5
  clear x0 x1 x2 x3 x4 x5 x6 x7 x8 x9 hlB hF5
  go_wp2_with fail
  refine (lknown_any _).mono ?_; rintro e w6 ⟨rfl, hF6⟩
  have hM6 : Fr [] w6 (w6.alloc (.map #[] 0)) := (Fr.refl [] w6).alloc _
  have hm := MapW.made w6 Try.prog 3
  have hsz7 : (w6.alloc (.map #[] 0)).heap.size = w6.heap.size + 1 := by show (w6.heap.push _).size = _; simp
  have hAd : Ad W (w6.alloc (.map #[] 0)) (fun x => x = g ∨ x = w6.heap.size) c A MA B MB [] [] 0 (RO []) (RO []) := by
    have h3 := HF3.out.size
    have h4 := HF4.out.size
    have h5 := HF5.out.size
    have h6 := hF6.size
    have h57 : Fr [] w5 (w6.alloc (.map #[] 0)) := hF6.trans hM6 (by simp)
    refine ⟨⟨_, _, (HA4.out.fr HF5.out (by simp)).fr h57 (by simp), HB5.out.fr h57 (by simp), fun x h1 h2 => ?_, fun x h1 => ⟨?_, ?_, ?_⟩, fun x h1 => ⟨?_, ?_, ?_⟩⟩, ((HF3.out.trans HF4.out (by simp)).trans HF5.out (by simp)).trans h57 (by simp), fun x hx => ?_⟩
    · have := h1.2; have := h2.1; omega
    · have := h1.1; omega
    · have := h1.1; have := h1.2; omega
    · have := h1.2; omega
    · have := h1.1; omega
    · have := h1.1; have := h1.2; omega
    · have := h1.2; omega
    · rcases hx with e | e <;> omega
  have hCF := (hF6.trans hM6 (by simp)).blk (HF5.out.blk HX4.out (by simp)) (by simp)
  have HAD := Lib.hid hAd; have HCF := Lib.hid hCF
  have hN : CfN c := HA4.out.cf
  have hpl1 := hN.pl1
  have hpl8 := hN.pl8
  have hfr1 := hN.fr1
  have hfr6 := hN.fr6
  have hgF : g ≠ w6.heap.size := by have := HX4.out.lt; have := HF5.out.size; have := hF6.size; omega
  have hFW : W.heap.size ≤ w6.heap.size := ((HF3.out.trans HF4.out (by simp)).trans HF5.out (by simp) |>.trans hF6 (by simp)).size
  have HM7 := Lib.hid hm
  have hF7 : w6.heap.size < (w6.alloc (.map #[] 0)).heap.size := by omega
  have hW7 : W.heap.size ≤ (w6.alloc (.map #[] 0)).heap.size := by omega
  clear hAd hCF hm hM6 hsz7 hN hF6 HA4 HF4 HX4 HX HF3 HC3 HNEW HB5 HF5 hg3
  go_wp2_with fail
  generalize w6.alloc (.map #[] 0) = w7 at *
  generalize w6.heap.size = F at *
  go_loopw [12, 14] (fun lv iv wr => ∃ (i : Nat) (l : List O5), iv = .int .i64 i ∧ i ≤ len1 ∧ i ≤ 40 ∧ l.length ≤ i ∧ Okl c.pl c.fr l ∧ wr.ownsRow w7.heap.size 60 8 lv l.length (os l) ∧ (∃ cnt, MapW Try.prog 3 wr F cnt (hadF l) ∧ cnt ≤ i) ∧ Fr [F] w7 wr) (fun _ iv _ => 41 - (intOf iv).toNat)
  case atStart => exact ⟨0, [], rfl, Nat.zero_le _, Nat.zero_le _, Nat.zero_le _, ⟨by simp, fun o ho => by simp at ho⟩, own_nil _ _ _ _, ⟨0, HM7.out.congr (fun x hx => rfl), Nat.le_refl _⟩, Fr.refl _ _⟩
  case round =>
    obtain ⟨i, l, rfl, hi1, hi40, hli, hok, hown, hmap, hFr⟩ := hrel
    obtain ⟨va, vc, rfl, -, -⟩ := own_val hown
    have HOK := Lib.hid hok; have HOWN := Lib.hid hown; have HMP := Lib.hid hmap; have HFR := Lib.hid hFr
    clear hok hown hmap hFr
    by_cases q : i < len1 ∧ i < 40
    case neg =>
      have hl40 : l.length ≤ 40 := by omega
      by_cases qx : i < len1
      case' pos => have qx2 : ¬ (i : Int) < 40 := by omega
      case' pos => have qx1 : (i : Int) < len1 := by omega
      case' neg => have qx1 : ¬ (i : Int) < len1 := by omega
      all_goals
        clear q qx
        go_wp2_with fail
        as_aux_lemma =>
          obtain ⟨n, hn⟩ : ∃ n, l.length = n := ⟨_, rfl⟩
          rw [hn] at hl40
          have hlm9 : n ≤ maxLen := by unfold maxLen; omega
          have hAd1 := HAD.out.addK HFR.out (fun x hx => by
            have e : x = F := by simpa using hx
            rw [e]; exact ⟨.inr rfl, hFW⟩)
          have hCF1 := HFR.out.blk HCF.out (by simpa using hgF)
          have ho1 := HOWN.out
          rw [hn] at ho1
          have hKo : ∀ b, (Value.slice va n vc).ownBlock = some b → w7.heap.size ≤ b ∧ b < wr.heap.size := fun b hb => ⟨own_base ho1 hb, own_lt ho1 hb⟩
          have HKO := Lib.hid hKo; have HA1 := Lib.hid hAd1; have HC1 := Lib.hid hCF1; have HO1 := Lib.hid ho1; have HN := Lib.hid hn
          rw [hn]
          obtain ⟨N1, hN1⟩ : ∃ N, wr.heap.size = N := ⟨_, rfl⟩
          rw [hN1] at HA1 HKO
          clear hAd1 hCF1 ho1 hKo HAD HCF HOWN HMP hn hli hi1 hi40 hN1
          go_loopw [110] (fun kv w2 => ∃ j : Nat, kv = .int .i64 j ∧ j ≤ n ∧ Ad W w2 (fun x => (x = g ∨ x = F) ∨ (w7.heap.size ≤ x ∧ x < N1)) c A MA B MB [] [] j (RO (l.take j).reverse) (RO []) ∧ Blk w2 g (cfgC c) 46 ∧ w2.ownsRow w7.heap.size 60 8 (.slice va n vc) n (os l)) (fun kv _ => n - (intOf kv).toNat)
          case atStart => exact ⟨0, rfl, Nat.zero_le _, HA1.out, HC1.out, HO1.out⟩
          case round =>
            obtain ⟨j, rfl, hj, hA, hC, hO⟩ := hrel
            by_cases hjn : j < n
            · have hjn' : (j : Int) < n := by omega
              obtain ⟨o, ho⟩ : ∃ o, l[j]? = some o := ⟨_, List.getElem?_eq_getElem (by rw [HN.out]; exact hjn)⟩
              obtain ⟨gl, capl, hve, -, -, -⟩ := own_form hO (by omega)
              injection hve with hv1 hv2 hv3
              subst hv1 hv3
              clear hv2
              have hcl : ∀ t v, t < 8 → (o8 o)[t]? = some v → wr.drew.cell? ⟨gl, j * 8 + t, none⟩ = some v := fun t v ht hv => by
                have h1 := hO.cellAt (j * 8 + t) (by omega)
                have h2 : wr.drew.cell? ⟨gl, j * 8 + t, none⟩ = wr.cell? ⟨gl, j * 8 + t, none⟩ := rfl
                rw [h2, h1, os_get ht ho]; exact hv
              have d1 := hcl 1 _ (by omega) rfl
              have d2 := hcl 2 _ (by omega) rfl
              have d5 := hcl 5 _ (by omega) rfl
              have d6 := hcl 6 _ (by omega) rfl
              have d7 := hcl 7 _ (by omega) rfl
              have hoff := off_ok (pl := c.pl) (fr := c.fr) (o := o) (d := (l.take j).reverse) (by rw [← rev_succ ho]; exact HOK.out.rev (j + 1))
              obtain ⟨⟨s, k, ib, ix, iy⟩, hoe⟩ : ∃ q : O5, o = q := ⟨_, rfl⟩
              rw [hoe] at d1 d2 d5 d6 d7 hoff ho
              dsimp only at d1 d2 d5 d6 d7 hoff
              have HOF := Lib.hid hoff; have HA2 := Lib.hid (hA.fr0 ((Fr.refl [] wr).drew)); have HC2 := Lib.hid hC; have HO2 := Lib.hid hO; have HOJ := Lib.hid ho
              clear hcl hoff hA hC hO hoe ho
              go_wp2_with fail
              refine wp_region_M 18 (fun w' => w'.cell? ⟨gl, j * 8 + 1, none⟩ = some (.int .i64 s) ∧ w'.cell? ⟨gl, j * 8 + 2, none⟩ = some (.int .i64 k) ∧ w'.cell? ⟨gl, j * 8 + 5, none⟩ = some (.int .i64 ib) ∧ w'.cell? ⟨gl, j * 8 + 6, none⟩ = some (.int .i64 ix) ∧ w'.cell? ⟨gl, j * 8 + 7, none⟩ = some (.int .i64 iy)) (by kernel_rfl) (⟨d1, d2, d5, d6, d7⟩) (fun hS => ?_)
              try simp only [List.getElem_toArray, List.getElem_cons_succ, List.getElem_cons_zero, Act.put, List.setIfInBounds_toArray, List.set_cons_zero, List.set_cons_succ]
              refine wpAnyM_take (i := 0) (v := ?_) rfl (by kernel_rfl) (by kernel_rfl) (by kernel_rfl) (by kernel_rfl) (fun _ _ _ h => h) (Or.inl ⟨by kernel_rfl, ?_⟩) hS ?_; rotate_left; (intro w hSw; obtain ⟨y1, y2, y5, y6, y7⟩ := hSw; go_simp; try with_reducible rfl)
              try simp only [List.getElem_toArray, List.getElem_cons_succ, List.getElem_cons_zero, Act.put, List.setIfInBounds_toArray, List.set_cons_zero, List.set_cons_succ]
              refine wpAnyM_take (i := 1) (v := ?_) rfl (by kernel_rfl) (by kernel_rfl) (by kernel_rfl) (by kernel_rfl) (fun _ _ _ h => h) (Or.inl ⟨by kernel_rfl, ?_⟩) hS ?_; rotate_left; (intro w hSw; obtain ⟨y1, y2, y5, y6, y7⟩ := hSw; go_simp; try with_reducible rfl)
              try simp only [List.getElem_toArray, List.getElem_cons_succ, List.getElem_cons_zero, Act.put, List.setIfInBounds_toArray, List.set_cons_zero, List.set_cons_succ]
              refine wpAnyM_take (i := 2) (v := ?_) rfl (by kernel_rfl) (by kernel_rfl) (by kernel_rfl) (by kernel_rfl) (fun _ _ _ h => h) (Or.inl ⟨by kernel_rfl, ?_⟩) hS ?_; rotate_left; (intro w hSw; obtain ⟨y1, y2, y5, y6, y7⟩ := hSw; go_simp; try with_reducible rfl)
              try simp only [List.getElem_toArray, List.getElem_cons_succ, List.getElem_cons_zero, Act.put, List.setIfInBounds_toArray, List.set_cons_zero, List.set_cons_succ]
              refine wpAnyM_take (i := 3) (v := ?_) rfl (by kernel_rfl) (by kernel_rfl) (by kernel_rfl) (by kernel_rfl) (fun _ _ _ h => h) (Or.inl ⟨by kernel_rfl, ?_⟩) hS ?_; rotate_left; (intro w hSw; obtain ⟨y1, y2, y5, y6, y7⟩ := hSw; go_simp; try with_reducible rfl)
              try simp only [List.getElem_toArray, List.getElem_cons_succ, List.getElem_cons_zero, Act.put, List.setIfInBounds_toArray, List.set_cons_zero, List.set_cons_succ]
              refine wpAnyM_take (i := 4) (v := ?_) rfl (by kernel_rfl) (by kernel_rfl) (by kernel_rfl) (by kernel_rfl) (fun _ _ _ h => h) (Or.inl ⟨by kernel_rfl, ?_⟩) hS ?_; rotate_left; (intro w hSw; obtain ⟨y1, y2, y5, y6, y7⟩ := hSw; go_simp; try with_reducible rfl)
              try simp only [List.getElem_toArray, List.getElem_cons_succ, List.getElem_cons_zero, Act.put, List.setIfInBounds_toArray, List.set_cons_zero, List.set_cons_succ]
              refine wpAnyM_take (i := 5) (v := ?_) rfl (by kernel_rfl) (by kernel_rfl) (by kernel_rfl) (by kernel_rfl) (fun _ _ _ h => h) (Or.inl ⟨by kernel_rfl, ?_⟩) hS ?_; rotate_left; (intro w hSw; obtain ⟨y1, y2, y5, y6, y7⟩ := hSw; go_simp; try with_reducible rfl)
              try simp only [List.getElem_toArray, List.getElem_cons_succ, List.getElem_cons_zero, Act.put, List.setIfInBounds_toArray, List.set_cons_zero, List.set_cons_succ]
              refine wpAnyM_take (i := 6) (v := ?_) rfl (by kernel_rfl) (by kernel_rfl) (by kernel_rfl) (by kernel_rfl) (fun _ _ _ h => h) (Or.inl ⟨by kernel_rfl, ?_⟩) hS ?_; rotate_left; (intro w hSw; obtain ⟨y1, y2, y5, y6, y7⟩ := hSw; go_simp; try with_reducible rfl)
              try simp only [List.getElem_toArray, List.getElem_cons_succ, List.getElem_cons_zero, Act.put, List.setIfInBounds_toArray, List.set_cons_zero, List.set_cons_succ]
              refine wpAnyM_take (i := 7) (v := ?_) rfl (by kernel_rfl) (by kernel_rfl) (by kernel_rfl) (by kernel_rfl) (fun _ _ _ h => h) (Or.inl ⟨by kernel_rfl, ?_⟩) hS ?_; rotate_left; (intro w hSw; obtain ⟨y1, y2, y5, y6, y7⟩ := hSw; go_simp; try with_reducible rfl)
              try simp only [List.getElem_toArray, List.getElem_cons_succ, List.getElem_cons_zero, Act.put, List.setIfInBounds_toArray, List.set_cons_zero, List.set_cons_succ]
              refine wpAnyM_take (i := 8) (v := ?_) rfl (by kernel_rfl) (by kernel_rfl) (by kernel_rfl) (by kernel_rfl) (fun _ _ _ h => h) (Or.inl ⟨by kernel_rfl, ?_⟩) hS ?_; rotate_left; (intro w hSw; obtain ⟨y1, y2, y5, y6, y7⟩ := hSw; go_simp; try with_reducible rfl)
              try simp only [List.getElem_toArray, List.getElem_cons_succ, List.getElem_cons_zero, Act.put, List.setIfInBounds_toArray, List.set_cons_zero, List.set_cons_succ]
              refine wpAnyM_take (i := 9) (v := ?_) rfl (by kernel_rfl) (by kernel_rfl) (by kernel_rfl) (by kernel_rfl) (fun _ _ _ h => h) (Or.inl ⟨by kernel_rfl, ?_⟩) hS ?_; rotate_left; (intro w hSw; obtain ⟨y1, y2, y5, y6, y7⟩ := hSw; go_simp; try with_reducible rfl)
              try simp only [List.getElem_toArray, List.getElem_cons_succ, List.getElem_cons_zero, Act.put, List.setIfInBounds_toArray, List.set_cons_zero, List.set_cons_succ]
              refine wpAnyM_take (i := 10) (v := ?_) rfl (by kernel_rfl) (by kernel_rfl) (by kernel_rfl) (by kernel_rfl) (fun _ _ _ h => h) (Or.inl ⟨by kernel_rfl, ?_⟩) hS ?_; rotate_left; (intro w hSw; obtain ⟨y1, y2, y5, y6, y7⟩ := hSw; go_simp; try with_reducible rfl)
              try simp only [List.getElem_toArray, List.getElem_cons_succ, List.getElem_cons_zero, Act.put, List.setIfInBounds_toArray, List.set_cons_zero, List.set_cons_succ]
              refine wpAnyM_take (i := 11) (v := ?_) rfl (by kernel_rfl) (by kernel_rfl) (by kernel_rfl) (by kernel_rfl) (fun _ _ _ h => h) (Or.inl ⟨by kernel_rfl, ?_⟩) hS ?_; rotate_left; (intro w hSw; obtain ⟨y1, y2, y5, y6, y7⟩ := hSw; go_simp; try with_reducible rfl)
              try simp only [List.getElem_toArray, List.getElem_cons_succ, List.getElem_cons_zero, Act.put, List.setIfInBounds_toArray, List.set_cons_zero, List.set_cons_succ]
              refine wpAnyM_take (i := 12) (v := ?_) rfl (by kernel_rfl) (by kernel_rfl) (by kernel_rfl) (by kernel_rfl) (fun _ _ _ h => h) (Or.inl ⟨by kernel_rfl, ?_⟩) hS ?_; rotate_left; (intro w hSw; obtain ⟨y1, y2, y5, y6, y7⟩ := hSw; go_simp; try with_reducible rfl)
              try simp only [List.getElem_toArray, List.getElem_cons_succ, List.getElem_cons_zero, Act.put, List.setIfInBounds_toArray, List.set_cons_zero, List.set_cons_succ]
              refine wpAnyM_take (i := 13) (v := ?_) rfl (by kernel_rfl) (by kernel_rfl) (by kernel_rfl) (by kernel_rfl) (fun _ _ _ h => h) (Or.inl ⟨by kernel_rfl, ?_⟩) hS ?_; rotate_left; (intro w hSw; obtain ⟨y1, y2, y5, y6, y7⟩ := hSw; go_simp; try with_reducible rfl)
              try simp only [List.getElem_toArray, List.getElem_cons_succ, List.getElem_cons_zero, Act.put, List.setIfInBounds_toArray, List.set_cons_zero, List.set_cons_succ]
              refine wpAnyM_take (i := 14) (v := ?_) rfl (by kernel_rfl) (by kernel_rfl) (by kernel_rfl) (by kernel_rfl) (fun _ _ _ h => h) (Or.inl ⟨by kernel_rfl, ?_⟩) hS ?_; rotate_left; (intro w hSw; obtain ⟨y1, y2, y5, y6, y7⟩ := hSw; go_simp; try with_reducible rfl)
              try simp only [List.getElem_toArray, List.getElem_cons_succ, List.getElem_cons_zero, Act.put, List.setIfInBounds_toArray, List.set_cons_zero, List.set_cons_succ]
              refine wpAnyM_take (i := 15) (v := ?_) rfl (by kernel_rfl) (by kernel_rfl) (by kernel_rfl) (by kernel_rfl) (fun _ _ _ h => h) (Or.inl ⟨by kernel_rfl, ?_⟩) hS ?_; rotate_left; (intro w hSw; obtain ⟨y1, y2, y5, y6, y7⟩ := hSw; go_simp; try with_reducible rfl)
              try simp only [List.getElem_toArray, List.getElem_cons_succ, List.getElem_cons_zero, Act.put, List.setIfInBounds_toArray, List.set_cons_zero, List.set_cons_succ]
              refine wpAnyM_one (i := 16) (by kernel_rfl) rfl (fun KK hK => ?_)
              go_simp
              refine (HA2.out.off (by omega) s k ib ix iy).mono ?_; rintro e w5 ⟨rfl, hA5, hK5⟩
              have hO5 := hK5.own (own_fr HO2.out ((Fr.refl [] wr).drew) (by simp)) (fun b hb => .inr (HKO.out b hb))
              have hC5 := hK5.blk (Blk.drew HC2.out) (.inl (.inl rfl))
              have hS2 : w5.cell? ⟨gl, j * 8 + 1, none⟩ = some (.int .i64 s) ∧ w5.cell? ⟨gl, j * 8 + 2, none⟩ = some (.int .i64 k) ∧ w5.cell? ⟨gl, j * 8 + 5, none⟩ = some (.int .i64 ib) ∧ w5.cell? ⟨gl, j * 8 + 6, none⟩ = some (.int .i64 ix) ∧ w5.cell? ⟨gl, j * 8 + 7, none⟩ = some (.int .i64 iy) := by
                have hcl : ∀ t v, t < 8 → (o8 (s, k, ib, ix, iy))[t]? = some v → w5.cell? ⟨gl, j * 8 + t, none⟩ = some v := fun t v ht hv => by
                  rw [hO5.cellAt (j * 8 + t) (by omega), os_get ht HOJ.out]; exact hv
                exact ⟨hcl 1 _ (by omega) rfl, hcl 2 _ (by omega) rfl, hcl 5 _ (by omega) rfl, hcl 6 _ (by omega) rfl, hcl 7 _ (by omega) rfl⟩
              change Ad W w5 _ c A MA B MB [] [] (j + 1) (offerR c.pl c.fr 0 _ _ _ _ _ _) _ at hA5
              rw [HOF.out.2, ← rev_succ HOJ.out] at hA5
              have HA5 := Lib.hid hA5; have HO5 := Lib.hid hO5; have HC5 := Lib.hid hC5
              clear hA5 hO5 hC5 hK5
              rw [show offerK c.pl c.fr ([] : List (Nat × Row)).length (RO (l.take j).reverse) s k ib ix iy = 1 from HOF.out.1]
              refine hK.out _ _ (fun _ => hS2) (fun _ => ?_); clear hK KK; have hS := hS2; clear hS2
              try simp only [List.getElem_toArray, List.getElem_cons_succ, List.getElem_cons_zero, Act.put, List.setIfInBounds_toArray, List.set_cons_zero, List.set_cons_succ]
              refine wpAnyM_take (i := 17) (v := .bool false) rfl (by kernel_rfl) (by kernel_rfl) (by kernel_rfl) (by kernel_rfl) (fun _ _ _ h => h) (Or.inl ⟨by kernel_rfl, ?_⟩) hS ?_; (intro w hSw; (focus (go_simp; first | done | omega | with_reducible rfl)))
              try simp only [List.getElem_toArray, List.getElem_cons_succ, List.getElem_cons_zero, Act.put, List.setIfInBounds_toArray, List.set_cons_zero, List.set_cons_succ]
              refine wpAnyM_done (by kernel_rfl) ?_ _
              try simp only [List.getElem_toArray, List.getElem_cons_succ, List.getElem_cons_zero, Act.put, List.setIfInBounds_toArray, List.set_cons_zero, List.set_cons_succ]
              clear hS
              go_wp2_with fail
              go_roundw
              case rel => exact ⟨j + 1, by simp, by omega, HA5.out, HC5.out, HO5.out⟩
              case measure => simp [intOf]; omega
            · have e : j = n := by omega
              subst e
              have HA2 := Lib.hid hA; have HC2 := Lib.hid hC; have HO2 := Lib.hid hO
              clear hA hC hO HA1 HC1 HO1
              go_wp2_with fail
              as_aux_lemma =>
                have hAs := HA2.out.swap
                have hp0 : ∀ o, o ∈ l ↔ o ∈ ([] : List O5) ∨ o ∈ l := fun o => by simp
                have hn0 : (([] ++ l).map ky).Nodup := HOK.out.nd
                have HAS := Lib.hid hAs; have HP0 := Lib.hid hp0; have HN0 := Lib.hid hn0; have HW12 := Lib.hid (show l.length = j from HN.out)
                clear hAs hp0 hn0 HA2
                go_loopw [12, 19] (fun lv iv w3 => ∃ (i : Nat) (r d : List O5) (K : Nat → Prop), iv = .int .i64 i ∧ i + r.length = j ∧ d.length = i ∧ Ad W w3 K c B MB A MA [] [] (j + i) (RO d) (RO (l.take j).reverse) ∧ K g ∧ Blk w3 g (cfgC c) 46 ∧ (∃ base, w3.ownsRow base 60 8 lv r.length (os r)) ∧ (∀ b, lv.ownBlock = some b → K b) ∧ (∀ o, o ∈ l ↔ o ∈ d ∨ o ∈ r) ∧ ((d ++ r).map ky).Nodup) (fun _ iv _ => j - (intOf iv).toNat)
                case atStart => exact ⟨0, l, [], _, rfl, by rw [HN.out]; omega, rfl, HAS.out, .inl (.inl rfl), HC2.out, ⟨_, by rw [HN.out]; exact HO2.out⟩, fun b hb => .inr (HKO.out b hb), HP0.out, HN0.out⟩
                case round =>
                  obtain ⟨i, r, d, K, rfl, hir, hdl, hA, hKg, hC, ⟨base, hO⟩, hKb, hpm, hnd⟩ := hrel
                  obtain ⟨va3, vc3, rfl, hvc1, hvc2⟩ := own_val hO
                  have HA3 := Lib.hid hA; have HKG := Lib.hid hKg; have HC3 := Lib.hid hC; have HO3 := Lib.hid hO; have HKB := Lib.hid hKb; have HPM := Lib.hid hpm; have HND := Lib.hid hnd
                  clear HAS HP0 HN0 HC2 HO2 hA hKg hC hO hKb hpm hnd
                  by_cases hr0 : 0 < r.length
                  · have q3 : (0 : Int) < (r.length : Int) := by omega
                    go_upto_if 142 with (fail)
                    go_cut [20] (fun sk w1 => ∃ kk : Nat, kk < r.length ∧ sk = .int .i64 kk ∧ wr = w1)
                    case first =>
                      by_cases ho : i < len2
                      · obtain ⟨bo, offo, rfl, hlb, hc⟩ := HC2'.out (by omega)
                        have hcj := (HA3.out.fr.cell (p := ⟨bo, offo + i, none⟩) hlb (by simp)).trans (hc i ho)
                        clear hc
                        go_wp2_with fail
                        refine (pick_any _ _ _ (by omega) (by omega)).mono ?_; rintro e w' ⟨rfl, rfl⟩
                        obtain ⟨kk, hkk⟩ : ∃ kk : Nat, z2 i % (r.length : Int) = kk := ⟨(z2 i % (r.length : Int)).toNat, by have := Int.emod_nonneg (z2 i) (show (r.length : Int) ≠ 0 by omega); omega⟩
                        have hkk2 : kk < r.length := by have := Int.emod_lt_of_pos (z2 i) (show 0 < (r.length : Int) by omega); omega
                        rw [hkk]
                        clear hkk
                        go_wp2_with fail
                        go_meet
                        case rel => exact ⟨kk, hkk2, rfl, rfl⟩
                      · go_wp2_with fail
                        go_meet
                        case rel => exact ⟨0, hr0, rfl, rfl⟩
                    case rest =>
                      obtain ⟨kk, hkk, rfl, rfl⟩ := hcut
                      as_aux_lemma =>
                        obtain ⟨gl, capl, hve, -, hcp1, hcp2⟩ := own_form HO3.out hr0
                        injection hve with hv1 hv2 hv3
                        subst hv1 hv3
                        clear hv2
                        obtain ⟨o, ho⟩ : ∃ o, r[kk] = o := ⟨_, rfl⟩
                        have ho2 : r[kk]? = some o := by rw [List.getElem?_eq_getElem hkk, ho]
                        have hcl : ∀ t v, t < 8 → (o8 o)[t]? = some v → wr.drew.cell? ⟨gl, kk * 8 + t, none⟩ = some v := fun t v ht hv => by
                          have h1 := HO3.out.cellAt (kk * 8 + t) (by omega)
                          have h2 : wr.drew.cell? ⟨gl, kk * 8 + t, none⟩ = wr.cell? ⟨gl, kk * 8 + t, none⟩ := rfl
                          rw [h2, h1, os_get ht ho2]; exact hv
                        have d1 := hcl 1 _ (by omega) rfl
                        have d2 := hcl 2 _ (by omega) rfl
                        have d5 := hcl 5 _ (by omega) rfl
                        have d6 := hcl 6 _ (by omega) rfl
                        have d7 := hcl 7 _ (by omega) rfl
                        obtain ⟨hm1, hm2, hm3⟩ := ok_move HOK.out HPM.out HND.out hkk
                        rw [ho] at hm1 hm2 hm3
                        have hoff := off_ok hm1
                        obtain ⟨⟨s, k, ib, ix, iy⟩, hoe⟩ : ∃ q : O5, o = q := ⟨_, rfl⟩
                        rw [hoe] at d1 d2 d5 d6 d7 hoff ho2 hm1 hm2 hm3
                        dsimp only at d1 d2 d5 d6 d7 hoff
                        have HOF := Lib.hid hoff; have HOJ := Lib.hid ho2; have HM2 := Lib.hid hm2; have HM3 := Lib.hid hm3; have HAD4 := Lib.hid (HA3.out.fr0 ((Fr.refl [] wr).drew))
                        have hkkI : (kk : Int) < r.length := by omega
                        clear hcl hoff hoe ho ho2 hm1 hm2 hm3
                        go_wp2_with fail
                        refine wp_region_M 18 (fun w' => w'.cell? ⟨gl, kk * 8 + 1, none⟩ = some (.int .i64 s) ∧ w'.cell? ⟨gl, kk * 8 + 2, none⟩ = some (.int .i64 k) ∧ w'.cell? ⟨gl, kk * 8 + 5, none⟩ = some (.int .i64 ib) ∧ w'.cell? ⟨gl, kk * 8 + 6, none⟩ = some (.int .i64 ix) ∧ w'.cell? ⟨gl, kk * 8 + 7, none⟩ = some (.int .i64 iy)) (by kernel_rfl) (⟨d1, d2, d5, d6, d7⟩) (fun hS => ?_)
                        try simp only [List.getElem_toArray, List.getElem_cons_succ, List.getElem_cons_zero, Act.put, List.setIfInBounds_toArray, List.set_cons_zero, List.set_cons_succ]
                        refine wpAnyM_take (i := 0) (v := ?_) rfl (by kernel_rfl) (by kernel_rfl) (by kernel_rfl) (by kernel_rfl) (fun _ _ _ h => h) (Or.inl ⟨by kernel_rfl, ?_⟩) hS ?_; rotate_left; (intro w hSw; obtain ⟨y1, y2, y5, y6, y7⟩ := hSw; go_simp; try with_reducible rfl)
                        try simp only [List.getElem_toArray, List.getElem_cons_succ, List.getElem_cons_zero, Act.put, List.setIfInBounds_toArray, List.set_cons_zero, List.set_cons_succ]
                        refine wpAnyM_take (i := 1) (v := ?_) rfl (by kernel_rfl) (by kernel_rfl) (by kernel_rfl) (by kernel_rfl) (fun _ _ _ h => h) (Or.inl ⟨by kernel_rfl, ?_⟩) hS ?_; rotate_left; (intro w hSw; obtain ⟨y1, y2, y5, y6, y7⟩ := hSw; go_simp; try with_reducible rfl)
                        try simp only [List.getElem_toArray, List.getElem_cons_succ, List.getElem_cons_zero, Act.put, List.setIfInBounds_toArray, List.set_cons_zero, List.set_cons_succ]
                        refine wpAnyM_take (i := 2) (v := ?_) rfl (by kernel_rfl) (by kernel_rfl) (by kernel_rfl) (by kernel_rfl) (fun _ _ _ h => h) (Or.inl ⟨by kernel_rfl, ?_⟩) hS ?_; rotate_left; (intro w hSw; obtain ⟨y1, y2, y5, y6, y7⟩ := hSw; go_simp; try with_reducible rfl)
                        try simp only [List.getElem_toArray, List.getElem_cons_succ, List.getElem_cons_zero, Act.put, List.setIfInBounds_toArray, List.set_cons_zero, List.set_cons_succ]
                        refine wpAnyM_take (i := 3) (v := ?_) rfl (by kernel_rfl) (by kernel_rfl) (by kernel_rfl) (by kernel_rfl) (fun _ _ _ h => h) (Or.inl ⟨by kernel_rfl, ?_⟩) hS ?_; rotate_left; (intro w hSw; obtain ⟨y1, y2, y5, y6, y7⟩ := hSw; go_simp; try with_reducible rfl)
                        try simp only [List.getElem_toArray, List.getElem_cons_succ, List.getElem_cons_zero, Act.put, List.setIfInBounds_toArray, List.set_cons_zero, List.set_cons_succ]
                        refine wpAnyM_take (i := 4) (v := ?_) rfl (by kernel_rfl) (by kernel_rfl) (by kernel_rfl) (by kernel_rfl) (fun _ _ _ h => h) (Or.inl ⟨by kernel_rfl, ?_⟩) hS ?_; rotate_left; (intro w hSw; obtain ⟨y1, y2, y5, y6, y7⟩ := hSw; go_simp; try with_reducible rfl)
                        try simp only [List.getElem_toArray, List.getElem_cons_succ, List.getElem_cons_zero, Act.put, List.setIfInBounds_toArray, List.set_cons_zero, List.set_cons_succ]
                        refine wpAnyM_take (i := 5) (v := ?_) rfl (by kernel_rfl) (by kernel_rfl) (by kernel_rfl) (by kernel_rfl) (fun _ _ _ h => h) (Or.inl ⟨by kernel_rfl, ?_⟩) hS ?_; rotate_left; (intro w hSw; obtain ⟨y1, y2, y5, y6, y7⟩ := hSw; go_simp; try with_reducible rfl)
                        try simp only [List.getElem_toArray, List.getElem_cons_succ, List.getElem_cons_zero, Act.put, List.setIfInBounds_toArray, List.set_cons_zero, List.set_cons_succ]
                        refine wpAnyM_take (i := 6) (v := ?_) rfl (by kernel_rfl) (by kernel_rfl) (by kernel_rfl) (by kernel_rfl) (fun _ _ _ h => h) (Or.inl ⟨by kernel_rfl, ?_⟩) hS ?_; rotate_left; (intro w hSw; obtain ⟨y1, y2, y5, y6, y7⟩ := hSw; go_simp; try with_reducible rfl)
                        try simp only [List.getElem_toArray, List.getElem_cons_succ, List.getElem_cons_zero, Act.put, List.setIfInBounds_toArray, List.set_cons_zero, List.set_cons_succ]
                        refine wpAnyM_take (i := 7) (v := ?_) rfl (by kernel_rfl) (by kernel_rfl) (by kernel_rfl) (by kernel_rfl) (fun _ _ _ h => h) (Or.inl ⟨by kernel_rfl, ?_⟩) hS ?_; rotate_left; (intro w hSw; obtain ⟨y1, y2, y5, y6, y7⟩ := hSw; go_simp; try with_reducible rfl)
                        try simp only [List.getElem_toArray, List.getElem_cons_succ, List.getElem_cons_zero, Act.put, List.setIfInBounds_toArray, List.set_cons_zero, List.set_cons_succ]
                        refine wpAnyM_take (i := 8) (v := ?_) rfl (by kernel_rfl) (by kernel_rfl) (by kernel_rfl) (by kernel_rfl) (fun _ _ _ h => h) (Or.inl ⟨by kernel_rfl, ?_⟩) hS ?_; rotate_left; (intro w hSw; obtain ⟨y1, y2, y5, y6, y7⟩ := hSw; go_simp; try with_reducible rfl)
                        try simp only [List.getElem_toArray, List.getElem_cons_succ, List.getElem_cons_zero, Act.put, List.setIfInBounds_toArray, List.set_cons_zero, List.set_cons_succ]
                        refine wpAnyM_take (i := 9) (v := ?_) rfl (by kernel_rfl) (by kernel_rfl) (by kernel_rfl) (by kernel_rfl) (fun _ _ _ h => h) (Or.inl ⟨by kernel_rfl, ?_⟩) hS ?_; rotate_left; (intro w hSw; obtain ⟨y1, y2, y5, y6, y7⟩ := hSw; go_simp; try with_reducible rfl)
                        try simp only [List.getElem_toArray, List.getElem_cons_succ, List.getElem_cons_zero, Act.put, List.setIfInBounds_toArray, List.set_cons_zero, List.set_cons_succ]
                        refine wpAnyM_take (i := 10) (v := ?_) rfl (by kernel_rfl) (by kernel_rfl) (by kernel_rfl) (by kernel_rfl) (fun _ _ _ h => h) (Or.inl ⟨by kernel_rfl, ?_⟩) hS ?_; rotate_left; (intro w hSw; obtain ⟨y1, y2, y5, y6, y7⟩ := hSw; go_simp; try with_reducible rfl)
                        try simp only [List.getElem_toArray, List.getElem_cons_succ, List.getElem_cons_zero, Act.put, List.setIfInBounds_toArray, List.set_cons_zero, List.set_cons_succ]
                        refine wpAnyM_take (i := 11) (v := ?_) rfl (by kernel_rfl) (by kernel_rfl) (by kernel_rfl) (by kernel_rfl) (fun _ _ _ h => h) (Or.inl ⟨by kernel_rfl, ?_⟩) hS ?_; rotate_left; (intro w hSw; obtain ⟨y1, y2, y5, y6, y7⟩ := hSw; go_simp; try with_reducible rfl)
                        try simp only [List.getElem_toArray, List.getElem_cons_succ, List.getElem_cons_zero, Act.put, List.setIfInBounds_toArray, List.set_cons_zero, List.set_cons_succ]
                        refine wpAnyM_take (i := 12) (v := ?_) rfl (by kernel_rfl) (by kernel_rfl) (by kernel_rfl) (by kernel_rfl) (fun _ _ _ h => h) (Or.inl ⟨by kernel_rfl, ?_⟩) hS ?_; rotate_left; (intro w hSw; obtain ⟨y1, y2, y5, y6, y7⟩ := hSw; go_simp; try with_reducible rfl)
                        try simp only [List.getElem_toArray, List.getElem_cons_succ, List.getElem_cons_zero, Act.put, List.setIfInBounds_toArray, List.set_cons_zero, List.set_cons_succ]
                        refine wpAnyM_take (i := 13) (v := ?_) rfl (by kernel_rfl) (by kernel_rfl) (by kernel_rfl) (by kernel_rfl) (fun _ _ _ h => h) (Or.inl ⟨by kernel_rfl, ?_⟩) hS ?_; rotate_left; (intro w hSw; obtain ⟨y1, y2, y5, y6, y7⟩ := hSw; go_simp; try with_reducible rfl)
                        try simp only [List.getElem_toArray, List.getElem_cons_succ, List.getElem_cons_zero, Act.put, List.setIfInBounds_toArray, List.set_cons_zero, List.set_cons_succ]
                        refine wpAnyM_take (i := 14) (v := ?_) rfl (by kernel_rfl) (by kernel_rfl) (by kernel_rfl) (by kernel_rfl) (fun _ _ _ h => h) (Or.inl ⟨by kernel_rfl, ?_⟩) hS ?_; rotate_left; (intro w hSw; obtain ⟨y1, y2, y5, y6, y7⟩ := hSw; go_simp; try with_reducible rfl)
                        try simp only [List.getElem_toArray, List.getElem_cons_succ, List.getElem_cons_zero, Act.put, List.setIfInBounds_toArray, List.set_cons_zero, List.set_cons_succ]
                        refine wpAnyM_take (i := 15) (v := ?_) rfl (by kernel_rfl) (by kernel_rfl) (by kernel_rfl) (by kernel_rfl) (fun _ _ _ h => h) (Or.inl ⟨by kernel_rfl, ?_⟩) hS ?_; rotate_left; (intro w hSw; obtain ⟨y1, y2, y5, y6, y7⟩ := hSw; go_simp; try with_reducible rfl)
                        try simp only [List.getElem_toArray, List.getElem_cons_succ, List.getElem_cons_zero, Act.put, List.setIfInBounds_toArray, List.set_cons_zero, List.set_cons_succ]
                        refine wpAnyM_one (i := 16) (by kernel_rfl) rfl (fun KK hK => ?_)
                        go_simp
                        refine (HAD4.out.off (by omega) s k ib ix iy).mono ?_; rintro e w5 ⟨rfl, hA5, hK5⟩
                        have hO5 := hK5.own (own_keep HO3.out ((Fr.refl [] wr).drew) (by simp)) HKB.out
                        have hC5 := hK5.blk (Blk.drew HC3.out) HKG.out
                        have hS2 : w5.cell? ⟨gl, kk * 8 + 1, none⟩ = some (.int .i64 s) ∧ w5.cell? ⟨gl, kk * 8 + 2, none⟩ = some (.int .i64 k) ∧ w5.cell? ⟨gl, kk * 8 + 5, none⟩ = some (.int .i64 ib) ∧ w5.cell? ⟨gl, kk * 8 + 6, none⟩ = some (.int .i64 ix) ∧ w5.cell? ⟨gl, kk * 8 + 7, none⟩ = some (.int .i64 iy) := by
                          have hcl : ∀ t v, t < 8 → (o8 (s, k, ib, ix, iy))[t]? = some v → w5.cell? ⟨gl, kk * 8 + t, none⟩ = some v := fun t v ht hv => by
                            rw [hO5.cellAt (kk * 8 + t) (by omega), os_get ht HOJ.out]; exact hv
                          exact ⟨hcl 1 _ (by omega) rfl, hcl 2 _ (by omega) rfl, hcl 5 _ (by omega) rfl, hcl 6 _ (by omega) rfl, hcl 7 _ (by omega) rfl⟩
                        change Ad W w5 _ c B MB A MA [] [] (j + i + 1) (offerR c.pl c.fr 0 _ _ _ _ _ _) _ at hA5
                        rw [HOF.out.2] at hA5
                        have HA5 := Lib.hid hA5; have HO5 := Lib.hid hO5; have HC5 := Lib.hid hC5
                        clear hA5 hO5 hC5 hK5
                        rw [show offerK c.pl c.fr ([] : List (Nat × Row)).length (RO d) s k ib ix iy = 1 from HOF.out.1]
                        refine hK.out _ _ (fun _ => hS2) (fun _ => ?_); clear hK KK; have hS := hS2; clear hS2
                        try simp only [List.getElem_toArray, List.getElem_cons_succ, List.getElem_cons_zero, Act.put, List.setIfInBounds_toArray, List.set_cons_zero, List.set_cons_succ]
                        refine wpAnyM_take (i := 17) (v := .bool false) rfl (by kernel_rfl) (by kernel_rfl) (by kernel_rfl) (by kernel_rfl) (fun _ _ _ h => h) (Or.inl ⟨by kernel_rfl, ?_⟩) hS ?_; (intro w hSw; (focus (go_simp; first | done | omega | with_reducible rfl)))
                        try simp only [List.getElem_toArray, List.getElem_cons_succ, List.getElem_cons_zero, Act.put, List.setIfInBounds_toArray, List.set_cons_zero, List.set_cons_succ]
                        refine wpAnyM_done (by kernel_rfl) ?_ _
                        try simp only [List.getElem_toArray, List.getElem_cons_succ, List.getElem_cons_zero, Act.put, List.setIfInBounds_toArray, List.set_cons_zero, List.set_cons_succ]
                        clear hS
                        clear d1 d2 d5 d6 d7 HA3 HO3 HC3 HAD4
                        go_wp2_with fail
                        have hkr : (kk : Int) ≤ (vc3 : Int) := by omega
                        have hkr2 : (kk : Int) + 1 ≤ (r.length : Int) := by omega
                        have hkr3 : ¬ (kk : Int) + 1 < 0 := by omega
                        have hkr4 : (0 : Int) ≤ (kk : Int) + 1 := by omega
                        have hs1 : ∀ w, (Instr.sliceAt 54 (.slice (some ⟨gl, 0, none⟩) r.length vc3) none (some (.int .i64 (kk : Int))) none).run Try.prog w = .ok (sliced (some ⟨gl, 0, none⟩) 0 kk vc3 8) w := fun w => by go_simp
                        have hs2 : ∀ w, (Instr.sliceAt 54 (.slice (some ⟨gl, 0, none⟩) r.length vc3) (some (.int .i64 ((kk : Int) + 1))) none none).run Try.prog w = .ok (sliced (some ⟨gl, 0, none⟩) (kk + 1) r.length vc3 8) w := fun w => by
                          have e : ((kk : Int) + 1).toNat = kk + 1 := by omega
                          go_simp; try rw [e]
                        obtain ⟨s1, hx1⟩ : ∃ v, sliced (some ⟨gl, 0, none⟩) 0 kk vc3 8 = v := ⟨_, rfl⟩
                        obtain ⟨s2, hx2⟩ : ∃ v, sliced (some ⟨gl, 0, none⟩) (kk + 1) r.length vc3 8 = v := ⟨_, rfl⟩
                        have hS1 : ∀ w1 : World, Fr [] w5 w1 → Src w1 s1 8 kk ((os r).take (kk * 8)) := fun w1 h => by
                          rw [← hx1]; exact own_upto (j := kk) (own_keep HO5.out h (by simp)) (os_one r) (by omega)
                        have hS2 : ∀ w1 : World, Fr [] w5 w1 → Src w1 s2 8 (r.length - (kk + 1)) ((os r).drop ((kk + 1) * 8)) := fun w1 h => by
                          rw [← hx2]; exact own_from (j := kk + 1) (own_keep HO5.out h (by simp)) (os_one r) (by omega) (by decide)
                        rw [hx1] at hs1
                        rw [hx2] at hs2
                        have HS1 := Lib.hid hS1; have HS2 := Lib.hid hS2; have HQ1 := Lib.hid hs1; have HQ2 := Lib.hid hs2
                        clear hs1 hs2 hx1 hx2 hS1 hS2
                        have hx0 : Fr [] w5 w5.drew := (Fr.refl [] w5).drew
                        have hwk : IntKind.i64.wrap ((kk : Int) + 1) = (kk : Int) + 1 := IntWalk.i64_in _ (by omega)
                        refine wp_region_M 11 (fun _ => True) (by kernel_rfl) (trivial) (fun hS => ?_)
                        try simp only [List.getElem_toArray, List.getElem_cons_succ, List.getElem_cons_zero, Act.put, List.setIfInBounds_toArray, List.set_cons_zero, List.set_cons_succ]
                        refine wpAnyM_take (i := 1) (v := ?_) rfl (by kernel_rfl) (by kernel_rfl) (by kernel_rfl) (by kernel_rfl) (fun _ _ _ h => h) (Or.inl ⟨by kernel_rfl, ?_⟩) hS ?_; rotate_left; (intro w hSw; (try dsimp only at hSw); go_split_ands; go_simp; try with_reducible rfl)
                        try simp only [List.getElem_toArray, List.getElem_cons_succ, List.getElem_cons_zero, Act.put, List.setIfInBounds_toArray, List.set_cons_zero, List.set_cons_succ]
                        refine wpAnyM_take (i := 2) (v := ?_) rfl (by kernel_rfl) (by kernel_rfl) (by kernel_rfl) (by kernel_rfl) (fun _ _ _ h => h) (Or.inl ⟨by kernel_rfl, ?_⟩) hS ?_; rotate_left; (intro w hSw; (try dsimp only at hSw); go_split_ands; go_simp; try with_reducible rfl)
                        try simp only [List.getElem_toArray, List.getElem_cons_succ, List.getElem_cons_zero, Act.put, List.setIfInBounds_toArray, List.set_cons_zero, List.set_cons_succ]
                        refine wpAnyM_take (i := 3) (v := s1) rfl (by kernel_rfl) (by kernel_rfl) (by kernel_rfl) (by kernel_rfl) (fun _ _ _ h => h) (Or.inl ⟨by kernel_rfl, ?_⟩) hS ?_; (intro w hSw; (exact exec_slc (x' := (.slice (some ⟨gl, 0, none⟩) r.length vc3)) (lo' := none) (hi' := (some (.int .i64 (kk : Int)))) rfl (by kernel_rfl) (by kernel_rfl) (by kernel_rfl) HQ1.out _))
                        try simp only [List.getElem_toArray, List.getElem_cons_succ, List.getElem_cons_zero, Act.put, List.setIfInBounds_toArray, List.set_cons_zero, List.set_cons_succ]
                        refine wpAnyM_take (i := 5) (v := ?_) rfl (by kernel_rfl) (by kernel_rfl) (by kernel_rfl) (by kernel_rfl) (fun _ _ _ h => h) (Or.inl ⟨by kernel_rfl, ?_⟩) hS ?_; rotate_left; (intro w hSw; (try dsimp only at hSw); go_split_ands; go_simp; try with_reducible rfl)
                        try simp only [List.getElem_toArray, List.getElem_cons_succ, List.getElem_cons_zero, Act.put, List.setIfInBounds_toArray, List.set_cons_zero, List.set_cons_succ]
                        refine wpAnyM_take (i := 6) (v := ?_) rfl (by kernel_rfl) (by kernel_rfl) (by kernel_rfl) (by kernel_rfl) (fun _ _ _ h => h) (Or.inl ⟨by kernel_rfl, ?_⟩) hS ?_; rotate_left; (intro w hSw; (try dsimp only at hSw); go_split_ands; go_simp; try with_reducible rfl)
                        try simp only [List.getElem_toArray, List.getElem_cons_succ, List.getElem_cons_zero, Act.put, List.setIfInBounds_toArray, List.set_cons_zero, List.set_cons_succ]
                        refine wpAnyM_take (i := 7) (v := ?_) rfl (by kernel_rfl) (by kernel_rfl) (by kernel_rfl) (by kernel_rfl) (fun _ _ _ h => h) (Or.inl ⟨by kernel_rfl, ?_⟩) hS ?_; rotate_left; (intro w hSw; (try dsimp only at hSw); go_split_ands; go_simp; try with_reducible rfl)
                        try simp only [List.getElem_toArray, List.getElem_cons_succ, List.getElem_cons_zero, Act.put, List.setIfInBounds_toArray, List.set_cons_zero, List.set_cons_succ]
                        refine wpAnyM_take (i := 8) (v := s2) rfl (by kernel_rfl) (by kernel_rfl) (by kernel_rfl) (by kernel_rfl) (fun _ _ _ h => h) (Or.inl ⟨by kernel_rfl, ?_⟩) hS ?_; (intro w hSw; (exact exec_slc (x' := (.slice (some ⟨gl, 0, none⟩) r.length vc3)) (lo' := (some (.int .i64 ((kk : Int) + 1)))) (hi' := none) rfl (by kernel_rfl) (by kernel_rfl) (by kernel_rfl) HQ2.out _))
                        try simp only [List.getElem_toArray, List.getElem_cons_succ, List.getElem_cons_zero, Act.put, List.setIfInBounds_toArray, List.set_cons_zero, List.set_cons_succ]
                        refine wpAnyM_one (i := 0) (by kernel_rfl) rfl (fun KK hK => ?_)
                        go_simp
                        have hx1 : Fr [] w5 (w5.drew.alloc (.cells #[] 60)) := hx0.alloc _
                        have hoE := own_empty (sz := 8) (base := w5.heap.size) (Blk.new w5.drew #[] 60) (Nat.le_refl _)
                        refine hK.out _ _ (fun _ => trivial) (fun _ => ?_); clear hK KK
                        try simp only [List.getElem_toArray, List.getElem_cons_succ, List.getElem_cons_zero, Act.put, List.setIfInBounds_toArray, List.set_cons_zero, List.set_cons_succ]
                        refine wpAnyM_one (i := 4) (by kernel_rfl) rfl (fun KK hK => ?_)
                        refine step_append_src _ rfl (Operand.tmp 168) (Operand.tmp 171) 54 rfl w5.heap.size 60 i0 _ 8 64 Try.underlying54 hi0 hz0 hz1 hz2 rfl (by decide) (.slice (some ⟨w5.heap.size, 0, none⟩) 0 0) s1 0 kk [] ((os r).take (kk * 8)) rfl rfl hoE (HS1.out _ hx1) (by unfold maxLen; omega) (by omega) (by simp) ?_
                        intro v13 w13 ho13 hg13 hat13
                        have hx2 : Fr [] w5 w13 := fr_own hx1 hoE hg13 (Nat.le_refl _)
                        refine hK.out _ _ (fun _ => trivial) (fun _ => ?_); clear hK KK
                        try simp only [List.getElem_toArray, List.getElem_cons_succ, List.getElem_cons_zero, Act.put, List.setIfInBounds_toArray, List.set_cons_zero, List.set_cons_succ]
                        refine wpAnyM_one (i := 9) (by kernel_rfl) rfl (fun KK hK => ?_)
                        refine step_append_src _ rfl (Operand.tmp 172) (Operand.tmp 176) 54 rfl w5.heap.size 60 i0 _ 8 64 Try.underlying54 hi0 hz0 hz1 hz2 rfl (by decide) v13 s2 (0 + kk) (r.length - (kk + 1)) ([] ++ (os r).take (kk * 8)) ((os r).drop ((kk + 1) * 8)) rfl rfl ho13 (HS2.out _ hx2) (by unfold maxLen; omega) (by omega) hx2.size ?_
                        intro v14 w14 ho14 hg14 hat14
                        have hx3 : Fr [] w5 w14 := fr_own hx2 ho13 hg14 (Nat.le_refl _)
                        have hel : (r.eraseIdx kk).length = 0 + kk + (r.length - (kk + 1)) := by rw [List.length_eraseIdx_of_lt hkk]; omega
                        rw [List.nil_append, os_erase r kk hkk, ← hel] at ho14
                        have HO14 := Lib.hid ho14; have HX3 := Lib.hid hx3; have HEL := Lib.hid hel
                        clear hx0 hx1 hoE ho13 hg13 hat13 hx2 ho14 hg14 hat14 hx3 HS1 HS2 HQ1 HQ2 hel
                        refine hK.out _ _ (fun _ => trivial) (fun _ => ?_); clear hK KK
                        
                        try simp only [List.getElem_toArray, List.getElem_cons_succ, List.getElem_cons_zero, Act.put, List.setIfInBounds_toArray, List.set_cons_zero, List.set_cons_succ]
                        refine wpAnyM_take (i := 10) (v := ?_) rfl (by kernel_rfl) (by kernel_rfl) (by kernel_rfl) (by kernel_rfl) (fun _ _ _ h => h) (Or.inl ⟨by kernel_rfl, ?_⟩) hS ?_; rotate_left; (intro w hSw; (try dsimp only at hSw); go_split_ands; go_simp; try with_reducible rfl)
                        try simp only [List.getElem_toArray, List.getElem_cons_succ, List.getElem_cons_zero, Act.put, List.setIfInBounds_toArray, List.set_cons_zero, List.set_cons_succ]
                        refine wpAnyM_done (by kernel_rfl) ?_ _
                        try simp only [List.getElem_toArray, List.getElem_cons_succ, List.getElem_cons_zero, Act.put, List.setIfInBounds_toArray, List.set_cons_zero, List.set_cons_succ]
                        clear hS
                        go_wp2_with fail
                        go_roundw
                        case rel => exact ⟨i + 1, r.eraseIdx kk, (s, k, ib, ix, iy) :: d, _, by simp, by have := HEL.out; omega, by simp; omega, HA5.out.addK HX3.out (by simp), .inl HKG.out, HX3.out.blk HC5.out (by simp), ⟨_, HO14.out⟩, fun b hb => .inr ⟨own_base HO14.out hb, own_lt HO14.out hb⟩, HM2.out, HM3.out⟩
                        case measure => simp [intOf]; omega
                  · have hr1 : r.length = 0 := by omega
                    have hr2 : r = [] := List.eq_nil_of_length_eq_zero hr1
                    subst hr2
                    go_wp2_with fail
                    as_aux_lemma =>
                      have hij : i = j := by omega
                      have hA := HA3.out.swap
                      have hokd : Okl c.pl c.fr d := ⟨by have := HND.out; rwa [List.append_nil] at this, fun q hq => HOK.out.ok q ((HPM.out q).2 (.inl hq))⟩
                      have hla : Okl c.pl c.fr (l.take j).reverse := HOK.out.rev j
                      have hlen : (l.take j).reverse.length = j := by rw [List.length_reverse, List.length_take, HN.out]; omega
                      have hsame : ∀ k s : Nat, RO (l.take j).reverse k s = RO d k s := fun k s => RO_same (fun o => by
                        rw [List.mem_reverse, List.take_of_length_le (by rw [HN.out]; exact Nat.le_refl _)]
                        have := HPM.out o
                        simpa using this) hla.nd hokd.nd k s
                      have hwA := waitO hla
                      have hwB := waitO hokd
                      rw [hlen] at hwA
                      rw [hdl, hij] at hwB
                      have e4 : wr.drew.cell? ⟨g, 4, none⟩ = some (.int .i64 c.fr) := Blk.cell (i := 4) HC3.out rfl
                      have HAA := Lib.hid (hA.fr0 ((Fr.refl [] wr).drew)); have HWA := Lib.hid hwA; have HWB := Lib.hid hwB; have HSM := Lib.hid hsame; have HCG := Lib.hid (Blk.drew HC3.out)
                      clear hA hokd hla hlen hsame hwA hwB
                      refine wp_region_M 29 (fun w' => w'.cell? ⟨g, 4, none⟩ = some (.int .i64 c.fr)) (by kernel_rfl) (e4) (fun hS => ?_)
                      try simp only [List.getElem_toArray, List.getElem_cons_succ, List.getElem_cons_zero, Act.put, List.setIfInBounds_toArray, List.set_cons_zero, List.set_cons_succ]
                      refine wpAnyM_take (i := 0) (v := ?_) rfl (by kernel_rfl) (by kernel_rfl) (by kernel_rfl) (by kernel_rfl) (fun _ _ _ h => h) (Or.inl ⟨by kernel_rfl, ?_⟩) hS ?_; rotate_left; (intro w hSw; obtain y4 := hSw; go_simp; try with_reducible rfl)
                      try simp only [List.getElem_toArray, List.getElem_cons_succ, List.getElem_cons_zero, Act.put, List.setIfInBounds_toArray, List.set_cons_zero, List.set_cons_succ]
                      refine wpAnyM_take (i := 2) (v := ?_) rfl (by kernel_rfl) (by kernel_rfl) (by kernel_rfl) (by kernel_rfl) (fun _ _ _ h => h) (Or.inl ⟨by kernel_rfl, ?_⟩) hS ?_; rotate_left; (intro w hSw; obtain y4 := hSw; go_simp; try with_reducible rfl)
                      try simp only [List.getElem_toArray, List.getElem_cons_succ, List.getElem_cons_zero, Act.put, List.setIfInBounds_toArray, List.set_cons_zero, List.set_cons_succ]
                      refine wpAnyM_one (i := 1) (by kernel_rfl) rfl (fun KK hK => ?_)
                      go_simp
                      obtain ⟨PL, hl⟩ := HAA.out.log
                      refine (waiting_s hl).mono ?_; rintro e w4 ⟨rfl, hF4⟩
                      have hS2 := (hF4.cell (cell_lt hS) (by simp)).trans hS
                      have HA4 := Lib.hid (HAA.out.fr0 hF4); have HC4 := Lib.hid (hF4.blk HCG.out (by simp))
                      clear hF4 hl
                      rw [show waitR (RO (l.take j).reverse) ([] : List (Nat × Row)).length c.pl = j from HWA.out]
                      refine hK.out _ _ (fun _ => hS2) (fun _ => ?_); clear hK KK; have hS := hS2; clear hS2
                      try simp only [List.getElem_toArray, List.getElem_cons_succ, List.getElem_cons_zero, Act.put, List.setIfInBounds_toArray, List.set_cons_zero, List.set_cons_succ]
                      refine wpAnyM_take (i := 3) (v := .bool false) rfl (by kernel_rfl) (by kernel_rfl) (by kernel_rfl) (by kernel_rfl) (fun _ _ _ h => h) (Or.inl ⟨by kernel_rfl, ?_⟩) hS ?_; (intro w hSw; (focus (go_simp; first | done | omega | with_reducible rfl)))
                      try simp only [List.getElem_toArray, List.getElem_cons_succ, List.getElem_cons_zero, Act.put, List.setIfInBounds_toArray, List.set_cons_zero, List.set_cons_succ]
                      refine wpAnyM_take (i := 4) (v := ?_) rfl (by kernel_rfl) (by kernel_rfl) (by kernel_rfl) (by kernel_rfl) (fun _ _ _ h => h) (Or.inl ⟨by kernel_rfl, ?_⟩) hS ?_; rotate_left; (intro w hSw; obtain y4 := hSw; go_simp; try with_reducible rfl)
                      try simp only [List.getElem_toArray, List.getElem_cons_succ, List.getElem_cons_zero, Act.put, List.setIfInBounds_toArray, List.set_cons_zero, List.set_cons_succ]
                      refine wpAnyM_take (i := 5) (v := ?_) rfl (by kernel_rfl) (by kernel_rfl) (by kernel_rfl) (by kernel_rfl) (fun _ _ _ h => h) (Or.inl ⟨by kernel_rfl, ?_⟩) hS ?_; rotate_left; (intro w hSw; obtain y4 := hSw; go_simp; try with_reducible rfl)
                      try simp only [List.getElem_toArray, List.getElem_cons_succ, List.getElem_cons_zero, Act.put, List.setIfInBounds_toArray, List.set_cons_zero, List.set_cons_succ]
                      refine wpAnyM_take (i := 7) (v := ?_) rfl (by kernel_rfl) (by kernel_rfl) (by kernel_rfl) (by kernel_rfl) (fun _ _ _ h => h) (Or.inl ⟨by kernel_rfl, ?_⟩) hS ?_; rotate_left; (intro w hSw; obtain y4 := hSw; go_simp; try with_reducible rfl)
                      try simp only [List.getElem_toArray, List.getElem_cons_succ, List.getElem_cons_zero, Act.put, List.setIfInBounds_toArray, List.set_cons_zero, List.set_cons_succ]
                      refine wpAnyM_one (i := 6) (by kernel_rfl) rfl (fun KK hK => ?_)
                      go_simp
                      obtain ⟨PL, hl⟩ := HA4.out.swap.log
                      refine (waiting_s hl).mono ?_; rintro e w5 ⟨rfl, hF5⟩
                      have hS2 := (hF5.cell (cell_lt hS) (by simp)).trans hS
                      have HA5 := Lib.hid (HA4.out.fr0 hF5); have HC5 := Lib.hid (hF5.blk HC4.out (by simp))
                      clear hF5 hl
                      rw [show waitR (RO d) ([] : List (Nat × Row)).length c.pl = j from HWB.out]
                      refine hK.out _ _ (fun _ => hS2) (fun _ => ?_); clear hK KK; have hS := hS2; clear hS2
                      try simp only [List.getElem_toArray, List.getElem_cons_succ, List.getElem_cons_zero, Act.put, List.setIfInBounds_toArray, List.set_cons_zero, List.set_cons_succ]
                      refine wpAnyM_take (i := 8) (v := .bool false) rfl (by kernel_rfl) (by kernel_rfl) (by kernel_rfl) (by kernel_rfl) (fun _ _ _ h => h) (Or.inl ⟨by kernel_rfl, ?_⟩) hS ?_; (intro w hSw; (focus (go_simp; first | done | omega | with_reducible rfl)))
                      try simp only [List.getElem_toArray, List.getElem_cons_succ, List.getElem_cons_zero, Act.put, List.setIfInBounds_toArray, List.set_cons_zero, List.set_cons_succ]
                      refine wpAnyM_one (i := 9) (by kernel_rfl) rfl (fun KK hK => ?_)
                      go_simp
                      refine hK.out _ _ (fun _ => hS) (fun _ => ?_); clear hK KK
                      try simp only [List.getElem_toArray, List.getElem_cons_succ, List.getElem_cons_zero, Act.put, List.setIfInBounds_toArray, List.set_cons_zero, List.set_cons_succ]
                      refine wpAnyM_take (i := 10) (v := ?_) rfl (by kernel_rfl) (by kernel_rfl) (by kernel_rfl) (by kernel_rfl) (fun _ _ _ h => h) (Or.inl ⟨by kernel_rfl, ?_⟩) hS ?_; rotate_left; (intro w hSw; obtain y4 := hSw; go_simp; try with_reducible rfl)
                      try simp only [List.getElem_toArray, List.getElem_cons_succ, List.getElem_cons_zero, Act.put, List.setIfInBounds_toArray, List.set_cons_zero, List.set_cons_succ]
                      refine wpAnyM_take (i := 11) (v := ?_) rfl (by kernel_rfl) (by kernel_rfl) (by kernel_rfl) (by kernel_rfl) (fun _ _ _ h => h) (Or.inl ⟨by kernel_rfl, ?_⟩) hS ?_; rotate_left; (intro w hSw; obtain y4 := hSw; go_simp; try with_reducible rfl)
                      try simp only [List.getElem_toArray, List.getElem_cons_succ, List.getElem_cons_zero, Act.put, List.setIfInBounds_toArray, List.set_cons_zero, List.set_cons_succ]
                      refine wpAnyM_take (i := 13) (v := ?_) rfl (by kernel_rfl) (by kernel_rfl) (by kernel_rfl) (by kernel_rfl) (fun _ _ _ h => h) (Or.inl ⟨by kernel_rfl, ?_⟩) hS ?_; rotate_left; (intro w hSw; obtain y4 := hSw; go_simp; try with_reducible rfl)
                      try simp only [List.getElem_toArray, List.getElem_cons_succ, List.getElem_cons_zero, Act.put, List.setIfInBounds_toArray, List.set_cons_zero, List.set_cons_succ]
                      refine wpAnyM_take (i := 14) (v := ?_) rfl (by kernel_rfl) (by kernel_rfl) (by kernel_rfl) (by kernel_rfl) (fun _ _ _ h => h) (Or.inl ⟨by kernel_rfl, ?_⟩) hS ?_; rotate_left; (intro w hSw; obtain y4 := hSw; go_simp; try with_reducible rfl)
                      try simp only [List.getElem_toArray, List.getElem_cons_succ, List.getElem_cons_zero, Act.put, List.setIfInBounds_toArray, List.set_cons_zero, List.set_cons_succ]
                      refine wpAnyM_one (i := 12) (by kernel_rfl) rfl (fun KK hK => ?_)
                      go_simp
                      refine HA5.out.all.mono ?_; rintro e w6 ⟨rfl, rowsA, ⟨hA6, hK6⟩, hgA, hlA⟩
                      have hC6 := hK6.blk HC5.out HKG.out
                      have hS2 : w6.cell? ⟨g, 4, none⟩ = some (.int .i64 c.fr) := Blk.cell (i := 4) hC6 rfl
                      have HA6 := Lib.hid hA6; have HC6 := Lib.hid hC6; have HGA := Lib.hid hgA; have HLA := Lib.hid hlA
                      clear hA6 hK6 hC6 hgA hlA
                      refine hK.out _ _ (fun _ => hS2) (fun _ => ?_); clear hK KK; have hS := hS2; clear hS2
                      try simp only [List.getElem_toArray, List.getElem_cons_succ, List.getElem_cons_zero, Act.put, List.setIfInBounds_toArray, List.set_cons_zero, List.set_cons_succ]
                      refine wpAnyM_take (i := 15) (v := .bool false) rfl (by kernel_rfl) (by kernel_rfl) (by kernel_rfl) (by kernel_rfl) (fun _ _ _ h => h) (Or.inl ⟨by kernel_rfl, ?_⟩) hS ?_; (intro w hSw; (focus (go_simp; first | done | omega | with_reducible rfl)))
                      try simp only [List.getElem_toArray, List.getElem_cons_succ, List.getElem_cons_zero, Act.put, List.setIfInBounds_toArray, List.set_cons_zero, List.set_cons_succ]
                      refine wpAnyM_one (i := 16) (by kernel_rfl) rfl (fun KK hK => ?_)
                      go_simp
                      refine hK.out _ _ (fun _ => hS) (fun _ => ?_); clear hK KK
                      try simp only [List.getElem_toArray, List.getElem_cons_succ, List.getElem_cons_zero, Act.put, List.setIfInBounds_toArray, List.set_cons_zero, List.set_cons_succ]
                      refine wpAnyM_take (i := 17) (v := ?_) rfl (by kernel_rfl) (by kernel_rfl) (by kernel_rfl) (by kernel_rfl) (fun _ _ _ h => h) (Or.inl ⟨by kernel_rfl, ?_⟩) hS ?_; rotate_left; (intro w hSw; obtain y4 := hSw; go_simp; try with_reducible rfl)
                      try simp only [List.getElem_toArray, List.getElem_cons_succ, List.getElem_cons_zero, Act.put, List.setIfInBounds_toArray, List.set_cons_zero, List.set_cons_succ]
                      refine wpAnyM_take (i := 18) (v := ?_) rfl (by kernel_rfl) (by kernel_rfl) (by kernel_rfl) (by kernel_rfl) (fun _ _ _ h => h) (Or.inl ⟨by kernel_rfl, ?_⟩) hS ?_; rotate_left; (intro w hSw; obtain y4 := hSw; go_simp; try with_reducible rfl)
                      try simp only [List.getElem_toArray, List.getElem_cons_succ, List.getElem_cons_zero, Act.put, List.setIfInBounds_toArray, List.set_cons_zero, List.set_cons_succ]
                      refine wpAnyM_take (i := 20) (v := ?_) rfl (by kernel_rfl) (by kernel_rfl) (by kernel_rfl) (by kernel_rfl) (fun _ _ _ h => h) (Or.inl ⟨by kernel_rfl, ?_⟩) hS ?_; rotate_left; (intro w hSw; obtain y4 := hSw; go_simp; try with_reducible rfl)
                      try simp only [List.getElem_toArray, List.getElem_cons_succ, List.getElem_cons_zero, Act.put, List.setIfInBounds_toArray, List.set_cons_zero, List.set_cons_succ]
                      refine wpAnyM_take (i := 21) (v := ?_) rfl (by kernel_rfl) (by kernel_rfl) (by kernel_rfl) (by kernel_rfl) (fun _ _ _ h => h) (Or.inl ⟨by kernel_rfl, ?_⟩) hS ?_; rotate_left; (intro w hSw; obtain y4 := hSw; go_simp; try with_reducible rfl)
                      try simp only [List.getElem_toArray, List.getElem_cons_succ, List.getElem_cons_zero, Act.put, List.setIfInBounds_toArray, List.set_cons_zero, List.set_cons_succ]
                      refine wpAnyM_one (i := 19) (by kernel_rfl) rfl (fun KK hK => ?_)
                      go_simp
                      refine HA6.out.swap.all.mono ?_; rintro e w7 ⟨rfl, rowsB, ⟨hA7, hK7⟩, hgB, hlB⟩
                      have hC7 := hK7.blk HC6.out HKG.out
                      have hS2 : w7.cell? ⟨g, 4, none⟩ = some (.int .i64 c.fr) := Blk.cell (i := 4) hC7 rfl
                      have HA7 := Lib.hid hA7; have HC7 := Lib.hid hC7; have HGB := Lib.hid hgB; have HLB := Lib.hid hlB
                      clear hA7 hK7 hC7 hgB hlB
                      refine hK.out _ _ (fun _ => hS2) (fun _ => ?_); clear hK KK; have hS := hS2; clear hS2
                      try simp only [List.getElem_toArray, List.getElem_cons_succ, List.getElem_cons_zero, Act.put, List.setIfInBounds_toArray, List.set_cons_zero, List.set_cons_succ]
                      refine wpAnyM_take (i := 22) (v := .bool false) rfl (by kernel_rfl) (by kernel_rfl) (by kernel_rfl) (by kernel_rfl) (fun _ _ _ h => h) (Or.inl ⟨by kernel_rfl, ?_⟩) hS ?_; (intro w hSw; (focus (go_simp; first | done | omega | with_reducible rfl)))
                      try simp only [List.getElem_toArray, List.getElem_cons_succ, List.getElem_cons_zero, Act.put, List.setIfInBounds_toArray, List.set_cons_zero, List.set_cons_succ]
                      refine wpAnyM_one (i := 23) (by kernel_rfl) rfl (fun KK hK => ?_)
                      go_simp
                      refine hK.out _ _ (fun _ => hS) (fun _ => ?_); clear hK KK
                      try simp only [List.getElem_toArray, List.getElem_cons_succ, List.getElem_cons_zero, Act.put, List.setIfInBounds_toArray, List.set_cons_zero, List.set_cons_succ]
                      refine wpAnyM_take (i := 24) (v := ?_) rfl (by kernel_rfl) (by kernel_rfl) (by kernel_rfl) (by kernel_rfl) (fun _ _ _ h => h) (Or.inl ⟨by kernel_rfl, ?_⟩) hS ?_; rotate_left; (intro w hSw; obtain y4 := hSw; go_simp; try with_reducible rfl)
                      try simp only [List.getElem_toArray, List.getElem_cons_succ, List.getElem_cons_zero, Act.put, List.setIfInBounds_toArray, List.set_cons_zero, List.set_cons_succ]
                      refine wpAnyM_take (i := 25) (v := ?_) rfl (by kernel_rfl) (by kernel_rfl) (by kernel_rfl) (by kernel_rfl) (fun _ _ _ h => h) (Or.inl ⟨by kernel_rfl, ?_⟩) hS ?_; rotate_left; (intro w hSw; obtain y4 := hSw; go_simp; try with_reducible rfl)
                      try simp only [List.getElem_toArray, List.getElem_cons_succ, List.getElem_cons_zero, Act.put, List.setIfInBounds_toArray, List.set_cons_zero, List.set_cons_succ]
                      refine wpAnyM_one (i := 26) (by kernel_rfl) rfl (fun KK hK => ?_)
                      go_simp
                      obtain ⟨PL, hl⟩ := HA7.out.swap.log
                      refine (ended_s hl).mono ?_; rintro e w8 ⟨rfl, k8, rfl⟩
                      have hF8 : Fr [] w7 (w7.drewN k8) := (Fr.refl [] w7).drewN k8
                      have hS2 := (hF8.cell (cell_lt hS) (by simp)).trans hS
                      have HA8 := Lib.hid (HA7.out.fr0 hF8); have HC8 := Lib.hid (hF8.blk HC7.out (by simp))
                      clear hF8 hl
                      rw [decide_eq_true HLA.out]
                      generalize w7.drewN k8 = w8 at *
                      refine hK.out _ _ (fun _ => hS2) (fun _ => ?_); clear hK KK; have hS := hS2; clear hS2
                      
                      try simp only [List.getElem_toArray, List.getElem_cons_succ, List.getElem_cons_zero, Act.put, List.setIfInBounds_toArray, List.set_cons_zero, List.set_cons_succ]
                      refine wpAnyM_take (i := 27) (v := ?_) rfl (by kernel_rfl) (by kernel_rfl) (by kernel_rfl) (by kernel_rfl) (fun _ _ _ h => h) (Or.inl ⟨by kernel_rfl, ?_⟩) hS ?_; rotate_left; (intro w hSw; obtain y4 := hSw; go_simp; try with_reducible rfl)
                      try simp only [List.getElem_toArray, List.getElem_cons_succ, List.getElem_cons_zero, Act.put, List.setIfInBounds_toArray, List.set_cons_zero, List.set_cons_succ]
                      refine wpAnyM_one (i := 28) (by kernel_rfl) rfl (fun KK hK => ?_)
                      go_simp
                      refine hK.out _ _ (fun _ => hS) (fun _ => ?_); clear hK KK
                      try simp only [List.getElem_toArray, List.getElem_cons_succ, List.getElem_cons_zero, Act.put, List.setIfInBounds_toArray, List.set_cons_zero, List.set_cons_succ]
                      refine wpAnyM_done (by kernel_rfl) ?_ _
                      try simp only [List.getElem_toArray, List.getElem_cons_succ, List.getElem_cons_zero, Act.put, List.setIfInBounds_toArray, List.set_cons_zero, List.set_cons_succ]
                      clear hS
                      go_wp2_with fail
                      have hD : Fr [] w8 w8.drew := (Fr.refl [] w8).drew
                      have HA9 := Lib.hid (HA8.out.fr0 hD)
                      have e9 : w8.drew.cell? ⟨g, 4, none⟩ = some (.int .i64 c.fr) := Blk.cell (i := 4) (Blk.drew HC8.out) rfl
                      have hw0 : waitR (tickR (RO (l.take j).reverse) c.fr) rowsA.length c.pl = 0 := by
                        obtain ⟨PL, hl⟩ := HA9.out.swap.log
                        unfold waitR
                        have e : ((List.range 64).map fun (i : Nat) => realsN (tickR (RO (l.take j).reverse) c.fr ((rowsA.length : Int) + (i : Int))) c.pl) = (List.range 64).map fun _ => 0 := List.map_congr_left fun i _ => by
                          rw [hl.far (.inr (.inr (by rw [HLA.out]; omega)))]
                          exact realsN_c0 c.pl
                        rw [e, sum_zero]
                      have hnr : ∀ L, L = c.fr → nRows 0 (c.fr : Int) L = c.fr := fun L hL => by subst hL; unfold nRows; rw [if_pos (by decide)]; omega
                      have hpl0 : 0 < c.pl := by omega
                      have HW0 := Lib.hid hw0; have HNR := Lib.hid hnr
                      clear hD hw0 hnr
                      refine wp_region_M 14 (fun w' => w'.cell? ⟨g, 4, none⟩ = some (.int .i64 c.fr)) (by kernel_rfl) (e9) (fun hS => ?_)
                      try simp only [List.getElem_toArray, List.getElem_cons_succ, List.getElem_cons_zero, Act.put, List.setIfInBounds_toArray, List.set_cons_zero, List.set_cons_succ]
                      refine wpAnyM_take (i := 0) (v := ?_) rfl (by kernel_rfl) (by kernel_rfl) (by kernel_rfl) (by kernel_rfl) (fun _ _ _ h => h) (Or.inl ⟨by kernel_rfl, ?_⟩) hS ?_; rotate_left; (intro w hSw; obtain y4 := hSw; go_simp; try with_reducible rfl)
                      try simp only [List.getElem_toArray, List.getElem_cons_succ, List.getElem_cons_zero, Act.put, List.setIfInBounds_toArray, List.set_cons_zero, List.set_cons_succ]
                      refine wpAnyM_take (i := 1) (v := ?_) rfl (by kernel_rfl) (by kernel_rfl) (by kernel_rfl) (by kernel_rfl) (fun _ _ _ h => h) (Or.inl ⟨by kernel_rfl, ?_⟩) hS ?_; rotate_left; (intro w hSw; obtain y4 := hSw; go_simp; try with_reducible rfl)
                      try simp only [List.getElem_toArray, List.getElem_cons_succ, List.getElem_cons_zero, Act.put, List.setIfInBounds_toArray, List.set_cons_zero, List.set_cons_succ]
                      refine wpAnyM_take (i := 2) (v := ?_) rfl (by kernel_rfl) (by kernel_rfl) (by kernel_rfl) (by kernel_rfl) (fun _ _ _ h => h) (Or.inl ⟨by kernel_rfl, ?_⟩) hS ?_; rotate_left; (intro w hSw; obtain y4 := hSw; go_simp; try with_reducible rfl)
                      try simp only [List.getElem_toArray, List.getElem_cons_succ, List.getElem_cons_zero, Act.put, List.setIfInBounds_toArray, List.set_cons_zero, List.set_cons_succ]
                      refine wpAnyM_take (i := 4) (v := ?_) rfl (by kernel_rfl) (by kernel_rfl) (by kernel_rfl) (by kernel_rfl) (fun _ _ _ h => h) (Or.inl ⟨by kernel_rfl, ?_⟩) hS ?_; rotate_left; (intro w hSw; obtain y4 := hSw; go_simp; try with_reducible rfl)
                      try simp only [List.getElem_toArray, List.getElem_cons_succ, List.getElem_cons_zero, Act.put, List.setIfInBounds_toArray, List.set_cons_zero, List.set_cons_succ]
                      refine wpAnyM_take (i := 5) (v := ?_) rfl (by kernel_rfl) (by kernel_rfl) (by kernel_rfl) (by kernel_rfl) (fun _ _ _ h => h) (Or.inl ⟨by kernel_rfl, ?_⟩) hS ?_; rotate_left; (intro w hSw; obtain y4 := hSw; go_simp; try with_reducible rfl)
                      try simp only [List.getElem_toArray, List.getElem_cons_succ, List.getElem_cons_zero, Act.put, List.setIfInBounds_toArray, List.set_cons_zero, List.set_cons_succ]
                      refine wpAnyM_take (i := 6) (v := ?_) rfl (by kernel_rfl) (by kernel_rfl) (by kernel_rfl) (by kernel_rfl) (fun _ _ _ h => h) (Or.inl ⟨by kernel_rfl, ?_⟩) hS ?_; rotate_left; (intro w hSw; obtain y4 := hSw; go_simp; try with_reducible rfl)
                      try simp only [List.getElem_toArray, List.getElem_cons_succ, List.getElem_cons_zero, Act.put, List.setIfInBounds_toArray, List.set_cons_zero, List.set_cons_succ]
                      refine wpAnyM_one (i := 3) (by kernel_rfl) rfl (fun KK hK => ?_)
                      go_simp
                      obtain ⟨PL, hl⟩ := HA9.out.swap.log
                      refine (rows_s hl 0 c.fr).mono ?_; rintro e w10 ⟨vA, rfl, hVA, hF10⟩
                      have hS2 := (hF10.cell (cell_lt hS) (by simp)).trans hS
                      rw [HNR.out _ HLA.out] at hVA
                      have HVA := Lib.hid (hVA.at hpl0); have HA10 := Lib.hid (HA9.out.fr0 hF10)
                      clear hVA hF10 hl
                      refine hK.out _ _ (fun _ => hS2) (fun _ => ?_); clear hK KK; have hS := hS2; clear hS2
                      try simp only [List.getElem_toArray, List.getElem_cons_succ, List.getElem_cons_zero, Act.put, List.setIfInBounds_toArray, List.set_cons_zero, List.set_cons_succ]
                      refine wpAnyM_one (i := 7) (by kernel_rfl) rfl (fun KK hK => ?_)
                      go_simp
                      obtain ⟨PL, hl⟩ := HA10.out.log
                      refine (rows_s hl 0 c.fr).mono ?_; rintro e w11 ⟨vB, rfl, hVB, hF11⟩
                      have hS2 := (hF11.cell (cell_lt hS) (by simp)).trans hS
                      rw [HNR.out _ HLB.out] at hVB
                      have HVB := Lib.hid (hVB.at hpl0); have HVA2 := Lib.hid (HVA.out.fr hpl0 hF11); have HA11 := Lib.hid (HA10.out.fr0 hF11)
                      clear hVB hF11 hl
                      refine hK.out _ _ (fun _ => hS2) (fun _ => ?_); clear hK KK; have hS := hS2; clear hS2
                      try simp only [List.getElem_toArray, List.getElem_cons_succ, List.getElem_cons_zero, Act.put, List.setIfInBounds_toArray, List.set_cons_zero, List.set_cons_succ]
                      refine wpAnyM_one (i := 8) (by kernel_rfl) rfl (fun KK hK => ?_)
                      go_simp
                      refine (samerows_yes HVA2.out HVB.out (fun q hq t ht => by
                        obtain ⟨ra', hra⟩ : ∃ r, rowsA[q]? = some r := ⟨_, List.getElem?_eq_getElem (by rw [HLA.out]; exact hq)⟩
                        obtain ⟨rb', hrb⟩ : ∃ r, rowsB[q]? = some r := ⟨_, List.getElem?_eq_getElem (by rw [HLB.out]; exact hq)⟩
                        have h1 := HGA.out q _ hra
                        have h2 := HGB.out q _ hrb
                        rw [show (0 : Int).toNat + q = q by simp, List.getD_eq_getElem?_getD, List.getD_eq_getElem?_getD, hra, hrb]
                        simp only [Option.getD_some]
                        rw [h1, h2]
                        exact HSM.out q t) (by omega)).mono ?_; rintro e w12 ⟨rfl, k12, rfl⟩
                      have hF12 : Fr [] w11 (w11.drewN k12) := (Fr.refl [] w11).drewN k12
                      have hS2 := (hF12.cell (cell_lt hS) (by simp)).trans hS
                      have HA12 := Lib.hid (HA11.out.fr0 hF12)
                      clear hF12
                      generalize w11.drewN k12 = w12 at *
                      refine hK.out _ _ (fun _ => hS2) (fun _ => ?_); clear hK KK; have hS := hS2; clear hS2
                      try simp only [List.getElem_toArray, List.getElem_cons_succ, List.getElem_cons_zero, Act.put, List.setIfInBounds_toArray, List.set_cons_zero, List.set_cons_succ]
                      refine wpAnyM_take (i := 9) (v := ?_) rfl (by kernel_rfl) (by kernel_rfl) (by kernel_rfl) (by kernel_rfl) (fun _ _ _ h => h) (Or.inl ⟨by kernel_rfl, ?_⟩) hS ?_; rotate_left; (intro w hSw; obtain y4 := hSw; go_simp; try with_reducible rfl)
                      try simp only [List.getElem_toArray, List.getElem_cons_succ, List.getElem_cons_zero, Act.put, List.setIfInBounds_toArray, List.set_cons_zero, List.set_cons_succ]
                      refine wpAnyM_take (i := 10) (v := ?_) rfl (by kernel_rfl) (by kernel_rfl) (by kernel_rfl) (by kernel_rfl) (fun _ _ _ h => h) (Or.inl ⟨by kernel_rfl, ?_⟩) hS ?_; rotate_left; (intro w hSw; obtain y4 := hSw; go_simp; try with_reducible rfl)
                      try simp only [List.getElem_toArray, List.getElem_cons_succ, List.getElem_cons_zero, Act.put, List.setIfInBounds_toArray, List.set_cons_zero, List.set_cons_succ]
                      refine wpAnyM_one (i := 11) (by kernel_rfl) rfl (fun KK hK => ?_)
                      go_simp
                      obtain ⟨PL, hl⟩ := HA12.out.swap.log
                      refine (waiting_s hl).mono ?_; rintro e w13 ⟨rfl, hF13⟩
                      have hS2 := (hF13.cell (cell_lt hS) (by simp)).trans hS
                      have HA13 := Lib.hid (HA12.out.fr0 hF13)
                      clear hF13 hl
                      rw [HW0.out]
                      refine hK.out _ _ (fun _ => hS2) (fun _ => ?_); clear hK KK; have hS := hS2; clear hS2
                      try simp only [List.getElem_toArray, List.getElem_cons_succ, List.getElem_cons_zero, Act.put, List.setIfInBounds_toArray, List.set_cons_zero, List.set_cons_succ]
                      refine wpAnyM_take (i := 12) (v := .bool true) rfl (by kernel_rfl) (by kernel_rfl) (by kernel_rfl) (by kernel_rfl) (fun _ _ _ h => h) (Or.inl ⟨by kernel_rfl, ?_⟩) hS ?_; (intro w hSw; (focus (go_simp; first | done | omega | with_reducible rfl)))
                      try simp only [List.getElem_toArray, List.getElem_cons_succ, List.getElem_cons_zero, Act.put, List.setIfInBounds_toArray, List.set_cons_zero, List.set_cons_succ]
                      refine wpAnyM_one (i := 13) (by kernel_rfl) rfl (fun KK hK => ?_)
                      go_simp
                      refine hK.out _ _ (fun _ => hS) (fun _ => ?_); clear hK KK
                      try simp only [List.getElem_toArray, List.getElem_cons_succ, List.getElem_cons_zero, Act.put, List.setIfInBounds_toArray, List.set_cons_zero, List.set_cons_succ]
                      refine wpAnyM_one (i := 14) (by kernel_rfl) rfl (fun KK hK => ?_)
                      go_simp
                      refine hK.out _ _ (fun h => absurd h (by decide)) (fun _ => ?_); clear hK KK
                      try simp only [List.getElem_toArray, List.getElem_cons_succ, List.getElem_cons_zero, Act.put, List.setIfInBounds_toArray, List.set_cons_zero, List.set_cons_succ]
                      refine wpAnyM_done (by kernel_rfl) ?_ _
                      try simp only [List.getElem_toArray, List.getElem_cons_succ, List.getElem_cons_zero, Act.put, List.setIfInBounds_toArray, List.set_cons_zero, List.set_cons_succ]
                      clear hS
                      go_wp2_with fail
                      go_ret
                      exact ⟨rfl, HA13.out.fr.below (Nat.le_refl _) (by simp)⟩
    case pos =>
      obtain ⟨q1, q2⟩ := q
      have q1' : (i : Int) < len1 := by omega
      have q2' : (i : Int) < 40 := by omega
      obtain ⟨ba, off, rfl, hba, k0, k1, k2, k3, k4, k5, k6, k7⟩ := HS1.out.get q1
      have hFw : Fr [] W wr := HAD.out.fr.trans HFR.out (fun x hx => .inr (by simp at hx; omega))
      have k1 := (hFw.cell (p := ⟨ba, off + i * 8 + 1, none⟩) hba (by simp)).trans k1
      have k2 := (hFw.cell (p := ⟨ba, off + i * 8 + 2, none⟩) hba (by simp)).trans k2
      have k3 := (hFw.cell (p := ⟨ba, off + i * 8 + 3, none⟩) hba (by simp)).trans k3
      have k4 := (hFw.cell (p := ⟨ba, off + i * 8 + 4, none⟩) hba (by simp)).trans k4
      clear k0 k5 k6 k7 hFw
      obtain ⟨⟨zw, zs, zf, zn, zm, zb, zx, zy⟩, hz⟩ : ∃ z, z1 i = z := ⟨_, rfl⟩
      rw [hz] at k1 k2 k3 k4
      dsimp only at k1 k2 k3 k4
      have hcf := HFR.out.blk HCF.out (by simpa using hgF)
      have g0 := Blk.cell (i := 0) hcf rfl
      have g4 := Blk.cell (i := 4) hcf rfl
      simp only [cfgC, List.getElem_toArray, List.getElem_cons_zero, List.getElem_cons_succ] at g0 g4
      obtain ⟨s, hs⟩ : ∃ s : Nat, zs % (c.pl : Int) = s := ⟨(zs % c.pl).toNat, by have := Int.emod_nonneg zs (show (c.pl : Int) ≠ 0 by omega); omega⟩
      have hs8 : s < c.pl := by have := Int.emod_lt_of_pos zs (show (0 : Int) < c.pl by omega); omega
      have hp1 : ∀ j, Calls Try.prog 18 #[.int .i64 zs, .int .i64 c.pl] (wr.drewN j) fun e w' => e = .returned (.int .i64 s) ∧ w' = wr.drewN j := fun j => by
        rw [← hs]
        exact (pick_any zs c.pl (wr.drewN j) (by omega) (by omega)).mono fun e w' h => ⟨h.1, h.2.symm⟩
      obtain ⟨mf, hmf⟩ : ∃ mf : Nat, min c.fr 64 = mf := ⟨_, rfl⟩
      have hmf1 : 1 ≤ mf ∧ mf ≤ c.fr ∧ mf ≤ 64 := by omega
      have hm1 : (if (c.fr : Int) < 64 then (c.fr : Int) else 64) = (mf : Int) := by split <;> omega
      have hm2 : (if c.fr < 64 then (c.fr : Int) else 64) = (mf : Int) := by split <;> omega
      obtain ⟨k, hk⟩ : ∃ k : Nat, zf % (mf : Int) = k := ⟨(zf % mf).toNat, by have := Int.emod_nonneg zf (show (mf : Int) ≠ 0 by omega); omega⟩
      have hk8 : k < mf := by have := Int.emod_lt_of_pos zf (show (0 : Int) < mf by omega); omega
      have HKF := Lib.hid (show k < c.fr ∧ k < 64 by omega)
      have HP1 := Lib.hid hp1; have HK := Lib.hid hk; have HS := Lib.hid hs
      have HM1 := Lib.hid hm1; have HM2 := Lib.hid hm2; have HMF := Lib.hid hmf
      have hmfI : 1 ≤ (mf : Int) := by omega
      clear hp1 hk hs hmf hcf hz hm1 hm2
      go_wp2_with fail
      go_quiet (first | (go_at_call 18; exact Calls.quiet_of_same (HP1.out _)))
      have hX := (Fr.refl [] wr).drewN nq
      have HOWN1 := Lib.hid (own_fr HOWN.out hX (by simp)); have HFR1 := Lib.hid (HFR.out.drewN nq)
      have hmp1 : ∃ cnt, MapW Try.prog 3 (wr.drewN nq) F cnt (hadF l) ∧ cnt ≤ i := by obtain ⟨cnt, h1, h2⟩ := HMP.out; exact ⟨cnt, h1.drewN nq, h2⟩
      have HMP1 := Lib.hid hmp1
      clear hmp1
      change (wr.drewN nq).cell? _ = _ at k1 k2 k3 k4 g0 g4
      clear hX HOWN HFR HMP HP1
      generalize wr.drewN nq = w1 at *
      have hp2 : ∀ (q : Int) (j : Nat), q = mf → Calls Try.prog 18 #[.int .i64 zf, .int .i64 q] (w1.drewN j) fun e w' => e = .returned (.int .i64 k) ∧ w' = w1.drewN j := fun q j hq => by
        subst hq
        rw [← HK.out]
        exact (pick_any zf mf (w1.drewN j) (by omega) (by omega)).mono fun e w' h => ⟨h.1, h.2.symm⟩
      have HP2 := Lib.hid hp2
      clear hp2 HK HS
      go_wp2_with fail
      go_quiet (first | (go_at_call 18; refine Calls.quiet_of_same (HP2.out _ _ ?_); have hmf := HMF.out; first | omega | (split <;> omega)))
      have hX := (Fr.refl [] w1).drewN nq
      have HOWN2 := Lib.hid (own_fr HOWN1.out hX (by simp)); have HFR2 := Lib.hid (HFR1.out.drewN nq)
      have hmp2 : ∃ cnt, MapW Try.prog 3 (w1.drewN nq) F cnt (hadF l) ∧ cnt ≤ i := by obtain ⟨cnt, h1, h2⟩ := HMP1.out; exact ⟨cnt, h1.drewN nq, h2⟩
      have HMP2 := Lib.hid hmp2
      change (w1.drewN nq).cell? _ = _ at k3 k4
      clear hmp2 hX HOWN1 HFR1 HMP1 HP2 HM1 HM2 k1 k2 g0 g4
      generalize w1.drewN nq = w2 at *
      have hkx : inK ((k : Int) * 8 + s) := inK_of (by omega) (by omega)
      obtain ⟨cnt, hmm2, hcn⟩ := HMP2.out
      have hlk : (Instr.lookup 74 (.map (some F)) (.int .i64 ((k : Int) * 8 + s)) false).run Try.prog w2 = .ok (.bool (hadB l ((k : Int) * 8 + s))) w2 := by
        have h1 := hmm2.look1 Try.underlying3 Try.underlying74 (z := .bool false) (by kernel_rfl) hkx
        rw [h1]
        unfold hadF
        cases hadB l ((k : Int) * 8 + s) <;> rfl
      cases hhb : hadB l ((k : Int) * 8 + s) with
      | true =>
        rw [hhb] at hlk
        have HMM := Lib.hid hmm2
        clear hhb hmm2
        go_wp2_with fail
        go_roundw
        case rel => exact ⟨i + 1, l, by simp, by omega, by omega, by omega, HOK.out, HOWN2.out, ⟨cnt, HMM.out, by omega⟩, HFR2.out⟩
        case measure => simp [intOf]; omega
      | false =>
        rw [hhb] at hlk
        obtain ⟨w3, hst, hm3, hF3⟩ := hmm2.store Try.underlying3 Try.underlying74 (by unfold maxLen; omega) hkx (.bool true)
        have hcn3 : (if (hadF l ((k : Int) * 8 + s)).isSome then cnt else cnt + 1) ≤ i + 1 := by split <;> omega
        have hv3 : F ∉ (Value.slice va l.length vc).ownBlock.toList := fun hx => by
          have h1 : (Value.slice va l.length vc).ownBlock = some F := by simpa using hx
          have := own_base HOWN2.out h1
          omega
        have HHB := Lib.hid hhb; have HM3 := Lib.hid hm3; have HF3 := Lib.hid hF3; have HC3 := Lib.hid hcn3
        have HOWN3 := Lib.hid (own_keep HOWN2.out hF3 (fun b hb hx => hv3 (by
          have : b = F := by simpa using hx
          rw [← this]; simpa using hb)))
        have k3' := (hF3.cell (p := ⟨ba, off + i * 8 + 3, none⟩) (cell_lt k3) (by simp; omega)).trans k3
        have k4' := (hF3.cell (p := ⟨ba, off + i * 8 + 4, none⟩) (cell_lt k4) (by simp; omega)).trans k4
        clear hhb hm3 hF3 hcn3 hmm2 hv3 k3 k4 HOWN2 HMP2
        go_wp2_with fail
        all_goals
          have e3 : w3.drew.cell? ⟨ba, off + i * 8 + 3, none⟩ = some (.int .i64 zn) := k3'
          have e4 : w3.drew.cell? ⟨ba, off + i * 8 + 4, none⟩ = some (.int .i64 zm) := k4'
          have HFD := Lib.hid ((HFR2.out.trans HF3.out (by simp)).drew); have HOD := Lib.hid (own_fr HOWN3.out ((Fr.refl [] w3).drew) (by simp))
          clear k3' k4' hst hlk
          refine wp_region_M 17 (fun w' => w'.cell? ⟨ba, off + i * 8 + 3, none⟩ = some (.int .i64 zn) ∧ w'.cell? ⟨ba, off + i * 8 + 4, none⟩ = some (.int .i64 zm)) (by kernel_rfl) (⟨e3, e4⟩) (fun hS => ?_)
          try simp only [List.getElem_toArray, List.getElem_cons_succ, List.getElem_cons_zero, Act.put, List.setIfInBounds_toArray, List.set_cons_zero, List.set_cons_succ]
          refine wpAnyM_take (i := 0) (v := ?_) rfl (by kernel_rfl) (by kernel_rfl) (by kernel_rfl) (by kernel_rfl) (fun _ _ _ h => h) (Or.inl ⟨by kernel_rfl, ?_⟩) hS ?_; rotate_left; (intro w hSw; obtain ⟨y3, y4⟩ := hSw; go_simp; try with_reducible rfl)
          try simp only [List.getElem_toArray, List.getElem_cons_succ, List.getElem_cons_zero, Act.put, List.setIfInBounds_toArray, List.set_cons_zero, List.set_cons_succ]
          refine wpAnyM_take (i := 1) (v := ?_) rfl (by kernel_rfl) (by kernel_rfl) (by kernel_rfl) (by kernel_rfl) (fun _ _ _ h => h) (Or.inl ⟨by kernel_rfl, ?_⟩) hS ?_; rotate_left; (intro w hSw; obtain ⟨y3, y4⟩ := hSw; go_simp; try with_reducible rfl)
          try simp only [List.getElem_toArray, List.getElem_cons_succ, List.getElem_cons_zero, Act.put, List.setIfInBounds_toArray, List.set_cons_zero, List.set_cons_succ]
          refine wpAnyM_take (i := 2) (v := ?_) rfl (by kernel_rfl) (by kernel_rfl) (by kernel_rfl) (by kernel_rfl) (fun _ _ _ h => h) (Or.inl ⟨by kernel_rfl, ?_⟩) hS ?_; rotate_left; (intro w hSw; obtain ⟨y3, y4⟩ := hSw; go_simp; try with_reducible rfl)
          try simp only [List.getElem_toArray, List.getElem_cons_succ, List.getElem_cons_zero, Act.put, List.setIfInBounds_toArray, List.set_cons_zero, List.set_cons_succ]
          refine wpAnyM_take (i := 3) (v := ?_) rfl (by kernel_rfl) (by kernel_rfl) (by kernel_rfl) (by kernel_rfl) (fun _ _ _ h => h) (Or.inl ⟨by kernel_rfl, ?_⟩) hS ?_; rotate_left; (intro w hSw; obtain ⟨y3, y4⟩ := hSw; go_simp; try with_reducible rfl)
          try simp only [List.getElem_toArray, List.getElem_cons_succ, List.getElem_cons_zero, Act.put, List.setIfInBounds_toArray, List.set_cons_zero, List.set_cons_succ]
          refine wpAnyM_take (i := 4) (v := ?_) rfl (by kernel_rfl) (by kernel_rfl) (by kernel_rfl) (by kernel_rfl) (fun _ _ _ h => h) (Or.inl ⟨by kernel_rfl, ?_⟩) hS ?_; rotate_left; (intro w hSw; obtain ⟨y3, y4⟩ := hSw; go_simp; try with_reducible rfl)
          try simp only [List.getElem_toArray, List.getElem_cons_succ, List.getElem_cons_zero, Act.put, List.setIfInBounds_toArray, List.set_cons_zero, List.set_cons_succ]
          refine wpAnyM_take (i := 5) (v := ?_) rfl (by kernel_rfl) (by kernel_rfl) (by kernel_rfl) (by kernel_rfl) (fun _ _ _ h => h) (Or.inl ⟨by kernel_rfl, ?_⟩) hS ?_; rotate_left; (intro w hSw; obtain ⟨y3, y4⟩ := hSw; go_simp; try with_reducible rfl)
          try simp only [List.getElem_toArray, List.getElem_cons_succ, List.getElem_cons_zero, Act.put, List.setIfInBounds_toArray, List.set_cons_zero, List.set_cons_succ]
          refine wpAnyM_take (i := 6) (v := ?_) rfl (by kernel_rfl) (by kernel_rfl) (by kernel_rfl) (by kernel_rfl) (fun _ _ _ h => h) (Or.inl ⟨by kernel_rfl, ?_⟩) hS ?_; rotate_left; (intro w hSw; obtain ⟨y3, y4⟩ := hSw; go_simp; try with_reducible rfl)
          try simp only [List.getElem_toArray, List.getElem_cons_succ, List.getElem_cons_zero, Act.put, List.setIfInBounds_toArray, List.set_cons_zero, List.set_cons_succ]
          refine wpAnyM_take (i := 7) (v := ?_) rfl (by kernel_rfl) (by kernel_rfl) (by kernel_rfl) (by kernel_rfl) (fun _ _ _ h => h) (Or.inl ⟨by kernel_rfl, ?_⟩) hS ?_; rotate_left; (intro w hSw; obtain ⟨y3, y4⟩ := hSw; go_simp; try with_reducible rfl)
          try simp only [List.getElem_toArray, List.getElem_cons_succ, List.getElem_cons_zero, Act.put, List.setIfInBounds_toArray, List.set_cons_zero, List.set_cons_succ]
          refine wpAnyM_take (i := 8) (v := ?_) rfl (by kernel_rfl) (by kernel_rfl) (by kernel_rfl) (by kernel_rfl) (fun _ _ _ h => h) (Or.inl ⟨by kernel_rfl, ?_⟩) hS ?_; rotate_left; (intro w hSw; obtain ⟨y3, y4⟩ := hSw; go_simp; try with_reducible rfl)
          try simp only [List.getElem_toArray, List.getElem_cons_succ, List.getElem_cons_zero, Act.put, List.setIfInBounds_toArray, List.set_cons_zero, List.set_cons_succ]
          refine wpAnyM_take (i := 9) (v := ?_) rfl (by kernel_rfl) (by kernel_rfl) (by kernel_rfl) (by kernel_rfl) (fun _ _ _ h => h) (Or.inl ⟨by kernel_rfl, ?_⟩) hS ?_; rotate_left; (intro w hSw; obtain ⟨y3, y4⟩ := hSw; go_simp; try with_reducible rfl)
          try simp only [List.getElem_toArray, List.getElem_cons_succ, List.getElem_cons_zero, Act.put, List.setIfInBounds_toArray, List.set_cons_zero, List.set_cons_succ]
          refine wpAnyM_take (i := 10) (v := ?_) rfl (by kernel_rfl) (by kernel_rfl) (by kernel_rfl) (by kernel_rfl) (fun _ _ _ h => h) (Or.inl ⟨by kernel_rfl, ?_⟩) hS ?_; rotate_left; (intro w hSw; obtain ⟨y3, y4⟩ := hSw; go_simp; try with_reducible rfl)
          try simp only [List.getElem_toArray, List.getElem_cons_succ, List.getElem_cons_zero, Act.put, List.setIfInBounds_toArray, List.set_cons_zero, List.set_cons_succ]
          refine wpAnyM_take (i := 11) (v := ?_) rfl (by kernel_rfl) (by kernel_rfl) (by kernel_rfl) (by kernel_rfl) (fun _ _ _ h => h) (Or.inl ⟨by kernel_rfl, ?_⟩) hS ?_; rotate_left; (intro w hSw; obtain ⟨y3, y4⟩ := hSw; go_simp; try with_reducible rfl)
          try simp only [List.getElem_toArray, List.getElem_cons_succ, List.getElem_cons_zero, Act.put, List.setIfInBounds_toArray, List.set_cons_zero, List.set_cons_succ]
          refine wpAnyM_take (i := 12) (v := ?_) rfl (by kernel_rfl) (by kernel_rfl) (by kernel_rfl) (by kernel_rfl) (fun _ _ _ h => h) (Or.inl ⟨by kernel_rfl, ?_⟩) hS ?_; rotate_left; (intro w hSw; obtain ⟨y3, y4⟩ := hSw; go_simp; try with_reducible rfl)
          try simp only [List.getElem_toArray, List.getElem_cons_succ, List.getElem_cons_zero, Act.put, List.setIfInBounds_toArray, List.set_cons_zero, List.set_cons_succ]
          refine wpAnyM_one (i := 13) (by kernel_rfl) rfl (fun KK hK => ?_)
          go_simp
          refine (input_any _ _ _).mono ?_; rintro e w4 ⟨ib, ix, iy, rfl, hin, hF4⟩
          have hS2 : w4.cell? ⟨ba, off + i * 8 + 3, none⟩ = some (.int .i64 zn) ∧ w4.cell? ⟨ba, off + i * 8 + 4, none⟩ = some (.int .i64 zm) := ⟨(hF4.cell (cell_lt e3) (by simp)).trans e3, (hF4.cell (cell_lt e4) (by simp)).trans e4⟩
          have HIN := Lib.hid hin; have HF4 := Lib.hid hF4
          clear hin hF4
          refine hK.out _ _ (fun _ => hS2) (fun _ => ?_); clear hK KK; have hS := hS2; clear hS2
          try simp only [List.getElem_toArray, List.getElem_cons_succ, List.getElem_cons_zero, Act.put, List.setIfInBounds_toArray, List.set_cons_zero, List.set_cons_succ]
          refine wpAnyM_take (i := 14) (v := ?_) rfl (by kernel_rfl) (by kernel_rfl) (by kernel_rfl) (by kernel_rfl) (fun _ _ _ h => h) (Or.inl ⟨by kernel_rfl, ?_⟩) hS ?_; rotate_left; (intro w hSw; obtain ⟨y3, y4⟩ := hSw; go_simp; try with_reducible rfl)
          try simp only [List.getElem_toArray, List.getElem_cons_succ, List.getElem_cons_zero, Act.put, List.setIfInBounds_toArray, List.set_cons_zero, List.set_cons_succ]
          refine wpAnyM_one (i := 15) (by kernel_rfl) rfl (fun KK hK => ?_)
          go_simp
          have hFA := (Fr.refl [] w4).alloc (.cells #[.int .i64 0, .int .i64 s, .int .i64 k, .int .i64 0, .int .i64 0, .int .i64 ib, .int .i64 ix, .int .i64 iy] 60)
          have hS2 := And.intro ((hFA.cell (cell_lt hS.1) (by simp)).trans hS.1) ((hFA.cell (cell_lt hS.2) (by simp)).trans hS.2)
          have hnb := Blk.new w4 #[.int .i64 0, .int .i64 s, .int .i64 k, .int .i64 0, .int .i64 0, .int .i64 ib, .int .i64 ix, .int .i64 iy] 60
          have ho5 := own_fr HOD.out (HF4.out.trans hFA (by simp)) (by simp)
          have HFA := Lib.hid hFA; have HNB := Lib.hid hnb; have HO5 := Lib.hid ho5
          clear hFA hnb ho5
          refine hK.out _ _ (fun _ => hS2) (fun _ => ?_); clear hK KK; have hS := hS2; clear hS2
          try simp only [List.getElem_toArray, List.getElem_cons_succ, List.getElem_cons_zero, Act.put, List.setIfInBounds_toArray, List.set_cons_zero, List.set_cons_succ]
          refine wpAnyM_one (i := 16) (by kernel_rfl) rfl (fun KK hK => ?_)
          refine step_append_src _ rfl (Operand.tmp 91) (Operand.tmp 106) 54 rfl w7.heap.size 60 i0 _ 8 64 Try.underlying54 hi0 hz0 hz1 hz2 rfl (by decide) (.slice va l.length vc) (.slice (some ⟨w4.heap.size, 0, none⟩) 1 1) l.length 1 (os l) (os [(s, k, ib, ix, iy)]) rfl (by kernel_rfl) HO5.out (src_blk HNB.out (by simp) (by simp [Value.oneCell']) 1) (by unfold maxLen; omega) (by omega) (by have h1 := HFD.out.size; have h2 := HF4.out.size; have h3 := HFA.out.size; omega) ?_
          intro v6 w6 ho6 hg6 hat6
          have hF6 := fr_own ((HFD.out.trans HF4.out (by simp)).trans HFA.out (by simp)) HO5.out hg6 (Nat.le_refl _)
          have hm6 : MapW Try.prog 3 w6 F _ _ := ((HM3.out.drew.fr HF4.out (by simp)).fr HFA.out (by simp)).fr (fr_grown hg6) (notin_own HO5.out hF7)
          have hS2 := And.intro (((fr_grown hg6).cell (cell_lt hS.1) (notin_own HO5.out (by show ba < _; omega))).trans hS.1) (((fr_grown hg6).cell (cell_lt hS.2) (notin_own HO5.out (by show ba < _; omega))).trans hS.2)
          rw [← os_app] at ho6
          have HO6 := Lib.hid ho6; have HF6 := Lib.hid hF6; have HM6 := Lib.hid hm6
          clear ho6 hF6 hm6 hg6 hat6
          obtain ⟨va6, vc6, rfl, -, -⟩ := own_val HO6.out
          refine hK.out _ _ (fun _ => hS2) (fun _ => ?_); clear hK KK; have hS := hS2; clear hS2
          
          try simp only [List.getElem_toArray, List.getElem_cons_succ, List.getElem_cons_zero, Act.put, List.setIfInBounds_toArray, List.set_cons_zero, List.set_cons_succ]
          refine wpAnyM_one (i := 17) (by kernel_rfl) rfl (fun KK hK => ?_)
          go_simp
          refine hK.out _ _ (fun h => absurd h (by decide)) (fun _ => ?_); clear hK KK
          try simp only [List.getElem_toArray, List.getElem_cons_succ, List.getElem_cons_zero, Act.put, List.setIfInBounds_toArray, List.set_cons_zero, List.set_cons_succ]
          refine wpAnyM_done (by kernel_rfl) ?_ _
          try simp only [List.getElem_toArray, List.getElem_cons_succ, List.getElem_cons_zero, Act.put, List.setIfInBounds_toArray, List.set_cons_zero, List.set_cons_succ]
          clear hS
          go_wp2_with fail
          go_roundw
          case rel => exact ⟨i + 1, l ++ [(s, k, ib, ix, iy)], by simp, by omega, by omega, by simp; omega, HOK.out.snoc hpl8 ⟨hs8, HKF.out.1, HKF.out.2, HIN.out⟩ HHB.out, by rw [List.length_append]; exact HO6.out, ⟨_, HM6.out.congr (fun x hx => by rw [hadF_app]), HC3.out⟩, HF6.out⟩
          case measure => simp [intOf]; omega
end Go.Proofs.Ytckodnogjedmnaa.Lo
