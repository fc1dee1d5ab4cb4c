/- chapter 24: what is sent comes. -/
import Derived.Test.YtkjjikjilmngdaaNtL
import Derived.Test.YtkjjikjilmngdaaNtQ
import Derived.Test.YtkjjikjilmngdaaSlNa
namespace Go.Proofs.Ytkjjikjilmngdaa.Nt
open Go.RowKit Dt Go.Proofs.Ytkjjikjilmngdaa.Hd
set_option linter.unusedVariables false
set_option linter.unusedSimpArgs false

/-- numbers as cells -/
def ints (n : Nat) (f : Nat → Int) : Array Value := ((List.range n).map fun k => Value.int .i64 (f k)).toArray
theorem ints_size (n : Nat) (f : Nat → Int) : (ints n f).size = n := by simp [ints]
theorem ints_get {n i : Nat} (f : Nat → Int) (h : i < n) : (ints n f)[i]? = some (.int .i64 (f i)) := by simp [ints, h]
theorem ints_set {n i : Nat} (f : Nat → Int) (x : Int) : (ints n f).setIfInBounds i (.int .i64 x) = ints n (fun k => if k = i then x else f k) := by
  apply Array.ext_getElem?
  intro j
  rw [Array.getElem?_setIfInBounds]
  by_cases h : i = j
  · subst h
    rw [if_pos rfl, ints_size]
    by_cases hi : i < n
    · rw [if_pos hi, ints_get _ hi, if_pos rfl]
    · rw [if_neg hi, Array.getElem?_eq_none (by rw [ints_size]; omega)]
  · rw [if_neg h]
    by_cases hj : j < n
    · rw [ints_get _ hj, ints_get _ hj, if_neg (by omega)]
    · rw [Array.getElem?_eq_none (by rw [ints_size]; omega), Array.getElem?_eq_none (by rw [ints_size]; omega)]
theorem ints_congr {n : Nat} {f g : Nat → Int} (h : ∀ i, i < n → f i = g i) : ints n f = ints n g := by
  unfold ints; congr 1
  exact List.map_congr_left fun a ha => by rw [h a (by simpa using ha)]
theorem byt_bytN (n : Int) : byt n = bytN n := rfl
def faL (dr : Nat → Bool) (cp dl : Nat → Nat) (n : Nat) : List Fa := (List.range n).map (faK dr cp dl)
theorem faL_succ (dr : Nat → Bool) (cp dl : Nat → Nat) (n : Nat) : faC (faL dr cp dl (n + 1)) = faC (faL dr cp dl n) ++ [.bool (dr n), .int .i64 (cp n : Nat), .int .i64 (dl n : Nat)] := by
  unfold faL; rw [List.range_succ, List.map_append, faC_app]; rfl
theorem faL_len (dr : Nat → Bool) (cp dl : Nat → Nat) (n : Nat) : (faL dr cp dl n).length = n := by unfold faL; simp
theorem faC_get : ∀ {l : List Fa} {t j : Nat} {f : Fa}, l[t]? = some f → j < 3 → (faC l)[t * 3 + j]? = [Value.bool f.drop, .int .i64 f.copies, .int .i64 f.delay][j]?
  | [], t, j, f, h, _ => by simp at h
  | y :: l, 0, j, f, h, hj => by
    simp at h; subst h
    rw [faC_cons, List.getElem?_append_left (by simp; omega)]; congr 1; omega
  | y :: l, t + 1, j, f, h, hj => by
    have := faC_get (l := l) (t := t) (f := f) (by simpa using h) hj
    rw [faC_cons, List.getElem?_append_right (by simp; omega), ← this]
    congr 1; simp; omega
theorem faL_get {dr : Nat → Bool} {cp dl : Nat → Nat} {n i : Nat} (h : i < n) : (faL dr cp dl n)[i]? = some (faK dr cp dl i) := by unfold faL; rw [List.getElem?_map, List.getElem?_range h]; rfl
/-- one more block is others' -/
theorem HasN.addBlk {W w : World} {K : List Nat} {b : Nat} {s : NetV} (h : HasN W K w b s) {g : Nat} {cs : Array Value} {T : TypeId} (hg : Blk w g cs T) (h1 : T ≠ 71) (h2 : T ≠ 86) (h3 : T ≠ 115) : HasN W (g :: K) w b s := by
  obtain ⟨⟨vs, fv, xv, k1, k2, k3, k4⟩, hb, hb2, hK, hf⟩ := h
  obtain ⟨U, hU, -⟩ := k2.xo
  refine ⟨⟨vs, fv, xv, k1, k2, fun x hx hm => ?_, fun x hx hm => ?_⟩, fun hm => ?_, hb2, fun x hm => ?_, hf⟩
  · rcases List.mem_cons.1 hm with rfl | hm
    · exact own_blk (g := 0) k2.fo hg h2.symm x hx rfl
    · exact k3 x hx hm
  · rcases List.mem_cons.1 hm with rfl | hm
    · exact own_blk (g := 0) hU hg h3.symm x hx rfl
    · exact k4 x hx hm
  · rcases List.mem_cons.1 hm with rfl | hm
    · exact blk_blk k1 hg h1.symm rfl
    · exact hb hm
  · rcases List.mem_cons.1 hm with rfl | hm
    · exact hg.lt
    · exact hK x hm
set_option maxRecDepth 100000 in
set_option maxHeartbeats 12800000 in
theorem walk_keeps (a0 : Option Addr) (len0 cap0 : Nat) (z : Nat → NA) (W : World) (w0 : SlNA W a0 len0 cap0 z) :
    Calls Try.prog 8 #[.slice a0 len0 cap0] W fun e w' => e = .returned (.bool true) ∧ Below W.heap.size W w' := by
  obtain ⟨dr, hdr⟩ : ∃ dr : Nat → Bool, ∀ i, dr i = (z i).drop := ⟨_, fun _ => rfl⟩
  obtain ⟨cp, hcp⟩ : ∃ cp : Nat → Nat, ∀ i, (cp i : Int) = (z i).copies % 3 := ⟨fun i => ((z i).copies % 3).toNat, fun i => Int.toNat_of_nonneg (Int.emod_nonneg _ (by decide))⟩
  obtain ⟨dl, hdl⟩ : ∃ dl : Nat → Nat, ∀ i, (dl i : Int) = (z i).delay % 21 := ⟨fun i => ((z i).delay % 21).toNat, fun i => Int.toNat_of_nonneg (Int.emod_nonneg _ (by decide))⟩
  have hcp2 : ∀ i, cp i ≤ 2 := fun i => by have := hcp i; have := Int.emod_lt_of_pos (z i).copies (show (0 : Int) < 3 by decide); omega
  have hdl2 : ∀ i, dl i ≤ 20 := fun i => by have := hdl i; have := Int.emod_lt_of_pos (z i).delay (show (0 : Int) < 21 by decide); omega
  obtain ⟨k, hk⟩ : ∃ k, min len0 60 = k := ⟨_, rfl⟩
  have hk60 : k ≤ 60 := by omega
  have hkl : k ≤ len0 := by omega
  have hmax : len0 ≤ cap0 ∧ cap0 ≤ maxLen := ⟨w0.le, w0.max⟩
  have hlm : len0 ≤ 9223372036854775807 := by have := hmax.1; have := hmax.2; unfold maxLen at this; omega
  have HZ := Lib.hid w0; have HDR := Lib.hid hdr; have HCP := Lib.hid hcp; have HDL := Lib.hid hdl; have HC2 := Lib.hid hcp2; have HD2 := Lib.hid hdl2; have HK := Lib.hid hk
  clear w0 hdr hcp hdl hcp2 hdl2 hmax
  have hkk : (if (len0 : Int) < 60 then (len0 : Int) else 60) = (k : Int) := by split <;> omega
  have hz : ∀ w, (zeroValue 82).run Try.prog w = .ok (.agg (ints 60 (fun _ => 0))) w := fun _ => by kernel_rfl
  have HKK := Lib.hid hkk
  clear hk hkk
  go_enter Try.func8, Try.ntmps8
  go_wp2_with fail
  have hb := Blk.new W #[.slice none 0 0, .slice none 0 0, .int .i64 0] 71
  have hF0 := (Fr.refl [] W).alloc (.cells #[.slice none 0 0, .slice none 0 0, .int .i64 0] 71)
  obtain ⟨b, hbe⟩ : ∃ b, W.heap.size = b := ⟨_, rfl⟩
  rw [hbe] at hb ⊢
  have HB := Lib.hid hbe
  clear hbe
  generalize W.alloc (.cells #[.slice none 0 0, .slice none 0 0, .int .i64 0] 71) = wa at *
  refine (known_any _).mono ?_; rintro e w1 ⟨rfl, hF⟩
  have HN1 := Lib.hid (hF.blk hb (by simp)); have HF1 := Lib.hid (hF0.trans hF (by simp))
  clear hb hF0 hF
  go_upto_region 7 with (fail)
  have hA := Blk.new w1 (ints 60 (fun _ => 0)) 82
  have hFA := (Fr.refl [] w1).alloc (.cells (ints 60 (fun _ => 0)) 82)
  obtain ⟨A, hAe⟩ : ∃ A, w1.heap.size = A := ⟨_, rfl⟩
  rw [hAe] at hA ⊢
  generalize w1.alloc (.cells (ints 60 (fun _ => 0)) 82) = w2 at *
  have hbA : b < A := by rw [← hAe]; exact HN1.out.lt
  have HA := Lib.hid hA; have HN2 := Lib.hid (hFA.blk HN1.out (by simp)); have HF2 := Lib.hid (HF1.out.trans hFA (by simp))
  have hWA : W.heap.size ≤ A := by rw [← hAe]; exact HF1.out.size
  clear hA hFA hAe HN1 HF1
  go_cut [7] from 21 to 23 (fun v wq => v = .int .i64 k ∧ w2 = wq)
  case first =>
    by_cases hc : len0 < 60
    · have q1 : (len0 : Int) < 60 := by omega
      go_wp2_with fail
      go_meet
      case rel => exact ⟨by have := HK.out; congr 1; omega, rfl⟩
    · rcases Nat.lt_or_ge 60 len0 with h60 | h60
      · have q1 : (60 : Int) < len0 := by omega
        go_wp2_with fail
        go_meet
        case rel => exact ⟨by have := HK.out; congr 1; omega, rfl⟩
      · have h61 : len0 = 60 := by omega
        subst h61
        go_wp2_with fail
        go_meet
        case rel => exact ⟨by have := HK.out; congr 1, rfl⟩
  case rest =>
    obtain ⟨rfl, rfl⟩ := hcut
    clear hz
    obtain ⟨i0, hi0, hz0, hz1, hz2⟩ := info_parts infFa
    have HI := Lib.hid (And.intro hi0 (And.intro hz0 (And.intro hz1 hz2)))
    clear hi0 hz0 hz1 hz2
    have hw2 : A < w2.heap.size := HA.out.lt
    go_wp2_with fail
    go_loopw [4, 6, 8, 9] (fun fv wv iv _ wr => ∃ i : Nat, i ≤ k ∧ iv = .int .i64 i ∧ wv = .int .i64 (wK dr cp i : Nat) ∧ wr.ownsRow w2.heap.size 86 3 fv i (faC (faL dr cp dl i)) ∧ Blk wr A (ints 60 (fun t => if t < i then ((t + 1 + dl t : Nat) : Int) else 0)) 82 ∧ Blk wr b #[.slice none 0 0, .slice none 0 0, .int .i64 0] 71 ∧ Fr [] W wr ∧ w2.heap.size ≤ wr.heap.size) (fun _ _ iv _ _ => k - (intOf iv).toNat)
    case atStart => exact ⟨0, by omega, rfl, rfl, own_nil _ _ _ _, HA.out.eq (ints_congr fun t _ => by rw [if_neg (by omega)]), HN2.out, HF2.out, Nat.le_refl _⟩
    case round =>
      obtain ⟨i, hi, rfl, rfl, hfo, hA, hN, hF, hsz⟩ := hrel
      clear HN2 HF2
      by_cases hik : i < k
      · have q1 : (i : Int) < k := by omega
        obtain ⟨b0, off0, rfl, hb0, hcc, -⟩ := HZ.out.get (show i < len0 by omega)
        have c3 := (hF.cell (p := ⟨b0, off0 + i * 7 + 3, none⟩) hb0 (by simp)).trans (hcc 3 _ rfl)
        have c4 := (hF.cell (p := ⟨b0, off0 + i * 7 + 4, none⟩) hb0 (by simp)).trans (hcc 4 _ rfl)
        have c5 := (hF.cell (p := ⟨b0, off0 + i * 7 + 5, none⟩) hb0 (by simp)).trans (hcc 5 _ rfl)
        rw [← HDR.out i] at c3
        obtain ⟨zc, hzc⟩ : ∃ zc, (z i).copies = zc := ⟨_, rfl⟩
        obtain ⟨zd, hzd⟩ : ∃ zd, (z i).delay = zd := ⟨_, rfl⟩
        have hpc : zc % 3 = (cp i : Int) := by rw [← hzc]; exact (HCP.out i).symm
        have hpd : zd % 21 = (dl i : Int) := by rw [← hzd]; exact (HDL.out i).symm
        have hpick1 := fun w : World => pick_any zc 3 w (by decide) (by decide)
        have hpick2 := fun w : World => pick_any zd 21 w (by decide) (by decide)
        rw [hpc] at hpick1
        rw [hpd] at hpick2
        rw [hzc] at c4
        rw [hzd] at c5
        have HP1 := Lib.hid hpick1; have HP2 := Lib.hid hpick2
        obtain ⟨ci, hci⟩ : ∃ ci, cp i = ci := ⟨_, rfl⟩
        obtain ⟨di, hdi⟩ : ∃ di, dl i = di := ⟨_, rfl⟩
        obtain ⟨bi, hbi⟩ : ∃ bi, dr i = bi := ⟨_, rfl⟩
        rw [hci] at HP1
        rw [hdi] at HP2
        rw [hbi] at c3
        have hci2 : ci ≤ 2 := by rw [← hci]; exact HC2.out i
        have hdi2 : di ≤ 20 := by rw [← hdi]; exact HD2.out i
        have HFO := Lib.hid hfo; have HA2 := Lib.hid hA; have HN := Lib.hid hN; have HF := Lib.hid hF; have HCI := Lib.hid hci; have HDI := Lib.hid hdi; have HBI := Lib.hid hbi
        have hil : i < len0 := by omega
        have q2 : (i : Int) < (len0 : Int) := by omega
        have hA60 : i < 60 := by omega
        clear hfo hA hN hF hcc hzc hzd hpc hpd hpick1 hpick2 hci hdi hbi
        go_upto_region 11 with (fail)
        have e3 : wr.drew.cell? ⟨b0, off0 + i * 7 + 3, none⟩ = some (.bool bi) := c3
        have e4 : wr.drew.cell? ⟨b0, off0 + i * 7 + 4, none⟩ = some (.int .i64 zc) := c4
        have e5 : wr.drew.cell? ⟨b0, off0 + i * 7 + 5, none⟩ = some (.int .i64 zd) := c5
        have hb0w : b0 < wr.drew.heap.size := Nat.lt_of_lt_of_le hb0 HF.out.size
        clear c3 c4 c5
        refine wp_region_M 19 (fun w' => w'.cell? ⟨b0, off0 + i * 7 + 3, none⟩ = some (.bool bi) ∧ w'.cell? ⟨b0, off0 + i * 7 + 4, none⟩ = some (.int .i64 zc) ∧ w'.cell? ⟨b0, off0 + i * 7 + 5, none⟩ = some (.int .i64 zd)) (by kernel_rfl) (⟨e3, e4, e5⟩) (fun hS => ?_)
        try simp only [List.getElem_toArray, List.getElem_cons_succ, List.getElem_cons_zero, Act.put, List.setIfInBounds_toArray, List.set_cons_zero, List.set_cons_succ]
        refine wpAnyM_take (i := 0) (v := ?_) rfl (by kernel_rfl) (by kernel_rfl) (by kernel_rfl) (by kernel_rfl) (fun _ _ _ h => h) (Or.inl ⟨by kernel_rfl, ?_⟩) hS ?_; rotate_left; (intro w hSw; obtain ⟨hS1, hS2, hS3⟩ := hSw; go_simp; try with_reducible rfl)
        try simp only [List.getElem_toArray, List.getElem_cons_succ, List.getElem_cons_zero, Act.put, List.setIfInBounds_toArray, List.set_cons_zero, List.set_cons_succ]
        refine wpAnyM_take (i := 1) (v := ?_) rfl (by kernel_rfl) (by kernel_rfl) (by kernel_rfl) (by kernel_rfl) (fun _ _ _ h => h) (Or.inl ⟨by kernel_rfl, ?_⟩) hS ?_; rotate_left; (intro w hSw; obtain ⟨hS1, hS2, hS3⟩ := hSw; go_simp; try with_reducible rfl)
        try simp only [List.getElem_toArray, List.getElem_cons_succ, List.getElem_cons_zero, Act.put, List.setIfInBounds_toArray, List.set_cons_zero, List.set_cons_succ]
        refine wpAnyM_take (i := 2) (v := ?_) rfl (by kernel_rfl) (by kernel_rfl) (by kernel_rfl) (by kernel_rfl) (fun _ _ _ h => h) (Or.inl ⟨by kernel_rfl, ?_⟩) hS ?_; rotate_left; (intro w hSw; obtain ⟨hS1, hS2, hS3⟩ := hSw; go_simp; try with_reducible rfl)
        try simp only [List.getElem_toArray, List.getElem_cons_succ, List.getElem_cons_zero, Act.put, List.setIfInBounds_toArray, List.set_cons_zero, List.set_cons_succ]
        refine wpAnyM_take (i := 3) (v := ?_) rfl (by kernel_rfl) (by kernel_rfl) (by kernel_rfl) (by kernel_rfl) (fun _ _ _ h => h) (Or.inl ⟨by kernel_rfl, ?_⟩) hS ?_; rotate_left; (intro w hSw; obtain ⟨hS1, hS2, hS3⟩ := hSw; go_simp; try with_reducible rfl)
        try simp only [List.getElem_toArray, List.getElem_cons_succ, List.getElem_cons_zero, Act.put, List.setIfInBounds_toArray, List.set_cons_zero, List.set_cons_succ]
        refine wpAnyM_take (i := 4) (v := ?_) rfl (by kernel_rfl) (by kernel_rfl) (by kernel_rfl) (by kernel_rfl) (fun _ _ _ h => h) (Or.inl ⟨by kernel_rfl, ?_⟩) hS ?_; rotate_left; (intro w hSw; obtain ⟨hS1, hS2, hS3⟩ := hSw; go_simp; try with_reducible rfl)
        try simp only [List.getElem_toArray, List.getElem_cons_succ, List.getElem_cons_zero, Act.put, List.setIfInBounds_toArray, List.set_cons_zero, List.set_cons_succ]
        refine wpAnyM_take (i := 5) (v := ?_) rfl (by kernel_rfl) (by kernel_rfl) (by kernel_rfl) (by kernel_rfl) (fun _ _ _ h => h) (Or.inl ⟨by kernel_rfl, ?_⟩) hS ?_; rotate_left; (intro w hSw; obtain ⟨hS1, hS2, hS3⟩ := hSw; go_simp; try with_reducible rfl)
        try simp only [List.getElem_toArray, List.getElem_cons_succ, List.getElem_cons_zero, Act.put, List.setIfInBounds_toArray, List.set_cons_zero, List.set_cons_succ]
        refine wpAnyM_take (i := 6) (v := ?_) rfl (by kernel_rfl) (by kernel_rfl) (by kernel_rfl) (by kernel_rfl) (fun _ _ _ h => h) (Or.inl ⟨by kernel_rfl, ?_⟩) hS ?_; rotate_left; (intro w hSw; obtain ⟨hS1, hS2, hS3⟩ := hSw; go_simp; try with_reducible rfl)
        try simp only [List.getElem_toArray, List.getElem_cons_succ, List.getElem_cons_zero, Act.put, List.setIfInBounds_toArray, List.set_cons_zero, List.set_cons_succ]
        refine wpAnyM_take (i := 7) (v := ?_) rfl (by kernel_rfl) (by kernel_rfl) (by kernel_rfl) (by kernel_rfl) (fun _ _ _ h => h) (Or.inl ⟨by kernel_rfl, ?_⟩) hS ?_; rotate_left; (intro w hSw; obtain ⟨hS1, hS2, hS3⟩ := hSw; go_simp; try with_reducible rfl)
        try simp only [List.getElem_toArray, List.getElem_cons_succ, List.getElem_cons_zero, Act.put, List.setIfInBounds_toArray, List.set_cons_zero, List.set_cons_succ]
        refine wpAnyM_take (i := 8) (v := ?_) rfl (by kernel_rfl) (by kernel_rfl) (by kernel_rfl) (by kernel_rfl) (fun _ _ _ h => h) (Or.inl ⟨by kernel_rfl, ?_⟩) hS ?_; rotate_left; (intro w hSw; obtain ⟨hS1, hS2, hS3⟩ := hSw; go_simp; try with_reducible rfl)
        try simp only [List.getElem_toArray, List.getElem_cons_succ, List.getElem_cons_zero, Act.put, List.setIfInBounds_toArray, List.set_cons_zero, List.set_cons_succ]
        refine wpAnyM_take (i := 9) (v := ?_) rfl (by kernel_rfl) (by kernel_rfl) (by kernel_rfl) (by kernel_rfl) (fun _ _ _ h => h) (Or.inl ⟨by kernel_rfl, ?_⟩) hS ?_; rotate_left; (intro w hSw; obtain ⟨hS1, hS2, hS3⟩ := hSw; go_simp; try with_reducible rfl)
        try simp only [List.getElem_toArray, List.getElem_cons_succ, List.getElem_cons_zero, Act.put, List.setIfInBounds_toArray, List.set_cons_zero, List.set_cons_succ]
        refine wpAnyM_call (i := 10) (v := (.int .i64 (ci : Int))) rfl rfl Try.func12 (by kernel_rfl) (by kernel_rfl) (by kernel_rfl) (by kernel_rfl) (by kernel_rfl) (by kernel_rfl) (fun _ _ _ h => h) (by kernel_rfl) (by kernel_rfl) (fun w hSw => (HP1.out _).mono fun e w' h => ⟨h.1, h.2.symm⟩) hS ?_
        try simp only [List.getElem_toArray, List.getElem_cons_succ, List.getElem_cons_zero, Act.put, List.setIfInBounds_toArray, List.set_cons_zero, List.set_cons_succ]
        refine wpAnyM_take (i := 11) (v := ?_) rfl (by kernel_rfl) (by kernel_rfl) (by kernel_rfl) (by kernel_rfl) (fun _ _ _ h => h) (Or.inl ⟨by kernel_rfl, ?_⟩) hS ?_; rotate_left; (intro w hSw; obtain ⟨hS1, hS2, hS3⟩ := hSw; go_simp; try with_reducible rfl)
        try simp only [List.getElem_toArray, List.getElem_cons_succ, List.getElem_cons_zero, Act.put, List.setIfInBounds_toArray, List.set_cons_zero, List.set_cons_succ]
        refine wpAnyM_take (i := 12) (v := ?_) rfl (by kernel_rfl) (by kernel_rfl) (by kernel_rfl) (by kernel_rfl) (fun _ _ _ h => h) (Or.inl ⟨by kernel_rfl, ?_⟩) hS ?_; rotate_left; (intro w hSw; obtain ⟨hS1, hS2, hS3⟩ := hSw; go_simp; try with_reducible rfl)
        try simp only [List.getElem_toArray, List.getElem_cons_succ, List.getElem_cons_zero, Act.put, List.setIfInBounds_toArray, List.set_cons_zero, List.set_cons_succ]
        refine wpAnyM_take (i := 13) (v := ?_) rfl (by kernel_rfl) (by kernel_rfl) (by kernel_rfl) (by kernel_rfl) (fun _ _ _ h => h) (Or.inl ⟨by kernel_rfl, ?_⟩) hS ?_; rotate_left; (intro w hSw; obtain ⟨hS1, hS2, hS3⟩ := hSw; go_simp; try with_reducible rfl)
        try simp only [List.getElem_toArray, List.getElem_cons_succ, List.getElem_cons_zero, Act.put, List.setIfInBounds_toArray, List.set_cons_zero, List.set_cons_succ]
        refine wpAnyM_take (i := 14) (v := ?_) rfl (by kernel_rfl) (by kernel_rfl) (by kernel_rfl) (by kernel_rfl) (fun _ _ _ h => h) (Or.inl ⟨by kernel_rfl, ?_⟩) hS ?_; rotate_left; (intro w hSw; obtain ⟨hS1, hS2, hS3⟩ := hSw; go_simp; try with_reducible rfl)
        try simp only [List.getElem_toArray, List.getElem_cons_succ, List.getElem_cons_zero, Act.put, List.setIfInBounds_toArray, List.set_cons_zero, List.set_cons_succ]
        refine wpAnyM_take (i := 15) (v := ?_) rfl (by kernel_rfl) (by kernel_rfl) (by kernel_rfl) (by kernel_rfl) (fun _ _ _ h => h) (Or.inl ⟨by kernel_rfl, ?_⟩) hS ?_; rotate_left; (intro w hSw; obtain ⟨hS1, hS2, hS3⟩ := hSw; go_simp; try with_reducible rfl)
        try simp only [List.getElem_toArray, List.getElem_cons_succ, List.getElem_cons_zero, Act.put, List.setIfInBounds_toArray, List.set_cons_zero, List.set_cons_succ]
        refine wpAnyM_call (i := 16) (v := (.int .i64 (di : Int))) rfl rfl Try.func12 (by kernel_rfl) (by kernel_rfl) (by kernel_rfl) (by kernel_rfl) (by kernel_rfl) (by kernel_rfl) (fun _ _ _ h => h) (by kernel_rfl) (by kernel_rfl) (fun w hSw => (HP2.out _).mono fun e w' h => ⟨h.1, h.2.symm⟩) hS ?_
        try simp only [List.getElem_toArray, List.getElem_cons_succ, List.getElem_cons_zero, Act.put, List.setIfInBounds_toArray, List.set_cons_zero, List.set_cons_succ]
        refine wpAnyM_take (i := 17) (v := ?_) rfl (by kernel_rfl) (by kernel_rfl) (by kernel_rfl) (by kernel_rfl) (fun _ _ _ h => h) (Or.inl ⟨by kernel_rfl, ?_⟩) hS ?_; rotate_left; (intro w hSw; obtain ⟨hS1, hS2, hS3⟩ := hSw; go_simp; try with_reducible rfl)
        try simp only [List.getElem_toArray, List.getElem_cons_succ, List.getElem_cons_zero, Act.put, List.setIfInBounds_toArray, List.set_cons_zero, List.set_cons_succ]
        refine wpAnyM_one (i := 18) (by kernel_rfl) rfl (fun KK hK => ?_)
        go_simp
        have hD := (Blk.new wr #[.bool false, .int .i64 0, .int .i64 0] 86).drew
        have hFD := ((Fr.refl [] wr).alloc (.cells #[.bool false, .int .i64 0, .int .i64 0] 86)).drew
        obtain ⟨g, hg⟩ : ∃ g, wr.heap.size = g := ⟨_, rfl⟩
        rw [hg] at hD ⊢
        have hgsz : w2.heap.size ≤ g := by rw [← hg]; exact hsz
        generalize (wr.alloc (.cells #[.bool false, .int .i64 0, .int .i64 0] 86)).drew = w3 at *
        have e3' := (hFD.cell (p := ⟨b0, off0 + i * 7 + 3, none⟩) hb0w (by simp)).trans e3
        have e4' := (hFD.cell (p := ⟨b0, off0 + i * 7 + 4, none⟩) hb0w (by simp)).trans e4
        have e5' := (hFD.cell (p := ⟨b0, off0 + i * 7 + 5, none⟩) hb0w (by simp)).trans e5
        have HD := Lib.hid hD; have HFD := Lib.hid hFD; have HG := Lib.hid hg
        have hS2 := And.intro e3' (And.intro e4' e5')
        clear hD hFD hg e3' e4' e5'
        (try dsimp only); refine hK.out _ _ (fun _ => hS2) (fun _ => ?_); clear hK KK hS; have hS := hS2
        have r0 := Blk.cell (i := 0) HD.out rfl
        have r1 := Blk.cell (i := 1) HD.out rfl
        have r2 := Blk.cell (i := 2) HD.out rfl
        have g0 := Blk.free HD.out 0
        have g1 := Blk.free HD.out 1
        have g2 := Blk.free HD.out 2
        simp only [List.getElem_toArray, List.getElem_cons_zero, List.getElem_cons_succ] at r0 r1 r2
        
        try simp only [List.getElem_toArray, List.getElem_cons_succ, List.getElem_cons_zero, Act.put, List.setIfInBounds_toArray, List.set_cons_zero, List.set_cons_succ]
        refine wpAnyM_one (i := 19) (by kernel_rfl) rfl (fun KK hK => ?_)
        go_simp
        refine hK.out _ _ (fun h => absurd h (by decide)) (fun _ => ?_); clear hK KK
        try simp only [List.getElem_toArray, List.getElem_cons_succ, List.getElem_cons_zero, Act.put, List.setIfInBounds_toArray, List.set_cons_zero, List.set_cons_succ]
        refine wpAnyM_done (by kernel_rfl) ?_ _
        try simp only [List.getElem_toArray, List.getElem_cons_succ, List.getElem_cons_zero, Act.put, List.setIfInBounds_toArray, List.set_cons_zero, List.set_cons_succ]
        clear hS
        have hR5 : Blk (((w3.setCell ⟨g, 0, none⟩ (.bool bi)).setCell ⟨g, 1, none⟩ (.int .i64 ci)).setCell ⟨g, 2, none⟩ (.int .i64 di)) g #[.bool bi, .int .i64 ci, .int .i64 di] 86 := (((HD.out.set 0 (.bool bi)).set 1 (.int .i64 ci)).set 2 (.int .i64 di)).eq (by simp)
        have hF5 : Fr [g] w3 (((w3.setCell ⟨g, 0, none⟩ (.bool bi)).setCell ⟨g, 1, none⟩ (.int .i64 ci)).setCell ⟨g, 2, none⟩ (.int .i64 di)) := (((Fr.refl [g] w3).setCell (p := ⟨g, 0, none⟩) (.inl (by simp)) _).setCell (p := ⟨g, 1, none⟩) (.inl (by simp)) _).setCell (p := ⟨g, 2, none⟩) (.inl (by simp)) _
        clear r0 r1 r2 g0 g1 g2 e3 e4 e5 hS2
        generalize ((w3.setCell ⟨g, 0, none⟩ (.bool bi)).setCell ⟨g, 1, none⟩ (.int .i64 ci)).setCell ⟨g, 2, none⟩ (.int .i64 di) = w5 at *
        have hFr5 : Fr [g] wr w5 := (HFD.out.mono (S' := [g]) (by simp)).trans hF5 (fun x hx => .inl hx)
        have hgA : g ≠ A := by omega
        have hgb : g ≠ b := by omega
        have hfown : ∀ y, u4.ownBlock = some y → y ≠ g := fun y hy => by have := own_lt HFO.out hy; have := HG.out; omega
        have hfo5 := own_keep HFO.out hFr5 (fun y hy hx => by simp at hx; exact hfown y hy hx)
        have hA5 := hFr5.blk HA2.out (by simp; omega)
        have hN5 := hFr5.blk HN.out (by simp; omega)
        have hF5' := HF.out.trans hFr5 (fun x hx => .inr (by simp at hx; omega))
        have hs5 := hFr5.size
        have HFO5 := Lib.hid hfo5; have HA5 := Lib.hid hA5; have HN5 := Lib.hid hN5; have HF5 := Lib.hid hF5'; have HR5 := Lib.hid hR5
        have r0 := Blk.cell (i := 0) hR5 rfl
        have r1 := Blk.cell (i := 1) hR5 rfl
        have r2 := Blk.cell (i := 2) hR5 rfl
        simp only [List.getElem_toArray, List.getElem_cons_zero, List.getElem_cons_succ] at r0 r1 r2
        have HOWNG := Lib.hid hfown
        clear hfo5 hA5 hN5 hF5' hR5 hF5 hFr5 hfown HFO HA2 HN HF HD HFD HG
        go_upto_region 12 with (fail)
        apply wp_region_lit
        iterate 3 (refine wpList_plain rfl (fun K hK => ?_); go_simp; refine hK _ _ ?_; clear hK K)
        have hnb := Blk.new w5 #[.bool bi, .int .i64 ci, .int .i64 di] 86
        have hF6 := (Fr.refl [] w5).alloc (.cells #[.bool bi, .int .i64 ci, .int .i64 di] 86)
        obtain ⟨gn, hgn⟩ : ∃ gn, w5.heap.size = gn := ⟨_, rfl⟩
        rw [hgn] at hnb ⊢
        clear r0 r1 r2
        generalize w5.alloc (.cells #[.bool bi, .int .i64 ci, .int .i64 di] 86) = w6 at *
        obtain ⟨hi0, hz0, hz1, hz2⟩ := HI.out
        have hfo6 := own_fr (S := []) HFO5.out hF6 (by simp)
        have hsz6 := hF6.size
        obtain ⟨oa, oc, rfl, -⟩ := own_val hfo6
        refine wpList_append_src _ rfl (Operand.tmp 47) (Operand.tmp 49) 68 rfl w2.heap.size 86 i0 _ 3 24 Try.underlying68 hi0 hz0 hz1 hz2 rfl (by decide) (.slice oa i oc) (.slice (some ⟨gn, 0, none⟩) 1 1) i 1 (faC (faL dr cp dl i)) [.bool bi, .int .i64 ci, .int .i64 di] rfl (by kernel_rfl) hfo6 (src_blk hnb (by simp) (by simp [Value.oneCell']) 1) (by unfold maxLen; omega) (by omega) (by omega) ?_
        intro v9 w9 ho9 hg9 hat9
        have hfg := fr_grown hg9
        have hA9 := hfg.blk (hF6.blk HA5.out (by simp)) (fun hx => by simp only [Option.mem_toList] at hx; have := own_base hfo6 hx; omega)
        have hN9 := hfg.blk (hF6.blk HN5.out (by simp)) (fun hx => by simp only [Option.mem_toList] at hx; have := own_base hfo6 hx; omega)
        have hR9 := hfg.blk (hF6.blk HR5.out (by simp)) (fun hx => by
          simp only [Option.mem_toList] at hx
          exact HOWNG.out g hx rfl)
        have hF9 := (HF5.out.trans hF6 (by simp)).trans hfg (fun x hx => .inr (by simp only [Option.mem_toList] at hx; have := own_base hfo6 hx; omega))
        have hs9 := hfg.size
        have e9 : faC (faL dr cp dl i) ++ [.bool bi, .int .i64 ci, .int .i64 di] = faC (faL dr cp dl (i + 1)) := by rw [faL_succ, HBI.out, HCI.out, HDI.out]
        rw [e9] at ho9
        have HFO9 := Lib.hid ho9; have HN9 := Lib.hid hN9; have HF9 := Lib.hid hF9
        have dA := Blk.cell (i := i) hA9 (ints_get _ hA60)
        have fA := Blk.free hA9 i
        have r0 := Blk.cell (i := 0) hR9 rfl
        have r1 := Blk.cell (i := 1) hR9 rfl
        have r2 := Blk.cell (i := 2) hR9 rfl
        simp only [List.getElem_toArray, List.getElem_cons_zero, List.getElem_cons_succ] at r0 r1 r2
        have HA9 := Lib.hid hA9; have HR9 := Lib.hid hR9
        clear hnb hF6 hfo6 hfg hA9 hN9 hR9 hF9 ho9 hg9 hat9 hi0 hz0 hz1 hz2 e9
        have hI60 : (i : Int) < 60 := by omega
        go_upto_region 14 with (fail)
        have hA10 := HA9.out.set i (.int .i64 ((i : Int) + 1 + di))
        rw [ints_set] at hA10
        have hF10' := (Fr.refl [A] w9).setCell (p := ⟨A, i, none⟩) (.inl (by simp)) (.int .i64 ((i : Int) + 1 + di))
        have hfo10 := own_keep HFO9.out hF10' (fun y hy hx => by simp at hx; have := own_base HFO9.out hy; omega)
        have hN10 := hF10'.blk HN9.out (by simp; omega)
        have hR10 := hF10'.blk HR9.out (by simp; omega)
        have hF10 := HF9.out.trans hF10' (fun x hx => .inr (by simp at hx; omega))
        have hs10 := hF10'.size
        clear dA fA r0 r1 r2
        generalize w9.setCell ⟨A, i, none⟩ (.int .i64 ((i : Int) + 1 + di)) = w10 at *
        have r0 := Blk.cell (i := 0) hR10 rfl
        have r1 := Blk.cell (i := 1) hR10 rfl
        simp only [List.getElem_toArray, List.getElem_cons_zero, List.getElem_cons_succ] at r0 r1
        have hA11 : Blk w10 A (ints 60 (fun t => if t < i + 1 then ((t + 1 + dl t : Nat) : Int) else 0)) 82 := hA10.eq (ints_congr fun t _ => by
          by_cases c : t = i
          · subst c; rw [if_pos rfl, if_pos (by omega), HDI.out]; omega
          · rw [if_neg c]
            by_cases c2 : t < i
            · rw [if_pos c2, if_pos (by omega)]
            · rw [if_neg c2, if_neg (by omega)])
        have HA11 := Lib.hid hA11; have HFO10 := Lib.hid hfo10; have HN10 := Lib.hid hN10; have HF10 := Lib.hid hF10
        have hwk : wK dr cp (i + 1) = wK dr cp i + cK dr cp i := rfl
        have hwb := wK_le (dr := dr) HC2.out i
        have HWK := Lib.hid hwk
        obtain ⟨wi, hwi⟩ : ∃ wi, wK dr cp i = wi := ⟨_, rfl⟩
        rw [hwi] at hwb HWK ⊢
        have HWI := Lib.hid hwi
        clear hA10 hF10' hfo10 hN10 hR10 hF10 hA11 hwk hwi HFO9 HN9 HF9 HA9 HR9
        cases bi with
        | true =>
          go_wp2_with fail
          go_roundw
          case rel =>
            refine ⟨i + 1, by omega, by go_num, ?_, HFO10.out, HA11.out, HN10.out, HF10.out, by omega⟩
            rw [HWK.out]; unfold cK; rw [HBI.out]; rfl
          case measure => simp [intOf]; omega
        | false =>
          go_wp2_with fail
          go_roundw
          case rel =>
            refine ⟨i + 1, by omega, by go_num, ?_, HFO10.out, HA11.out, HN10.out, HF10.out, by omega⟩
            rw [HWK.out]; unfold cK; rw [HBI.out, HCI.out]; go_num
          case measure => simp [intOf]; omega
      · obtain rfl : i = k := by omega
        have q1 : decide ((i : Int) < (i : Int)) = false := by simp
        obtain ⟨ma, mc, rfl, hmc1, hmc2⟩ := own_val hfo
        have hob := fun g hg => own_base (g := g) hfo hg
        have hol := fun g hg => own_lt (g := g) hfo hg
        have hN0 := HasN.empty W (K := (Value.slice ma i mc).ownBlock.toList ++ [A]) hN (fun hx => by
          rcases List.mem_append.1 hx with hx | hx
          · simp only [Option.mem_toList] at hx; have := hob _ hx; omega
          · simp at hx; omega) (by have := HB.out; omega) (fun g hx => by
          rcases List.mem_append.1 hx with hx | hx
          · simp only [Option.mem_toList] at hx; exact hol _ hx
          · simp at hx; subst hx; exact hA.lt) hF
        obtain ⟨K3, hK3⟩ : ∃ K3, (Value.slice ma i mc).ownBlock.toList ++ [A] = K3 := ⟨_, rfl⟩
        rw [hK3] at hN0
        have HIN := Lib.hid (show A ∈ K3 ∧ (∀ g, (Value.slice ma i mc).ownBlock = some g → g ∈ K3) from by
          rw [← hK3]
          exact ⟨List.mem_append_right _ (by simp), fun g hg => List.mem_append_left _ (by simp only [Option.mem_toList]; exact hg)⟩)
        have HSRC := Lib.hid (own_src hfo (faC_one _)); have HOL := Lib.hid hol
        have HFO := Lib.hid hfo; have HA := Lib.hid hA; have HN := Lib.hid hN0
        clear hfo hA hN hF hob hol hN0 hK3
        go_wp2_with fail
        refine (hfates (l := faL dr cp dl i) HN.out HSRC.out (faL_len _ _ _ _) hmc1 hmc2 HOL.out).mono ?_; rintro e w3 ⟨rfl, hN3, hk3⟩
        have e3 : fatesS ⟨[], [], 0⟩ (faL dr cp dl i) = ⟨faL dr cp dl i, [], 0⟩ := by
          show NetV.mk ([] ++ List.take (1000 - 0) (faL dr cp dl i)) [] 0 = _
          rw [List.take_of_length_le (by rw [faL_len]; omega)]; rfl
        rw [e3] at hN3
        have HN3 := Lib.hid hN3; have HFO3 := Lib.hid (hk3.own HFO.out HIN.out.2); have HA3 := Lib.hid (hk3.blk HIN.out.1 HA.out)
        clear hN3 hk3 e3 HN HFO HA HSRC HOL
        go_wp2_with fail
        go_loopw [10] (fun nv wr => ∃ (n : Nat) (s : NetV), n ≤ i ∧ nv = .int .i64 n ∧ HasN W K3 wr b s ∧ KS dr cp dl s i n ∧ Kp K3 w3 wr) (fun nv _ => i - (intOf nv).toNat)
        case atStart => exact ⟨0, _, by omega, rfl, HN3.out, ⟨by unfold faL; simp, rfl, by simp⟩, Kp.refl _ _⟩
        case round =>
          obtain ⟨n, s, hn, rfl, hN, hks, hkp⟩ := hrel
          have HN := Lib.hid hN; have HKS := Lib.hid hks; have HKP := Lib.hid hkp
          clear hN hks hkp HN3
          by_cases hni : n < i
          · have q2 : (n : Int) < i := by omega
            go_wp2_with fail
            refine (one_any (n : Int) _).mono ?_; rintro e w7 ⟨a, rfl, hbv, hFo⟩
            have hN7 := HN.out.fr0 hFo
            rw [IntWalk.wrap64_in ((n : Int) + 1) (by omega)]
            have HN7 := Lib.hid hN7; have HBV := Lib.hid hbv
            clear hFo hbv hN7
            go_wp2_with fail
            refine (hsend (src := (n : Int)) (dst := (n : Int) + 1) (tick := (n : Int)) HN7.out.1 HBV.out (by simp) (by have := HKS.out.lost; omega)).mono ?_; rintro e w8 ⟨rfl, hN8, hk8⟩
            rw [byt_bytN] at hN8
            have HN8 := Lib.hid hN8; have HK8 := Lib.hid ((HKP.out.trans HN7.out.2).trans hk8); have HKS8 := Lib.hid (HKS.out.send hni hk60 HC2.out HD2.out)
            clear hN8 hk8 HN7 HBV HN HKS HKP
            go_wp2_with fail
            go_roundw
            case rel => exact ⟨n + 1, _, by omega, by go_num, HN8.out, HKS8.out, HK8.out⟩
            case measure => simp [intOf]; omega
          · obtain rfl : n = i := by omega
            have q2 : decide ((n : Int) < (n : Int)) = false := by simp
            have hks := HKS.out
            have hflen : s.fl.length = wK dr cp n := by rw [hks.fl, FLK_len]
            have hfal : s.fa.length = 0 := by rw [hks.fa]; simp
            have hfl := hflight HN.out
            rw [hflen] at hfl
            have hle := hleft HN.out
            rw [hfal] at hle
            have HFL := Lib.hid hfl; have HLE := Lib.hid hle
            obtain ⟨L, hL⟩ : ∃ L, FLK dr cp dl n = L := ⟨_, rfl⟩
            have hds : DS L s 0 := ⟨by rw [hks.fl, hL]; exact (List.filter_eq_self.2 (fun x _ => by simp)).symm⟩
            have HDS := Lib.hid hds; have HL := Lib.hid hL
            have hwb := wK_le (dr := dr) HC2.out n
            have hLl : L.length ≤ 180 := by rw [← hL, FLK_len]; omega
            clear hks hflen hfal hfl hle hds hL HKS
            have hz : ∀ w, (zeroValue 82).run Try.prog w = .ok (.agg (ints 60 (fun _ => 0))) w := fun _ => by kernel_rfl
            go_wp2_with fail
            refine HFL.out.mono ?_; rintro e w' ⟨rfl, rfl⟩
            go_wp2_with fail
            refine HLE.out.mono ?_; rintro e w' ⟨rfl, rfl⟩
            go_upto_region 24 with (fail)
            have hC := Blk.new wr (ints 60 (fun _ => 0)) 82
            have hFC := (Fr.refl [] wr).alloc (.cells (ints 60 (fun _ => 0)) 82)
            have hCK : wr.heap.size ∉ K3 := fun hx => by have := HN.out.hK _ hx; omega
            have hCW : W.heap.size ≤ wr.heap.size := HN.out.fr.size
            obtain ⟨C, hCe⟩ : ∃ C, wr.heap.size = C := ⟨_, rfl⟩
            rw [hCe] at hC hCK hCW ⊢
            generalize wr.alloc (.cells (ints 60 (fun _ => 0)) 82) = w4 at *
            have hN4 := HN.out.fr0 hFC
            have HN4 := Lib.hid (hN4.1.addBlk hC (by decide) (by decide) (by decide)); have HKP4 := Lib.hid (HKP.out.trans hN4.2); have HC := Lib.hid hC
            clear hC hFC hN4 HN HKP hz hCe HFL HLE
            go_wp2_with fail
            go_loopw [12, 13, 14, 15, 16] (fun tv _ _ _ _ wr => ∃ (t : Nat) (s : NetV), t ≤ 90 ∧ tv = .int .i64 t ∧ HasN W (C :: K3) wr b s ∧ DS L s t ∧ Blk wr C (ints 60 (fun i => ((camK L t i : Nat) : Int))) 82 ∧ Kp K3 w3 wr) (fun tv _ _ _ _ _ => 90 - (intOf tv).toNat)
            case atStart => exact ⟨0, s, by omega, rfl, HN4.out, HDS.out, HC.out.eq (ints_congr fun i _ => by rw [camK_zero]; rfl), HKP4.out⟩
            case round =>
              obtain ⟨t, s, ht, rfl, hN, hds, hC, hkp⟩ := hrel
              have HN := Lib.hid hN; have HDS := Lib.hid hds; have HC := Lib.hid hC; have HKP := Lib.hid hkp
              clear hN hds hC hkp HN4 HKP4
              by_cases ht9 : t < 90
              · have q3 : (t : Int) < 90 := by omega
                go_wp2_with fail
                refine (hdeliver HN.out (t : Int)).mono ?_; rintro e w5 ⟨ov, rfl, hN5, hD5, hk5⟩
                have hdel := HDS.out.deliver (t := t) (by omega)
                rw [hdel.1] at hD5
                have hds5 := hdel.2
                obtain ⟨s5, hs5⟩ : ∃ s5, (deliverS s (t : Int)).2 = s5 := ⟨_, rfl⟩
                rw [hs5] at hN5 hds5
                have hC5 := hk5.blk (List.mem_cons_self ..) HC.out
                have hkp5 := HKP.out.trans (⟨fun g hg => hk5.at' g (List.mem_cons_of_mem _ hg), hk5.u8, hk5.size⟩ : Kp K3 wr w5)
                obtain ⟨la, lc, rfl⟩ := hD5.val
                obtain ⟨m, hm⟩ : ∃ m, (outK L t).length = m := ⟨_, rfl⟩
                rw [hm] at hD5 ⊢
                obtain ⟨base, hbs⟩ : ∃ base, wr.heap.size = base := ⟨_, rfl⟩
                rw [hbs] at hD5
                have hCB : C < base := by rw [← hbs]; exact HC.out.lt
                have HN5 := Lib.hid hN5; have HD5 := Lib.hid hD5; have HDS5 := Lib.hid hds5; have HC5 := Lib.hid hC5; have HKP5 := Lib.hid hkp5; have HM := Lib.hid hm
                have hml : m ≤ 180 := by rw [← hm]; exact Nat.le_trans (List.length_filter_le _ _) hLl
                clear hN5 hD5 hk5 hdel hds5 hs5 hC5 hkp5 hm hbs HN HDS HC HKP
                go_wp2_with fail
                have HMEM := Lib.hid (show ∀ x, x ∈ outK L t → ∃ d, d < n ∧ x = xK dl d ∧ d + 1 + dl d = t from fun x hx => by
                  unfold outK at hx
                  obtain ⟨h1, h2⟩ := List.mem_filter.1 hx
                  rw [← HL.out] at h1
                  obtain ⟨d, hd, rfl⟩ := FLK_mem h1
                  exact ⟨d, hd, rfl, of_decide_eq_true h2⟩)
                have HPAIR := Lib.hid (show (outK L t).Pairwise (fun x y => x.src ≤ y.src) from by unfold outK; rw [← HL.out]; exact (FLK_pair n).filter _)
                go_loopw [13, 15, 16, 92] (fun lv _ _ xv wr => ∃ (j : Nat) (last : Int), j ≤ m ∧ lv = .int .i64 last ∧ xv = .int .i64 j ∧ (∀ x, (outK L t)[j]? = some x → last ≤ x.src) ∧ HasN W (C :: K3) wr b s5 ∧ DgR wr base (.slice la m lc) (outK L t) ∧ Blk wr C (ints 60 (fun i => ((camJ L t j i : Nat) : Int))) 82 ∧ Kp K3 w3 wr) (fun _ _ _ xv _ => m - (intOf xv).toNat)
                case atStart =>
                  refine ⟨0, -1, by omega, rfl, rfl, fun x hx => ?_, HN5.out, HD5.out, HC5.out.eq (ints_congr fun i _ => by rw [camJ_zero]), HKP5.out⟩
                  obtain ⟨d, -, rfl, -⟩ := HMEM.out x (List.mem_of_getElem? hx)
                  show (-1 : Int) ≤ ((d : Nat) : Int); omega
                case round =>
                  obtain ⟨j, last, hj, rfl, rfl, hlast, hN, hD, hC, hkp⟩ := hrel
                  clear HN5 HD5 HC5 HKP5
                  by_cases hjm : j < m
                  · have q4 : (j : Int) < m := by omega
                    have hx := List.getElem?_eq_getElem (show j < (outK L t).length by rw [HM.out]; exact hjm)
                    obtain ⟨x, hxe⟩ : ∃ x, (outK L t)[j]'(by rw [HM.out]; exact hjm) = x := ⟨_, rfl⟩
                    rw [hxe] at hx
                    obtain ⟨d, hdn, rfl, hdt⟩ := HMEM.out x (List.mem_of_getElem? hx)
                    obtain ⟨g, cap, a5, c5, hv, hc1, hc2', d0, d1, d2, hbv⟩ := hD.at hx
                    rw [HM.out] at hv hc1
                    cases hv
                    have HOWN := Lib.hid (own_base (g := g) hD.choose_spec.1 rfl)
                    change wr.cell? ⟨g, j * 3, none⟩ = some (.int .i64 (d : Int)) at d0
                    change wr.cell? ⟨g, j * 3 + 1, none⟩ = some (.int .i64 ((d : Int) + 1)) at d1
                    change wr.cell? ⟨g, j * 3 + 2, none⟩ = some (.slice a5 1 c5) at d2
                    have HBV := Lib.hid (show BV wr a5 1 c5 [byt (d : Int)] from hbv); have HDT := Lib.hid (show ((d + 1 + dl d : Nat) : Int) = (t : Int) by rw [hdt])
                    have hld : last ≤ d := hlast _ hx
                    have q5 : decide ((d : Int) < 0) = false := by simp
                    have q6 : decide ((n : Int) ≤ d) = false := by simp; omega
                    have q7 : decide ((d : Int) < last) = false := by simp; omega
                    have q8 : (d : Int) < 60 := by omega
                    have q9 : d < 60 := by omega
                    have dA : wr.cell? ⟨A, d, none⟩ = some (.int .i64 (t : Int)) := by
                      have := Blk.cell (i := d) (hkp.blk HIN.out.1 HA3.out) (ints_get _ (by omega))
                      rw [if_pos hdn, hdt] at this; exact this
                    have HNX := Lib.hid (show ∀ x, (outK L t)[j + 1]? = some x → (d : Int) ≤ x.src from fun x hx2 => by
                      have h1 := (List.getElem?_eq_some_iff.1 hx).1
                      have h2 := (List.getElem?_eq_some_iff.1 hx2).1
                      have := List.pairwise_iff_getElem.1 HPAIR.out j (j + 1) h1 h2 (by omega)
                      rw [(List.getElem?_eq_some_iff.1 hx).2, (List.getElem?_eq_some_iff.1 hx2).2] at this
                      exact this)
                    have HSTEP := Lib.hid (camJ_step hx)
                    obtain ⟨cj, hcj⟩ : ∃ cj, camJ L t j d = cj := ⟨_, rfl⟩
                    have hcb : cj ≤ 360 := by have := camJ_le L t j d; omega
                    have HCJ := Lib.hid hcj; have HN := Lib.hid hN; have HD := Lib.hid hD; have HC := Lib.hid hC; have HKP := Lib.hid hkp
                    clear hx hxe hdt hbv hlast hld hcj hN hD hC hkp
                    go_wp2_with fail
                    refine (is_yes (n := (d : Int)) (m := (d : Int) + 1) rfl HBV.out (by omega) (by omega)).mono ?_; rintro e w6 ⟨rfl, hF6⟩
                    have hN6 := HN.out.fr0 hF6
                    have hD6 := HD.out.fr hF6 (by simp) (NoU8.nil _)
                    have hC6 := hF6.blk HC.out (by simp)
                    have hdA6 : w6.cell? ⟨A, d, none⟩ = some (.int .i64 (t : Int)) := by
                      have := Blk.cell (i := d) ((HKP.out.trans ⟨fun g hg => hN6.2.at' g (List.mem_cons_of_mem _ hg), hN6.2.u8, hN6.2.size⟩).blk HIN.out.1 HA3.out) (ints_get _ (by omega))
                      rw [if_pos hdn, HDT.out] at this; exact this
                    have dC := Blk.cell (i := d) hC6 (ints_get _ q9)
                    rw [HCJ.out] at dC
                    have fC := Blk.free hC6 d
                    have HN6 := Lib.hid hN6.1; have HD6 := Lib.hid hD6; have HC6 := Lib.hid hC6
                    have HKP6 := Lib.hid (HKP.out.trans (⟨fun g hg => hN6.2.at' g (List.mem_cons_of_mem _ hg), hN6.2.u8, hN6.2.size⟩ : Kp K3 wr w6))
                    clear hF6 hN6 hD6 hC6 HN HD HC HKP d0 d1 d2 dA HBV
                    go_upto_region 37 with (fail)
                    have hC7 := HC6.out.set d (.int .i64 ((cj : Int) + 1))
                    rw [ints_set] at hC7
                    have hF7 := (Fr.refl [C] w6).setCell (p := ⟨C, d, none⟩) (.inl (by simp)) (.int .i64 ((cj : Int) + 1))
                    have hu7 : NoU8 w6 [C] := NoU8.cons HC6.out (by decide) (NoU8.nil _)
                    have hN7 := HN6.out.frK hF7 (fun x hx => by simp at hx; subst hx; exact List.mem_cons_self ..) (fun x hx => by simp at hx; subst hx; exact hCW) hu7
                    have hD7 := HD6.out.fr hF7 (fun y hy hx => by simp [Value.ownBlock] at hy; simp at hx; have := HOWN.out; omega) hu7
                    have hk7 := HKP6.out.trans (Kp.of_fr hF7 (fun y hy => HN6.out.hK y (List.mem_cons_of_mem _ hy)) (fun y hy hx => by simp at hx; subst hx; exact hCK hy) hu7)
                    clear dC fC hdA6
                    generalize w6.setCell ⟨C, d, none⟩ (.int .i64 ((cj : Int) + 1)) = w7 at *
                    have hC8 : Blk w7 C (ints 60 (fun i => ((camJ L t (j + 1) i : Nat) : Int))) 82 := hC7.eq (ints_congr fun i _ => by
                      rw [HSTEP.out i]
                      by_cases c : i = d
                      · subst c; rw [if_pos rfl, if_pos (show (xK dl i).src = ((i : Nat) : Int) from rfl), HCJ.out]; omega
                      · rw [if_neg c, if_neg (fun h => c (by have : ((d : Nat) : Int) = ((i : Nat) : Int) := h; omega))]; omega)
                    have HN7 := Lib.hid hN7; have HD7 := Lib.hid hD7; have HC8 := Lib.hid hC8; have HK7 := Lib.hid hk7
                    clear hC7 hF7 hu7 hN7 hD7 hk7 hC8 HN6 HD6 HC6 HKP6 HSTEP HCJ
                    go_wp2_with fail
                    go_roundw
                    case rel => exact ⟨j + 1, (d : Int), by omega, by go_num, by go_num, HNX.out, HN7.out, HD7.out, HC8.out, HK7.out⟩
                    case measure => simp [intOf]; omega
                  · obtain rfl : j = m := by omega
                    have q4 : decide ((j : Int) < (j : Int)) = false := by simp
                    have hC' : Blk wr C (ints 60 (fun i => ((camK L (t + 1) i : Nat) : Int))) 82 := hC.eq (ints_congr fun i _ => by rw [← HM.out, camJ_end])
                    have HN := Lib.hid hN; have HC := Lib.hid hC'; have HKP := Lib.hid hkp
                    clear hlast hN hD hC hC' hkp
                    go_wp2_with fail
                    go_roundw
                    case rel => exact ⟨t + 1, s5, by omega, by go_num, HN.out, HDS5.out, HC.out, HKP.out⟩
                    case measure => simp [intOf]; omega
              · have htt : t = 90 := by omega
                have q3 : decide ((t : Int) < 90) = false := by simp; omega
                have hdue : ∀ x ∈ L, x.due < t := fun x hx => by
                  rw [← HL.out] at hx
                  obtain ⟨d, hd, rfl⟩ := FLK_mem hx
                  have := HD2.out d
                  show d + 1 + dl d < t; omega
                have hnone := HDS.out.none hdue
                have hfl := hflight HN.out
                rw [hnone] at hfl
                simp only [List.length_nil, Int.natCast_zero] at hfl
                have hC' : Blk wr C (ints 60 (fun i => ((if i < n then cK dr cp i else 0 : Nat) : Int))) 82 := HC.out.eq (ints_congr fun i _ => by rw [camK_end hdue, ← HL.out, FLK_count])
                have HFL := Lib.hid hfl; have HC' := Lib.hid hC'; have HFO := Lib.hid (HKP.out.own HFO3.out HIN.out.2)
                have HBEL := Lib.hid HN.out.fr
                clear ht9 htt hdue hnone hfl hC' HC HDS HN HKP
                go_wp2_with fail
                go_loopw [17, 18] (fun iv _ wx => ∃ i : Nat, i ≤ n ∧ iv = .int .i64 i ∧ wr = wx) (fun iv _ _ => n - (intOf iv).toNat)
                case atStart => exact ⟨0, by omega, rfl, rfl⟩
                case round =>
                  obtain ⟨i, hi2, rfl, hw⟩ := hrel
                  subst hw
                  by_cases hin : i < n
                  · have q4 : (i : Int) < n := by omega
                    obtain ⟨g, cap, hge, hgo, hcp1, hcp2⟩ := own_form HFO.out (by omega)
                    cases hge
                    have hown := HFO.out
                    have d0 : wr.cell? ⟨g, i * 3, none⟩ = some (.bool (dr i)) := by
                      rw [hown.cellAt _ (by omega)]
                      have := faC_get (faL_get (dr := dr) (cp := cp) (dl := dl) hin) (j := 0) (by decide)
                      rw [Nat.add_zero] at this; exact this
                    have d1 : wr.cell? ⟨g, i * 3 + 1, none⟩ = some (.int .i64 (cp i : Nat)) := by
                      rw [hown.cellAt _ (by omega)]
                      exact faC_get (faL_get (dr := dr) (cp := cp) (dl := dl) hin) (j := 1) (by decide)
                    have dC := Blk.cell (i := i) HC'.out (ints_get _ (by omega))
                    rw [if_pos hin] at dC
                    have q5 : (i : Int) < 60 := by omega
                    have hc2 := HC2.out i
                    unfold cK at dC
                    obtain ⟨bi, hbi⟩ : ∃ bi, dr i = bi := ⟨_, rfl⟩
                    obtain ⟨ci, hci⟩ : ∃ ci, cp i = ci := ⟨_, rfl⟩
                    rw [hbi] at d0 dC
                    rw [hci] at d1 dC hc2
                    clear hbi hci hown
                    cases bi with
                    | true =>
                      rw [if_pos rfl] at dC
                      change wr.cell? ⟨C, i, none⟩ = some (.int .i64 0) at dC
                      go_wp2_with fail
                      go_roundw
                      case rel => exact ⟨i + 1, by omega, by go_num, by trivial⟩
                      case measure => simp [intOf]; omega
                    | false =>
                      rw [if_neg (by decide)] at dC
                      have dC : wr.cell? ⟨C, i, none⟩ = some (.int .i64 (1 + (ci : Int))) := by rw [dC]; congr 2
                      go_wp2_with fail
                      go_roundw
                      case rel => exact ⟨i + 1, by omega, by go_num, by trivial⟩
                      case measure => simp [intOf]; omega
                  · obtain rfl : i = n := by omega
                    have q4 : decide ((i : Int) < (i : Int)) = false := by simp
                    go_wp2_with fail
                    refine HFL.out.mono ?_; rintro e w' ⟨rfl, rfl⟩
                    go_wp2_with fail
                    go_ret
                    exact ⟨rfl, HBEL.out.below (Nat.le_refl _) (by simp)⟩
end Go.Proofs.Ytkjjikjilmngdaa.Nt
