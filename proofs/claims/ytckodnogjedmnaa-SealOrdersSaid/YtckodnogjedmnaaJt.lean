/- chapter 22: rows in any order: what the buffer's functions do. -/
import Derived.Test.YtckodnogjedmnaaHand
import Derived.Test.YtckodnogjedmnaaMp
import Derived.Test.YtckodnogjedmnaaCl
import Derived.Deep.QuietTactic
import Derived.BigQuiet
import Derived.IntWalk
import Derived.Deep.Cut
import Derived.OwnWalk
import Derived.Laws.MakeOwn
namespace Go.Proofs.Ytckodnogjedmnaa.Jt
open Go.RowKit Dt Go.Proofs.Ytckodnogjedmnaa.Hd
set_option linter.unusedVariables false
set_option linter.unusedSimpArgs false

theorem infC : (Try.prog.info? 66).map (fun i => (i.zero, i.size, i.bytes)) = some (some (.agg #[.bool false, .int .i64 0, .int .i64 0, .int .i64 0]), 4, 32) := by kernel_rfl
theorem mapTy : Try.prog.underlying 33 = some (.map 3 26) := Try.underlying33
theorem zeroRow (w : World) : (zeroValue 26).run Try.prog w = .ok (.slice none 0 0) w := by kernel_rfl
theorem clone_cells {w : World} {base n : Nat} {v : Value} {R : Nat → C4} (h : RS w base v n R) (hn : n ≤ 4000000000000) :
    Calls Try.prog 39 #[v] w fun e w' => ∃ v, e = .returned v ∧ RS w' w.heap.size v n R ∧ Fr [] w w' := by
  have qT : ∀ (w : World) (a : Option Addr) (n c n' c' : Nat), (binOp .eql 26 (.slice a n c) (.slice none n' c')).run Try.prog w = .ok (.bool a.isNone) w := fun w a n c n' c' => Lib.run_eql_slice_nil w _ _ a n c n' c' Try.underlying26
  obtain ⟨i0, hi0, hz0, hz1, hz2⟩ := info_parts infC
  have hsrc := h.src
  have HH := Lib.hid h
  obtain ⟨a, cap, rfl, h0, h1, h2, h3⟩ := h
  clear h3
  cases a with
  | none =>
    have hc0 : cap = 0 := h2 rfl
    have : n = 0 := by omega
    subst this
    subst hc0
    clear hsrc
    go_enter Try.func39, Try.ntmps39
    go_wp2
    go_ret
    exact ⟨_, rfl, RS.nil _ _ _, Fr.refl _ _⟩
  | some ad =>
    clear h2 hsrc
    go_enter Try.func39, Try.ntmps39
    go_upto_region 3 with (fail)
    apply wp_region_lit
    iterate 2 (refine wpList_plain rfl (fun K hK => ?_); go_simp; refine hK _ _ ?_; clear hK K)
    have hblk := Blk.new w #[] 66
    have hF := (Fr.refl [] w).alloc (.cells #[] 66)
    have hls := (HH.out.fr hF (by simp)).src
    refine wpList_append_src _ rfl (Operand.tmp 5) (Operand.tmp 6) 26 rfl w.heap.size 66 i0 _ 4 32 Try.underlying26 hi0 hz0 hz1 hz2 rfl (by decide) _ _ 0 n [] (rc R n) rfl rfl (own_empty hblk (Nat.le_refl _)) hls (by unfold maxLen; omega) (by omega) (by simp) ?_
    intro v1 w1 hown1 hg1 _
    have hF1 := fr_own hF (own_empty (sz := 4) (base := w.heap.size) hblk (Nat.le_refl _)) hg1 (Nat.le_refl _)
    simp only [Nat.zero_add, List.nil_append] at hown1
    clear hg1 hblk hls
    go_wp2_with fail
    go_ret
    exact ⟨_, rfl, RS.of_own hown1, hF1⟩
/-- the row that a number tells -/
def oneR (n : Int) (t : Nat) : C4 := (true, wrap64 (n + t) % 256, 0, 0)
def oneTo (n : Int) (k t : Nat) : C4 := if t < k then oneR n t else c0
set_option maxRecDepth 100000 in
set_option maxHeartbeats 1600000 in
theorem one_any {w : World} {p : Nat} {n : Int} (hp : p ≤ 1000) : Calls Try.prog 14 #[.int .i64 p, .int .i64 n] w fun e w' => ∃ v, e = .returned v ∧ RS w' w.heap.size v p (oneR n) ∧ Fr [] w w' := by
  obtain ⟨i0, hi0, hz0, hz1, hz2⟩ := info_parts infC
  have hmk : ∀ w : World, (Instr.makeSlice 26 (.int .i64 (p : Int)) (.int .i64 (p : Int))).run Try.prog w = .ok (.slice (some ⟨w.heap.size, 0, none⟩) p p) (w.alloc (.cells (madeCells #[.bool false, .int .i64 0, .int .i64 0, .int .i64 0] (p * 4)) 66)) := fun w => by
    have h := run_makeSlice (P := Try.prog) w 26 66 i0 _ Try.underlying26 hi0 hz0 .i64 .i64 (p : Int) (p : Int) (by omega) (Int.le_refl _) (by rw [hz1]; omega) (by rw [hz2]; omega) (by omega)
    rw [h, hz1, Int.toNat_natCast]; rfl
  have hrb := RB.new w 66 p
  have hFr := (Fr.refl [] w).alloc (.cells (madeCells #[.bool false, .int .i64 0, .int .i64 0, .int .i64 0] (p * 4)) 66)
  go_enter Try.func14, Try.ntmps14
  go_wp2_with fail
  generalize w.alloc (.cells (madeCells #[.bool false, .int .i64 0, .int .i64 0, .int .i64 0] (p * 4)) 66) = w1 at *
  obtain ⟨g, hg⟩ : ∃ g, w.heap.size = g := ⟨_, rfl⟩
  rw [hg] at hrb ⊢
  have HG := Lib.hid hg
  clear hg hmk
  go_loopw [11] (fun iv wr => ∃ k : Nat, k ≤ p ∧ iv = .int .i64 k ∧ RB wr 66 g (oneTo n k) p ∧ Fr [] w wr) (fun iv _ => p - (intOf iv).toNat)
  case atStart => exact ⟨0, by omega, rfl, hrb.congr (fun t _ => by unfold oneTo; rw [if_neg (by omega)]), hFr⟩
  case round =>
    obtain ⟨k, hk, rfl, hr, hF⟩ := hrel
    by_cases hlt : k < p
    · have q1 : (k : Int) < p := by omega
      have q0 : (0 : Int) ≤ k := by omega
      go_wp2_with fail
      refine (pick_any _ _ _ (by decide) (by decide)).mono ?_; rintro e w' ⟨rfl, rfl⟩
      obtain ⟨z, hz⟩ : ∃ z, wrap64 (n + k) % 256 = z := ⟨_, rfl⟩
      rw [hz]
      have hth := Blk.there hr (k * 4) 4 (by simp [rc_len]; omega)
      have hr2 := hr.set (i := k) hlt (true, z, 0, 0)
      have hF2 := Fr.setCells (S := []) (a := w) (b := g) (.inr (by rw [HG.out]; exact Nat.le_refl _)) (c4 (true, z, 0, 0)) (k * 4) wr hF
      have hr3 := hr2.congr (Q := oneTo n (k + 1)) (fun t ht => by
        unfold oneTo
        by_cases h : t = k
        · subst h; rw [if_pos (by omega), if_pos rfl]; unfold oneR; rw [hz]
        · rw [if_neg h]
          by_cases h2 : t < k
          · rw [if_pos h2, if_pos (by omega)]
          · rw [if_neg h2, if_neg (by omega)])
      clear hr2
      dsimp only; go_step
      iterate 3 (refine wpList_plain rfl (fun K hK => ?_); go_simp; refine hK _ _ ?_; clear hK K)
      refine wpList_store_mid rfl 66 (Operand.tmp 22) (Operand.tmp 21) rfl g (k * 4) #[.bool true, .int .i64 z, .int .i64 0, .int .i64 0] rfl rfl hth (by kernel_rfl) (by simp [Value.oneCell']) ?_
      change wpList _ _ _ _ _ (wr.setCells g (k * 4) (c4 (true, z, 0, 0)))
      generalize wr.setCells g (k * 4) (c4 (true, z, 0, 0)) = w3 at *
      clear hz hth
      go_wp2_with fail
      go_roundw
      case rel => exact ⟨k + 1, by omega, by go_num, hr3, hF2⟩
      case measure => simp [intOf]; omega
    · have hkp : k = p := by omega
      have q1 : ¬ (k : Int) < p := by omega
      go_wp2_with fail
      go_ret
      refine ⟨_, rfl, RS.of_rb (hr.congr (fun t ht => ?_)) (by rw [HG.out]; exact Nat.le_refl _) (Nat.le_refl _) (by unfold maxLen; omega), hF⟩
      unfold oneTo; rw [if_pos (by omega)]
/-- a row that is there, or none -/
def RowAt (w : World) (lo p : Nat) : Option (Nat → C4) → Option Value → Prop
  | none, o => o = none
  | some R, o => ∃ v, o = some v ∧ RS w lo v p R
theorem RowAt.fr {S : List Nat} {w w' : World} {lo p : Nat} {r : Option (Nat → C4)} {o : Option Value} (h : RowAt w lo p r o) (hF : Fr S w w') (hS : ∀ x ∈ S, x < lo) : RowAt w' lo p r o := by
  cases r with
  | none => exact h
  | some R => obtain ⟨v, e, hv⟩ := h; exact ⟨v, e, hv.fr hF hS⟩
/-- block B holds a buffer: p players, a is waited for, c rows are there: g -/
structure HasJ (w : World) (lo B M : Nat) (p a c : Nat) (g : Int → Option (Nat → C4)) : Prop where
  blk : Blk w B #[.int .i64 p, .int .i64 a, .map (some M)] 77
  map : ∃ f, MapW Try.prog 3 w M c f ∧ ∀ x, inK x → RowAt w lo p (g x) (f x)
  hB : B < lo
  hM : M < lo
  ne : B ≠ M
  lo_le : lo ≤ w.heap.size
theorem HasJ.fr {S : List Nat} {w w' : World} {lo B M p a c : Nat} {g : Int → Option (Nat → C4)} (h : HasJ w lo B M p a c g) (hF : Fr S w w') (hS : ∀ x ∈ S, x < lo) (h1 : B ∉ S) (h2 : M ∉ S) : HasJ w' lo B M p a c g := by
  obtain ⟨f, hm, hr⟩ := h.map
  exact ⟨hF.blk h.blk h1, ⟨f, hm.fr hF h2, fun x hx => (hr x hx).fr hF hS⟩, h.hB, h.hM, h.ne, Nat.le_trans h.lo_le hF.size⟩
theorem HasJ.congr {w : World} {lo B M p a c : Nat} {g g' : Int → Option (Nat → C4)} (h : HasJ w lo B M p a c g) (e : ∀ x, inK x → g' x = g x) : HasJ w lo B M p a c g' := by
  obtain ⟨f, hm, hr⟩ := h.map
  exact ⟨h.blk, ⟨f, hm, fun x hx => by rw [e x hx]; exact hr x hx⟩, h.hB, h.hM, h.ne, h.lo_le⟩
theorem new_j (w : World) (x : Int) (q : Nat) (hx : x = q) : HasJ ((w.alloc (.map #[] 0)).alloc (.cells #[.int .i64 x, .int .i64 0, .map (some w.heap.size)] 77)) (w.heap.size + 2) (w.heap.size + 1) w.heap.size q 0 0 (fun _ => none) ∧ Fr [] w ((w.alloc (.map #[] 0)).alloc (.cells #[.int .i64 x, .int .i64 0, .map (some w.heap.size)] 77)) := by
  subst hx
  have hF : Fr [] (w.alloc (.map #[] 0)) ((w.alloc (.map #[] 0)).alloc (.cells #[.int .i64 q, .int .i64 0, .map (some w.heap.size)] 77)) := (Fr.refl [] _).alloc _
  refine ⟨⟨?_, ⟨fun _ => none, (MapW.made w Try.prog 3).fr hF (by simp), fun x _ => rfl⟩, by omega, by omega, by omega, by simp⟩, ((Fr.refl [] w).alloc _).alloc _⟩
  have h := Blk.new (w.alloc (.map #[] 0)) #[.int .i64 q, .int .i64 0, .map (some w.heap.size)] 77
  simpa using h
theorem jnew_any {w : World} {n : Int} {q : Nat} (h1 : n < 1 → q = 1) (h2 : 1 ≤ n → n ≤ 8 → (q : Int) = n) (h3 : 8 < n → q = 8) : Calls Try.prog 11 #[.int .i64 n] w fun e w' => e = .returned (.pointer (some ⟨w.heap.size + 1, 0, none⟩)) ∧ HasJ w' (w.heap.size + 2) (w.heap.size + 1) w.heap.size q 0 0 (fun _ => none) ∧ Fr [] w w' := by
  have hmm := @run_makeMap Try.prog
  have H1 := Lib.hid h1; have H2 := Lib.hid h2; have H3 := Lib.hid h3
  clear h1 h2 h3
  go_enter Try.func11, Try.ntmps11
  go_wp2_with fail
  all_goals
    have h1 := H1.out; have h2 := H2.out; have h3 := H3.out
    go_ret
    exact ⟨rfl, new_j w _ q (by omega)⟩
theorem at_any {w : World} {lo B M p a c : Nat} {g : Int → Option (Nat → C4)} (h : HasJ w lo B M p a c g) : Calls Try.prog 17 #[.pointer (some ⟨B, 0, none⟩)] w fun e w' => e = .returned (.int .i64 a) ∧ w = w' := by
  have l1 := Blk.cell (i := 1) h.blk rfl
  go_enter Try.func17, Try.ntmps17
  go_wp2_with fail
  go_ret
  exact ⟨rfl, rfl⟩
theorem count_any {w : World} {lo B M p a c : Nat} {g : Int → Option (Nat → C4)} (h : HasJ w lo B M p a c g) : Calls Try.prog 15 #[.pointer (some ⟨B, 0, none⟩)] w fun e w' => e = .returned (.int .i64 c) ∧ w = w' := by
  have l2 := Blk.cell (i := 2) h.blk rfl
  obtain ⟨f, hm, hr⟩ := h.map
  have hlen := hm.len mapTy 3
  go_enter Try.func15, Try.ntmps15
  go_wp2_with fail
  go_ret
  exact ⟨rfl, rfl⟩
end Go.Proofs.Ytckodnogjedmnaa.Jt
