import Derived.Test.YtlfdbkdaamodnaaHand
import Derived.Test.YtlfdbkdaamodnaaLs
import Derived.Test.YtlfdbkdaamodnaaSh
import Derived.Deep.QuietTactic
import Derived.BigQuiet
import Derived.IntWalk
import Derived.Deep.Cut
import Derived.Deep.RegionLaw
import Derived.StillTailTactics
import Derived.Laws.BitsAllLaws
namespace Go.Proofs.Ytlfdbkdaamodnaa.Bt
open Go.RowKit Dt Go.Proofs.Ytlfdbkdaamodnaa.Hd
set_option linter.unusedVariables false

theorem info8 : (Try.prog.info? 5).map (fun i => (i.zero, i.size, i.bytes)) = some (some (.int .u8 0), 1, 1) := by kernel_rfl

/-- a writer at block A: its bytes, how many bits -/
structure HasWr (w : World) (B A : Nat) (bv : Value) (bs : List Nat) (n : Nat) : Prop where
  blk : Blk w A #[bv, .int .i64 n] 75
  own : w.ownsRow B 5 1 bv bs.length (u8s bs)
  lt : ∀ x ∈ bs, x < 256
  len : bs.length = (n + 7) / 8
  small : n ≤ 1099511627776
  base : A < B
  room : B ≤ w.heap.size

theorem new_any (w : World) : Calls Try.prog 37 #[] w fun e w' => e = .returned (.pointer (some ⟨w.heap.size, 0, none⟩)) ∧ HasWr w' (w.heap.size + 1) w.heap.size (.slice none 0 0) [] 0 ∧ Fr [] w w' := by
  go_enter Try.func37, Try.ntmps37
  go_wp2_with fail
  go_ret
  exact ⟨rfl, ⟨Blk.new w #[.slice none 0 0, .int .i64 0] 75, own_nil _ _ _ _, by simp, rfl, by decide, by omega, by simp⟩, (Fr.refl [] w).alloc _⟩

theorem len_any {w : World} {B A : Nat} {bv : Value} {bs : List Nat} {n : Nat} (h : HasWr w B A bv bs n) : Calls Try.prog 41 #[.pointer (some ⟨A, 0, none⟩)] w fun e w' => e = .returned (.int .i64 n) ∧ w = w' := by
  have c1 := h.blk.cell (i := 1) rfl
  clear h
  go_enter Try.func41, Try.ntmps41
  go_wp2_with fail
  go_ret
  exact ⟨rfl, rfl⟩

theorem within_any (w : World) (n : Int) (k : Nat) (hk : (k : Int) = max 0 (min n 64)) : Calls Try.prog 64 #[.int .i64 n] w fun e w' => e = .returned (.int .i64 k) ∧ w = w' := by
  have HK := Lib.hid hk; clear hk
  go_enter Try.func64, Try.ntmps64
  go_wp2_with fail
  all_goals
    go_ret
    exact ⟨ret_i (by rw [HK.out]; omega), rfl⟩

def putS (bs : List Nat) (n b : Nat) : List Nat :=
  let c := if n % 8 = 0 then bs ++ [0] else bs
  c.set (n / 8) (c.getD (n / 8) 0 ||| b * 2 ^ (7 - n % 8))
theorem putS_eq {bs cs : List Nat} {n b x y : Nat} (hc : cs = if n % 8 = 0 then bs ++ [0] else bs) (hx : cs[n / 8]? = some x) (hy : b * 2 ^ (7 - n % 8) = y) : putS bs n b = cs.set (n / 8) (x ||| y) := by
  unfold putS; simp only [← hc, hy]
  rw [List.getD_eq_getElem?_getD, hx]; rfl
theorem set_own {w : World} {base : Nat} {e : TypeId} {g cap n : Nat} {bs : List Nat} (h : w.ownsRow base e 1 (.slice (some ⟨g, 0, none⟩) n cap) n (u8s bs)) (j x : Nat) (hj : j < n) :
    (w.setCell ⟨g, j, none⟩ (.int .u8 x)).ownsRow base e 1 (.slice (some ⟨g, 0, none⟩) n cap) n (u8s (bs.set j x)) := by
  have := h.stored j (.int .u8 x)
  have e1 : (u8s bs).set j (.int .u8 (x : Nat)) = u8s (bs.set j x) := by simp [u8s, List.map_set]
  rw [e1] at this
  exact this.1

set_option maxHeartbeats 1600000 in
theorem put_any {w : World} {B A : Nat} {bv : Value} {bs : List Nat} {n b : Nat} (h : HasWr w B A bv bs n) (hb : b < 2) (hs : n < 1099511627776) :
    Calls Try.prog 65 #[.pointer (some ⟨A, 0, none⟩), .int .u64 b] w fun e w' => e = .returned (.tuple #[]) ∧ ∃ bv', HasWr w' B A bv' (putS bs n b) (n + 1) ∧ Fr (A :: bv.ownBlock.toList) w w' ∧ (bv'.ownBlock = bv.ownBlock ∨ ∃ g, bv'.ownBlock = some g ∧ w.heap.size ≤ g) := by
  have c0 : w.cell? ⟨A, 0, none⟩ = some bv := h.blk.cell (i := 0) rfl
  have c1 : w.cell? ⟨A, 1, none⟩ = some (.int .i64 n) := h.blk.cell (i := 1) rfl
  have f0 := h.blk.free 0
  have f1 := h.blk.free 1
  have HH := Lib.hid h; clear h
  obtain ⟨i0, hi0, hz0, hz1, hz2⟩ := info_parts info8
  have hAB := HH.out.base
  obtain ⟨cs, hcs⟩ : ∃ cs, cs = if n % 8 = 0 then bs ++ [0] else bs := ⟨_, rfl⟩
  have hcl : cs.length = n / 8 + 1 := by
    have := HH.out.len
    rw [hcs]; split
    · simp; omega
    · omega
  have hclt : ∀ x ∈ cs, x < 256 := by
    intro x hx; rw [hcs] at hx
    split at hx
    · simp only [List.mem_append, List.mem_singleton] at hx
      rcases hx with h | h
      · exact HH.out.lt x h
      · omega
    · exact HH.out.lt x hx
  obtain ⟨x, hx⟩ : ∃ x, cs[n / 8]? = some x := ⟨_, List.getElem?_eq_getElem (by omega)⟩
  have hx256 : x < 256 := hclt x (List.mem_of_getElem? hx)
  obtain ⟨y, hy⟩ : ∃ y : Nat, b * 2 ^ (7 - n % 8) = y := ⟨_, rfl⟩
  have hpw : 2 ^ (7 - n % 8) ≤ 2 ^ 7 := Nat.pow_le_pow_right (by decide) (by omega)
  have hy256 : y < 256 := by rw [← hy]; have : b * 2 ^ (7 - n % 8) ≤ 1 * 2 ^ 7 := Nat.mul_le_mul (by omega) hpw; omega
  have hfin := putS_eq hcs hx hy
  have hsh : ∀ w, (Op.shift .shl .u64 (b : Int) .i64 (7 - (n : Int) % 8)).run Try.prog w = .ok (.int .u64 (y : Int)) w := fun w => by
    rw [run_shl .u64 (b : Int) (7 - (n : Int) % 8) w (by omega)]
    have e1 : min (7 - (n : Int) % 8).toNat IntKind.u64.bits = 7 - n % 8 := by have : IntKind.u64.bits = 64 := rfl; omega
    have e2 : (b : Int) * 2 ^ (7 - n % 8) = ((y : Nat) : Int) := by rw [← hy]; push_cast; rfl
    have e3 : IntKind.u64.wrap (y : Int) = (y : Int) := IntWalk.u64_in _ (by omega)
    rw [e1, e2, e3]
  have hcv : IntKind.u8.wrap (y : Int) = (y : Int) := by rw [IntKind.wrap_u8']; omega
  have hor := u8_or_nat x y hx256 hy256
  have hxy : x ||| y < 256 := Nat.or_lt_two_pow (n := 8) hx256 hy256
  have HV := Lib.hid (show bits .or .u8 (x : Int) (IntKind.u64.wrap ((b : Int) * 2 ^ (7 - n % 8)) % 256) = ((x ||| y : Nat) : Int) by
    have e2 : (b : Int) * 2 ^ (7 - n % 8) = ((y : Nat) : Int) := by rw [← hy]; push_cast; rfl
    have e3 : IntKind.u64.wrap (y : Int) = (y : Int) := IntWalk.u64_in _ (by omega)
    have e4 : (y : Int) % 256 = y := by omega
    rw [e2, e3, e4]; exact hor)
  have HFIN := Lib.hid hfin; have HCL := Lib.hid hcl; have HX := Lib.hid hx; have HCS := Lib.hid hcs; have HLT := Lib.hid hclt; have HXY := Lib.hid hxy
  clear hfin hcl hx hcs hclt hpw hy hy256 hx256 hxy
  by_cases h8 : n % 8 = 0
  · have h8b : ((n : Int) % 8 == 0) = true := by simp; omega
    have hcs := HCS.out
    rw [if_pos h8] at hcs
    have hbl : bs.length = n / 8 := by have := HH.out.len; omega
    go_enter Try.func65, Try.ntmps65
    go_upto_region 1 with (fail)
    apply wp_region_lit
    iterate 6 (refine wpList_plain rfl (fun K hK => ?_); go_simp; refine hK _ _ ?_; clear hK K)
    have hF := (Fr.refl [] w).alloc (.cells #[.int .u8 0] 5)
    have hblk := Blk.new w #[.int .u8 0] 5
    have hown := HH.out.own.alloc (.cells #[.int .u8 0] 5)
    have hA := HH.out.blk.alloc (.cells #[.int .u8 0] 5)
    have hsrc := src_blk (sz := 1) (m := 1) hblk (by simp) (by simp; rfl) 1
    have hBw : B ≤ (w.alloc (.cells #[.int .u8 0] 5)).heap.size := by have := HH.out.room; simp; omega
    refine wpList_append_src _ rfl (Operand.tmp 14) (Operand.tmp 15) 51 rfl B 5 i0 (.int .u8 0) 1 1 Try.underlying51 hi0 hz0 hz1 hz2 rfl (by decide) _ _ bs.length 1 (u8s bs) [.int .u8 0] rfl rfl hown hsrc (by simp only [maxLen]; omega) (by omega) hBw ?_
    intro v1 w1 hown1 hg1 hat1
    have hown1' : w1.ownsRow B 5 1 v1 cs.length (u8s cs) := by
      have e : u8s bs ++ [.int .u8 0] = u8s cs := by rw [hcs]; simp [u8s]
      rw [e] at hown1; rw [HCL.out, ← hbl]; exact hown1
    have hat2 : v1.ownBlock = bv.ownBlock ∨ ∃ g, v1.ownBlock = some g ∧ w.heap.size ≤ g := by
      rcases hat1 with h | h
      · exact .inl h
      · exact .inr ⟨_, h, by simp⟩
    have hA1 := blk_own hA hown hg1 hAB
    have hFa : Fr (A :: bv.ownBlock.toList) w w1 := (hF.mono (by simp)).trans (fr_grown hg1) (fun x hx => .inl (by simp only [List.mem_cons]; exact .inr hx))
    obtain ⟨g, cap, rfl, hgB, hgc, hgm⟩ := own_form hown1' (by have := HCL.out; omega)
    have f0' := hA1.free 0
    have c0' : w1.cell? ⟨A, 0, none⟩ = some bv := hA1.cell (i := 0) rfl
    clear hown1 hsrc hown hblk hA hF hat1
    have hA2 : Blk (w1.setCell ⟨A, 0, none⟩ (.slice (some ⟨g, 0, none⟩) cs.length cap)) A #[.slice (some ⟨g, 0, none⟩) cs.length cap, .int .i64 n] 75 := hA1.set 0 (.slice (some ⟨g, 0, none⟩) cs.length cap)
    have hat3 : g ∈ A :: bv.ownBlock.toList ∨ w.heap.size ≤ g := by
      rcases hat2 with h | ⟨g', h, hg'⟩
      · exact .inl (by rw [← h]; simp [Value.ownBlock])
      · simp [Value.ownBlock] at h; subst h; exact .inr hg'
    have hown2 := own_fr hown1' ((Fr.refl [A] w1).setCell (p := ⟨A, 0, none⟩) (.inl (by simp)) (.slice (some ⟨g, 0, none⟩) cs.length cap)) (by simp; exact hAB)
    have hF2 := hFa.setCell (p := ⟨A, 0, none⟩) (.inl (by simp)) (.slice (some ⟨g, 0, none⟩) cs.length cap)
    have HBL := Lib.hid hbl; clear hbl hcs
    go_upto_region 2 with (fail)
    generalize w1.setCell ⟨A, 0, none⟩ (.slice (some ⟨g, 0, none⟩) cs.length cap) = w2 at *
    have hcell : w2.cell? ⟨g, n / 8, none⟩ = some (.int .u8 (x : Nat)) := by rw [hown2.cellAt (n / 8) (by have := HCL.out; omega)]; simp [u8s, HX.out]
    have hfz : w2.frozen? ⟨g, n / 8, none⟩ = false := hown2.frozenAt _
    have d0 : w2.cell? ⟨A, 0, none⟩ = some (.slice (some ⟨g, 0, none⟩) cs.length cap) := hA2.cell (i := 0) rfl
    have d1 : w2.cell? ⟨A, 1, none⟩ = some (.int .i64 n) := hA2.cell (i := 1) rfl
    have e1 := hA2.free 1
    have g0 : 0 ≤ (n : Int) / 8 := by omega
    have g1 : (n : Int) / 8 < cs.length := by have := HCL.out; omega
    have g2 : n / 8 < cs.length := by have := HCL.out; omega
    have g3 : ((n : Int) / 8).toNat = n / 8 := by omega
    have hq : IntKind.i64.wrap ((n : Int) / 8) = (n : Int) / 8 := IntWalk.i64_in _ (by omega)
    have hsub : IntKind.i64.wrap (7 - (n : Int) % 8) = 7 - (n : Int) % 8 := IntWalk.i64_in _ (by omega)
    have hr : Int.tmod (n : Int) 8 = (n : Int) % 8 := Int.tmod_eq_emod_of_nonneg (by omega)
    have h8' := Lib.hid h8; clear h8 h8b
    go_still_tail 22, (by kernel_rfl)
    change wpList _ _ _ _ _ w2.drew
    clear hq hsub hsh hcv hor
    have hw : IntKind.i64.wrap ((n : Int) + 1) = (n : Int) + 1 := IntWalk.i64_in _ (by omega)
    have hne : A ≠ g := by omega
    go_wp2_with fail
    rw [HV.out]
    (try simp only [Exit.inBlock, Exit.then])
    refine bodyPost_end (results_none rfl _ _ _) rfl ?_
    have hown3 := set_own hown2 (n / 8) (x ||| y) g2
    have hA3 := (hA2.other (a := ⟨g, n / 8, none⟩) hne (.int .u8 ((x ||| y : Nat) : Int))).set 1 (.int .i64 ((n : Int) + 1))
    have hown4 := own_fr hown3 ((Fr.refl [A] _).setCell (p := ⟨A, 1, none⟩) (.inl (by simp)) (.int .i64 ((n : Int) + 1))) (by simp; exact hAB)
    have hX : g ∈ A :: bv.ownBlock.toList ∨ w.heap.size ≤ g := hat3
    have hF3 := (hF2.setCell (p := ⟨g, n / 8, none⟩) hX (.int .u8 ((x ||| y : Nat) : Int))).setCell (p := ⟨A, 1, none⟩) (.inl (by simp)) (.int .i64 ((n : Int) + 1))
    refine ⟨rfl, .slice (some ⟨g, 0, none⟩) cs.length cap, ⟨hA3.drew, ?_, ?_, ?_, by omega, hAB, Nat.le_trans HH.out.room hF3.size⟩, hF3.drew, by first | exact hat2 | exact .inl rfl⟩
    · rw [HFIN.out, List.length_set]; exact hown4
    · rw [HFIN.out]; intro z hz
      rcases List.mem_or_eq_of_mem_set hz with h | h
      · exact HLT.out z h
      · rw [h]; exact HXY.out
    · rw [HFIN.out, List.length_set, HCL.out]; omega
  · have h8b : ((n : Int) % 8 == 0) = false := by simp; omega
    have hcs := HCS.out
    rw [if_neg h8] at hcs
    obtain rfl := hcs
    obtain ⟨g, cap, rfl, hgB, hgc, hgm⟩ := own_form HH.out.own (by have := HCL.out; omega)
    have hA2 := HH.out.blk
    have hown2 := HH.out.own
    have hF2 := Fr.refl (A :: (Value.slice (some ⟨g, 0, none⟩) cs.length cap).ownBlock.toList) w
    have hat2 : (Value.slice (some ⟨g, 0, none⟩) cs.length cap).ownBlock = (Value.slice (some ⟨g, 0, none⟩) cs.length cap).ownBlock ∨ ∃ g', (Value.slice (some ⟨g, 0, none⟩) cs.length cap).ownBlock = some g' ∧ w.heap.size ≤ g' := .inl rfl
    have hat3 : g ∈ A :: (Value.slice (some ⟨g, 0, none⟩) cs.length cap).ownBlock.toList ∨ w.heap.size ≤ g := .inl (by simp [Value.ownBlock])
    clear c0 c1
    obtain ⟨w2, hw2⟩ : ∃ w2, w2 = w := ⟨_, rfl⟩
    go_enter Try.func65, Try.ntmps65
    have d0 : w.cell? ⟨A, 0, none⟩ = some (.slice (some ⟨g, 0, none⟩) cs.length cap) := hA2.cell (i := 0) rfl
    have d1 : w.cell? ⟨A, 1, none⟩ = some (.int .i64 n) := hA2.cell (i := 1) rfl
    go_upto_region 2 with (fail)
    clear d0 d1
    subst hw2
    have hcell : w2.cell? ⟨g, n / 8, none⟩ = some (.int .u8 (x : Nat)) := by rw [hown2.cellAt (n / 8) (by have := HCL.out; omega)]; simp [u8s, HX.out]
    have hfz : w2.frozen? ⟨g, n / 8, none⟩ = false := hown2.frozenAt _
    have d0 : w2.cell? ⟨A, 0, none⟩ = some (.slice (some ⟨g, 0, none⟩) cs.length cap) := hA2.cell (i := 0) rfl
    have d1 : w2.cell? ⟨A, 1, none⟩ = some (.int .i64 n) := hA2.cell (i := 1) rfl
    have e1 := hA2.free 1
    have g0 : 0 ≤ (n : Int) / 8 := by omega
    have g1 : (n : Int) / 8 < cs.length := by have := HCL.out; omega
    have g2 : n / 8 < cs.length := by have := HCL.out; omega
    have g3 : ((n : Int) / 8).toNat = n / 8 := by omega
    have hq : IntKind.i64.wrap ((n : Int) / 8) = (n : Int) / 8 := IntWalk.i64_in _ (by omega)
    have hsub : IntKind.i64.wrap (7 - (n : Int) % 8) = 7 - (n : Int) % 8 := IntWalk.i64_in _ (by omega)
    have hr : Int.tmod (n : Int) 8 = (n : Int) % 8 := Int.tmod_eq_emod_of_nonneg (by omega)
    have h8' := Lib.hid h8; clear h8 h8b
    go_still_tail 22, (by kernel_rfl)
    change wpList _ _ _ _ _ w2.drew
    clear hq hsub hsh hcv hor
    have hw : IntKind.i64.wrap ((n : Int) + 1) = (n : Int) + 1 := IntWalk.i64_in _ (by omega)
    have hne : A ≠ g := by omega
    go_wp2_with fail
    rw [HV.out]
    (try simp only [Exit.inBlock, Exit.then])
    refine bodyPost_end (results_none rfl _ _ _) rfl ?_
    have hown3 := set_own hown2 (n / 8) (x ||| y) g2
    have hA3 := (hA2.other (a := ⟨g, n / 8, none⟩) hne (.int .u8 ((x ||| y : Nat) : Int))).set 1 (.int .i64 ((n : Int) + 1))
    have hown4 := own_fr hown3 ((Fr.refl [A] _).setCell (p := ⟨A, 1, none⟩) (.inl (by simp)) (.int .i64 ((n : Int) + 1))) (by simp; exact hAB)
    have hX : g ∈ A :: (Value.slice (some ⟨g, 0, none⟩) cs.length cap).ownBlock.toList ∨ w2.heap.size ≤ g := hat3
    have hF3 := (hF2.setCell (p := ⟨g, n / 8, none⟩) hX (.int .u8 ((x ||| y : Nat) : Int))).setCell (p := ⟨A, 1, none⟩) (.inl (by simp)) (.int .i64 ((n : Int) + 1))
    refine ⟨rfl, .slice (some ⟨g, 0, none⟩) cs.length cap, ⟨hA3.drew, ?_, ?_, ?_, by omega, hAB, Nat.le_trans HH.out.room hF3.size⟩, hF3.drew, by first | exact hat2 | exact .inl rfl⟩
    · rw [HFIN.out, List.length_set]; exact hown4
    · rw [HFIN.out]; intro z hz
      rcases List.mem_or_eq_of_mem_set hz with h | h
      · exact HLT.out z h
      · rw [h]; exact HXY.out
    · rw [HFIN.out, List.length_set, HCL.out]; omega
end Go.Proofs.Ytlfdbkdaamodnaa.Bt
