import Derived.Test.YtlfdbkdaamodnaaBit3
import Derived.Deep.Cut
namespace Go.Proofs.Ytlfdbkdaamodnaa.Bt
open Go.RowKit Dt Go.Proofs.Ytlfdbkdaamodnaa.Hd
set_option linter.unusedVariables false

def sizeS (n : Int) : Int := if n.tmod 13 = 12 then n % 90 - 10 else n % 66
theorem sizeS_bd (n : Int) : -10 ≤ sizeS n ∧ sizeS n ≤ 79 := by unfold sizeS; split <;> omega
theorem size_any (w : World) (n : Int) : Calls Try.prog 43 #[.int .i64 n] w fun e w' => e = .returned (.int .i64 (sizeS n)) ∧ w = w' := by
  by_cases h : n.tmod 13 = 12
  · have e : sizeS n = n % 90 - 10 := by unfold sizeS; rw [if_pos h]
    have HE := Lib.hid e; clear e
    have hb : (n.tmod 13 == 12) = true := by simp [h]
    have hr : IntKind.i64.wrap (n % 90 - 10) = n % 90 - 10 := IntWalk.i64_in _ (by omega)
    clear h
    go_enter Try.func43, Try.ntmps43
    go_wp2_with fail
    refine (pick_any _ _ _ (by decide) (by decide)).mono ?_; rintro e w' ⟨rfl, rfl⟩
    go_wp2_with fail
    go_ret
    exact ⟨ret_i (by rw [HE.out]), rfl⟩
  · have e : sizeS n = n % 66 := by unfold sizeS; rw [if_neg h]
    have HE := Lib.hid e; clear e
    have hb : (n.tmod 13 == 12) = false := by simp [h]
    clear h
    go_enter Try.func43, Try.ntmps43
    go_wp2_with fail
    refine (pick_any _ _ _ (by decide) (by decide)).mono ?_; rintro e w' ⟨rfl, rfl⟩
    go_wp2_with fail
    go_ret
    exact ⟨ret_i (by rw [HE.out]), rfl⟩

theorem Signed_any {w : World} {B A : Nat} {bv : Value} {L : List Nat} {v : Int} {u : Nat} {n : Int} {k : Nat} (h : HasWr w B A bv (pk L) L.length) (hu : IntKind.u64.wrap v = (u : Int)) (hk : (k : Int) = max 0 (min n 64)) (hs : L.length + 64 ≤ 1099511627776) :
    Calls Try.prog 42 #[.pointer (some ⟨A, 0, none⟩), .int .i64 v, .int .i64 n] w fun e w' => e = .returned (.tuple #[]) ∧ ∃ bv', HasWr w' B A bv' (pk (L ++ bitsOf u k)) (L ++ bitsOf u k).length ∧ Fr (A :: bv.ownBlock.toList) w w' ∧ (bv'.ownBlock = bv.ownBlock ∨ ∃ g, bv'.ownBlock = some g ∧ w.heap.size ≤ g) := by
  have hu2 : u < 18446744073709551616 := by rw [IntKind.wrap_u64] at hu; omega
  have HU := Lib.hid hu; clear hu
  go_enter Try.func42, Try.ntmps42
  go_wp2_with fail
  rw [HU.out]
  refine (Put_any h hu2 hk hs).mono ?_; rintro e w1 ⟨rfl, bv', h1, h2, h3⟩
  go_wp2_with fail
  refine bodyPost_end (results_none rfl _ _ _) rfl ?_
  exact ⟨rfl, bv', h1, h2, h3⟩

theorem info4 : (Try.prog.info? 4).map (fun i => (i.zero, i.size, i.bytes)) = some (some (.bool false), 1, 1) := by kernel_rfl
/-- bits as the reference keeps them -/
def bs01 (L : List Nat) : List Value := L.map fun b => .bool (b == 1)
theorem bs01_len (L : List Nat) : (bs01 L).length = L.length := by simp [bs01]
structure HasRB (w : World) (B A : Nat) (bv : Value) (L : List Nat) : Prop where
  blk : Blk w A #[bv] 58
  own : w.ownsRow B 4 1 bv L.length (bs01 L)
  base : A < B
  room : B ≤ w.heap.size

set_option maxHeartbeats 1600000 in
theorem rPut_any {w : World} {B A : Nat} {bv : Value} {L : List Nat} {v : Nat} {n : Int} {k : Nat} (h : HasRB w B A bv L) (hv : v < 18446744073709551616) (hk : (k : Int) = max 0 (min 64 n)) (hs : L.length + 64 ≤ 1099511627776) :
    Calls Try.prog 45 #[.pointer (some ⟨A, 0, none⟩), .int .u64 v, .int .i64 n] w fun e w' => e = .returned (.tuple #[]) ∧ ∃ bv', HasRB w' B A bv' (L ++ bitsOf v k) ∧ Fr (A :: bv.ownBlock.toList) w w' ∧ (bv'.ownBlock = bv.ownBlock ∨ ∃ g, bv'.ownBlock = some g ∧ w.heap.size ≤ g) := by
  have HK := Lib.hid hk
  have hk64 : k ≤ 64 := by omega
  clear hk
  have hsz := h.room
  have HH := Lib.hid h; clear h
  go_enter Try.func45, Try.ntmps45
  go_wp2_with fail
  all_goals
    go_loopw [6] (fun iv wr => ∃ (j : Nat) (D : List Nat) (bv1 : Value), j ≤ k ∧ iv = .int .i64 ((j : Int) - 1) ∧ D.length + j = k ∧ D ++ bitsOf v j = bitsOf v k ∧ HasRB wr B A bv1 (L ++ D) ∧ Fr (A :: bv.ownBlock.toList) w wr ∧ (bv1.ownBlock = bv.ownBlock ∨ ∃ g, bv1.ownBlock = some g ∧ w.heap.size ≤ g)) (fun iv _ => (intOf iv + 1).toNat)
    case atStart => exact ⟨k, [], bv, Nat.le_refl _, congrArg (Value.int .i64) (by have := HK.out; omega), by simp, rfl, by simpa using HH.out, Fr.refl _ _, .inl rfl⟩
    case round =>
      obtain ⟨j, D, bv1, hj, rfl, hDl, hD, hW, hF, hat⟩ := hrel
      cases j with
      | zero =>
        have hD' : D = bitsOf v k := by simpa [bitsOf] using hD
        subst hD'
        clear hD
        go_wp2_with fail
        (try simp only [Exit.inBlock, Exit.then])
        refine bodyPost_end (results_none rfl _ _ _) rfl ?_
        exact ⟨rfl, bv1, hW, hF, hat⟩
      | succ m =>
        have em : ((m + 1 : Nat) : Int) - 1 = (m : Int) := by omega
        rw [em]
        have hm64 : (m : Int) < 64 := by omega
        have hbit : bits .and .u64 ((v : Int) / 2 ^ m) 1 = ((v / 2 ^ m % 2 : Nat) : Int) := by
          have e : (v : Int) / 2 ^ m = ((v / 2 ^ m : Nat) : Int) := by push_cast; rfl
          have hlt : v / 2 ^ m < 18446744073709551616 := Nat.lt_of_le_of_lt (Nat.div_le_self _ _) hv
          rw [e, show (1 : Int) = ((1 : Nat) : Int) from rfl, u64_and_nat _ _ hlt (by decide), Nat.and_one_is_mod]
        obtain ⟨b, hb⟩ : ∃ b, v / 2 ^ m % 2 = b := ⟨_, rfl⟩
        have hb2 : b < 2 := by omega
        have hD2 : (D ++ [b]) ++ bitsOf v m = bitsOf v k := by rw [← hD, ← hb]; simp [bitsOf]
        rw [hb] at hbit
        obtain ⟨c, hc⟩ : ∃ c : Bool, (b == 1) = c := ⟨_, rfl⟩
        have hmm : min (IntKind.u64.wrap (m : Int)).toNat 64 = m := by rw [IntWalk.u64_in _ (by omega)]; omega
        have hbit2 : (bits .and .u64 ((v : Int) / 2 ^ min (IntKind.u64.wrap (m : Int)).toNat 64) 1 == 1) = c := by
          rw [hmm, hbit, ← hc]
          rcases (show b = 0 ∨ b = 1 by omega) with rfl | rfl <;> rfl
        have HD := Lib.hid hD2; have HB := Lib.hid hb; have HBT := Lib.hid hbit2; have HC := Lib.hid hc
        clear hD hD2 hb em hbit hbit2 hc hmm
        have c0 : wr.cell? ⟨A, 0, none⟩ = some bv1 := hW.blk.cell (i := 0) rfl
        go_upto_region 3 with (fail)
        apply wp_region_lit
        iterate 12 (refine wpList_plain rfl (fun K hK => ?_); go_simp; refine hK _ _ ?_; clear hK K)
        rw [HBT.out]
        have hFa := (Fr.refl [] wr).alloc (.cells #[.bool c] 4)
        have hblk := Blk.new wr #[.bool c] 4
        have hown := hW.own.alloc (.cells #[.bool c] 4)
        have hA := hW.blk.alloc (.cells #[.bool c] 4)
        have hsrc := src_blk (sz := 1) (m := 1) hblk (by simp) (by simp; rfl) 1
        have hBw : B ≤ (wr.alloc (.cells #[.bool c] 4)).heap.size := by have := hW.room; simp; omega
        have hAB := hW.base
        have hll : (L ++ D).length < 1099511627776 := by rw [List.length_append]; omega
        obtain ⟨i0, hi0, hz0, hz1, hz2⟩ := info_parts info4
        refine wpList_append_src _ rfl (Operand.tmp 19) (Operand.tmp 26) 44 rfl B 4 i0 (.bool false) 1 1 Try.underlying44 hi0 hz0 hz1 hz2 rfl (by decide) _ _ (L ++ D).length 1 (bs01 (L ++ D)) [.bool c] rfl rfl hown hsrc (by simp only [maxLen]; omega) (by omega) hBw ?_
        intro v1 w1 hown1 hg1 hat1
        have hLL : bs01 (L ++ D) ++ [.bool c] = bs01 (L ++ (D ++ [b])) := by rw [← HC.out]; simp [bs01]
        have hl2 : (L ++ D).length + 1 = (L ++ (D ++ [b])).length := by simp [Nat.add_assoc]
        rw [hLL, hl2] at hown1
        have hX : ∀ x ∈ A :: bv1.ownBlock.toList, x ∈ A :: bv.ownBlock.toList ∨ w.heap.size ≤ x := by
          intro x hx
          rcases hat with h | ⟨g, h, hg⟩
          · rw [h] at hx; exact .inl hx
          · rw [h] at hx
            simp only [Option.toList_some, List.mem_cons, List.not_mem_nil, or_false] at hx
            rcases hx with hx | hx
            · exact .inl (by rw [hx]; simp)
            · exact .inr (by rw [hx]; exact hg)
        have hA1 := blk_own hA hown hg1 hAB
        have hF2 : Fr (A :: bv1.ownBlock.toList) wr w1 := (hFa.mono (by simp)).trans (fr_grown hg1) (fun x hx => .inl (by simp only [List.mem_cons]; exact .inr hx))
        have hat3 : v1.ownBlock = bv.ownBlock ∨ ∃ g, v1.ownBlock = some g ∧ w.heap.size ≤ g := by
          rcases hat1 with h | h
          · have h' : v1.ownBlock = bv1.ownBlock := h
            rw [h']; exact hat
          · exact .inr ⟨_, h, Nat.le_trans hF.size hFa.size⟩
        have hF3 := (hF.trans hF2 hX).setCell (p := ⟨A, 0, none⟩) (.inl (by simp)) v1
        have hc1 : w1.cell? ⟨A, 0, none⟩ = some bv1 := hA1.cell (i := 0) rfl
        have hf1 := hA1.free 0
        obtain ⟨g, cap, rfl, -, -, -⟩ := own_form hown1 (by rw [← hl2]; omega)
        have hA2 := hA1.set 0 (.slice (some ⟨g, 0, none⟩) (L ++ (D ++ [b])).length cap)
        have hown2 := own_fr hown1 ((Fr.refl [A] w1).setCell (p := ⟨A, 0, none⟩) (.inl (by simp)) (.slice (some ⟨g, 0, none⟩) (L ++ (D ++ [b])).length cap)) (by simp; exact hAB)
        have hRB : HasRB (w1.setCell ⟨A, 0, none⟩ (.slice (some ⟨g, 0, none⟩) (L ++ (D ++ [b])).length cap)) B A (.slice (some ⟨g, 0, none⟩) (L ++ (D ++ [b])).length cap) (L ++ (D ++ [b])) := ⟨hA2, hown2, hAB, Nat.le_trans HH.out.room hF3.size⟩
        have HRB := Lib.hid hRB; have HF3 := Lib.hid hF3; have HAT := Lib.hid hat3
        obtain ⟨q, hq⟩ : ∃ q, q = (L ++ (D ++ [b])).length := ⟨_, rfl⟩
        rw [← hq]
        have HQ := Lib.hid hq
        clear hq hFa hblk hown hA hsrc hBw hg1 hat1 hLL hl2 hX hF2 hF3 hA2 hown2 hRB hat3 hown1 hF hat hW hll
        go_wp2_with fail
        go_roundw
        case rel =>
          have hq := HQ.out
          subst hq
          exact ⟨m, D ++ [b], _, by omega, by go_num, by rw [List.length_append, List.length_singleton]; omega, HD.out, HRB.out, HF3.out, HAT.out⟩
        case measure => simp [intOf] <;> omega
end Go.Proofs.Ytlfdbkdaamodnaa.Bt
