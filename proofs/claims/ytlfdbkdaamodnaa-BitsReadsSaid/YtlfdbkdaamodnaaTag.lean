import Derived.Test.YtlfdbkdaamodnaaHand
import Derived.Test.YtlfdbkdaamodnaaLs
import Derived.Deep.QuietTactic
import Derived.BigQuiet
import Derived.IntWalk
import Derived.Deep.Cut
namespace Go.Proofs.Ytlfdbkdaamodnaa.Tg
open Go.RowKit Dt Go.Proofs.Ytlfdbkdaamodnaa.Hd
set_option linter.unusedVariables false

theorem info8 : (Try.prog.info? 5).map (fun i => (i.zero, i.size, i.bytes)) = some (some (.int .u8 0), 1, 1) := by kernel_rfl

/-- a list of bytes that the walks bear: each below 256, not too many -/
structure Bs (bs : List Nat) : Prop where
  lt : ∀ x ∈ bs, x < 256
  len : bs.length ≤ 140737488355300

theorem clone_any (w : World) (sv : Value) (xs : List Value) (h : LS w sv xs) (h1 : ∀ u ∈ xs, u.oneCell' = true) (hl : xs.length ≤ 140737488355328) :
    Calls Try.prog 66 #[sv] w fun e w' => ∃ v, e = .returned v ∧ w'.ownsRow w.heap.size 5 1 v xs.length xs ∧ Fr [] w w' := by
  obtain ⟨a, cap, hsv, hle, hm, hn, hc⟩ := h.ex
  have qT : ∀ (w : World) (a : Option Addr) (n c n' c' : Nat), (binOp .eql 51 (.slice a n c) (.slice none n' c')).run Try.prog w = .ok (.bool a.isNone) w := fun w a n c n' c' => Lib.run_eql_slice_nil w _ _ a n c n' c' Try.underlying51
  obtain ⟨i0, hi0, hz0, hz1, hz2⟩ := info_parts info8
  cases a with
  | none =>
    have h0 : xs = [] := List.eq_nil_of_length_eq_zero (by have := hn rfl; omega)
    subst h0
    subst hsv
    have HH := Lib.hid h; clear h hc hn
    go_enter Try.func66, Try.ntmps66
    go_wp2
    go_ret
    exact ⟨_, rfl, own_nil _ _ _ _, Fr.refl _ _⟩
  | some ad =>
    have HH := Lib.hid h; have HC := Lib.hid hc; have HV := Lib.hid hsv; clear h hc hn
    subst hsv
    go_enter Try.func66, Try.ntmps66
    go_upto_region 3 with (fail)
    apply wp_region_lit
    iterate 2 (refine wpList_plain rfl (fun K hK => ?_); go_simp; refine hK _ _ ?_; clear hK K)
    have hblk := Blk.new w #[] 5
    have hF := (Fr.refl [] w).alloc (.cells #[] 5)
    have hls := (HH.out.fr0 hF).src h1
    refine wpList_append_src _ rfl (Operand.tmp 5) (Operand.tmp 6) 51 rfl w.heap.size 5 i0 (.int .u8 0) 1 1 Try.underlying51 hi0 hz0 hz1 hz2 rfl (by decide) _ _ 0 xs.length [] xs rfl rfl (own_empty hblk (Nat.le_refl _)) hls (by unfold maxLen; omega) (by omega) (by simp) ?_
    intro v1 w1 hown1 hg1 _
    have hF1 := fr_own hF (own_empty (sz := 1) (base := w.heap.size) hblk (Nat.le_refl _)) hg1 (Nat.le_refl _)
    simp only [Nat.zero_add, List.nil_append] at hown1
    clear hg1 hblk hls
    go_wp2_with fail
    go_ret
    exact ⟨_, rfl, hown1, hF1⟩
end Go.Proofs.Ytlfdbkdaamodnaa.Tg
