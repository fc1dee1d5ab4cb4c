/- slices.Clone of []net.Fate -/
import Derived.Test.YtkjjikjilmngdaaHand
import Derived.Test.YtkjjikjilmngdaaOwn
import Derived.Deep.QuietTactic
import Derived.BigQuiet
import Derived.Deep.Cut
import Derived.OwnWalk
import Derived.Laws.MakeOwn
import Derived.Test.YtkjjikjilmngdaaArr
namespace Go.Proofs.Ytkjjikjilmngdaa.Nt
open Go.RowKit Dt Go.Proofs.Ytkjjikjilmngdaa.Hd
set_option linter.unusedVariables false
set_option linter.unusedSimpArgs false

theorem infFate : (Try.prog.info? 86).map (fun i => (i.zero, i.size, i.bytes)) = some (some (.agg #[.bool false, .int .i64 0, .int .i64 0]), 3, 24) := by kernel_rfl
theorem clone_Fate {w : World} {n : Nat} {v : Value} {xs : List Value} (h : Src w v 3 n xs) (hlt : ∀ b, v.ownBlock = some b → 0 < xs.length → b < w.heap.size) (hn : n ≤ 1000000000000) :
    Calls Try.prog 74 #[v] w fun e w' => ∃ v', e = .returned v' ∧ w'.ownsRow w.heap.size 86 3 v' n xs ∧ Fr [] w w' := by
  have qT : ∀ (w : World) (a : Option Addr) (n c n' c' : Nat), (binOp .eql 68 (.slice a n c) (.slice none n' c')).run Try.prog w = .ok (.bool a.isNone) w := fun w a n c n' c' => Lib.run_eql_slice_nil w _ _ a n c n' c' Try.underlying68
  obtain ⟨i0, hi0, hz0, hz1, hz2⟩ := info_parts infFate
  have HH := Lib.hid h
  have HL := Lib.hid hlt
  obtain ⟨⟨a, cap, rfl, h2, h3⟩, hl, h1⟩ := h
  clear h3 hlt
  cases a with
  | none =>
    obtain ⟨rfl, rfl⟩ := h2 rfl
    have hnil : xs = [] := List.eq_nil_of_length_eq_zero (by simpa using hl)
    subst hnil
    clear hl h1 h2
    go_enter Try.func74, Try.ntmps74
    go_wp2
    go_ret
    exact ⟨_, rfl, own_nil _ _ _ _, Fr.refl _ _⟩
  | some ad =>
    clear h2 h1 hl
    go_enter Try.func74, Try.ntmps74
    go_upto_region 3 with (fail)
    apply wp_region_lit
    iterate 2 (refine wpList_plain rfl (fun K hK => ?_); go_simp; refine hK _ _ ?_; clear hK K)
    have hblk := Blk.new w #[] 86
    have hF := (Fr.refl [] w).alloc (.cells #[] 86)
    have hls := HH.out.fr hF HL.out (by simp)
    refine wpList_append_src _ rfl (Operand.tmp 5) (Operand.tmp 6) 68 rfl w.heap.size 86 i0 _ 3 24 Try.underlying68 hi0 hz0 hz1 hz2 rfl (by decide) _ _ 0 n [] xs rfl rfl (own_empty hblk (Nat.le_refl _)) hls (by unfold maxLen; omega) (by omega) (by simp) ?_
    intro v1 w1 hown1 hg1 _
    have hF1 := fr_own hF (own_empty (sz := 3) (base := w.heap.size) hblk (Nat.le_refl _)) hg1 (Nat.le_refl _)
    simp only [Nat.zero_add, List.nil_append] at hown1
    clear hg1 hblk hls
    go_wp2_with fail
    go_ret
    exact ⟨_, rfl, hown1, hF1⟩
end Go.Proofs.Ytkjjikjilmngdaa.Nt
