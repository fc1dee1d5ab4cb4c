import Derived.Test.YtlfdbkdaamodnaaBit2
import Derived.Test.YtlfdbkdaamodnaaTag
import Derived.Deep.RegionWith
namespace Go.Proofs.Ytlfdbkdaamodnaa.Bt
open Go.RowKit Dt Go.Proofs.Ytlfdbkdaamodnaa.Hd
set_option linter.unusedVariables false

theorem bytes_any {w : World} {B A : Nat} {bv : Value} {bs : List Nat} {n : Nat} (h : HasWr w B A bv bs n) :
    Calls Try.prog 40 #[.pointer (some ⟨A, 0, none⟩)] w fun e w' => ∃ v, e = .returned v ∧ w'.ownsRow w.heap.size 5 1 v bs.length (u8s bs) ∧ Fr [] w w' := by
  have c0 : w.cell? ⟨A, 0, none⟩ = some bv := h.blk.cell (i := 0) rfl
  have hls := LS.of_own' h.own
  have hlen : bs.length ≤ 140737488355328 := by have := h.len; have := h.small; omega
  have HL := Lib.hid hls; clear h hls
  go_enter Try.func40, Try.ntmps40
  go_wp2_with fail
  refine (Tg.clone_any _ _ _ HL.out (u8s_one _) (by rw [u8s_len]; exact hlen)).mono ?_; rintro e w1 ⟨v1, rfl, hown, hF⟩
  rw [u8s_len] at hown
  go_wp2_with fail
  go_ret
  exact ⟨_, rfl, hown, hF⟩

theorem HasWr.fr {S : List Nat} {w w' : World} {B A : Nat} {bv : Value} {bs : List Nat} {n : Nat} (h : HasWr w B A bv bs n) (hf : Fr S w w') (hA : A ∉ S) (hS : ∀ g, bv.ownBlock = some g → g ∉ S) : HasWr w' B A bv bs n :=
  ⟨hf.blk h.blk hA, own_keep h.own hf hS, h.lt, h.len, h.small, h.base, Nat.le_trans h.room hf.size⟩

set_option maxRecDepth 100000 in
theorem known_any (w : World) : Calls Try.prog 38 #[] w fun e w' => e = .returned (.bool true) ∧ Fr [] w w' := by
  have q1 : bitsOf 5 3 = [1, 0, 1] := by decide
  have q2 : bitsOf 1 1 = [1] := by decide
  have q3 : pk [1, 0, 1, 1] = [176] := by decide
  have H1 := Lib.hid q1; have H2 := Lib.hid q2; have H3 := Lib.hid q3
  clear q1 q2 q3
  go_enter Try.func38, Try.ntmps38
  go_wp2_with fail
  refine (new_any _).mono ?_; rintro e w1 ⟨rfl, hW1, hF1⟩
  have hsz := hF1.size
  go_wp2_with fail
  refine (Put_any (L := []) (v := 5) (k := 3) hW1 (by decide) (by decide) (by decide)).mono ?_; rintro e w2 ⟨rfl, bv2, hW2, hF2, hat2⟩
  rw [H1.out] at hW2
  have hF2' := hF1.trans hF2 (by simp [Value.ownBlock])
  clear hW1 hF1 hF2
  go_wp2_with fail
  refine (Put_any (L := [1, 0, 1]) (v := 1) (k := 1) hW2 (by decide) (by decide) (by decide)).mono ?_; rintro e w3 ⟨rfl, bv3, hW3, hF3, hat3⟩
  rw [H2.out] at hW3
  go_wp2_with fail
  have hF3' := hF2'.trans hF3 (fun x hx => by
    simp only [List.mem_cons] at hx
    rcases hx with hx | hx
    · right; omega
    · rcases hat2 with h | ⟨g, h, hg⟩
      · rw [h] at hx; simp [Value.ownBlock] at hx
      · rw [h] at hx; simp at hx; right; omega)
  have hln : ([1, 0, 1] ++ [1] : List Nat).length = 4 := rfl
  have hap : ([1, 0, 1] ++ [1] : List Nat) = [1, 0, 1, 1] := rfl
  rw [hln, hap, H3.out] at hW3
  clear hW2 hF2' hF3 hat2 hat3 hln hap
  refine (bytes_any hW3).mono ?_; rintro e w4 ⟨v4, rfl, hown4, hF4⟩
  have hW4 := hW3.fr hF4 (by simp) (by simp)
  have hst := run_str (P := Try.prog) (src := 51) (dst := 9) (LS.of_own' hown4) Try.underlying51 Try.underlying5 Try.underlying9
  have hs0 : strOf [176] = ⟨#[176]⟩ := by decide
  rw [hs0] at hst
  have hF5 := hF3'.trans hF4 (by simp)
  clear hown4 hF4 hW3 hF3' hs0
  go_wp2_with fail
  refine (len_any hW4).mono ?_; rintro e w' ⟨rfl, rfl⟩
  go_wp2_with fail
  go_ret
  exact ⟨rfl, hF5⟩
end Go.Proofs.Ytlfdbkdaamodnaa.Bt
