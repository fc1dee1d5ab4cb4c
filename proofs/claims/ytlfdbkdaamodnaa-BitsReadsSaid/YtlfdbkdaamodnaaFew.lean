import Derived.Test.YtlfdbkdaamodnaaTag
import Derived.Test.YtlfdbkdaamodnaaApp
import Derived.Deep.Cut
import Derived.Test.YtlfdbkdaamodnaaSl
namespace Go.Proofs.Ytlfdbkdaamodnaa.Tg
open Go.RowKit Dt Go.Proofs.Ytlfdbkdaamodnaa.Hd
set_option linter.unusedVariables false
set_option linter.unusedSimpArgs false

theorem Bs.take {bs : List Nat} (h : Bs bs) (n : Nat) : Bs (bs.take n) := ⟨fun x hx => h.lt x (List.mem_of_mem_take hx), by have := h.len; simp; omega⟩

theorem bytes_of {w : World} {a : Option Addr} {len cap : Nat} {z : Nat → Int} (h : SlI .u8 w a len cap z) : ∃ bs : List Nat, LS w (.slice a len cap) (u8s bs) ∧ Bs bs ∧ bs.length = len := by
  refine ⟨(List.range len).map fun i => (z i).toNat, ?_, ⟨?_, ?_⟩, by simp⟩
  · have hl : (u8s ((List.range len).map fun i => (z i).toNat)).length = len := by simp [u8s]
    refine ⟨a, cap, by rw [hl], by rw [hl]; exact h.1.le, by have := h.1.reach; unfold maxLen; omega, h.1.nil, fun hp => ?_⟩
    rw [hl] at hp
    obtain ⟨b, off, e, hlt, hc⟩ := h.1.cells hp
    refine ⟨b, off, e, hlt, fun i x hx => ?_⟩
    have hi : i < len := by have := (List.getElem?_eq_some_iff.1 hx).1; rwa [hl] at this
    have h2 := h.2 i hi
    have l1 := u8_lo h2
    rw [hc i hi]
    have : (u8s ((List.range len).map fun i => (z i).toNat))[i]? = some (.int .u8 ((z i).toNat : Nat)) := by simp [u8s, hi]
    rw [this] at hx
    have e2 : (((z i).toNat : Nat) : Int) = z i := by omega
    rw [e2] at hx; exact hx
  · intro x hx
    simp only [List.mem_map, List.mem_range] at hx
    obtain ⟨i, hi, rfl⟩ := hx
    have := u8_hi (h.2 i hi); have := u8_lo (h.2 i hi); omega
  · have := h.1.le; have := h.1.reach; simp; omega

theorem few_any (w : World) (sv : Value) (bs : List Nat) (n : Nat) (h : LS w sv (u8s bs)) (hB : Bs bs) (hn : n ≤ 140737488355300) :
    Calls Try.prog 51 #[sv, .int .i64 n] w fun e w' => ∃ v, e = .returned v ∧ w'.ownsRow w.heap.size 5 1 v (bs.take n).length (u8s (bs.take n)) ∧ Fr [] w w' := by
  obtain ⟨i0, hi0, hz0, hz1, hz2⟩ := info_parts info8
  obtain ⟨a, cap, rfl, hla, hma, hz, hca⟩ := h.ex
  simp only [u8s_len] at *
  have hl := hB.len
  obtain ⟨m, hm⟩ : ∃ m, min bs.length n = m := ⟨_, rfl⟩
  have hml : (bs.take n).length = m := by simp; omega
  have hmt : bs.take n = bs.take m := by rw [← hm]; simp [List.take_eq_take_iff]; try omega
  have hmb : m ≤ bs.length := by omega
  have hp : LS w (.slice a m cap) (u8s (bs.take n)) := by
    have := h.take (n := m) (by rw [u8s_len]; omega)
    rwa [u8s_take, ← hmt] at this
  have HP := Lib.hid hp; have HML := Lib.hid hml; have HMT := Lib.hid hmt; have HM := Lib.hid hm
  clear h hp hml hmt hca hm
  by_cases hnl : n < bs.length
  all_goals
    have em : m = if n < bs.length then n else bs.length := by have := HM.out; split <;> omega
    first | rw [if_pos hnl] at em | rw [if_neg hnl] at em
    subst em
    have hmc : ∀ x : Nat, x ≤ bs.length → x ≤ cap := fun x hx => by omega
    have hmc1 := hmc _ hmb
    clear hmc
    go_enter Try.func51, Try.ntmps51
    go_upto_region 1 with (fail)
    apply wp_region_lit
    iterate 7 (refine wpList_plain rfl (fun K hK => ?_); go_simp; refine hK _ _ ?_; clear hK K)
    have hblk := Blk.new w #[] 5
    have hF := (Fr.refl [] w).alloc (.cells #[] 5)
    have hsrc := (HP.out.fr0 hF).src (u8s_one _)
    rw [u8s_len, HML.out] at hsrc
    have hsz : w.heap.size ≤ (w.alloc (.cells #[] 5)).heap.size := hF.size
    refine wpList_append_src _ rfl (Operand.tmp 5) (Operand.tmp 11) 51 rfl w.heap.size 5 i0 (.int .u8 0) 1 1 Try.underlying51 hi0 hz0 hz1 hz2 rfl (by decide) _ _ 0 _ [] _ rfl rfl (own_empty hblk (Nat.le_refl _)) hsrc (by simp only [maxLen]; omega) (by omega) hsz ?_
    intro v1 w1 hown1 hg1 _
    have hF1 := fr_own hF (own_empty (sz := 1) (base := w.heap.size) hblk (Nat.le_refl _)) hg1 (Nat.le_refl _)
    simp only [Nat.zero_add, List.nil_append] at hown1
    clear hg1 hblk hsrc hsz
    go_wp2_with fail
    go_ret
    exact ⟨_, rfl, by first | exact hown1 | (rw [HML.out]; exact hown1) | simpa using hown1, hF1⟩
end Go.Proofs.Ytlfdbkdaamodnaa.Tg
