import Derived.Test.YtidlpihffolelaaTag3
namespace Go.Proofs.Ytidlpihffolelaa.Tg
open Go.RowKit Dt Go.Proofs.Ytidlpihffolelaa.Hd
set_option linter.unusedVariables false

def opens (key : Int) (bs : List Nat) : Bool := decide (4 ≤ bs.length ∧ closeS key (bs.take (bs.length - 4)) = bs)

theorem Bs.take {bs : List Nat} (h : Bs bs) (n : Nat) : Bs (bs.take n) := ⟨fun x hx => h.lt x (List.mem_of_mem_take hx), by have := h.len; simp; omega⟩

theorem open_short (w : World) (key : Int) (sv : Value) (bs : List Nat) (h : LS w sv (u8s bs)) (hs : bs.length < 4) :
    Calls Try.prog 35 #[.int .i64 key, sv] w fun e w' => e = .returned (.tuple #[.slice none 0 0, .bool false]) ∧ w = w' := by
  obtain ⟨a, cap, rfl, hla, hma, hz, hca⟩ := h.ex
  simp only [u8s_len] at *
  have HH := Lib.hid h; clear h hca hz
  go_enter Try.func35, Try.ntmps35
  go_wp2_with fail
  go_ret2
  exact ⟨rfl, rfl⟩

theorem open_facts {w : World} {key : Int} {b off cap : Nat} {bs : List Nat} (h : LS w (.slice (some ⟨b, off, none⟩) bs.length cap) (u8s bs)) (hB : Bs bs) {n : Nat} (hn : bs.length = n + 4) :
    LS w (.slice (some ⟨b, off, none⟩) n cap) (u8s (bs.take n)) ∧ Bs (bs.take n) ∧ (closeS key (bs.take n)).length = bs.length ∧ (bs.take n).length = n := by
  refine ⟨?_, hB.take n, by rw [closeS_len]; simp; omega, by simp; omega⟩
  have := h.take (n := n) (by rw [u8s_len]; omega)
  rwa [u8s_take] at this

theorem open_yes (w : World) (key : Int) (sv : Value) (bs : List Nat) (n : Nat) (h : LS w sv (u8s bs)) (hB : Bs bs) (hn : bs.length = n + 4) (heq : closeS key (bs.take n) = bs) :
    Calls Try.prog 35 #[.int .i64 key, sv] w fun e w' => ∃ v, e = .returned (.tuple #[v, .bool true]) ∧ w'.ownsRow w.heap.size 5 1 v n (u8s (bs.take n)) ∧ Fr [] w w' := by
  obtain ⟨a, cap, rfl, hla, hma, hz, hca⟩ := h.ex
  simp only [u8s_len] at *
  obtain ⟨b, off, rfl, hlb, hcc⟩ := hca (by omega)
  have hl := hB.len
  have nle : n ≤ 140737488355300 := by omega
  obtain ⟨f1, f2, f3, f4⟩ := open_facts (key := key) h hB hn
  have HH := Lib.hid h; have F1 := Lib.hid f1; have F2 := Lib.hid f2; have F3 := Lib.hid f3; have F4 := Lib.hid f4; have HEQ := Lib.hid heq; have HN := Lib.hid hn
  have g1 : 4 ≤ bs.length := by omega
  have g2 : ((bs.length : Int) - 4) = (n : Int) := by omega
  clear h hB hca hcc f1 f2 f3 f4 heq hn
  have g3 : n + 4 ≤ bs.length := by omega
  clear hl
  go_enter Try.func35, Try.ntmps35
  go_wp2_with fail
  refine (close_any _ _ _ _ F1.out F2.out).mono ?_; rintro e w1 ⟨v1, rfl, hown1, hF1⟩
  go_wp2_with fail
  refine (equal_any _ _ _ _ _ (LS.of_own' hown1) (HH.out.fr0 hF1) (by rw [F3.out]; have := HN.out; omega)).mono ?_; rintro e w2 ⟨rfl, nd, rfl⟩
  have hF2 := hF1.drewN nd
  generalize w1.drewN nd = w2 at *
  clear hown1 hF1
  simp only [HEQ.out, decide_true]
  have hP2 := F1.out.fr0 hF2
  go_wp2_with fail
  refine (clone_any _ _ _ hP2 (u8s_one _) (by rw [u8s_len, F4.out]; omega)).mono ?_; rintro e w3 ⟨v3, rfl, hown3, hF3⟩
  have hown4 := own_weaken (base' := w.heap.size) hown3 hF2.size
  have hF4 := hF2.trans hF3 (by simp)
  rw [u8s_len, F4.out] at hown4
  clear hown3 hF3 hP2 hF2
  go_wp2_with fail
  go_ret2
  exact ⟨v3, rfl, hown4, hF4⟩

theorem open_no (w : World) (key : Int) (sv : Value) (bs : List Nat) (n : Nat) (h : LS w sv (u8s bs)) (hB : Bs bs) (hn : bs.length = n + 4) (heq : ¬ closeS key (bs.take n) = bs) :
    Calls Try.prog 35 #[.int .i64 key, sv] w fun e w' => e = .returned (.tuple #[.slice none 0 0, .bool false]) ∧ Fr [] w w' := by
  obtain ⟨a, cap, rfl, hla, hma, hz, hca⟩ := h.ex
  simp only [u8s_len] at *
  obtain ⟨b, off, rfl, hlb, hcc⟩ := hca (by omega)
  have hl := hB.len
  have nle : n ≤ 140737488355300 := by omega
  obtain ⟨f1, f2, f3, f4⟩ := open_facts (key := key) h hB hn
  have HH := Lib.hid h; have F1 := Lib.hid f1; have F2 := Lib.hid f2; have F3 := Lib.hid f3; have F4 := Lib.hid f4; have HEQ := Lib.hid heq; have HN := Lib.hid hn
  have g1 : 4 ≤ bs.length := by omega
  have g2 : ((bs.length : Int) - 4) = (n : Int) := by omega
  clear h hB hca hcc f1 f2 f3 f4 heq hn
  have g3 : n + 4 ≤ bs.length := by omega
  clear hl
  go_enter Try.func35, Try.ntmps35
  go_wp2_with fail
  refine (close_any _ _ _ _ F1.out F2.out).mono ?_; rintro e w1 ⟨v1, rfl, hown1, hF1⟩
  go_wp2_with fail
  refine (equal_any _ _ _ _ _ (LS.of_own' hown1) (HH.out.fr0 hF1) (by rw [F3.out]; have := HN.out; omega)).mono ?_; rintro e w2 ⟨rfl, nd, rfl⟩
  have hF2 := hF1.drewN nd
  generalize w1.drewN nd = w2 at *
  clear hown1 hF1
  simp only [HEQ.out, decide_false]
  go_wp2_with fail
  go_ret2
  exact ⟨rfl, hF2⟩

def markS (bs : List Nat) : Int := sumS 7 bs * 2147483648 + sumS 11 bs
theorem mark_any (w : World) (sv : Value) (bs : List Nat) (h : LS w sv (u8s bs)) (hB : Bs bs) :
    Calls Try.prog 37 #[sv] w fun e w' => e = .returned (.int .i64 (markS bs)) ∧ w = w' := by
  obtain ⟨a1, a2⟩ := sumS_bd 7 bs
  obtain ⟨b1, b2⟩ := sumS_bd 11 bs
  have hfin : markS bs = sumS 7 bs * 2147483648 + sumS 11 bs := rfl
  have HF := Lib.hid hfin; clear hfin
  have HH := Lib.hid h; have HB := Lib.hid hB; clear h hB
  go_enter Try.func37, Try.ntmps37
  go_wp2_with fail
  refine (sum_any _ _ _ _ HH.out HB.out).mono ?_; rintro e w' ⟨rfl, rfl⟩
  go_wp2_with fail
  refine (sum_any _ _ _ _ HH.out HB.out).mono ?_; rintro e w' ⟨rfl, rfl⟩
  go_wp2_with fail
  go_ret
  exact ⟨ret_i (by rw [HF.out]), rfl⟩

theorem few_any (w : World) (sv : Value) (bs : List Nat) (n : Nat) (h : LS w sv (u8s bs)) (hB : Bs bs) (hn : n ≤ 140737488355300) :
    Calls Try.prog 32 #[sv, .int .i64 n] w fun e w' => ∃ v, e = .returned v ∧ w'.ownsRow w.heap.size 5 1 v (bs.take n).length (u8s (bs.take n)) ∧ Fr [] w w' := by
  obtain ⟨i0, hi0, hz0, hz1, hz2⟩ := info_parts info8
  obtain ⟨a, cap, rfl, hla, hma, hz, hca⟩ := h.ex
  simp only [u8s_len] at *
  have hl := hB.len
  obtain ⟨m, hm⟩ : ∃ m, min bs.length n = m := ⟨_, rfl⟩
  have hml : (bs.take n).length = m := by simp; omega
  have hmt : bs.take n = bs.take m := by rw [← hm]; simp [List.take_eq_take_iff]; try omega
  have hmb : m ≤ bs.length := by omega
  have hp : LS w (.slice a m cap) (u8s (bs.take n)) := by
    have := h.take (n := m) (by rw [u8s_len]; omega)
    rwa [u8s_take, ← hmt] at this
  have HP := Lib.hid hp; have HML := Lib.hid hml; have HMT := Lib.hid hmt; have HM := Lib.hid hm
  clear h hp hml hmt hca hm
  by_cases hnl : n < bs.length
  all_goals
    have em : m = if n < bs.length then n else bs.length := by have := HM.out; split <;> omega
    first | rw [if_pos hnl] at em | rw [if_neg hnl] at em
    subst em
    have hmc : ∀ x : Nat, x ≤ bs.length → x ≤ cap := fun x hx => by omega
    have hmc1 := hmc _ hmb
    clear hmc
    go_enter Try.func32, Try.ntmps32
    go_upto_region 1 with (fail)
    apply wp_region_lit
    iterate 7 (refine wpList_plain rfl (fun K hK => ?_); go_simp; refine hK _ _ ?_; clear hK K)
    have hblk := Blk.new w #[] 5
    have hF := (Fr.refl [] w).alloc (.cells #[] 5)
    have hsrc := (HP.out.fr0 hF).src (u8s_one _)
    rw [u8s_len, HML.out] at hsrc
    have hsz : w.heap.size ≤ (w.alloc (.cells #[] 5)).heap.size := hF.size
    refine wpList_append_src _ rfl (Operand.tmp 5) (Operand.tmp 11) 43 rfl w.heap.size 5 i0 (.int .u8 0) 1 1 Try.underlying43 hi0 hz0 hz1 hz2 rfl (by decide) _ _ 0 _ [] _ rfl rfl (own_empty hblk (Nat.le_refl _)) hsrc (by simp only [maxLen]; omega) (by omega) hsz ?_
    intro v1 w1 hown1 hg1 _
    have hF1 := fr_own hF (own_empty (sz := 1) (base := w.heap.size) hblk (Nat.le_refl _)) hg1 (Nat.le_refl _)
    simp only [Nat.zero_add, List.nil_append] at hown1
    clear hg1 hblk hsrc hsz
    go_wp2_with fail
    go_ret
    exact ⟨_, rfl, by first | exact hown1 | (rw [HML.out]; exact hown1) | simpa using hown1, hF1⟩
end Go.Proofs.Ytidlpihffolelaa.Tg
