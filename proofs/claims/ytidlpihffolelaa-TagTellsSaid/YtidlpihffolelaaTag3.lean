import Derived.Test.YtidlpihffolelaaTag2
import Derived.Laws.BitsAllLaws
namespace Go.Proofs.Ytidlpihffolelaa.Tg
open Go.RowKit Dt Go.Proofs.Ytidlpihffolelaa.Hd
set_option linter.unusedVariables false

/-- a number in four bytes, the highest first -/
def four (n : Nat) : List Nat := [n / 16777216 % 256, n / 65536 % 256, n / 256 % 256, n % 256]
def closeS (key : Int) (bs : List Nat) : List Nat := bs ++ four (sumS key bs).toNat
theorem four_lt (n : Nat) : ∀ x ∈ four n, x < 256 := by
  intro x hx; simp only [four, List.mem_cons, List.not_mem_nil, or_false] at hx; omega
theorem closeS_len (key : Int) (bs : List Nat) : (closeS key bs).length = bs.length + 4 := by simp [closeS, four]
theorem closeS_lt (key : Int) (bs : List Nat) (h : ∀ x ∈ bs, x < 256) : ∀ x ∈ closeS key bs, x < 256 := by
  intro x hx
  simp only [closeS, List.mem_append] at hx
  rcases hx with hx | hx
  · exact h x hx
  · exact four_lt _ x hx

theorem close_any (w : World) (key : Int) (sv : Value) (bs : List Nat) (h : LS w sv (u8s bs)) (hB : Bs bs) :
    Calls Try.prog 33 #[.int .i64 key, sv] w fun e w' => ∃ v, e = .returned v ∧ w'.ownsRow w.heap.size 5 1 v (closeS key bs).length (u8s (closeS key bs)) ∧ Fr [] w w' := by
  obtain ⟨i0, hi0, hz0, hz1, hz2⟩ := info_parts info8
  have hl := hB.len
  obtain ⟨s1, s2⟩ := sumS_bd key bs
  obtain ⟨m, hm⟩ : ∃ m : Nat, sumS key bs = m := ⟨(sumS key bs).toNat, by omega⟩
  have HM := Lib.hid hm
  go_enter Try.func33, Try.ntmps33
  go_wp2_with fail
  refine (sum_any _ _ _ _ h hB).mono ?_; rintro e w' ⟨rfl, rfl⟩
  rw [hm]
  rw [hm] at s1 s2
  clear hm
  go_wp2_with fail
  refine (clone_any _ _ _ h (u8s_one _) (by rw [u8s_len]; omega)).mono ?_; rintro e w1 ⟨v1, rfl, hown1, hF1⟩
  dsimp only
  go_step
  iterate 12 (refine wpList_plain rfl (fun K hK => ?_); go_simp; refine hK _ _ ?_; clear hK K)
  have e1 : IntKind.u8.wrap ((m : Int) / 16777216) = ((m / 16777216 % 256 : Nat) : Int) := by rw [IntKind.wrap_u8']; omega
  have e2 : IntKind.u8.wrap ((m : Int) / 65536) = ((m / 65536 % 256 : Nat) : Int) := by rw [IntKind.wrap_u8']; omega
  have e3 : IntKind.u8.wrap ((m : Int) / 256) = ((m / 256 % 256 : Nat) : Int) := by rw [IntKind.wrap_u8']; omega
  have e4 : IntKind.u8.wrap (m : Int) = ((m % 256 : Nat) : Int) := by rw [IntKind.wrap_u8']; omega
  rw [e1, e2, e3, e4]
  clear e1 e2 e3 e4
  have hblk := Blk.new w1 #[.int .u8 ((m / 16777216 % 256 : Nat) : Int), .int .u8 ((m / 65536 % 256 : Nat) : Int), .int .u8 ((m / 256 % 256 : Nat) : Int), .int .u8 ((m % 256 : Nat) : Int)] 5
  have hown2 := hown1.alloc (.cells #[.int .u8 ((m / 16777216 % 256 : Nat) : Int), .int .u8 ((m / 65536 % 256 : Nat) : Int), .int .u8 ((m / 256 % 256 : Nat) : Int), .int .u8 ((m % 256 : Nat) : Int)] 5)
  have hF2 := hF1.alloc (.cells #[.int .u8 ((m / 16777216 % 256 : Nat) : Int), .int .u8 ((m / 65536 % 256 : Nat) : Int), .int .u8 ((m / 256 % 256 : Nat) : Int), .int .u8 ((m % 256 : Nat) : Int)] 5)
  have hsrc := src_blk (sz := 1) (m := 4) hblk (by simp) (by simp; exact ⟨rfl, rfl, rfl, rfl⟩) 4
  have hfour : (#[Value.int .u8 ((m / 16777216 % 256 : Nat) : Int), .int .u8 ((m / 65536 % 256 : Nat) : Int), .int .u8 ((m / 256 % 256 : Nat) : Int), .int .u8 ((m % 256 : Nat) : Int)] : Array Value).toList = u8s (four m) := by simp [u8s, four]
  rw [hfour] at hsrc
  have hbase : w.heap.size ≤ (w1.alloc (.cells #[.int .u8 ((m / 16777216 % 256 : Nat) : Int), .int .u8 ((m / 65536 % 256 : Nat) : Int), .int .u8 ((m / 256 % 256 : Nat) : Int), .int .u8 ((m % 256 : Nat) : Int)] 5)).heap.size := hF2.size
  have hlen8 := u8s_len bs
  generalize w1.alloc (.cells #[.int .u8 ((m / 16777216 % 256 : Nat) : Int), .int .u8 ((m / 65536 % 256 : Nat) : Int), .int .u8 ((m / 256 % 256 : Nat) : Int), .int .u8 ((m % 256 : Nat) : Int)] 5) = w2 at *
  refine wpList_append_src _ rfl (Operand.tmp 10) (Operand.tmp 22) 43 rfl w.heap.size 5 i0 (.int .u8 0) 1 1 Try.underlying43 hi0 hz0 hz1 hz2 rfl (by decide) _ _ (u8s bs).length 4 (u8s bs) (u8s (four m)) rfl rfl hown2 hsrc (by unfold maxLen; omega) (by omega) hbase ?_
  intro v3 w3 hown3 hg3 _
  have hF3 := fr_own hF2 hown2 hg3 (Nat.le_refl _)
  have hfin : u8s bs ++ u8s (four m) = u8s (closeS key bs) := by rw [u8s_append]; unfold closeS; rw [HM.out]; rfl
  have hlen : (u8s bs).length + 4 = (closeS key bs).length := by rw [closeS_len, u8s_len]
  rw [hfin, hlen] at hown3
  clear hfin hlen hg3 hblk hsrc hfour hlen8 hbase
  go_wp2_with fail
  go_ret
  exact ⟨_, rfl, hown3, hF3⟩
end Go.Proofs.Ytidlpihffolelaa.Tg
