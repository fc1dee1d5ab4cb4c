import Derived.Test.YtlfdbkdaamodnaaBit
namespace Go.Proofs.Ytlfdbkdaamodnaa.Bt
open Go.RowKit Dt Go.Proofs.Ytlfdbkdaamodnaa.Hd
set_option linter.unusedVariables false

/-- the bytes of a list of bits, and how many bits -/
def pkS (L : List Nat) : List Nat × Nat := L.foldl (fun s b => (putS s.1 s.2 b, s.2 + 1)) ([], 0)
def pk (L : List Nat) : List Nat := (pkS L).1
theorem pkS_snoc (L : List Nat) (b : Nat) : pkS (L ++ [b]) = (putS (pkS L).1 (pkS L).2 b, (pkS L).2 + 1) := by unfold pkS; rw [List.foldl_append]; rfl
theorem pkS_len (L : List Nat) : (pkS L).2 = L.length := by
  have : ∀ (L : List Nat) (s : List Nat × Nat), (L.foldl (fun s b => (putS s.1 s.2 b, s.2 + 1)) s).2 = s.2 + L.length := by
    intro L
    induction L with
    | nil => intro s; rfl
    | cons x L ih => intro s; rw [List.foldl_cons, ih]; simp; omega
  have h := this L ([], 0); simpa [pkS] using h
theorem pk_snoc (L : List Nat) (b : Nat) : pk (L ++ [b]) = putS (pk L) L.length b := by unfold pk; rw [pkS_snoc, pkS_len]
/-- the lowest k bits of a number, the highest first -/
def bitsOf (v : Nat) : Nat → List Nat
  | 0 => []
  | k + 1 => (v / 2 ^ k % 2) :: bitsOf v k
theorem bitsOf_len (v k : Nat) : (bitsOf v k).length = k := by induction k with
  | zero => rfl
  | succ k ih => simp [bitsOf, ih]
theorem bitsOf_join (v k m : Nat) : bitsOf (v / 2 ^ m) k ++ bitsOf v m = bitsOf v (k + m) := by
  induction k with
  | zero => simp [bitsOf]
  | succ k ih =>
    have e : k + 1 + m = (k + m) + 1 := by omega
    rw [e]
    simp only [bitsOf, List.cons_append, ih]
    rw [Nat.div_div_eq_div_mul, ← Nat.pow_add, Nat.add_comm m k]

set_option maxHeartbeats 1600000 in
theorem Put_any {w : World} {B A : Nat} {bv : Value} {L : List Nat} {v : Nat} {n : Int} {k : Nat} (h : HasWr w B A bv (pk L) L.length) (hv : v < 18446744073709551616) (hk : (k : Int) = max 0 (min n 64)) (hs : L.length + 64 ≤ 1099511627776) :
    Calls Try.prog 39 #[.pointer (some ⟨A, 0, none⟩), .int .u64 v, .int .i64 n] w fun e w' => e = .returned (.tuple #[]) ∧ ∃ bv', HasWr w' B A bv' (pk (L ++ bitsOf v k)) (L ++ bitsOf v k).length ∧ Fr (A :: bv.ownBlock.toList) w w' ∧ (bv'.ownBlock = bv.ownBlock ∨ ∃ g, bv'.ownBlock = some g ∧ w.heap.size ≤ g) := by
  have HK := Lib.hid hk
  have hk64 : k ≤ 64 := by omega
  clear hk
  go_enter Try.func39, Try.ntmps39
  go_wp2_with fail
  refine (within_any _ _ k HK.out).mono ?_; rintro e w' ⟨rfl, rfl⟩
  go_wp2_with fail
  have hsz := h.room
  have HH := Lib.hid h; clear h
  go_loopw [6] (fun iv wr => ∃ (j : Nat) (D : List Nat) (bv1 : Value), j ≤ k ∧ iv = .int .i64 ((j : Int) - 1) ∧ D.length + j = k ∧ D ++ bitsOf v j = bitsOf v k ∧ HasWr wr B A bv1 (pk (L ++ D)) (L ++ D).length ∧ Fr (A :: bv.ownBlock.toList) w wr ∧ (bv1.ownBlock = bv.ownBlock ∨ ∃ g, bv1.ownBlock = some g ∧ w.heap.size ≤ g)) (fun iv _ => (intOf iv + 1).toNat)
  case atStart => exact ⟨k, [], bv, Nat.le_refl _, rfl, by simp, rfl, by simpa using HH.out, Fr.refl _ _, .inl rfl⟩
  case round =>
    obtain ⟨j, D, bv1, hj, rfl, hDl, hD, hW, hF, hat⟩ := hrel
    cases j with
    | zero =>
      have hD' : D = bitsOf v k := by simpa [bitsOf] using hD
      subst hD'
      clear hD
      go_wp2_with fail
      (try simp only [Exit.inBlock, Exit.then])
      refine bodyPost_end (results_none rfl _ _ _) rfl ?_
      exact ⟨rfl, bv1, hW, hF, hat⟩
    | succ m =>
      have em : ((m + 1 : Nat) : Int) - 1 = (m : Int) := by omega
      rw [em]
      have hm64 : (m : Int) < 64 := by omega
      have hbit : bits .and .u64 ((v : Int) / 2 ^ m) 1 = ((v / 2 ^ m % 2 : Nat) : Int) := by
        have e : (v : Int) / 2 ^ m = ((v / 2 ^ m : Nat) : Int) := by push_cast; rfl
        have hlt : v / 2 ^ m < 18446744073709551616 := Nat.lt_of_le_of_lt (Nat.div_le_self _ _) hv
        rw [e, show (1 : Int) = ((1 : Nat) : Int) from rfl, u64_and_nat _ _ hlt (by decide), Nat.and_one_is_mod]
      have HBT := Lib.hid hbit; clear hbit
      obtain ⟨b, hb⟩ : ∃ b, v / 2 ^ m % 2 = b := ⟨_, rfl⟩
      have hb2 : b < 2 := by omega
      have hD2 : (D ++ [b]) ++ bitsOf v m = bitsOf v k := by rw [← hD, ← hb]; simp [bitsOf]
      have HD := Lib.hid hD2; have HB := Lib.hid hb
      clear hD hD2 hb em
      have hll : (L ++ D).length < 1099511627776 := by rw [List.length_append]; omega
      go_wp2_with fail
      rw [HBT.out, HB.out]
      refine (put_any hW hb2 hll).mono ?_; rintro e w5 ⟨rfl, bv2, hW2, hF2, hat2⟩
      have hX : ∀ x ∈ A :: bv1.ownBlock.toList, x ∈ A :: bv.ownBlock.toList ∨ w.heap.size ≤ x := by
        intro x hx
        rcases hat with h | ⟨g, h, hg⟩
        · rw [h] at hx; exact .inl hx
        · rw [h] at hx
          simp only [Option.toList_some, List.mem_cons, List.not_mem_nil, or_false] at hx
          rcases hx with hx | hx
          · exact .inl (by rw [hx]; simp)
          · exact .inr (by rw [hx]; exact hg)
      have hF3 := hF.trans hF2 hX
      have hat3 : bv2.ownBlock = bv.ownBlock ∨ ∃ g, bv2.ownBlock = some g ∧ w.heap.size ≤ g := by
        rcases hat2 with h | ⟨g, h, hg⟩
        · rw [h]; exact hat
        · exact .inr ⟨g, h, Nat.le_trans hF.size hg⟩
      have hpk := pk_snoc (L ++ D) b
      rw [← hpk, List.append_assoc] at hW2
      have hl2 : (L ++ (D ++ [b])).length = (L ++ D).length + 1 := by simp <;> omega
      rw [← hl2] at hW2
      clear hpk hl2 hF2 hat2 hX hF hW
      go_wp2_with fail
      go_roundw
      case rel => exact ⟨m, D ++ [b], bv2, by omega, by go_num, by rw [List.length_append, List.length_singleton]; omega, HD.out, hW2, hF3, hat3⟩
      case measure => simp [intOf] <;> omega
end Go.Proofs.Ytlfdbkdaamodnaa.Bt
