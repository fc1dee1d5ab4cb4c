import Derived.Test.YtlfdbkdaamodnaaBit12
namespace Go.Proofs.Ytlfdbkdaamodnaa.Bt
open Go.RowKit Dt Go.Proofs.Ytlfdbkdaamodnaa.Hd
set_option linter.unusedVariables false
set_option linter.unusedSimpArgs false

theorem bitAt_test (bs : List Nat) (i : Nat) : bitAt bs i = ((bs.getD (i / 8) 0).testBit (7 - i % 8)).toNat := by
  unfold bitAt; rw [Nat.toNat_testBit]
theorem bit_pow {b d e : Nat} (hb : b < 2) : (b * 2 ^ d).testBit e = (decide (d = e) && decide (b = 1)) := by
  have h2 : b = 0 ∨ b = 1 := by omega
  rcases h2 with rfl | rfl
  · simp
  · simp [Nat.testBit_two_pow]
/-- the bits that were laid are the bits that stand there; behind them 0 -/
theorem bitAt_pk (L : List Nat) : (∀ x ∈ L, x < 2) → ∀ i, bitAt (pk L) i = L.getD i 0 := by
  refine snoc_ind (P := fun L => (∀ x ∈ L, x < 2) → ∀ i, bitAt (pk L) i = L.getD i 0) ?_ ?_ L
  · intro _ i; simp [bitAt, pk, pkS]
  · intro L b ih hL i
    have ih := ih (fun x hx => hL x (List.mem_append_left _ hx))
    have hb := hL b (by simp)
    have hlen := pk_len L
    rw [pk_snoc, bitAt_test]
    unfold putS
    obtain ⟨c, hc⟩ : ∃ c, (if L.length % 8 = 0 then pk L ++ [0] else pk L) = c := ⟨_, rfl⟩
    have hcd : ∀ m, c.getD m 0 = (pk L).getD m 0 := by
      intro m; rw [← hc]; split
      · simp only [List.getD_eq_getElem?_getD, List.getElem?_append]
        split
        · rfl
        · rw [List.getElem?_eq_none (l := pk L) (by omega)]
          by_cases hm : m - (pk L).length = 0
          · rw [hm]; rfl
          · rw [List.getElem?_eq_none (by simp; omega)]
      · rfl
    have hcl : L.length / 8 < c.length := by
      rw [← hc]; split
      · simp; omega
      · omega
    simp only [hc]
    have hset : ∀ m x, (c.set (L.length / 8) x).getD m 0 = if m = L.length / 8 then x else (pk L).getD m 0 := by
      intro m x
      rw [← hcd m]
      simp only [List.getD_eq_getElem?_getD, List.getElem?_set]
      by_cases hm : L.length / 8 = m
      · subst hm; simp [hcl]
      · rw [if_neg hm, if_neg (fun h => hm h.symm)]
    rw [hset]
    by_cases hi : i = L.length
    · subst hi
      have h0 := ih L.length
      rw [bitAt_test] at h0
      rw [if_pos rfl, Nat.testBit_or, hcd, bit_pow hb]
      have e0 : L.getD L.length 0 = 0 := by simp [List.getD_eq_getElem?_getD]
      rw [e0] at h0
      have e1 : (L ++ [b]).getD L.length 0 = b := by simp [List.getD_eq_getElem?_getD]
      rw [e1]
      have e2 : ((pk L).getD (L.length / 8) 0).testBit (7 - L.length % 8) = false := by
        cases h : ((pk L).getD (L.length / 8) 0).testBit (7 - L.length % 8)
        · rfl
        · rw [h] at h0; simp at h0
      rw [e2]
      have h2 : b = 0 ∨ b = 1 := by omega
      rcases h2 with rfl | rfl <;> simp
    · have e1 : (L ++ [b]).getD i 0 = L.getD i 0 := by
        simp only [List.getD_eq_getElem?_getD, List.getElem?_append]
        split
        · rfl
        · rw [List.getElem?_eq_none (l := L) (by omega), List.getElem?_eq_none (by simp; omega)]
      rw [e1, ← ih i, bitAt_test]
      split
      · rename_i h8
        rw [Nat.testBit_or, hcd, bit_pow hb, ← h8]
        have : decide (7 - L.length % 8 = 7 - i % 8) = false := by simp; omega
        rw [this]; simp
      · rfl
theorem bitsOf_snoc (v k : Nat) : bitsOf v (k + 1) = bitsOf (v / 2) k ++ [v % 2] := by
  have := bitsOf_join v k 1
  rw [← this]; simp [bitsOf]
theorem getN_of {bs : List Nat} {p : Nat} : ∀ (k v : Nat), (∀ j, j < k → bitAt bs (p + j) = (bitsOf v k).getD j 0) → getN bs p k = v % 2 ^ k := by
  intro k
  induction k with
  | zero => intro v _; simp [getN, Nat.mod_one]
  | succ k ih =>
    intro v h
    have h1 : getN bs p k = v / 2 % 2 ^ k := by
      refine ih (v / 2) fun j hj => ?_
      rw [h j (by omega), bitsOf_snoc]
      simp only [List.getD_eq_getElem?_getD]
      rw [List.getElem?_append_left (by rw [bitsOf_len]; exact hj)]
    have h2 : bitAt bs (p + k) = v % 2 := by
      rw [h k (by omega), bitsOf_snoc]
      simp only [List.getD_eq_getElem?_getD]
      rw [List.getElem?_append_right (by rw [bitsOf_len]; omega), bitsOf_len]; simp
    unfold getN
    rw [h1, h2, Nat.pow_succ']
    have := Nat.mod_mul (x := v) (a := 2) (b := 2 ^ k)
    omega
/-- a number that was laid is taken back -/
theorem getN_laid {D E : List Nat} {v k : Nat} (hL : ∀ x ∈ D ++ bitsOf v k ++ E, x < 2) : getN (pk (D ++ bitsOf v k ++ E)) D.length k = v % 2 ^ k := by
  refine getN_of k v fun j hj => ?_
  rw [bitAt_pk _ hL]
  simp only [List.getD_eq_getElem?_getD]
  rw [List.getElem?_append_left (by rw [List.length_append, bitsOf_len]; omega), List.getElem?_append_right (by omega)]
  congr 2; omega
theorem getN_rest {L : List Nat} (hL : ∀ x ∈ L, x < 2) : ∀ k, getN (pk L) L.length k = 0 := by
  intro k
  induction k with
  | zero => rfl
  | succ k ih =>
    unfold getN
    rw [ih, bitAt_pk _ hL]
    simp only [List.getD_eq_getElem?_getD]
    rw [List.getElem?_eq_none (by omega)]; rfl

/-- BitsBack: of a field: in how many bits, the number, what is laid -/
def kOf (z : Int × Int × Bool) : Nat := (1 + z.2.1 % 64).toNat
def sOf (z : Int × Int × Bool) : Int := wrap64 z.1 / 2 ^ (64 - kOf z)
def uOf (z : Int × Int × Bool) : Nat := if z.2.2 = true then (sOf z % 18446744073709551616).toNat else z.1.toNat
theorem kOf_bd (z : Int × Int × Bool) : 1 ≤ kOf z ∧ kOf z ≤ 64 := by unfold kOf; omega
def laid (z : Nat → Int × Int × Bool) : Nat → List Nat
  | 0 => []
  | j + 1 => laid z j ++ bitsOf (uOf (z j)) (kOf (z j))
theorem laid_lt (z : Nat → Int × Int × Bool) : ∀ j, ∀ x ∈ laid z j, x < 2 := by
  intro j
  induction j with
  | zero => simp [laid]
  | succ j ih =>
    intro x hx
    simp only [laid, List.mem_append] at hx
    rcases hx with hx | hx
    · exact ih x hx
    · exact bitsOf_lt _ _ x hx
theorem laid_len (z : Nat → Int × Int × Bool) (j : Nat) : (laid z (j + 1)).length = (laid z j).length + kOf (z j) := by simp [laid, bitsOf_len]
theorem laid_bd (z : Nat → Int × Int × Bool) : ∀ j, (laid z j).length ≤ 64 * j := by
  intro j
  induction j with
  | zero => simp [laid]
  | succ j ih => rw [laid_len]; have := (kOf_bd (z j)).2; omega
theorem laid_split (z : Nat → Int × Int × Bool) {j m : Nat} (h : j < m) : ∃ E, laid z m = laid z j ++ bitsOf (uOf (z j)) (kOf (z j)) ++ E := by
  obtain ⟨d, rfl⟩ : ∃ d, m = j + 1 + d := ⟨m - (j + 1), by omega⟩
  clear h
  induction d with
  | zero => exact ⟨[], by simp [laid]⟩
  | succ d ih =>
    obtain ⟨E, hE⟩ := ih
    exact ⟨E ++ bitsOf (uOf (z (j + 1 + d))) (kOf (z (j + 1 + d))), by rw [show j + 1 + (d + 1) = (j + 1 + d) + 1 from rfl]; conv => lhs; unfold laid
                                                                       rw [hE]; simp⟩
theorem back (z : Nat → Int × Int × Bool) {j m : Nat} (h : j < m) : getN (pk (laid z m)) (laid z j).length (kOf (z j)) = uOf (z j) % 2 ^ kOf (z j) ∧ (laid z j).length + kOf (z j) ≤ (laid z m).length := by
  obtain ⟨E, hE⟩ := laid_split z h
  have hlt := laid_lt z m
  rw [hE] at hlt ⊢
  exact ⟨getN_laid hlt, by simp [bitsOf_len]⟩
theorem sOf_bd (z : Int × Int × Bool) : -(2 ^ (kOf z - 1) : Int) ≤ sOf z ∧ sOf z < 2 ^ (kOf z - 1) := by
  obtain ⟨h1, h2⟩ := kOf_bd z
  unfold sOf
  generalize kOf z = k at *
  have hw : -9223372036854775808 ≤ wrap64 z.1 ∧ wrap64 z.1 < 9223372036854775808 := by unfold wrap64; omega
  generalize wrap64 z.1 = x at *
  have hp : ((2 : Int) ^ (k - 1)) * 2 ^ (64 - k) = 9223372036854775808 := by
    rw [← Int.pow_add]; have : k - 1 + (64 - k) = 63 := by omega
    rw [this]; rfl
  have hq : (0 : Int) < 2 ^ (64 - k) := Int.pow_pos (by decide)
  constructor
  · rw [Int.le_ediv_iff_mul_le hq, Int.neg_mul, hp]; omega
  · rw [Int.ediv_lt_iff_lt_mul hq, hp]; omega
theorem sgn_back {z : Int × Int × Bool} (hz : z.2.2 = true) : sgn (uOf z % 2 ^ kOf z) (kOf z) = sOf z := by
  obtain ⟨h1, h2⟩ := kOf_bd z
  obtain ⟨h3, h4⟩ := sOf_bd z
  unfold uOf; rw [if_pos hz]
  generalize sOf z = s at *
  generalize kOf z = k at *
  obtain ⟨Q, hQ⟩ : ∃ Q : Nat, 2 ^ (k - 1) = Q := ⟨_, rfl⟩
  have hk : 2 ^ k = 2 * Q := by rw [← hQ, ← Nat.pow_succ']; congr 1; omega
  have hQi : ((2 : Int) ^ (k - 1)) = (Q : Int) := by rw [← hQ]; push_cast; rfl
  have hki : ((2 : Int) ^ k) = 2 * (Q : Int) := by
    have : ((2 ^ k : Nat) : Int) = ((2 * Q : Nat) : Int) := by rw [hk]
    push_cast at this; exact this
  have hdvd : (2 * Q) ∣ 18446744073709551616 := by
    rw [← hk]; exact ⟨2 ^ (64 - k), by rw [← Nat.pow_add]; have : k + (64 - k) = 64 := by omega
                                       rw [this]⟩
  rw [hQi] at h3 h4
  have e1 : (((s % 18446744073709551616).toNat % (2 * Q) : Nat) : Int) = s % (2 * (Q : Int)) := by
    have hn : 0 ≤ s % 18446744073709551616 := Int.emod_nonneg _ (by decide)
    rw [Int.natCast_emod, Int.toNat_of_nonneg hn, Int.natCast_mul]
    have hd' : ((2 * (Q : Int)) ∣ 18446744073709551616) := by
      have := Int.natCast_dvd_natCast.2 hdvd
      rw [Int.natCast_mul] at this; exact this
    exact Int.emod_emod_of_dvd s hd'
  unfold sgn
  rw [hk, hki]
  obtain ⟨m, hm⟩ : ∃ m, (s % 18446744073709551616).toNat % (2 * Q) = m := ⟨_, rfl⟩
  rw [hm] at e1 ⊢
  rcases Int.lt_or_le s 0 with hs | hs
  · have : s % (2 * (Q : Int)) = s + 2 * Q := by
      rw [← Int.add_emod_right]; exact Int.emod_eq_of_lt (by omega) (by omega)
    rw [if_pos ⟨by omega, by omega⟩]; omega
  · have : s % (2 * (Q : Int)) = s := Int.emod_eq_of_lt (by omega) (by omega)
    rw [if_neg (fun h => by omega)]; omega
end Go.Proofs.Ytlfdbkdaamodnaa.Bt
