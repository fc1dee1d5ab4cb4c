import Derived.Test.YtlfdbkdaamodnaaBit5
namespace Go.Proofs.Ytlfdbkdaamodnaa.Bt
open Go.RowKit Dt Go.Proofs.Ytlfdbkdaamodnaa.Hd
set_option linter.unusedVariables false

theorem rSigned_any {w : World} {B A : Nat} {bv : Value} {L : List Nat} {v : Int} {u : Nat} {n : Int} {k : Nat} (h : HasRB w B A bv L) (hu : IntKind.u64.wrap v = (u : Int)) (hk : (k : Int) = max 0 (min 64 n)) (hs : L.length + 64 ≤ 1099511627776) :
    Calls Try.prog 44 #[.pointer (some ⟨A, 0, none⟩), .int .i64 v, .int .i64 n] w fun e w' => e = .returned (.tuple #[]) ∧ ∃ bv', HasRB w' B A bv' (L ++ bitsOf u k) ∧ Fr (A :: bv.ownBlock.toList) w w' ∧ (bv'.ownBlock = bv.ownBlock ∨ ∃ g, bv'.ownBlock = some g ∧ w.heap.size ≤ g) := by
  have hu2 : u < 18446744073709551616 := by rw [IntKind.wrap_u64] at hu; omega
  have HU := Lib.hid hu; clear hu
  go_enter Try.func44, Try.ntmps44
  go_wp2_with fail
  rw [HU.out]
  refine (rPut_any h hu2 hk hs).mono ?_; rintro e w1 ⟨rfl, bv', h1, h2, h3⟩
  go_wp2_with fail
  refine bodyPost_end (results_none rfl _ _ _) rfl ?_
  exact ⟨rfl, bv', h1, h2, h3⟩

theorem snoc_ind {P : List Nat → Prop} (h0 : P []) (h1 : ∀ L b, P L → P (L ++ [b])) : ∀ L, P L := by
  have : ∀ n (L : List Nat), L.length = n → P L := by
    intro n
    induction n with
    | zero => intro L h; rw [List.eq_nil_of_length_eq_zero h]; exact h0
    | succ n ih =>
      intro L h
      have hne : L ≠ [] := by intro e; rw [e] at h; simp at h
      rw [← List.dropLast_concat_getLast hne]
      exact h1 _ _ (ih _ (by simp [h]))
  exact fun L => this _ L rfl
theorem pk_len (L : List Nat) : (pk L).length = (L.length + 7) / 8 := by
  refine snoc_ind (P := fun L => (pk L).length = (L.length + 7) / 8) rfl (fun L b ih => ?_) L
  rw [pk_snoc]
  unfold putS
  simp only [List.length_set, List.length_append, List.length_singleton]
  split
  · rw [List.length_append, ih]; simp; omega
  · rw [ih]; omega
/-- the last byte of a list of bits: its low bits are free -/
theorem pk_low (L : List Nat) (hL : ∀ x ∈ L, x < 2) : L.length % 8 ≠ 0 → ∃ q, (pk L)[L.length / 8]? = some (q * 2 ^ (8 - L.length % 8)) := by
  revert hL
  refine snoc_ind (P := fun L => (∀ x ∈ L, x < 2) → L.length % 8 ≠ 0 → ∃ q, (pk L)[L.length / 8]? = some (q * 2 ^ (8 - L.length % 8))) ?_ ?_ L
  · intro _ h; exact absurd rfl h
  · intro L b ih hL h8
    have hb : b < 2 := hL b (by simp)
    have hpl := pk_len L
    rw [List.length_append, List.length_singleton] at h8 ⊢
    have e1 : (L.length + 1) / 8 = L.length / 8 := by omega
    have e2 : 8 - (L.length + 1) % 8 = 7 - L.length % 8 := by omega
    rw [e1, e2, pk_snoc]
    by_cases h0 : L.length % 8 = 0
    · have hp := putS_eq (bs := pk L) (cs := pk L ++ [0]) (n := L.length) (b := b) (x := 0) (by rw [if_pos h0]) (by rw [List.getElem?_append_right (by omega)]; rw [show L.length / 8 - (pk L).length = 0 by omega]; rfl) rfl
      rw [hp, Nat.zero_or]
      refine ⟨b, ?_⟩
      rw [List.getElem?_set_self (by rw [List.length_append, List.length_singleton]; omega)]
    · obtain ⟨q, hq⟩ := ih (fun x hx => hL x (by simp [hx])) h0
      have hp := putS_eq (bs := pk L) (cs := pk L) (n := L.length) (b := b) (by rw [if_neg h0]) hq rfl
      rw [hp]
      have hlt : L.length / 8 < (pk L).length := by omega
      rw [List.getElem?_set_self hlt]
      have e3 : 2 ^ (8 - L.length % 8) = 2 * 2 ^ (7 - L.length % 8) := by rw [show 8 - L.length % 8 = (7 - L.length % 8) + 1 by omega, Nat.pow_succ]; omega
      have e4 : b * 2 ^ (7 - L.length % 8) < 2 ^ (8 - L.length % 8) := by
        rw [e3]; have : 0 < 2 ^ (7 - L.length % 8) := Nat.two_pow_pos _
        rcases (show b = 0 ∨ b = 1 by omega) with rfl | rfl <;> omega
      have e5 : q * 2 ^ (8 - L.length % 8) ||| b * 2 ^ (7 - L.length % 8) = q * 2 ^ (8 - L.length % 8) + b * 2 ^ (7 - L.length % 8) := by
        rw [Nat.mul_comm q, Nat.two_pow_add_eq_or_of_lt e4]
      exact ⟨2 * q + b, by rw [e5, e3]; congr 1; rw [Nat.add_mul]; congr 1; rw [← Nat.mul_assoc, Nat.mul_comm q 2]⟩
theorem pk_lt (L : List Nat) (hL : ∀ x ∈ L, x < 2) : ∀ y ∈ pk L, y < 256 := by
  revert hL
  refine snoc_ind (P := fun L => (∀ x ∈ L, x < 2) → ∀ y ∈ pk L, y < 256) (fun _ y hy => by simp [pk, pkS] at hy) (fun L b ih hL => ?_) L
  have hb : b < 2 := hL b (by simp)
  have ih' := ih (fun x hx => hL x (by simp [hx]))
  have hpl := pk_len L
  obtain ⟨c, hc⟩ : ∃ c, c = if L.length % 8 = 0 then pk L ++ [0] else pk L := ⟨_, rfl⟩
  have hclt : ∀ y ∈ c, y < 256 := by
    intro y hy
    rw [hc] at hy
    split at hy
    · simp only [List.mem_append, List.mem_singleton] at hy
      rcases hy with h | h
      · exact ih' y h
      · omega
    · exact ih' y hy
  have hcl : L.length / 8 < c.length := by
    rw [hc]; split
    · simp; omega
    · omega
  have hp := putS_eq (bs := pk L) (cs := c) (n := L.length) (b := b) hc (List.getElem?_eq_getElem hcl) rfl
  rw [pk_snoc, hp]
  intro y hy
  have hpw : 2 ^ (7 - L.length % 8) ≤ 2 ^ 7 := Nat.pow_le_pow_right (by decide) (by omega)
  have hz : b * 2 ^ (7 - L.length % 8) < 256 := by
    have : b * 2 ^ (7 - L.length % 8) ≤ 1 * 2 ^ 7 := Nat.mul_le_mul (by omega) hpw
    omega
  rcases List.mem_or_eq_of_mem_set hy with h | h
  · exact hclt y h
  · rw [h]; exact Nat.or_lt_two_pow (n := 8) (hclt _ (List.getElem_mem hcl)) hz
/-- what the reference has written after i bits -/
def full (N : Nat) (L : List Nat) : List Nat := pk L ++ List.replicate (N - (L.length + 7) / 8) 0
theorem full_step {N : Nat} {L : List Nat} {b : Nat} (hL : ∀ x ∈ L, x < 2) (hb : b < 2) (hN : L.length / 8 < N) :
    ∃ x, (full N L)[L.length / 8]? = some x ∧ x + b * 2 ^ (7 - L.length % 8) < 256 ∧ full N (L ++ [b]) = (full N L).set (L.length / 8) (x + b * 2 ^ (7 - L.length % 8)) := by
  have hpl := pk_len L
  obtain ⟨c, hc⟩ : ∃ c, c = if L.length % 8 = 0 then pk L ++ [0] else pk L := ⟨_, rfl⟩
  have hcl : c.length = L.length / 8 + 1 := by
    rw [hc]; split
    · simp; omega
    · omega
  have hfull : full N L = c ++ List.replicate (N - (L.length / 8 + 1)) 0 := by
    unfold full; rw [hc]; split
    · rename_i h0
      rw [List.append_assoc]; congr 1
      rw [show N - (L.length + 7) / 8 = (N - (L.length / 8 + 1)) + 1 by omega, List.replicate_succ]; rfl
    · rename_i h0
      rw [show (L.length + 7) / 8 = L.length / 8 + 1 by omega]
  have hp2 : (0 : Nat) < 2 ^ (7 - L.length % 8) := Nat.two_pow_pos _
  have hx : ∃ q, c[L.length / 8]? = some (q * 2 ^ (8 - L.length % 8)) ∧ (L.length % 8 = 0 → q = 0) := by
    by_cases h0 : L.length % 8 = 0
    · refine ⟨0, ?_, fun _ => rfl⟩
      rw [hc, if_pos h0, List.getElem?_append_right (by omega), show L.length / 8 - (pk L).length = 0 by omega]; simp
    · obtain ⟨q, hq⟩ := pk_low L hL h0
      exact ⟨q, by rw [hc, if_neg h0]; exact hq, fun h => absurd h h0⟩
  obtain ⟨q, hq, hq0⟩ := hx
  have e3 : 2 ^ (8 - L.length % 8) = 2 * 2 ^ (7 - L.length % 8) := by rw [show 8 - L.length % 8 = (7 - L.length % 8) + 1 by omega, Nat.pow_succ]; omega
  have e4 : b * 2 ^ (7 - L.length % 8) < 2 ^ (8 - L.length % 8) := by
    rw [e3]; rcases (show b = 0 ∨ b = 1 by omega) with rfl | rfl <;> omega
  have e5 : q * 2 ^ (8 - L.length % 8) ||| b * 2 ^ (7 - L.length % 8) = q * 2 ^ (8 - L.length % 8) + b * 2 ^ (7 - L.length % 8) := by
    rw [Nat.mul_comm q, Nat.two_pow_add_eq_or_of_lt e4]
  have hp := putS_eq (bs := pk L) (cs := c) (n := L.length) (b := b) hc hq rfl
  rw [e5] at hp
  refine ⟨q * 2 ^ (8 - L.length % 8), ?_, ?_, ?_⟩
  · rw [hfull, List.getElem?_append_left (by omega)]; exact hq
  · have hlt : q * 2 ^ (8 - L.length % 8) < 256 := by
      have h1 : q * 2 ^ (8 - L.length % 8) ∈ c := List.mem_of_getElem? hq
      rw [hc] at h1
      split at h1
      · simp only [List.mem_append, List.mem_singleton] at h1
        rcases h1 with h | h
        · exact pk_lt L hL _ h
        · omega
      · exact pk_lt L hL _ h1
    rw [e3] at hlt ⊢
    have hd : 256 = 2 ^ (L.length % 8) * (2 * 2 ^ (7 - L.length % 8)) := by
      rw [← e3, ← Nat.pow_add]
      have : L.length % 8 + (8 - L.length % 8) = 8 := by omega
      rw [this]
    have hq2 : q < 2 ^ (L.length % 8) := by
      rw [hd] at hlt
      exact Nat.lt_of_mul_lt_mul_right hlt
    have h3 : (q + 1) * (2 * 2 ^ (7 - L.length % 8)) ≤ 2 ^ (L.length % 8) * (2 * 2 ^ (7 - L.length % 8)) := Nat.mul_le_mul_right _ hq2
    rw [← hd, Nat.add_mul, Nat.one_mul] at h3
    have h4 : b * 2 ^ (7 - L.length % 8) ≤ 1 * 2 ^ (7 - L.length % 8) := Nat.mul_le_mul_right _ (by omega)
    omega
  · rw [hfull, List.set_append_left _ _ (by omega), ← hp]
    unfold full
    rw [pk_snoc, List.length_append, List.length_singleton]
    rw [show (L.length + 1 + 7) / 8 = L.length / 8 + 1 by omega]
end Go.Proofs.Ytlfdbkdaamodnaa.Bt
