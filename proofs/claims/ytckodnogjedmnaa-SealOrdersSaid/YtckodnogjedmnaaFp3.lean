/- 'nearest' over whole numbers; what finite words stand for; sums, differences, products, quotients, orders. -/
import Derived.Test.YtckodnogjedmnaaFp2
namespace Dt
open Ieee

/-- one, in units of 2^-1074 -/
def S : Nat := (2 ^ 179) ^ 6
theorem S_eq : ∃ c : Nat, c = 1074 ∧ S = 2 ^ c := ⟨179 * 6, rfl, (Nat.pow_mul 2 179 6).symm⟩
theorem S_pos : 0 < S := Nat.pow_pos (Nat.two_pow_pos _)
theorem eq_B : B = 2 ^ 52 := by decide
def infR : Nat := 9218868437227405312
theorem infR_eq : double.infRung = infR := by decide
theorem binade_eq : double.binade = B := by decide
theorem least_eq : double.leastPlace = -1074 := by decide
theorem sw_eq : double.signWeight = 9223372036854775808 := by decide

/-- What 'nearest' does, told by the number that it cuts. -/
theorem nearest_core (neg : Bool) (mag : Nat) (place : Int) (hm : mag ≠ 0) : ∃ K L s t : Nat,
    double.nearest neg mag place = double.word neg (min (L * B + K) infR) ∧ (s : Int) - t = place + 1074 - L ∧ (s = 0 ∨ t = 0) ∧
    K = Toward.even.cut neg (mag * 2 ^ s) t ∧ (1 ≤ L → B * 2 ^ t ≤ mag * 2 ^ s) ∧ mag * 2 ^ s < 2 * B * 2 ^ t ∧ (∀ u : Nat, 2 ^ (52 + u) ≤ mag → u ≤ t) := by
  unfold Format.nearest
  rw [if_neg hm, infR_eq, binade_eq, least_eq]
  have hf : (double.fractionBits : Int) = 52 := rfl
  rw [hf]
  dsimp only
  generalize hlast : max (place + (mag.log2 : Int) - 52) (-1074) = last
  generalize hs : (place - last).toNat = s
  generalize ht : (last - place).toNat = t
  generalize hL : (last - -1074).toNat = L
  have he1 : 2 ^ mag.log2 ≤ mag := Nat.log2_self_le hm
  have he2 : mag < 2 ^ (mag.log2 + 1) := Nat.lt_log2_self
  generalize mag.log2 = e at *
  have hn : mag <<< s = mag * 2 ^ s := Nat.shiftLeft_eq _ _
  rw [hn]
  refine ⟨_, L, s, t, rfl, by omega, by omega, rfl, ?_, ?_, ?_⟩
  · intro h1
    have hexp : 52 + t = e + s := by omega
    rw [eq_B, ← Nat.pow_add, hexp, Nat.pow_add]
    exact Nat.mul_le_mul_right _ he1
  · have hexp : e + 1 + s ≤ 53 + t := by omega
    have h1 : mag * 2 ^ s < 2 ^ (e + 1) * 2 ^ s := (Nat.mul_lt_mul_right (Nat.two_pow_pos s)).2 he2
    rw [← Nat.pow_add] at h1
    have h2 : 2 ^ (e + 1 + s) ≤ 2 ^ (53 + t) := Nat.pow_le_pow_right (by decide) hexp
    have h3 : 2 * B * 2 ^ t = 2 ^ (53 + t) := by rw [eq_B, Nat.pow_add]
    omega
  · intro u hu
    have h1 : 2 ^ (52 + u) < 2 ^ (e + 1) := Nat.lt_of_le_of_lt hu he2
    have h2 := (Nat.pow_lt_pow_iff_right (by decide : 1 < 2)).1 h1
    omega

/-- From the number that is cut (told by E / nn, N / D in units of 2^(L - t)) to the rung. -/
theorem rnd_of_cut {N D K L t E nn : Nat} (hD : 0 < D) (hnn : 0 < nn) (hN : N * nn * 2 ^ t = E * 2 ^ L * D)
    (c1 : 2 * K * 2 ^ t * nn ≤ 2 * E + 2 ^ t * nn) (c2 : 2 * K * 2 ^ t * nn = 2 * E + 2 ^ t * nn → K % 2 = 0)
    (c3 : 2 * E ≤ 2 * K * 2 ^ t * nn + 2 ^ t * nn) (c4 : 2 * E = 2 * K * 2 ^ t * nn + 2 ^ t * nn → K % 2 = 0)
    (big : 1 ≤ L → B * 2 ^ t * nn ≤ E) (lt : E < 2 * B * 2 ^ t * nn) : isRnd N D (L * B + K) := by
  have pt : 0 < 2 ^ t := Nat.two_pow_pos t
  have pL : 0 < 2 ^ L := Nat.two_pow_pos L
  have pLD : 0 < 2 ^ L * D := Nat.mul_pos pL hD
  have ptn : 0 < nn * 2 ^ t := Nat.mul_pos hnn pt
  have t1 : ∀ x y : Nat, x * (nn * 2 ^ t) ≤ y * (nn * 2 ^ t) → x ≤ y := fun x y h => Nat.le_of_mul_le_mul_right h ptn
  have m1 : ∀ x y : Nat, x ≤ y → x * (2 ^ L * D) ≤ y * (2 ^ L * D) := fun x y h => Nat.mul_le_mul_right _ h
  have eN : N * (nn * 2 ^ t) = E * (2 ^ L * D) := by rw [← Nat.mul_assoc, hN, Nat.mul_assoc]
  have e2N : 2 * N * (nn * 2 ^ t) = 2 * E * (2 ^ L * D) := by rw [Nat.mul_assoc, eN, Nat.mul_assoc]
  have eK : 2 * K * 2 ^ L * D * (nn * 2 ^ t) = 2 * K * 2 ^ t * nn * (2 ^ L * D) := by simp only [Nat.mul_assoc, Nat.mul_comm, Nat.mul_left_comm]
  have eT : 2 ^ L * D * (nn * 2 ^ t) = 2 ^ t * nn * (2 ^ L * D) := by simp only [Nat.mul_assoc, Nat.mul_comm, Nat.mul_left_comm]
  refine isRnd_of_kept ?_ ?_ ?_ ?_ hD ?_ ?_ ?_ ?_
  · apply t1
    rw [Nat.add_mul, eK, eT, e2N, ← Nat.add_mul]
    exact m1 _ _ c1
  · intro h
    apply c2
    have h' : 2 * K * 2 ^ L * D * (nn * 2 ^ t) = (2 * N + 2 ^ L * D) * (nn * 2 ^ t) := by rw [h]
    rw [Nat.add_mul, eK, eT, e2N, ← Nat.add_mul] at h'
    exact Nat.eq_of_mul_eq_mul_right pLD h'
  · apply t1
    rw [Nat.add_mul, eK, eT, e2N, ← Nat.add_mul]
    exact m1 _ _ c3
  · intro h
    apply c4
    have h' : 2 * N * (nn * 2 ^ t) = (2 * K * 2 ^ L * D + 2 ^ L * D) * (nn * 2 ^ t) := by rw [h]
    rw [Nat.add_mul, eK, eT, e2N, ← Nat.add_mul] at h'
    exact Nat.eq_of_mul_eq_mul_right pLD h'
  · intro h1
    apply t1
    have h2 := m1 _ _ (big h1)
    rw [eN]
    have : B * 2 ^ L * D * (nn * 2 ^ t) = B * 2 ^ t * nn * (2 ^ L * D) := by simp only [Nat.mul_assoc, Nat.mul_comm, Nat.mul_left_comm]
    rw [this]; exact h2
  · intro h1
    have h2 := big h1
    rcases Nat.lt_or_ge K B with h | h
    · exfalso
      have h3 : (K + 1) * (2 ^ t * nn) ≤ B * (2 ^ t * nn) := Nat.mul_le_mul_right _ h
      rw [Nat.succ_mul] at h3
      have e1 : 2 * K * 2 ^ t * nn = 2 * (K * (2 ^ t * nn)) := by simp only [Nat.mul_assoc]
      have e2 : B * 2 ^ t * nn = B * (2 ^ t * nn) := by simp only [Nat.mul_assoc]
      have e3 : 0 < 2 ^ t * nn := Nat.mul_pos pt hnn
      omega
    · exact h
  · apply Nat.lt_of_mul_lt_mul_right (a := nn * 2 ^ t)
    rw [eN]
    have : 2 * B * 2 ^ L * D * (nn * 2 ^ t) = 2 * B * 2 ^ t * nn * (2 ^ L * D) := by simp only [Nat.mul_assoc, Nat.mul_comm, Nat.mul_left_comm]
    rw [this]
    exact (Nat.mul_lt_mul_right pLD).2 lt
  · rcases Nat.lt_or_ge (2 * B) K with h | h
    · exfalso
      have h3 : (2 * B + 1) * (2 ^ t * nn) ≤ K * (2 ^ t * nn) := Nat.mul_le_mul_right _ h
      rw [Nat.succ_mul] at h3
      have e1 : 2 * K * 2 ^ t * nn = 2 * (K * (2 ^ t * nn)) := by simp only [Nat.mul_assoc]
      have e2 : 2 * B * 2 ^ t * nn = 2 * B * (2 ^ t * nn) := by simp only [Nat.mul_assoc]
      have e3 : 0 < 2 ^ t * nn := Nat.mul_pos pt hnn
      omega
    · exact h

theorem nearest_rnd (neg : Bool) (mag : Nat) (place : Int) (hm : mag ≠ 0) {N D a b : Nat} (hD : 0 < D) (hN : N * 2 ^ a = mag * 2 ^ b * D) (hab : (b : Int) - a = place + 1074) :
    ∃ r, isRnd N D r ∧ double.nearest neg mag place = double.word neg (min r infR) := by
  obtain ⟨K, L, s, t, hw, hst, -, hK, hbig, hlt, -⟩ := nearest_core neg mag place hm
  obtain ⟨c1, c2, c3, c4⟩ := cut_even neg (mag * 2 ^ s) t
  rw [← hK] at c1 c2 c3 c4
  refine ⟨L * B + K, rnd_of_cut (E := mag * 2 ^ s) (nn := 1) hD (by decide) ?_ (by simpa using c1) (by simpa using c2) (by simpa using c3) (by simpa using c4) (by simpa using hbig) (by simpa using hlt), hw⟩
  have pa : 0 < 2 ^ a := Nat.two_pow_pos a
  apply Nat.eq_of_mul_eq_mul_right pa
  have hexp : b + t = a + L + s := by omega
  calc N * 1 * 2 ^ t * 2 ^ a = N * 2 ^ a * 2 ^ t := by rw [Nat.mul_one]; exact Nat.mul_right_comm _ _ _
    _ = mag * 2 ^ b * D * 2 ^ t := by rw [hN]
    _ = mag * (2 ^ b * 2 ^ t) * D := by simp only [Nat.mul_assoc, Nat.mul_comm, Nat.mul_left_comm]
    _ = mag * 2 ^ (a + L + s) * D := by rw [← Nat.pow_add, hexp]
    _ = mag * 2 ^ s * 2 ^ L * D * 2 ^ a := by rw [Nat.pow_add, Nat.pow_add]; simp only [Nat.mul_assoc, Nat.mul_comm, Nat.mul_left_comm]

/-! ### words -/
def ng (x : Nat) : Bool := x / 9223372036854775808 % 2 == 1
def rg (x : Nat) : Nat := x % 9223372036854775808
def fin (x : Nat) : Prop := rg x < infR
/-- what a finite word stands for, in units of 2^-1074 -/
def sv (x : Nat) : Int := if ng x then -(mg (rg x) : Int) else mg (rg x)
def wd (neg : Bool) (r : Nat) : Nat := if neg then 9223372036854775808 + r else r
theorem word_eq (neg : Bool) (r : Nat) : double.word neg r = wd neg r := by unfold Format.word wd; rw [sw_eq]
theorem infR_lt : infR < 9223372036854775808 := by decide
theorem ng_wd {neg : Bool} {r : Nat} (h : r < 9223372036854775808) : ng (wd neg r) = neg := by
  unfold ng wd; cases neg
  · have : r / 9223372036854775808 = 0 := Nat.div_eq_of_lt h
    simp [this]
  · have : (9223372036854775808 + r) / 9223372036854775808 = 1 := by omega
    simp [this]
theorem rg_wd {neg : Bool} {r : Nat} (h : r < 9223372036854775808) : rg (wd neg r) = r := by
  unfold rg wd; cases neg <;> simp <;> omega
theorem fin_wd {neg : Bool} {r : Nat} (h : r < infR) : fin (wd neg r) := by
  have := infR_lt
  unfold fin; rw [rg_wd (by omega)]; exact h
theorem sv_wd {neg : Bool} {r : Nat} (h : r < 9223372036854775808) : sv (wd neg r) = if neg then -(mg r : Int) else mg r := by
  unfold sv; rw [ng_wd h, rg_wd h]
theorem wd_lt {neg : Bool} {r : Nat} (h : r < 9223372036854775808) : wd neg r < 18446744073709551616 := by
  unfold wd; split <;> omega
/-- a word is its sign and its rung -/
theorem wd_self {x : Nat} (h : x < 18446744073709551616) : wd (ng x) (rg x) = x := by
  unfold wd ng rg
  by_cases c : x / 9223372036854775808 % 2 = 1
  · simp [c]; omega
  · simp [c]; omega
theorem mg_zero : mg 0 = 0 := mg_small B_pos
theorem mg_pos {r : Nat} (h : 0 < r) : 0 < mg r := by have := mg_strict h; rw [mg_zero] at this; exact this
theorem mg_eq_zero {r : Nat} : mg r = 0 ↔ r = 0 := by
  constructor
  · intro h; rcases Nat.eq_zero_or_pos r with h' | h'
    · exact h'
    · have := mg_pos h'; omega
  · rintro rfl; exact mg_zero

theorem read_fin {x : Nat} (h : fin x) : ∃ m : Nat, ∃ p : Nat, double.read x = .number (ng x) m ((p : Int) - 1074) ∧ m * 2 ^ p = mg (rg x) := by
  unfold fin at h
  unfold Format.read
  rw [sw_eq, infR_eq, binade_eq, least_eq]
  dsimp only
  have e1 : (x / 9223372036854775808 % 2 == 1) = ng x := rfl
  have e2 : x % 9223372036854775808 = rg x := rfl
  rw [e1, e2]
  by_cases h1 : rg x < B
  · refine ⟨rg x, 0, ?_, by rw [mg_small h1]; simp⟩
    rw [if_pos h1]; simp
  · refine ⟨B + rg x % B, rg x / B - 1, ?_, by simp [mg, h1]⟩
    rw [if_neg h1, if_pos h]
    congr 1

theorem signed_eq (s : Bool) (m k : Nat) : signed s m k = if s then -((m * 2 ^ k : Nat) : Int) else ((m * 2 ^ k : Nat) : Int) := by
  unfold signed; rw [Nat.shiftLeft_eq]

/-- a rounded number: the sign that is asked for, the rung nearest to N / D, or infinity -/
def isW (neg : Bool) (N D : Nat) (z : Nat) : Prop := ∃ r, isRnd N D r ∧ z = wd neg (min r infR)

theorem isRnd_zero {D : Nat} (hD : 0 < D) : isRnd 0 D 0 := by
  have := isRnd_exact D 0 hD
  rwa [mg_zero, Nat.zero_mul] at this

theorem write_isW (neg : Bool) (mag : Nat) (place : Int) {N D a b : Nat} (hD : 0 < D) (hN : N * 2 ^ a = mag * 2 ^ b * D) (hab : (b : Int) - a = place + 1074) :
    isW neg N D (double.write (.number neg mag place)) := by
  show isW neg N D (double.nearest neg mag place)
  by_cases hm : mag = 0
  · subst hm
    have : N = 0 := by
      have := Nat.two_pow_pos a
      rcases Nat.eq_zero_or_pos N with h | h
      · exact h
      · have := Nat.mul_pos h this; simp at hN; omega
    subst this
    refine ⟨0, isRnd_zero hD, ?_⟩
    unfold Format.nearest
    rw [if_pos rfl, word_eq]; simp
  · obtain ⟨r, h1, h2⟩ := nearest_rnd neg mag place hm hD hN hab
    exact ⟨r, h1, by rw [← word_eq]; exact h2⟩

theorem sum_fin {x y : Nat} (hx : fin x) (hy : fin y) : ∃ z, double.add x y = some z ∧ isW (if sv x + sv y = 0 then ng x && ng y else decide (sv x + sv y < 0)) (sv x + sv y).natAbs 1 z := by
  obtain ⟨m, p, hr, hm⟩ := read_fin hx
  obtain ⟨n, q, hs, hn⟩ := read_fin hy
  unfold Format.add
  rw [hr, hs]
  unfold Datum.sum
  simp only [Option.map_some]
  refine ⟨_, rfl, ?_⟩
  generalize hbase : min ((p : Int) - 1074) ((q : Int) - 1074) = base
  obtain ⟨k, hk⟩ : ∃ k : Nat, base = (k : Int) - 1074 := ⟨min p q, by omega⟩
  subst hk
  have h1 : (((p : Int) - 1074) - ((k : Int) - 1074)).toNat = p - k := by omega
  have h2 : (((q : Int) - 1074) - ((k : Int) - 1074)).toNat = q - k := by omega
  rw [h1, h2, signed_eq, signed_eq]
  generalize ht : (if ng x = true then -((m * 2 ^ (p - k) : Nat) : Int) else ((m * 2 ^ (p - k) : Nat) : Int)) + (if ng y = true then -((n * 2 ^ (q - k) : Nat) : Int) else ((n * 2 ^ (q - k) : Nat) : Int)) = total
  have hkp : k ≤ p := by omega
  have hkq : k ≤ q := by omega
  have ex : mg (rg x) = m * 2 ^ (p - k) * 2 ^ k := by rw [Nat.mul_assoc, ← Nat.pow_add, ← hm]; congr 2; omega
  have ey : mg (rg y) = n * 2 ^ (q - k) * 2 ^ k := by rw [Nat.mul_assoc, ← Nat.pow_add, ← hn]; congr 2; omega
  have htot : sv x + sv y = total * ((2 ^ k : Nat) : Int) := by
    unfold sv
    rw [ex, ey, ← ht, Int.add_mul]
    congr 1 <;> split <;> simp [Int.neg_mul]
  have hp : 0 < 2 ^ k := Nat.two_pow_pos k
  have hz : (sv x + sv y = 0) ↔ total = 0 := by
    rw [htot]
    constructor
    · intro h
      rcases Int.mul_eq_zero.1 h with h | h
      · exact h
      · omega
    · rintro rfl; simp
  have hl : (sv x + sv y < 0) ↔ total < 0 := by
    rw [htot]
    constructor
    · intro h
      rcases Int.lt_or_le total 0 with h' | h'
      · exact h'
      · have := Int.mul_nonneg h' (Int.natCast_nonneg (2 ^ k)); omega
    · intro h
      exact Int.mul_neg_of_neg_of_pos h (by omega)
  have e : (if sv x + sv y = 0 then ng x && ng y else decide (sv x + sv y < 0)) = (if total = 0 then ng x && ng y else decide (total < 0)) := by
    by_cases h : total = 0
    · rw [if_pos (hz.2 h), if_pos h]
    · rw [if_neg (fun h' => h (hz.1 h')), if_neg h]; simp [hl]
  rw [e]
  refine write_isW _ _ _ (a := 0) (b := k) (by decide) ?_ (by omega)
  rw [htot, Int.natAbs_mul, Int.natAbs_natCast, Nat.pow_zero, Nat.mul_one]

theorem opposite_fin {y : Nat} {m : Nat} {p : Int} (h : double.read y = .number (ng y) m p) : (double.read y).opposite = .number (!ng y) m p := by rw [h]; rfl

theorem diff_fin {x y : Nat} (hx : fin x) (hy : fin y) : ∃ z, double.sub x y = some z ∧ isW (if sv x - sv y = 0 then ng x && !ng y else decide (sv x - sv y < 0)) (sv x - sv y).natAbs 1 z := by
  obtain ⟨m, p, hr, hm⟩ := read_fin hx
  obtain ⟨n, q, hs, hn⟩ := read_fin hy
  unfold Format.sub
  rw [hr, hs]
  unfold Datum.opposite Datum.sum
  simp only [Option.map_some]
  refine ⟨_, rfl, ?_⟩
  generalize hbase : min ((p : Int) - 1074) ((q : Int) - 1074) = base
  obtain ⟨k, hk⟩ : ∃ k : Nat, base = (k : Int) - 1074 := ⟨min p q, by omega⟩
  subst hk
  have h1 : (((p : Int) - 1074) - ((k : Int) - 1074)).toNat = p - k := by omega
  have h2 : (((q : Int) - 1074) - ((k : Int) - 1074)).toNat = q - k := by omega
  rw [h1, h2, signed_eq, signed_eq]
  generalize ht : (if ng x = true then -((m * 2 ^ (p - k) : Nat) : Int) else ((m * 2 ^ (p - k) : Nat) : Int)) + (if (!ng y) = true then -((n * 2 ^ (q - k) : Nat) : Int) else ((n * 2 ^ (q - k) : Nat) : Int)) = total
  have hkp : k ≤ p := by omega
  have hkq : k ≤ q := by omega
  have ex : mg (rg x) = m * 2 ^ (p - k) * 2 ^ k := by rw [Nat.mul_assoc, ← Nat.pow_add, ← hm]; congr 2; omega
  have ey : mg (rg y) = n * 2 ^ (q - k) * 2 ^ k := by rw [Nat.mul_assoc, ← Nat.pow_add, ← hn]; congr 2; omega
  have htot : sv x - sv y = total * ((2 ^ k : Nat) : Int) := by
    unfold sv
    rw [ex, ey, ← ht, Int.add_mul, Int.sub_eq_add_neg]
    congr 1
    · split <;> simp [Int.neg_mul]
    · cases ng y <;> simp [Int.neg_mul]
  have hp : 0 < 2 ^ k := Nat.two_pow_pos k
  have hz : (sv x - sv y = 0) ↔ total = 0 := by
    rw [htot]
    constructor
    · intro h
      rcases Int.mul_eq_zero.1 h with h | h
      · exact h
      · omega
    · rintro rfl; simp
  have hl : (sv x - sv y < 0) ↔ total < 0 := by
    rw [htot]
    constructor
    · intro h
      rcases Int.lt_or_le total 0 with h' | h'
      · exact h'
      · have := Int.mul_nonneg h' (Int.natCast_nonneg (2 ^ k)); omega
    · intro h
      exact Int.mul_neg_of_neg_of_pos h (by omega)
  have e : (if sv x - sv y = 0 then ng x && !ng y else decide (sv x - sv y < 0)) = (if total = 0 then ng x && !ng y else decide (total < 0)) := by
    by_cases h : total = 0
    · rw [if_pos (hz.2 h), if_pos h]
    · rw [if_neg (fun h' => h (hz.1 h')), if_neg h]; simp [hl]
  rw [e]
  refine write_isW _ _ _ (a := 0) (b := k) (by decide) ?_ (by omega)
  rw [htot, Int.natAbs_mul, Int.natAbs_natCast, Nat.pow_zero, Nat.mul_one]

theorem prod_fin {x y : Nat} (hx : fin x) (hy : fin y) : ∃ z, double.mul x y = some z ∧ isW (ng x ^^ ng y) (mg (rg x) * mg (rg y)) S z := by
  obtain ⟨m, p, hr, hm⟩ := read_fin hx
  obtain ⟨n, q, hs, hn⟩ := read_fin hy
  unfold Format.mul
  rw [hr, hs]
  unfold Datum.product
  simp only [Option.map_some]
  obtain ⟨c, hc, hS⟩ := S_eq
  refine ⟨_, rfl, write_isW _ _ _ (a := c) (b := p + q) S_pos ?_ (by omega)⟩
  rw [← hm, ← hn, Nat.pow_add, hS]
  simp only [Nat.mul_assoc, Nat.mul_left_comm]

/-- a quotient with a last digit that tells whether anything is left over rounds as the quotient itself does -/
theorem quot_isW (neg : Bool) (m n p q : Nat) (hn : n ≠ 0) (hm : m ≠ 0) :
    isW neg (m * 2 ^ p * S) (n * 2 ^ q) (double.write (.number neg (2 * ((m <<< (54 + n.log2 - m.log2)) / n) + ((m <<< (54 + n.log2 - m.log2)) % n != 0).toNat) (((p : Int) - 1074) - ((q : Int) - 1074) - ((54 + n.log2 - m.log2 : Nat) : Int) - 1))) := by
  generalize hmore : 54 + n.log2 - m.log2 = more
  rw [Nat.shiftLeft_eq]
  generalize hd : m * 2 ^ more = d
  have hn1 : n < 2 ^ (n.log2 + 1) := Nat.lt_log2_self
  have hm1 : 2 ^ m.log2 ≤ m := Nat.log2_self_le hm
  have hd1 : 2 ^ (54 + n.log2) ≤ d := by
    rw [← hd]
    have h1 : 2 ^ m.log2 * 2 ^ more ≤ m * 2 ^ more := Nat.mul_le_mul_right _ hm1
    rw [← Nat.pow_add] at h1
    exact Nat.le_trans (Nat.pow_le_pow_right (by decide) (by omega)) h1
  have hpos : 0 < n := Nat.pos_of_ne_zero hn
  have hq1 : 2 ^ 53 ≤ d / n := by
    rw [Nat.le_div_iff_mul_le hpos]
    have h1 : 2 ^ 53 * n ≤ 2 ^ 53 * 2 ^ (n.log2 + 1) := Nat.mul_le_mul_left _ (Nat.le_of_lt hn1)
    rw [← Nat.pow_add] at h1
    have e : 53 + (n.log2 + 1) = 54 + n.log2 := by omega
    rw [e] at h1
    exact Nat.le_trans h1 hd1
  have hda := Nat.div_add_mod d n
  have hdm := Nat.mod_lt d hpos
  have hda' : n * (d / n) = d / n * n := Nat.mul_comm _ _
  generalize ha : d / n = a at *
  generalize hf : d % n = f at *
  have hσ : (f != 0).toNat = if f = 0 then 0 else 1 := by by_cases h : f = 0 <;> simp [h]
  rw [hσ]
  generalize hg : (if f = 0 then 0 else 1) = σ
  have hmag : 2 * a + σ ≠ 0 := by have : 0 < 2 ^ 53 := Nat.two_pow_pos _; omega
  unfold Format.write
  obtain ⟨K, L, s, t, hw, hst, hor, hK, hbig, hlt, hu⟩ := nearest_core neg (2 * a + σ) (((p : Int) - 1074) - ((q : Int) - 1074) - (more : Int) - 1) hmag
  have ht2 : 2 ≤ t := hu 2 (by
    have e : (2 : Nat) ^ (52 + 2) = 2 * 2 ^ 53 := by rfl
    omega)
  have hs0 : s = 0 := by omega
  subst hs0
  rw [Nat.pow_zero, Nat.mul_one] at hK hbig hlt
  obtain ⟨c1, c2, c3, c4⟩ := cut_even neg (2 * a + σ) t
  rw [← hK] at c1 c2 c3 c4
  refine ⟨L * B + K, ?_, by rw [← word_eq]; exact hw⟩
  obtain ⟨u, rfl⟩ : ∃ u, t = u + 2 := ⟨t - 2, by omega⟩
  have e4 : 2 ^ (u + 2) = 4 * 2 ^ u := by rw [Nat.pow_add]; omega
  have pu : 0 < 2 ^ u := Nat.two_pow_pos u
  have eK : 2 * K * 2 ^ (u + 2) = 8 * (K * 2 ^ u) := by rw [e4]; generalize 2 ^ u = U; rw [Nat.mul_left_comm, Nat.mul_assoc]; omega
  have eKn : 2 * K * 2 ^ (u + 2) * n = 8 * (K * 2 ^ u * n) := by rw [eK, Nat.mul_assoc]
  have eTn : 2 ^ (u + 2) * n = 4 * (2 ^ u * n) := by rw [e4, Nat.mul_assoc]
  rw [eK, e4] at c1 c2 c3 c4
  have sg : σ = 0 ∧ f = 0 ∨ σ = 1 ∧ f ≠ 0 := by
    by_cases h : f = 0
    · left; simp [h] at hg; omega
    · right; simp [h] at hg; exact ⟨hg.symm, h⟩
  -- comparisons times n
  have mul_le : ∀ x y : Nat, x ≤ y → x * n ≤ y * n := fun x y h => Nat.mul_le_mul_right _ h
  refine rnd_of_cut (E := 2 * d) (nn := n) (t := u + 2) (Nat.mul_pos hpos (Nat.two_pow_pos _)) hpos ?_ ?_ ?_ ?_ ?_ ?_ ?_
  · obtain ⟨c, hc, hS⟩ := S_eq
    have hexp : p + c + (u + 2) = 1 + more + L + q := by omega
    rw [← hd, hS]
    calc m * 2 ^ p * 2 ^ c * n * 2 ^ (u + 2) = m * n * (2 ^ p * 2 ^ c * 2 ^ (u + 2)) := by simp only [Nat.mul_assoc, Nat.mul_comm, Nat.mul_left_comm]
      _ = m * n * 2 ^ (1 + more + L + q) := by rw [← Nat.pow_add, ← Nat.pow_add, hexp]
      _ = 2 * (m * 2 ^ more) * 2 ^ L * (n * 2 ^ q) := by rw [Nat.pow_add, Nat.pow_add, Nat.pow_add, Nat.pow_one]; simp only [Nat.mul_assoc, Nat.mul_comm, Nat.mul_left_comm]
  · rw [eKn, eTn]
    have h1 : 2 * (K * 2 ^ u) ≤ a + 2 ^ u := by omega
    have h2 := mul_le _ _ h1
    rw [Nat.add_mul, Nat.mul_assoc] at h2
    omega
  · rw [eKn, eTn]
    intro h
    have h1 : 2 * (K * 2 ^ u) ≤ a + 2 ^ u := by omega
    have h2 := mul_le _ _ h1
    rw [Nat.add_mul, Nat.mul_assoc] at h2
    have hf0 : f = 0 := by omega
    have h3 : 2 * (K * 2 ^ u) * n = (a + 2 ^ u) * n := by rw [Nat.add_mul, Nat.mul_assoc]; omega
    have h4 := Nat.eq_of_mul_eq_mul_right hpos h3
    apply c2; omega
  · rw [eKn, eTn]
    rcases sg with ⟨rfl, rfl⟩ | ⟨rfl, _⟩
    · have h1 : a ≤ 2 * (K * 2 ^ u) + 2 ^ u := by omega
      have h2 := mul_le _ _ h1
      rw [Nat.add_mul, Nat.mul_assoc] at h2
      omega
    · have h1 : a + 1 ≤ 2 * (K * 2 ^ u) + 2 ^ u := by omega
      have h2 := mul_le _ _ h1
      rw [Nat.add_mul, Nat.add_mul, Nat.mul_assoc] at h2
      omega
  · rw [eKn, eTn]
    intro h
    rcases sg with ⟨rfl, rfl⟩ | ⟨rfl, _⟩
    · have h3 : a * n = (2 * (K * 2 ^ u) + 2 ^ u) * n := by rw [Nat.add_mul, Nat.mul_assoc]; omega
      have h4 := Nat.eq_of_mul_eq_mul_right hpos h3
      apply c4; omega
    · exfalso
      have h1 : a + 1 ≤ 2 * (K * 2 ^ u) + 2 ^ u := by omega
      have h2 := mul_le _ _ h1
      rw [Nat.add_mul, Nat.add_mul, Nat.mul_assoc] at h2
      omega
  · intro h1
    have h2 := hbig h1
    rw [e4] at h2
    have h3 : 2 * (B * 2 ^ u) ≤ a := by
      have : B * (4 * 2 ^ u) = 4 * (B * 2 ^ u) := Nat.mul_left_comm _ _ _
      omega
    have h4 := mul_le _ _ h3
    rw [Nat.mul_assoc] at h4
    have e5 : B * 2 ^ (u + 2) * n = 4 * (B * 2 ^ u * n) := by rw [e4]; generalize 2 ^ u = U; simp only [Nat.mul_assoc, Nat.mul_left_comm]
    omega
  · rw [e4] at hlt
    have e5 : 2 * B * 2 ^ (u + 2) * n = 8 * (B * 2 ^ u * n) := by rw [e4]; generalize 2 ^ u = U; rw [Nat.mul_assoc 2, Nat.mul_left_comm B]; simp only [Nat.mul_assoc]; omega
    have e6 : 2 * B * (4 * 2 ^ u) = 8 * (B * 2 ^ u) := by generalize 2 ^ u = U; rw [Nat.mul_assoc 2, Nat.mul_left_comm B]; omega
    have h3 : a + 1 ≤ 4 * (B * 2 ^ u) := by omega
    have h4 := mul_le _ _ h3
    rw [Nat.add_mul, Nat.mul_assoc] at h4
    omega

theorem quo_fin {x y : Nat} (hx : fin x) (hy : fin y) (h0 : mg (rg y) ≠ 0) : ∃ z, double.div x y = some z ∧ isW (ng x ^^ ng y) (mg (rg x) * S) (mg (rg y)) z := by
  obtain ⟨m, p, hr, hm⟩ := read_fin hx
  obtain ⟨n, q, hs, hn⟩ := read_fin hy
  unfold Format.div
  rw [hr, hs]
  have hn0 : n ≠ 0 := by rintro rfl; rw [← hn] at h0; simp at h0
  unfold Datum.quotient
  simp only [if_neg hn0, Option.map_some]
  refine ⟨_, rfl, ?_⟩
  have hf : double.fractionBits + 2 = 54 := rfl
  rw [hf, ← hm, ← hn]
  by_cases hm0 : m = 0
  · subst hm0
    refine ⟨0, ?_, ?_⟩
    · rw [Nat.zero_mul, Nat.zero_mul]
      exact isRnd_zero (by rw [hn]; omega)
    · have e : (0 <<< (54 + n.log2 - Nat.log2 0)) = 0 := by simp
      rw [e]
      unfold Format.write Format.nearest
      simp [word_eq]
  · exact quot_isW _ m n p q hn0 hm0

theorem order_fin {x y : Nat} (hx : fin x) (hy : fin y) : double.order x y = some (compare (sv x) (sv y)) := by
  obtain ⟨m, p, hr, hm⟩ := read_fin hx
  obtain ⟨n, q, hs, hn⟩ := read_fin hy
  unfold Format.order
  rw [hr, hs]
  unfold Datum.order
  dsimp only
  generalize hbase : min ((p : Int) - 1074) ((q : Int) - 1074) = base
  obtain ⟨k, hk⟩ : ∃ k : Nat, base = (k : Int) - 1074 := ⟨min p q, by omega⟩
  subst hk
  have h1 : (((p : Int) - 1074) - ((k : Int) - 1074)).toNat = p - k := by omega
  have h2 : (((q : Int) - 1074) - ((k : Int) - 1074)).toNat = q - k := by omega
  rw [h1, h2, signed_eq, signed_eq]
  have hkp : k ≤ p := by omega
  have hkq : k ≤ q := by omega
  have ex : mg (rg x) = m * 2 ^ (p - k) * 2 ^ k := by rw [Nat.mul_assoc, ← Nat.pow_add, ← hm]; congr 2; omega
  have ey : mg (rg y) = n * 2 ^ (q - k) * 2 ^ k := by rw [Nat.mul_assoc, ← Nat.pow_add, ← hn]; congr 2; omega
  congr 1
  generalize hX : (if ng x = true then -((m * 2 ^ (p - k) : Nat) : Int) else ((m * 2 ^ (p - k) : Nat) : Int)) = X
  generalize hY : (if ng y = true then -((n * 2 ^ (q - k) : Nat) : Int) else ((n * 2 ^ (q - k) : Nat) : Int)) = Y
  have sx : sv x = X * ((2 ^ k : Nat) : Int) := by unfold sv; rw [ex, ← hX]; split <;> simp [Int.neg_mul]
  have sy : sv y = Y * ((2 ^ k : Nat) : Int) := by unfold sv; rw [ey, ← hY]; split <;> simp [Int.neg_mul]
  have hp : 0 < ((2 ^ k : Nat) : Int) := by have := Nat.two_pow_pos k; omega
  rw [sx, sy]
  rcases Int.lt_trichotomy X Y with h | h | h
  · have h' := Int.mul_lt_mul_of_pos_right h hp
    rw [Int.compare_eq_lt.2 h, Int.compare_eq_lt.2 h']
  · subst h; simp
  · have h' := Int.mul_lt_mul_of_pos_right h hp
    rw [Int.compare_eq_gt.2 h, Int.compare_eq_gt.2 h']
end Dt
