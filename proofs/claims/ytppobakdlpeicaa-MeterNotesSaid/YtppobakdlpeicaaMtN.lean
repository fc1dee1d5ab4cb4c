import Derived.Test.YtppobakdlpeicaaMtK
import Derived.Test.YtppobakdlpeicaaFpI
import Derived.Test.YtppobakdlpeicaaFpO
namespace Dt
open Ieee
set_option linter.unusedVariables false
set_option linter.unusedSimpArgs false

theorem negf' (x : Nat) (hx : x < 18446744073709551616) (h : ng x = true) : Go.Op.negFloat .f64 x = rg x := by
  have e : Go.Op.negFloat .f64 x = x ^^^ 2 ^ 63 := rfl
  have hq : x / 9223372036854775808 = 1 := by
    unfold ng at h
    have h2 : x / 9223372036854775808 % 2 = 1 := by simpa using h
    omega
  have hd : (x ^^^ 2 ^ 63) / 9223372036854775808 = 0 := by
    have : (9223372036854775808 : Nat) = 2 ^ 63 := by decide
    rw [this] at hq ⊢
    rw [Nat.xor_div_two_pow, Nat.div_self (by decide), hq]; rfl
  have hm : (x ^^^ 2 ^ 63) % 9223372036854775808 = x % 9223372036854775808 := by
    have : (9223372036854775808 : Nat) = 2 ^ 63 := by decide
    rw [this, Nat.xor_mod_two_pow, Nat.mod_self, Nat.xor_zero]
  rw [e]
  unfold rg
  omega
theorem rg_self {x : Nat} (hx : x < 18446744073709551616) (h : ng x = false) : rg x = x := by
  have h2 : x / 9223372036854775808 % 2 ≠ 1 := by
    unfold ng at h
    simpa using h
  unfold rg; omega
/-- a word that is not 0 is known by its value -/
theorem Fl.unique {x y : Nat} {X : Int} (hx : Fl x X) (hy : Fl y X) (h : X ≠ 0) : x = y := by
  have e : ng x = ng y := by
    rcases Int.lt_or_lt_of_ne h with h | h
    · rw [hx.ng_of_neg h, hy.ng_of_neg h]
    · rw [hx.ng_of_pos h, hy.ng_of_pos h]
  have e2 : rg x = rg y := mg_inj (hx.mg.trans hy.mg.symm)
  rw [← wd_self hx.lt, ← wd_self hy.lt, e, e2]
theorem Fl.zero_cases {x : Nat} (h : Fl x 0) : rg x = 0 := by
  have := h.mg
  exact mg_eq_zero.1 (by simpa using this)
/-- a difference that cancels is 0 -/
theorem sub_zero {x y z : Nat} {X : Int} (hx : Fl x X) (hy : Fl y X) (hn : ng x = false) (e : double.sub x y = some z) : z = 0 := by
  obtain ⟨z', e', hw⟩ := diff_fin hx.fin hy.fin
  rw [e] at e'
  cases e'
  rw [hx.sv, hy.sv] at hw
  simp [hn] at hw
  obtain ⟨r, hr, rfl⟩ := hw
  have : r = 0 := hr.unique (by decide) (isRnd_zero (by decide))
  subst this
  rfl
end Dt
namespace Go.Proofs.Ytppobakdlpeicaa.Mt
open Go.RowKit Dt Go.Proofs.Ytppobakdlpeicaa.Hd Ieee
set_option linter.unusedVariables false
set_option linter.unusedSimpArgs false
theorem run_negf (P : Program) (w : World) (b : Nat) : (Op.unary .neg (.float .f64 b)).run P w = .ok (.float .f64 (Op.negFloat .f64 b)) w := rfl
attribute [local go_sem] run_negf run_store_float

/-- the reference's meter -/
def HasR (w : World) (b : Nat) (n : Int) (m j : Nat) : Prop := Blk w b #[.int .i64 n, .float .f64 m, .float .f64 j] 49
theorem HasR.fr {S : List Nat} {w w' : World} {b : Nat} {n : Int} {m j : Nat} (h : HasR w b n m j) (hF : Fr S w w') (hb : b ∉ S) : HasR w' b n m j := hF.blk h hb
theorem HasR.dr {w : World} {b : Nat} {n : Int} {m j : Nat} (h : HasR w b n m j) (k : Nat) : HasR (w.drewN k) b n m j := Blk.drewN h k
theorem rnote_no {w : World} {b : Nat} {x : Nat} (h : inB x = false) :
    Calls Try.prog 27 #[.pointer (some ⟨b, 0, none⟩), .float .f64 x] w fun e w' => e = .returned (.bool false) ∧ w = w' := by
  unfold inB at h
  cases h1 : geB x 0 with
  | false =>
    clear h
    unfold geB at h1
    go_enter Try.func27, Try.ntmps27
    go_wp2_with fail
    go_ret
    exact ⟨rfl, rfl⟩
  | true =>
    rw [h1, Bool.true_and] at h
    unfold geB at h1
    unfold leB at h
    go_enter Try.func27, Try.ntmps27
    go_wp2_with fail
    go_ret
    exact ⟨rfl, rfl⟩
/-- what the reference makes of a sample: x + 0, and 0 of a 0 -/
theorem norm_fl {x : Nat} {X : Int} (h : Fl x X) (h0 : 0 ≤ X) : ∃ y, double.add x 0 = some y ∧ (((FloatKind.f64.format.order y 0 == some .eq) = true ∧ rg x = 0) ∨ ((FloatKind.f64.format.order y 0 == some .eq) = false ∧ rg x = y)) := by
  obtain ⟨y, e, f⟩ := fadd_exact h fl_zero (by rw [Int.add_zero]; exact h.rep)
  rw [Int.add_zero] at f
  refine ⟨y, e, ?_⟩
  have o : FloatKind.f64.format.order y 0 = some (compare X 0) := forder f fl_zero
  rcases Int.lt_or_eq_of_le h0 with h1 | h1
  · refine .inr ⟨by rw [o, Int.compare_eq_gt.2 h1]; rfl, ?_⟩
    rw [rg_self h.lt (h.ng_of_pos h1)]
    exact h.unique f (by omega)
  · subst h1
    exact .inl ⟨by rw [o]; rfl, h.zero_cases⟩
/-- its distance -/
theorem far_fl {d : Nat} {D : Int} (h : Fl d D) (hz : D = 0 → d = 0) : ((FloatKind.f64.format.order d 0 == some .lt) = true ∧ Op.negFloat .f64 d = rg d) ∨ ((FloatKind.f64.format.order d 0 == some .lt) = false ∧ rg d = d) := by
  have o : FloatKind.f64.format.order d 0 = some (compare D 0) := forder h fl_zero
  rcases Int.lt_trichotomy D 0 with h1 | h1 | h1
  · exact .inl ⟨by rw [o, Int.compare_eq_lt.2 h1]; rfl, negf' d h.lt (h.ng_of_neg h1)⟩
  · have := hz h1
    subst this
    exact .inr ⟨by rw [o, h1]; rfl, rfl⟩
  · exact .inr ⟨by rw [o, Int.compare_eq_gt.2 h1]; rfl, rg_self h.lt (h.ng_of_pos h1)⟩
theorem rnote_first {w : World} {b : Nat} {x y m j : Nat} (hM : HasR w b 0 m j) (h : inB x = true) (e0 : double.add x 0 = some y) (hy : ((FloatKind.f64.format.order y 0 == some .eq) = true ∧ rg x = 0) ∨ ((FloatKind.f64.format.order y 0 == some .eq) = false ∧ rg x = y)) :
    Calls Try.prog 27 #[.pointer (some ⟨b, 0, none⟩), .float .f64 x] w fun e w' => e = .returned (.bool true) ∧ HasR w' b 1 (rg x) j ∧ Fr [b] w w' := by
  obtain ⟨p1, p2⟩ := in_parts h
  clear h
  unfold geB at p1
  unfold leB at p2
  unfold HasR at hM
  have q0 : ∀ w : World, (binOp .add 23 (.float .f64 x) (.float .f64 0)).run Try.prog w = .ok (.float .f64 y) w := run_fl .add _ e0
  clear e0
  have c0 := hM.cell (i := 0) rfl
  have c1 := hM.cell (i := 1) rfl
  have f0 := hM.free 0
  have f1 := hM.free 1
  simp at c0 c1
  rcases hy with ⟨h1, h2⟩ | ⟨h1, h2⟩
  all_goals
    go_enter Try.func27, Try.ntmps27
    go_wp2_with fail
    go_ret
    rw [h2]
    exact ⟨rfl, (hM.set 0 _).set 1 _, ((Fr.refl _ _).setCell (.inl (by simp)) _).setCell (.inl (by simp)) _⟩
set_option maxHeartbeats 1600000 in
theorem rnote_next {w : World} {b n : Nat} {x y m j d a c j' c' m' : Nat} (hM : HasR w b n m j) (h : inB x = true) (hn : 1 ≤ n) (hn2 : n ≤ 1000000)
    (e0 : double.add x 0 = some y) (hy : ((FloatKind.f64.format.order y 0 == some .eq) = true ∧ rg x = 0) ∨ ((FloatKind.f64.format.order y 0 == some .eq) = false ∧ rg x = y))
    (hd : ((FloatKind.f64.format.order d 0 == some .lt) = true ∧ Op.negFloat .f64 d = rg d) ∨ ((FloatKind.f64.format.order d 0 == some .lt) = false ∧ rg d = d))
    (e1 : double.sub (rg x) m = some d) (e2 : double.sub (rg d) j = some a) (e3 : double.div a 4616189618054758400 = some c) (e4 : double.add j c = some j') (e5 : double.div d 4620693217682128896 = some c') (e6 : double.add m c' = some m') :
    Calls Try.prog 27 #[.pointer (some ⟨b, 0, none⟩), .float .f64 x] w fun e w' => e = .returned (.bool true) ∧ HasR w' b ((n : Int) + 1) m' j' ∧ Fr [b] w w' := by
  obtain ⟨p1, p2⟩ := in_parts h
  clear h
  unfold geB at p1
  unfold leB at p2
  unfold HasR at hM
  obtain ⟨rx, hrx⟩ : ∃ rx, rg x = rx := ⟨_, rfl⟩
  obtain ⟨rd, hrd⟩ : ∃ rd, rg d = rd := ⟨_, rfl⟩
  rw [hrx] at hy e1
  rw [hrd] at hd e2
  have q0 : ∀ w : World, (binOp .add 23 (.float .f64 x) (.float .f64 0)).run Try.prog w = .ok (.float .f64 y) w := run_fl .add _ e0
  have q1 : ∀ w : World, (binOp .sub 23 (.float .f64 rx) (.float .f64 m)).run Try.prog w = .ok (.float .f64 d) w := run_fl .sub _ e1
  have q2 : ∀ w : World, (binOp .sub 23 (.float .f64 rd) (.float .f64 j)).run Try.prog w = .ok (.float .f64 a) w := run_fl .sub _ e2
  have q3 : ∀ w : World, (binOp .quo 23 (.float .f64 a) (.float .f64 4616189618054758400)).run Try.prog w = .ok (.float .f64 c) w := run_fl .quo _ e3
  have q4 : ∀ w : World, (binOp .add 23 (.float .f64 j) (.float .f64 c)).run Try.prog w = .ok (.float .f64 j') w := run_fl .add _ e4
  have q5 : ∀ w : World, (binOp .quo 23 (.float .f64 d) (.float .f64 4620693217682128896)).run Try.prog w = .ok (.float .f64 c') w := run_fl .quo _ e5
  have q6 : ∀ w : World, (binOp .add 23 (.float .f64 m) (.float .f64 c')).run Try.prog w = .ok (.float .f64 m') w := run_fl .add _ e6
  clear e0 e1 e2 e3 e4 e5 e6 hrx hrd
  have c0 := hM.cell (i := 0) rfl
  have c1 := hM.cell (i := 1) rfl
  have c2 := hM.cell (i := 2) rfl
  have f0 := hM.free 0
  have f1 := hM.free 1
  have f2 := hM.free 2
  simp at c0 c1 c2
  have hn3 : ((n : Int) + 1 == 1) = false := by simp; omega
  rcases hy with ⟨h1, rfl⟩ | ⟨h1, rfl⟩ <;> rcases hd with ⟨h2, h3⟩ | ⟨h2, rfl⟩
  all_goals
    go_enter Try.func27, Try.ntmps27
    go_wp2_with fail
    go_ret
    exact ⟨rfl, ((hM.set 0 _).set 2 _).set 1 _, (((Fr.refl _ _).setCell (.inl (by simp)) _).setCell (.inl (by simp)) _).setCell (.inl (by simp)) _⟩
end Go.Proofs.Ytppobakdlpeicaa.Mt
