import Derived.Test.YtiniaphleogkiaaVw3
import Derived.Test.YtiniaphleogkiaaMtP
import Derived.KernelRfl
namespace Go.Proofs.Ytiniaphleogkiaa.Vw
open Go.RowKit Dt Go.Proofs.Ytiniaphleogkiaa.Hd Go.Proofs.Ytiniaphleogkiaa.Ma Ieee
set_option linter.unusedVariables false
set_option linter.unusedSimpArgs false

theorem wf64 {x : Nat} (h : (Lit.float .f64 x).wf = true) : x < 18446744073709551616 := by
  simpa [Lit.wf] using h
/-- a slice value that reads as n numbers -/
def IntV (w : World) (v : Value) (n : Nat) (X : Nat → Nat) : Prop := ∃ a cap, v = .slice a n cap ∧ (0 < n → ∃ b off, a = some ⟨b, off, none⟩ ∧ ∀ t, t < n → w.cell? ⟨b, off + t, none⟩ = some (.int .i64 (X t)))
theorem IntS.v {w : World} {base n : Nat} {v : Value} {X : Nat → Nat} (h : IntS w base v n X) : IntV w v n X := by
  obtain ⟨a, cap, e, h1⟩ := h
  refine ⟨a, cap, e, fun hn => ?_⟩
  obtain ⟨b, off, e2, -, -, h4⟩ := h1 hn
  exact ⟨b, off, e2, h4⟩
theorem same_yes {w : World} {u v : Value} {n : Nat} {X Y : Nat → Nat} (hu : IntV w u n X) (hv : IntV w v n Y) (h : ∀ t, t < n → X t = Y t) (hn : n ≤ 1000000) :
    Calls Try.prog 33 #[u, v] w fun e w' => e = .returned (.bool true) ∧ ∃ k, w' = w.drewN k := by
  obtain ⟨a, c1, rfl, ha⟩ := hu
  obtain ⟨b, c2, rfl, hb⟩ := hv
  have HA := Lib.hid ha; have HB := Lib.hid hb; have HE := Lib.hid h
  clear ha hb h
  go_enter Try.func33, Try.ntmps33
  go_wp2_with fail
  go_loopw [13] (fun iv wr => ∃ k m : Nat, k ≤ n ∧ iv = .int .i64 k ∧ wr = w.drewN m) (fun iv _ => n - (intOf iv).toNat)
  case atStart => exact ⟨0, 0, by omega, rfl, rfl⟩
  case round =>
    obtain ⟨k, m, hk, rfl, rfl⟩ := hrel
    by_cases hlt : k < n
    · obtain ⟨b1, o1, rfl, h1⟩ := HA.out (by omega)
      obtain ⟨b2, o2, rfl, h2⟩ := HB.out (by omega)
      have l1 : (w.drewN m).cell? ⟨b1, o1 + k, none⟩ = some (.int .i64 (X k)) := h1 k hlt
      have l2 : (w.drewN m).cell? ⟨b2, o2 + k, none⟩ = some (.int .i64 (X k)) := by rw [HE.out k hlt]; exact h2 k hlt
      have q1 : (k : Int) < n := by omega
      have q0 : (0 : Int) ≤ k := by omega
      clear h1 h2
      obtain ⟨w1, hw1⟩ : ∃ w1, w.drewN m = w1 := ⟨_, rfl⟩
      rw [hw1] at l1 l2 ⊢
      have HW1 := Lib.hid hw1; clear hw1
      go_wp2_with fail
      go_quiet (fail)
      go_wp2_with fail
      go_roundw
      case rel => exact ⟨k + 1, m + nq, by omega, by go_num, by rw [← HW1.out, World.drewN_drewN]⟩
      case measure => simp [intOf]; omega
    · have q1 : ¬ (k : Int) < n := by omega
      go_wp2_with fail
      go_ret
      exact ⟨rfl, m, rfl⟩
theorem alike_any (a b : Nat) (w : World) : Calls Try.prog 35 #[.float .f64 a, .float .f64 b] w fun e w' => e = .returned (.bool ((nanB a && nanB b) || decide (a = b))) ∧ w = w' := by
  have b1 := run_bits a
  have b2 := run_bits b
  have he : ((a : Int) == (b : Int)) = decide (a = b) := by
    by_cases h : a = b
    · rw [h]; simp
    · rw [decide_eq_false h]; simp; omega
  unfold nanB
  change Calls Try.prog 35 #[.float .f64 a, .float .f64 b] w fun e w' => e = .returned (.bool (((FloatKind.f64.format.order a a != some .eq) && (FloatKind.f64.format.order b b != some .eq)) || decide (a = b))) ∧ w = w'
  rw [← he]
  clear he
  cases c1 : (FloatKind.f64.format.order a a != some .eq) <;> cases c2 : (FloatKind.f64.format.order b b != some .eq)
  all_goals
    go_enter Try.func35, Try.ntmps35
    go_wp2_with fail
    go_ret
    exact ⟨rfl, rfl⟩
def oddB (x : Nat) : Bool := (FloatKind.f64.format.order x x != some .eq) || infB x
theorem odd_any (x : Nat) (hx : x < 18446744073709551616) (w : World) : Calls Try.prog 46 #[.float .f64 x] w fun e w' => e = .returned (.bool (oddB x)) ∧ w = w' := by
  unfold oddB
  cases h1 : (FloatKind.f64.format.order x x != some .eq)
  · go_enter Try.func46, Try.ntmps46
    go_wp2_with fail
    refine (nan_any _ _).mono ?_; rintro e w' ⟨rfl, rfl⟩
    go_wp2_with fail
    refine (inf_any _ hx _).mono ?_; rintro e w' ⟨rfl, rfl⟩
    go_wp2_with fail
    go_ret
    exact ⟨rfl, rfl⟩
  · go_enter Try.func46, Try.ntmps46
    go_wp2_with fail
    refine (nan_any _ _).mono ?_; rintro e w' ⟨rfl, rfl⟩
    go_wp2_with fail
    go_ret
    exact ⟨rfl, rfl⟩
/-- Between: at no share -/
theorem btw_first {a b t : Nat} (h : (FloatKind.f64.format.order t t != some .eq) = true ∨ (FloatKind.f64.format.order t t != some .eq) = false ∧ (FloatKind.f64.format.order t 0 == some .lt || FloatKind.f64.format.order t 0 == some .eq) = true) (w : World) :
    Calls Try.prog 31 #[.float .f64 a, .float .f64 b, .float .f64 t] w fun e w' => e = .returned (.float .f64 a) ∧ w = w' := by
  rcases h with h1 | ⟨h1, h2⟩
  all_goals
    go_enter Try.func31, Try.ntmps31
    go_wp2_with fail
    refine (nan_any _ _).mono ?_; rintro e w' ⟨rfl, rfl⟩
    rw [h1]
    go_wp2_with fail
    go_ret
    exact ⟨rfl, rfl⟩
theorem btw_last {a b t : Nat} (h1 : (FloatKind.f64.format.order t t != some .eq) = false) (h2 : (FloatKind.f64.format.order t 0 == some .lt || FloatKind.f64.format.order t 0 == some .eq) = false) (h3 : (FloatKind.f64.format.order t 4607182418800017408 == some .gt || FloatKind.f64.format.order t 4607182418800017408 == some .eq) = true) (w : World) :
    Calls Try.prog 31 #[.float .f64 a, .float .f64 b, .float .f64 t] w fun e w' => e = .returned (.float .f64 b) ∧ w = w' := by
  go_enter Try.func31, Try.ntmps31
  go_wp2_with fail
  refine (nan_any _ _).mono ?_; rintro e w' ⟨rfl, rfl⟩
  rw [h1]
  go_wp2_with fail
  go_ret
  exact ⟨rfl, rfl⟩
theorem btw_odd {a b t : Nat} {g : Bool} (ha : a < 18446744073709551616) (hb : b < 18446744073709551616) (h1 : (FloatKind.f64.format.order t t != some .eq) = false) (h2 : (FloatKind.f64.format.order t 0 == some .lt || FloatKind.f64.format.order t 0 == some .eq) = false) (h3 : (FloatKind.f64.format.order t 4607182418800017408 == some .gt || FloatKind.f64.format.order t 4607182418800017408 == some .eq) = false)
    (h4 : oddB a = true ∨ oddB a = false ∧ oddB b = true) (h5 : (FloatKind.f64.format.order t 4602678819172646912 == some .lt) = g) (w : World) :
    Calls Try.prog 31 #[.float .f64 a, .float .f64 b, .float .f64 t] w fun e w' => e = .returned (.float .f64 (if g then a else b)) ∧ w = w' := by
  rcases h4 with h4 | ⟨h4, h6⟩
  · cases g
    all_goals
      go_enter Try.func31, Try.ntmps31
      go_wp2_with fail
      refine (nan_any _ _).mono ?_; rintro e w' ⟨rfl, rfl⟩
      rw [h1]
      go_wp2_with fail
      refine (odd_any _ ha _).mono ?_; rintro e w' ⟨rfl, rfl⟩
      rw [h4]
      go_wp2_with fail
      go_ret
      exact ⟨rfl, rfl⟩
  · cases g
    all_goals
      go_enter Try.func31, Try.ntmps31
      go_wp2_with fail
      refine (nan_any _ _).mono ?_; rintro e w' ⟨rfl, rfl⟩
      rw [h1]
      go_wp2_with fail
      refine (odd_any _ ha _).mono ?_; rintro e w' ⟨rfl, rfl⟩
      rw [h4]
      go_wp2_with fail
      refine (odd_any _ hb _).mono ?_; rintro e w' ⟨rfl, rfl⟩
      rw [h6]
      go_wp2_with fail
      go_ret
      exact ⟨rfl, rfl⟩
theorem btw_mid {a b t m q z : Nat} (ha : a < 18446744073709551616) (hb : b < 18446744073709551616) (h1 : (FloatKind.f64.format.order t t != some .eq) = false) (h2 : (FloatKind.f64.format.order t 0 == some .lt || FloatKind.f64.format.order t 0 == some .eq) = false) (h3 : (FloatKind.f64.format.order t 4607182418800017408 == some .gt || FloatKind.f64.format.order t 4607182418800017408 == some .eq) = false)
    (h4 : oddB a = false) (h5 : oddB b = false) (e1 : double.sub b a = some m) (e2 : double.mul m t = some q) (e3 : double.add a q = some z) (w : World) :
    Calls Try.prog 31 #[.float .f64 a, .float .f64 b, .float .f64 t] w fun e w' => e = .returned (.float .f64 z) ∧ w = w' := by
  have q1 : ∀ w : World, (binOp .sub 22 (.float .f64 b) (.float .f64 a)).run Try.prog w = .ok (.float .f64 m) w := run_fl .sub _ e1
  have q2 : ∀ w : World, (binOp .mul 22 (.float .f64 m) (.float .f64 t)).run Try.prog w = .ok (.float .f64 q) w := run_fl .mul _ e2
  have q3 : ∀ w : World, (binOp .add 22 (.float .f64 a) (.float .f64 q)).run Try.prog w = .ok (.float .f64 z) w := run_fl .add _ e3
  go_enter Try.func31, Try.ntmps31
  go_wp2_with fail
  refine (nan_any _ _).mono ?_; rintro e w' ⟨rfl, rfl⟩
  rw [h1]
  go_wp2_with fail
  refine (odd_any _ ha _).mono ?_; rintro e w' ⟨rfl, rfl⟩
  rw [h4]
  go_wp2_with fail
  refine (odd_any _ hb _).mono ?_; rintro e w' ⟨rfl, rfl⟩
  rw [h5]
  go_wp2_with fail
  go_ret
  exact ⟨rfl, rfl⟩
/-- a list of words as depths; is Y their order? -/
def dOf (L : List Nat) (t : Nat) : Nat := L.getD t 0
def ordB (L Y : List Nat) : Bool :=
  (List.range L.length).all (fun t => decide (dOf Y t < L.length)) && (List.range L.length).all (fun v => (List.range L.length).any fun t => dOf Y t == v) &&
    (List.range L.length).all (fun t => (List.range t).all fun s => soonB (dOf L (dOf Y s)) (dOf L (dOf Y t)) || (!soonB (dOf L (dOf Y t)) (dOf L (dOf Y s)) && decide (dOf Y s < dOf Y t)))
theorem ordB_ok {L Y : List Nat} (h : ordB L Y = true) : OrdF (fun t => rk (dOf L t)) L.length (dOf Y) := by
  unfold ordB at h
  simp only [Bool.and_eq_true, List.all_eq_true, List.mem_range, List.any_eq_true, decide_eq_true_eq, beq_iff_eq] at h
  obtain ⟨⟨h1, h2⟩, h3⟩ := h
  refine ⟨h1, fun v hv => ?_, fun s t hst ht => ?_⟩
  · obtain ⟨t, ht, e⟩ := h2 v hv
    exact ⟨t, ht, e⟩
  · have := h3 t ht s hst
    rw [soonB_rk, soonB_rk] at this
    show rk (dOf L (dOf Y t)) < rk (dOf L (dOf Y s)) ∨ (rk (dOf L (dOf Y s)) = rk (dOf L (dOf Y t)) ∧ dOf Y s < dOf Y t)
    simp only [Bool.or_eq_true, Bool.and_eq_true, decide_eq_true_eq, Bool.not_eq_true', decide_eq_false_iff_not] at this
    omega
def fcells (L : List Nat) : Array Value := (L.map fun (x : Nat) => Value.float .f64 x).toArray
def icells (L : List Nat) : Array Value := (L.map fun (x : Nat) => Value.int .i64 (x : Int)).toArray
theorem fcells_cell {w : World} {b : Nat} {L : List Nat} {T : TypeId} (h : Blk w b (fcells L) T) (t : Nat) (ht : t < L.length) : w.cell? ⟨b, 0 + t, none⟩ = some (.float .f64 (dOf L t)) := by
  rw [Nat.zero_add]
  refine h.cell ?_
  unfold fcells dOf
  rw [List.getElem?_toArray, List.getElem?_map, List.getD_eq_getElem?_getD, List.getElem?_eq_getElem ht]; rfl
theorem icells_cell {w : World} {b : Nat} {L : List Nat} {T : TypeId} (h : Blk w b (icells L) T) (t : Nat) (ht : t < L.length) : w.cell? ⟨b, 0 + t, none⟩ = some (.int .i64 ((dOf L t : Nat) : Int)) := by
  rw [Nat.zero_add]
  refine h.cell ?_
  unfold icells dOf
  rw [List.getElem?_toArray, List.getElem?_map, List.getD_eq_getElem?_getD, List.getElem?_eq_getElem ht]; rfl
theorem icells_v {w : World} {b c : Nat} {L : List Nat} {T : TypeId} (h : Blk w b (icells L) T) (n : Nat) (hn : n = L.length) : IntV w (.slice (some ⟨b, 0, none⟩) n c) n (dOf L) := by
  subst hn
  exact ⟨_, _, rfl, fun _ => ⟨b, 0, rfl, fun t ht => icells_cell h t ht⟩⟩
/-- Order of a list that is laid out -/
theorem order_lit {w : World} {b c : Nat} {L Y : List Nat} {n : Nat} {T : TypeId} (hb : Blk w b (fcells L) T) (hl : ∀ t, t < L.length → dOf L t < 18446744073709551616) (h20 : L.length ≤ 20) (hY : ordB L Y = true) (hn : n = L.length) :
    Calls Try.prog 32 #[.slice (some ⟨b, 0, none⟩) n c] w fun e w' => ∃ v X, e = .returned v ∧ IntS w' w.heap.size v n X ∧ (∀ t, t < n → X t = dOf Y t) ∧ Fr [] w w' := by
  subst hn
  refine (order_any (d := dOf L) (fun _ => ⟨b, 0, rfl, hb.lt, fun t ht => fcells_cell hb t ht⟩) hl h20).mono ?_
  rintro e w' ⟨v, X, rfl, hO, hS, hF⟩
  exact ⟨v, X, rfl, hS, hO.unique (ordB_ok hY), hF⟩
/-- the example of the chapter -/
theorem vknown_any (w : World) : Calls Try.prog 30 #[] w fun e w' => e = .returned (.bool true) ∧ Fr [] w w' := by
  have hb := btw_mid (a := 0) (b := 4621819117588971520) (t := 4598175219545276416) (m := 4621819117588971520) (q := 4612811918334230528) (z := 4612811918334230528) (by decide) (by decide) (by kernel_rfl) (by kernel_rfl) (by kernel_rfl) (by kernel_rfl) (by kernel_rfl) (by kernel_rfl) (by kernel_rfl) (by kernel_rfl)
  have o1 : (FloatKind.f64.format.order 4612811918334230528 4612811918334230528 == some .eq) = true := by kernel_rfl
  have hs : soonB 4611686018427387904 4607182418800017408 = true := by kernel_rfl
  go_enter Try.func30, Try.ntmps30
  go_wp2_with fail
  refine (hb _).mono ?_; rintro e w' ⟨rfl, rfl⟩
  go_wp2_with fail
  refine (mknan _).mono ?_; rintro e w' ⟨rfl, rfl⟩
  go_wp2_with fail
  have hF0 := (Fr.refl [] w).alloc (.cells #[.float .f64 4607182418800017408, .float .f64 9221120237041090561, .float .f64 4611686018427387904] 22)
  have hbk : Blk (w.alloc (.cells #[.float .f64 4607182418800017408, .float .f64 9221120237041090561, .float .f64 4611686018427387904] 22)) w.heap.size (fcells [4607182418800017408, 9221120237041090561, 4611686018427387904]) 22 := Blk.new w _ _
  generalize w.alloc (.cells #[.float .f64 4607182418800017408, .float .f64 9221120237041090561, .float .f64 4611686018427387904] 22) = w1 at *
  refine (order_lit (Y := [1, 2, 0]) hbk (by decide) (by decide) (by kernel_rfl) rfl).mono ?_
  rintro e w2 ⟨v, X, rfl, hS, hX, hF⟩
  have hF2 := hF0.trans hF (by simp)
  clear hF0 hF hbk
  go_wp2_with fail
  have hbk : Blk (w2.alloc (.cells #[.int .i64 1, .int .i64 2, .int .i64 0] 3)) w2.heap.size (icells [1, 2, 0]) 3 := Blk.new w2 _ _
  have hF3 := hF2.alloc (.cells #[.int .i64 1, .int .i64 2, .int .i64 0] 3)
  have hS3 := hS.fr ((Fr.refl [] w2).alloc (.cells #[.int .i64 1, .int .i64 2, .int .i64 0] 3)) (by simp)
  clear hF2 hS
  refine (same_yes hS3.v (icells_v hbk 3 rfl) hX (by decide)).mono ?_
  rintro e w3 ⟨rfl, k, rfl⟩
  have hF4 := hF3.drewN k
  clear hS3 hbk hX hF3
  go_wp2_with fail
  refine (sooner_any _ _ (by decide) (by decide) _).mono ?_; rintro e w' ⟨rfl, rfl⟩
  rw [hs]
  go_wp2_with fail
  go_ret
  exact ⟨rfl, hF4⟩
end Go.Proofs.Ytiniaphleogkiaa.Vw
