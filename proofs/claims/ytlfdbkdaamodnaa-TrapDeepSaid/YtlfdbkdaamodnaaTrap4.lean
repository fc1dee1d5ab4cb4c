import Derived.Test.YtlfdbkdaamodnaaTrap3
import Derived.Deep.Cut
namespace Go.Proofs.Ytlfdbkdaamodnaa.Tr
open Go.RowKit Dt Go.Proofs.Ytlfdbkdaamodnaa.Hd
set_option linter.unusedVariables false

theorem DS.keep {w0 w w' : World} {bn ba bc bt be bg : Nat} {n a c t e t0 e0 : Int} (h : DS w bn ba bc bt be bg n a c t e) {S : List Nat} (hF : Fr S w w') (h0 : DS w0 bn ba bc bt be bg n a c t0 e0) (hS : ∀ x ∈ S, w0.heap.size ≤ x) : DS w' bn ba bc bt be bg n a c t e :=
  have f : ∀ {b vs T vs' T'}, Blk w b vs T → Blk w0 b vs' T' → Blk w' b vs T := fun k k0 => hF.blk k (fun hx => by have := k0.lt; have := hS _ hx; omega)
  ⟨f h.n h0.n, f h.a h0.a, f h.c h0.c, f h.t h0.t, f h.e h0.e, f h.g h0.g, h.q⟩
theorem tl_step (k a : Int) : tl k a = tl (k + 1) a + if k = a then 1 else 0 := by unfold tl; split <;> split <;> split <;> omega

set_option maxRecDepth 100000 in
set_option maxHeartbeats 1600000 in
theorem go_step_any {bn ba bc bt be bg : Nat} {k : Nat} {n a c : Int} (hn : n ≤ 20) (ha : a < n) (hk : k < n) {w : World} {e : Int} (h : DS w bn ba bc bt be bg n a c 0 e) (he : 0 ≤ e) (he2 : e + (n - k) ≤ 100)
    (ih : (k : Int) + 1 < n → ∀ w' e, DS w' bn ba bc bt be bg n a c 0 e → 0 ≤ e → e + (n - (k + 1)) ≤ 100 → Calls Try.prog 15 #[.int .i64 ((k : Int) + 1), .pointer (some ⟨bn, 0, none⟩), .pointer (some ⟨bg, 0, none⟩), .pointer (some ⟨ba, 0, none⟩), .pointer (some ⟨bc, 0, none⟩), .pointer (some ⟨be, 0, none⟩), .pointer (some ⟨bt, 0, none⟩)] w'
      fun x w'' => x = .returned (.tuple #[]) ∧ Fr [bt, be] w' w'' ∧ DS w'' bn ba bc bt be bg n a c (0 + tl (k + 1) a) (e + (n - (k + 1)) - tl (k + 1) a)) :
    Calls Try.prog 15 #[.int .i64 k, .pointer (some ⟨bn, 0, none⟩), .pointer (some ⟨bg, 0, none⟩), .pointer (some ⟨ba, 0, none⟩), .pointer (some ⟨bc, 0, none⟩), .pointer (some ⟨be, 0, none⟩), .pointer (some ⟨bt, 0, none⟩)] w
      fun x w'' => x = .returned (.tuple #[]) ∧ Fr [bt, be] w w'' ∧ DS w'' bn ba bc bt be bg n a c (0 + tl k a) (e + (n - k) - tl k a) := by
  have hts := tl_step k a
  have ht01 : 0 ≤ tl (k + 1) a ∧ tl (k + 1) a ≤ 1 := by unfold tl; split <;> omega
  obtain ⟨v, hv⟩ : ∃ v, v = e + (n - k) - tl k a := ⟨_, rfl⟩
  obtain ⟨u, hu⟩ : ∃ u, u = 0 + tl (k + 1) a := ⟨_, rfl⟩
  obtain ⟨y, hy⟩ : ∃ y, y = 0 + tl k a := ⟨_, rfl⟩
  rw [← hv, ← hy]
  have hyu : y = u + if (k : Int) = a then 1 else 0 := by rw [hy, hts, hu]; omega
  have HY := Lib.hid hyu; clear hyu hy
  have hu2 : 0 ≤ u ∧ u ≤ 1 := by omega
  have HV := Lib.hid hv; have HU := Lib.hid hu
  clear hv hu hts ht01
  have IH := Lib.hid ih; clear ih
  have hmf : ∀ (fn : Fn) (first cap : Array Value) (w : World), (Instr.makeFunc fn first cap).run Try.prog w = .ok (.func fn first cap) w := fun _ _ _ _ => rfl
  go_enter Try.func15, Try.ntmps15
  go_wp2_with fail
  have hF1 : Fr [] w (w.alloc (.cells #[.int .i64 k] 3)) := (Fr.refl _ w).alloc _
  have hD1 := h.fr hF1 (by simp)
  have hB1 := Blk.new w #[.int .i64 k] 3
  have lt := h.t.lt
  have le := h.e.lt
  refine (catch_any (S := [bt, be]) (by simp; omega) (fun _ => by kernel_rfl) (fun w0 hF0 => body_any (hD1.fr hF0 (by simp)) (hF0.blk hB1 (by simp)) (by simp; omega) hn hk he he2 IH.out ha)).mono ?_
  rintro x w2 ⟨o, w1, hok, rfl, hF2, ⟨rfl, hD⟩, hF3⟩
  have hD2 := hD.keep hF3 hD1 (by simp)
  have hk2 := hF2.blk hB1 (by simp; omega)
  have hF4 := hF1.mono (S' := [bt, be]) (by simp) |>.trans hF2 (fun x hx => .inl hx)
  rw [← HU.out, ← HV.out] at hD2
  clear hD hF3 hok hF2 hD1
  generalize w.heap.size = K at *
  by_cases hka : (k : Int) = a
  · have e6 : y = u + 1 := by have := HY.out; rw [if_pos hka] at this; exact this
    have E6 := Lib.hid e6; clear e6
    subst hka
    rw [outK_eq]
    simp only [Out.asCatch]
    go_upto_region 2 with (fail)
    have hD3 := hD2.fr ((Fr.refl [] w2).alloc (.cells #[.int .i64 c, .int .i64 k] 26)) (by simp)
    have hk3 := hk2.alloc (.cells #[.int .i64 c, .int .i64 k] 26)
    have hf3 := Blk.new w2 #[.int .i64 c, .int .i64 k] 26
    have hF5 := hF4.alloc (.cells #[.int .i64 c, .int .i64 k] 26)
    clear hF4 hD2 hk2
    generalize w2.heap.size = M at *
    generalize w2.alloc (.cells #[.int .i64 c, .int .i64 k] 26) = w3 at *
    have d1 := hk3.cell (i := 0) rfl
    have d2 := hD3.a.cell (i := 0) rfl
    have d3 := hD3.c.cell (i := 0) rfl
    have d4 := hD3.t.cell (i := 0) rfl
    have f4 := hD3.t.free 0
    have d5 := hf3.cell (i := 0) rfl
    have d6 := hf3.cell (i := 1) rfl
    have hKt : K ≠ bt := by omega
    have hat := hD3.q.2.1.1
    simp at d1 d2 d3 d4 d5 d6
    go_wp2_with fail
    refine bodyPost_end (results_none rfl _ _ _) rfl ?_
    refine ⟨rfl, hF5.setCell (.inl (by simp)) _, ?_⟩
    rw [E6.out]
    exact hD3.setT _
  · have e6 : y = u := by have := HY.out; rw [if_neg hka] at this; omega
    subst e6
    have hkb : ((k : Int) == a) = false := by simpa using hka
    rw [outK_ne hka]
    simp only [Out.asCatch]
    have HK := Lib.hid hka; clear hka
    go_upto_region 2 with (fail)
    have hD3 := hD2.fr ((Fr.refl [] w2).alloc (.cells #[.int .i64 0, .int .i64 0] 26)) (by simp)
    have hk3 := hk2.alloc (.cells #[.int .i64 0, .int .i64 0] 26)
    have hF5 := hF4.alloc (.cells #[.int .i64 0, .int .i64 0] 26)
    clear hF4 hD2 hk2
    generalize w2.heap.size = M at *
    generalize w2.alloc (.cells #[.int .i64 0, .int .i64 0] 26) = w3 at *
    have d1 := hk3.cell (i := 0) rfl
    have d2 := hD3.a.cell (i := 0) rfl
    simp at d1 d2
    go_wp2_with fail
    refine bodyPost_end (results_none rfl _ _ _) rfl ?_
    exact ⟨rfl, hF5, hD3⟩
end Go.Proofs.Ytlfdbkdaamodnaa.Tr
