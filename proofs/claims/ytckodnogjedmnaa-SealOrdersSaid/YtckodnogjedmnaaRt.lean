/- chapter 18: rows that were given out; SameRow, SameRows. -/
import Derived.Test.YtckodnogjedmnaaOa
import Derived.Deep.QuietTactic
namespace Go.Proofs.Ytckodnogjedmnaa.Lo
open Go.RowKit Dt Go.Proofs.Ytckodnogjedmnaa.Hd Go.Proofs.Ytckodnogjedmnaa.Cfg Go.Proofs.Ytckodnogjedmnaa.Jt
set_option linter.unusedVariables false
set_option linter.unusedSimpArgs false

/-- a slice value reads as a row of p cells -/
def RowAt (w : World) (u : Value) (p : Nat) (R : Row) : Prop := ∃ g cap, u = .slice (some ⟨g, 0, none⟩) p cap ∧ ∀ t, t < p → ∀ j v, (c4 (R t))[j]? = some v → w.cell? ⟨g, t * 4 + j, none⟩ = some v
/-- a slice value reads as n rows -/
def RowsAt (w : World) (v : Value) (n p : Nat) (Rs : Nat → Row) : Prop := ∃ a cap, v = .slice a n cap ∧ n ≤ cap ∧ cap ≤ maxLen ∧ (0 < n → ∃ g o, a = some ⟨g, o, none⟩ ∧ ∀ i, i < n → ∃ u, w.cell? ⟨g, o + i, none⟩ = some u ∧ RowAt w u p (Rs i))
/-- rows whose blocks lie from b up to t -/
def RowsT (w : World) (b t : Nat) (v : Value) (n p : Nat) (Rs : Nat → Row) : Prop := ∃ vs : List Value, (w.ownsRow b 26 1 v n vs ∧ ∀ g, v.ownBlock = some g → g < t) ∧ ∀ i, i < n → ∃ u, vs[i]? = some u ∧ w.ownsRow b 66 4 u p (rc (Rs i) p) ∧ ∀ g, u.ownBlock = some g → g < t
theorem RowsV.t {w : World} {b n p : Nat} {v : Value} {Rs : Nat → Row} (h : RowsV w b v n p Rs) : RowsT w b w.heap.size v n p Rs := by
  obtain ⟨vs, h1, h2⟩ := h
  exact ⟨vs, ⟨h1, fun g hg => own_lt h1 hg⟩, fun i hi => by obtain ⟨u, e, h3⟩ := h2 i hi; exact ⟨u, e, h3, fun g hg => own_lt h3 hg⟩⟩
theorem RowsT.fr {S : List Nat} {w w' : World} {b t n p : Nat} {v : Value} {Rs : Nat → Row} (h : RowsT w b t v n p Rs) (hF : Fr S w w') (hS : ∀ x ∈ S, x < b ∨ t ≤ x) : RowsT w' b t v n p Rs := by
  obtain ⟨vs, ⟨h1, h1'⟩, h2⟩ := h
  exact ⟨vs, ⟨own_keep h1 hF (fun g hg hx => by have := own_base h1 hg; have := h1' g hg; have := hS g hx; omega), h1'⟩, fun i hi => by
    obtain ⟨u, e, h3, h4⟩ := h2 i hi
    exact ⟨u, e, own_keep h3 hF (fun g hg hx => by have := own_base h3 hg; have := h4 g hg; have := hS g hx; omega), h4⟩⟩
theorem RowsT.wr {w w' : World} {Q : Nat → Prop} {b t n p : Nat} {v : Value} {Rs : Nat → Row} (h : RowsT w b t v n p Rs) (hW : Wr Q w w') (hQ : ∀ x, Q x → x < b ∨ t ≤ x) : RowsT w' b t v n p Rs := by
  obtain ⟨S, h1, h2⟩ := hW
  exact h.fr h2 (fun x hx => hQ x (h1 x hx))
theorem RowsT.nil (w : World) (b t p : Nat) (Rs : Nat → Row) : RowsT w b t (.slice none 0 0) 0 p Rs := ⟨[], ⟨own_nil _ _ _ _, fun g hg => by simp [Value.ownBlock] at hg⟩, fun i hi => by omega⟩
theorem c4_len (c : C4) {j : Nat} {v : Value} (h : (c4 c)[j]? = some v) : j < 4 := by
  have := (List.getElem?_eq_some_iff.1 h).1
  simpa [c4] using this
theorem own_row {w : World} {b p : Nat} {u : Value} {R : Row} (h : w.ownsRow b 66 4 u p (rc R p)) (hp : 0 < p) : RowAt w u p R := by
  obtain ⟨g, cap, rfl, -, -, -⟩ := own_form h hp
  exact ⟨g, cap, rfl, fun t ht j v hv => by rw [h.cellAt _ (by have := c4_len _ hv; omega), rc_get R (c4_len _ hv) ht]; exact hv⟩
theorem RowsT.at {w : World} {b t n p : Nat} {v : Value} {Rs : Nat → Row} (h : RowsT w b t v n p Rs) (hp : 0 < p) : RowsAt w v n p Rs := by
  obtain ⟨vs, ⟨h1, -⟩, h2⟩ := h
  obtain ⟨a, cap, rfl, e1, e2, -, e3⟩ := own_any h1
  refine ⟨a, cap, rfl, e1, e2, fun hn => ?_⟩
  obtain ⟨g, rfl, -⟩ := e3 hn
  refine ⟨g, 0, rfl, fun i hi => ?_⟩
  obtain ⟨u, e, h3, -⟩ := h2 i hi
  exact ⟨u, by rw [Nat.zero_add, h1.cellAt _ (by omega)]; exact e, own_row h3 hp⟩
theorem RowAt.fr {w w' : World} {S : List Nat} {u : Value} {p : Nat} {R : Row} (h : RowAt w u p R) (hp : 0 < p) (hF : Fr S w w') (hS : ∀ g, u.ownBlock = some g → g ∉ S) : RowAt w' u p R := by
  obtain ⟨g, cap, rfl, h1⟩ := h
  refine ⟨g, cap, rfl, fun t ht j v hv => ?_⟩
  have h2 := h1 t ht j v hv
  rw [hF.cell (cell_lt h2) (hS g rfl)]; exact h2
theorem RowsAt.fr {w w' : World} {v : Value} {n p : Nat} {Rs : Nat → Row} (h : RowsAt w v n p Rs) (hp : 0 < p) (hF : Fr [] w w') : RowsAt w' v n p Rs := by
  obtain ⟨a, cap, rfl, h0, h0', h1⟩ := h
  refine ⟨a, cap, rfl, h0, h0', fun hn => ?_⟩
  obtain ⟨g, o, rfl, h2⟩ := h1 hn
  refine ⟨g, o, rfl, fun i hi => ?_⟩
  obtain ⟨u, h3, h4⟩ := h2 i hi
  exact ⟨u, by rw [hF.cell (cell_lt h3) (by simp)]; exact h3, h4.fr hp hF (by simp)⟩
set_option maxRecDepth 100000 in
set_option maxHeartbeats 1600000 in
theorem samerow_yes {w : World} {u u' : Value} {p : Nat} {R R' : Row} (h : RowAt w u p R) (h' : RowAt w u' p R') (e : ∀ t, t < p → R t = R' t) (hp : p ≤ 100) : Calls Try.prog 19 #[u, u'] w fun e w' => e = .returned (.bool true) ∧ ∃ k, w' = w.drewN k := by
  obtain ⟨g, cap, rfl, h1⟩ := h
  obtain ⟨g', cap', rfl, h1'⟩ := h'
  have H1 := Lib.hid h1; have H2 := Lib.hid h1'; have HE := Lib.hid e
  clear h1 h1' e
  have hpm : p ≤ maxLen := by unfold maxLen; omega
  go_enter Try.func19, Try.ntmps19
  go_wp2_with fail
  go_loopw [5] (fun iv wr => ∃ i : Nat, iv = .int .i64 i ∧ i ≤ p ∧ ∃ k, wr = w.drewN k) (fun iv _ => p - (intOf iv).toNat)
  case atStart => exact ⟨0, rfl, Nat.zero_le _, 0, rfl⟩
  case round =>
    obtain ⟨i, rfl, hi, k, rfl⟩ := hrel
    by_cases hlt : i < p
    · have he := HE.out i hlt
      have k1 := H1.out i hlt
      have k2 := H2.out i hlt
      rw [← he] at k2
      obtain ⟨⟨re, bu, xx, yy⟩, hC⟩ : ∃ C, R i = C := ⟨_, rfl⟩
      rw [hC] at k1 k2
      have d0 : (w.drewN k).cell? ⟨g, i * 4, none⟩ = _ := k1 0 _ rfl
      have d1 : (w.drewN k).cell? ⟨g, i * 4 + 1, none⟩ = _ := k1 1 _ rfl
      have d2 : (w.drewN k).cell? ⟨g, i * 4 + 2, none⟩ = _ := k1 2 _ rfl
      have d3 : (w.drewN k).cell? ⟨g, i * 4 + 3, none⟩ = _ := k1 3 _ rfl
      have f0 : (w.drewN k).cell? ⟨g', i * 4, none⟩ = _ := k2 0 _ rfl
      have f1 : (w.drewN k).cell? ⟨g', i * 4 + 1, none⟩ = _ := k2 1 _ rfl
      have f2 : (w.drewN k).cell? ⟨g', i * 4 + 2, none⟩ = _ := k2 2 _ rfl
      have f3 : (w.drewN k).cell? ⟨g', i * 4 + 3, none⟩ = _ := k2 3 _ rfl
      clear k1 k2 he hC
      generalize hwk : w.drewN k = wk at *
      have HWK := Lib.hid hwk
      clear hwk
      go_wp2_with fail
      go_quiet (fail)
      go_wp2_with fail
      go_roundw
      case rel => exact ⟨i + 1, by simp, by omega, k + nq, by rw [← HWK.out, World.drewN_drewN]⟩
      case measure => simp [intOf]; omega
    · have e : i = p := by omega
      subst e
      go_wp2_with fail
      go_ret
      exact ⟨rfl, k, rfl⟩
set_option maxRecDepth 100000 in
set_option maxHeartbeats 1600000 in
theorem samerows_yes {w : World} {v v' : Value} {n p : Nat} {Rs Rs' : Nat → Row} (h : RowsAt w v n p Rs) (h' : RowsAt w v' n p Rs') (e : ∀ i, i < n → ∀ t, t < p → Rs i t = Rs' i t) (hp : p ≤ 100) : Calls Try.prog 37 #[v, v'] w fun e w' => e = .returned (.bool true) ∧ ∃ k, w' = w.drewN k := by
  obtain ⟨a, cap, rfl, b1, b2, h1⟩ := h
  obtain ⟨a', cap', rfl, b3, b4, h1'⟩ := h'
  have H1 := Lib.hid h1; have H2 := Lib.hid h1'; have HE := Lib.hid e
  clear h1 h1' e
  go_enter Try.func37, Try.ntmps37
  go_wp2_with fail
  go_loopw [5] (fun iv wr => ∃ i : Nat, iv = .int .i64 i ∧ i ≤ n ∧ ∃ k, wr = w.drewN k) (fun iv _ => n - (intOf iv).toNat)
  case atStart => exact ⟨0, rfl, Nat.zero_le _, 0, rfl⟩
  case round =>
    obtain ⟨i, rfl, hi, k, rfl⟩ := hrel
    by_cases hlt : i < n
    · have hbd : i < 9223372036854775807 := by unfold maxLen at *; omega
      obtain ⟨g, o, rfl, k1⟩ := H1.out (by omega)
      obtain ⟨g', o', rfl, k2⟩ := H2.out (by omega)
      obtain ⟨u, c1, r1⟩ := k1 i hlt
      obtain ⟨u', c2, r2⟩ := k2 i hlt
      have hsr : ∀ j, Calls Try.prog 19 #[u, u'] ((w.drewN k).drewN j) fun e w' => e = .returned (.bool true) ∧ ∃ m, w' = ((w.drewN k).drewN j).drewN m := fun j => samerow_yes (w := (w.drewN k).drewN j) r1 r2 (HE.out i hlt) hp
      have d0 : (w.drewN k).cell? ⟨g, o + i, none⟩ = _ := c1
      have d1 : (w.drewN k).cell? ⟨g', o' + i, none⟩ = _ := c2
      obtain ⟨ga, ca, rfl, -⟩ := r1
      obtain ⟨ga', ca', rfl, -⟩ := r2
      have HSR := Lib.hid hsr
      clear hsr k1 k2 c1 c2
      generalize hwk : w.drewN k = wk at *
      have HWK := Lib.hid hwk
      clear hwk
      go_wp2_with fail
      go_quiet (exact Calls.quiet_of (HSR.out _))
      go_wp2_with fail
      go_roundw
      case rel => exact ⟨i + 1, by simp, by omega, k + nq, by rw [← HWK.out, World.drewN_drewN]⟩
      case measure => simp [intOf]; omega
    · have e : i = n := by omega
      subst e
      go_wp2_with fail
      go_ret
      exact ⟨rfl, k, rfl⟩
end Go.Proofs.Ytckodnogjedmnaa.Lo
