/- step.Legal. -/
import Derived.Test.YtckodnogjedmnaaCf3
import Derived.Test.YtckodnogjedmnaaMp
import Derived.Laws.EntriesVeiled
namespace Dt
open Go Go.RowKit Go.WideShapes
theorem MapW.look1 {P : Program} {k e : TypeId} {w : World} {b c : Nat} {f : Int → Option Value} {x : Int} (h : MapW P k w b c f) (hk : P.underlying k = some (.int .i64)) {t : TypeId} (ht : P.underlying t = some (.map k e)) {z : Value} (hz : (zeroValue e).run P w = .ok z w) (hx : inK x) :
    (Instr.lookup t (.map (some b)) (.int .i64 x) false).run P w = .ok ((f x).getD z) w := by
  obtain ⟨D, h1, h2, h3⟩ := h.ex
  obtain ⟨v, ps, hr, hv⟩ := h1.lookup (Maps.int_keyed hk) ht hz (zd := .held z) (zp := []) rfl (Maps.keyOf_int_mk hk hx)
  rw [hr]
  have h4 := (h3 x hx).2 (.held z)
  rw [h4] at hv
  have : v = (f x).getD z := by
    unfold RV at hv
    cases hf : f x with
    | none => rw [hf] at hv; simp at hv; exact hv.1
    | some u => rw [hf] at hv; simp at hv; exact hv.1
  rw [this]
end Dt
namespace Go.Proofs.Ytckodnogjedmnaa.Cfg
open Go.RowKit Dt Go.Proofs.Ytckodnogjedmnaa.Hd Go.Proofs.Ytckodnogjedmnaa.FlW Ieee
set_option linter.unusedVariables false
set_option linter.unusedSimpArgs false
attribute [local go_sem] run_store_float

theorem mapB : Try.prog.underlying 74 = some (.map 3 4) := Try.underlying74
theorem zeroB (w : World) : (zeroValue 4).run Try.prog w = .ok (.bool false) w := by kernel_rfl
theorem within_yes {n lo hi : Int} (h1 : lo ≤ n) (h2 : n ≤ hi) (w : World) : Calls Try.prog 47 #[.int .i64 n, .int .i64 lo, .int .i64 hi] w fun e w' => e = .returned (.bool true) ∧ w = w' := by
  go_enter Try.func47, Try.ntmps47
  go_wp2
  go_ret
  exact ⟨rfl, rfl⟩
theorem rwithin_yes {n lo hi : Int} (h1 : lo ≤ n) (h2 : n ≤ hi) (w : World) : Calls Try.prog 54 #[.int .i64 n, .int .i64 lo, .int .i64 hi] w fun e w' => e = .returned (.bool true) ∧ w = w' := by
  go_enter Try.func54, Try.ntmps54
  go_wp2
  go_ret
  exact ⟨rfl, rfl⟩
theorem wrong_no {t : Int × Int × Int} (h : OpOk t) (w : World) : Calls Try.prog 53 #[.agg #[.int .i64 t.1, .int .i64 t.2.1, .int .i64 t.2.2]] w fun e w' => e = .returned (.bool false) ∧ Fr [] w w' := by
  obtain ⟨c, a, b⟩ := t
  obtain ⟨h1, h2, h3, h4, h5, h6⟩ := h
  dsimp only at *
  go_enter Try.func53, Try.ntmps53
  go_wp2_with fail
  refine (rwithin_yes h1 h2 _).mono ?_; rintro e w' ⟨rfl, rfl⟩
  go_wp2_with fail
  refine (rwithin_yes h3 h4 _).mono ?_; rintro e w' ⟨rfl, rfl⟩
  go_wp2_with fail
  refine (rwithin_yes h5 h6 _).mono ?_; rintro e w' ⟨rfl, rfl⟩
  go_wp2_with fail
  go_ret
  exact ⟨rfl, (Fr.refl [] w).alloc _⟩
set_option maxRecDepth 100000 in
theorem index_no {w : World} {B : Nat} {a : Option Addr} {n c : Nat} {l : List (Int × Int × Int)} (h : w.ownsRow B 87 3 (.slice a n c) n (ops3 l)) (hl : l.length = n) (hn : n ≤ 16) (hok : ∀ t ∈ l, OpOk t) :
    Calls Try.prog 57 #[.slice a n c, .func (.func 53) #[] #[]] w fun e w' => e = .returned (.int .i64 (-1)) ∧ Fr [] w w' := by
  have hnm : n ≤ maxLen := by unfold maxLen; omega
  have HO := Lib.hid h; have HOK := Lib.hid hok
  clear h hok
  go_enter Try.func57, Try.ntmps57
  go_wp2_with fail
  go_loopw [8] (fun iv wr => ∃ k : Nat, k ≤ n ∧ iv = .int .i64 k ∧ Fr [] w wr) (fun iv _ => n - (intOf iv).toNat)
  case atStart => exact ⟨0, Nat.zero_le _, rfl, Fr.refl _ _⟩
  case round =>
    obtain ⟨k, hk, rfl, hF⟩ := hrel
    by_cases hkn : k < n
    · have q1 : (k : Int) < n := by omega
      have q0 : (0 : Int) ≤ k := by omega
      obtain ⟨x, hx⟩ : ∃ x, l[k]? = some x := ⟨_, List.getElem?_eq_getElem (by omega)⟩
      have hw := own_keep HO.out hF (by simp)
      obtain ⟨g0, cap0, hv0, hg0, hcap0, hcap1⟩ := own_form hw (by omega)
      cases hv0
      have hlen := ops3_len l
      have d1 : wr.cell? ⟨g0, k * 3, none⟩ = some (.int .i64 x.1) := by rw [hw.cellAt _ (by omega)]; exact ops3_get (j := 0) (by decide) hx
      have d2 : wr.cell? ⟨g0, k * 3 + 1, none⟩ = some (.int .i64 x.2.1) := by rw [hw.cellAt _ (by omega)]; exact ops3_get (j := 1) (by decide) hx
      have d3 : wr.cell? ⟨g0, k * 3 + 2, none⟩ = some (.int .i64 x.2.2) := by rw [hw.cellAt _ (by omega)]; exact ops3_get (j := 2) (by decide) hx
      have HF := Lib.hid hF
      have HX := Lib.hid (HOK.out x (List.mem_of_getElem? hx))
      clear hF hx hw hlen
      go_wp2_with fail
      refine (wrong_no HX.out _).mono ?_; rintro e w2 ⟨rfl, hF2⟩
      have HF2 := Lib.hid (HF.out.trans hF2 (by simp))
      clear hF2 d1 d2 d3
      go_wp2_with fail
      go_roundw
      case rel => exact ⟨k + 1, by omega, by go_num, HF2.out⟩
      case measure => simp [intOf]; omega
    · have q1 : ¬ (k : Int) < n := by omega
      have HF := Lib.hid hF
      clear hF
      go_wp2_with fail
      go_ret
      exact ⟨rfl, HF.out⟩
theorem rright_yes {w : World} {B : Nat} {a : Option Addr} {n c : Nat} {l : List (Int × Int × Int)} (h : w.ownsRow B 87 3 (.slice a n c) n (ops3 l)) (hl : l.length = n) (hn : n ≤ 16) (hok : ∀ t ∈ l, OpOk t) :
    Calls Try.prog 49 #[.slice a n c] w fun e w' => e = .returned (.bool true) ∧ Fr [] w w' := by
  have hnm : n ≤ maxLen := by unfold maxLen; omega
  have hi := index_no h hl hn hok
  have hcf : Calls Try.prog 52 #[.slice a n c, .func (.func 53) #[] #[]] w fun e w' => e = .returned (.bool false) ∧ Fr [] w w' := by
    go_enter Try.func52, Try.ntmps52
    go_wp2_with fail
    refine hi.mono ?_; rintro e w2 ⟨rfl, hF2⟩
    go_wp2_with fail
    go_ret
    exact ⟨rfl, hF2⟩
  have q1 : (n : Int) ≤ 16 := by omega
  have HCF := Lib.hid hcf
  clear hcf hi h hok
  go_enter Try.func49, Try.ntmps49
  go_wp2_with fail
  refine HCF.out.mono ?_; rintro e w2 ⟨rfl, hF2⟩
  have HF2 := Lib.hid hF2
  clear hF2
  go_wp2_with fail
  go_ret
  exact ⟨rfl, HF2.out⟩
end Go.Proofs.Ytckodnogjedmnaa.Cfg
