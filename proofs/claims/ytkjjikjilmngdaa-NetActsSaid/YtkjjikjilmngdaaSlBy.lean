/- Bytes inside a struct that came in. -/
import Derived.Test.YtkjjikjilmngdaaLs
import Derived.Test.YtkjjikjilmngdaaHand
import Derived.SizedLaws
import Derived.ProofKit
namespace Go.Proofs.Ytkjjikjilmngdaa.Nt
open Go.RowKit Dt Go.ChangeShapes Go.WideShapes Go.Deep
set_option linter.unusedVariables false
set_option linter.unusedSimpArgs false
set_option maxRecDepth 100000
/-- a slice of bytes that came in -/
structure ByIn (w : World) (a : Option Addr) (l c : Nat) (bs : List Nat) : Prop where
  ls : LS w (.slice a l c) (u8s bs)
  lt : ∀ x ∈ bs, x < 256
  len : bs.length ≤ 140737488351232
  ap : 0 < bs.length → ∀ g, (Value.slice a l c).ownBlock = some g → g < w.heap.size
section
variable {H : Type} {enc : TypeId × Value → H} {w : World} {base : Nat} {held : Bool}
theorem trod_by {n : Nat} {v : Value} {y : DataW H × List MemPlace} (h : DataW.trod enc Try.prog w base (fun _ => true) held n 73 [v] = some y) (hw : (DataW.weights Try.prog 73 y.1).all (· ≤ reachBytes) = true) : ∃ (a : Option Addr) (l c : Nat) (bs : List Nat), [v] = [.slice a l c] ∧ ByIn w a l c bs := by
  rcases DataW.trod_slice Try.underlying73 h with ⟨hcs, _⟩ | ⟨a, len, cap, elems, rest, m, hm, hcs, hx, hb, hlc, hcm, hel, hc, _⟩
  · exact ⟨none, 0, 0, [], hcs, LS.nil w, fun x hx => by simp at hx, by decide, fun h => by simp at h⟩
  · have c1 : Try.prog.cellsOf 5 = 1 := by kernel_rfl
    have b1 : Try.prog.bytesOf 5 = 1 := by kernel_rfl
    rw [c1] at hc
    have each : ∀ i, ∃ x : Nat, x < 256 ∧ (i < len → w.cell? (a.add i) = some (.int .u8 (x : Int))) := fun i => by
      by_cases hi : i < len
      · have h1 := hc i hi
        rw [Nat.mul_one, List.getElem?_eq_getElem (by omega)] at h1
        cases hcs : w.cells? base (a.add i) 1 with
        | none => rw [hcs] at h1; simp at h1
        | some cs =>
          rw [hcs] at h1
          obtain ⟨z, e, _, hwf⟩ := DataW.trod_int Try.underlying5 h1
          subst e
          obtain ⟨_, hlen, hcell⟩ := World.cells?_some hcs
          have h2 := hcell 0 (by decide)
          have hz : 0 ≤ z ∧ z < 256 := by
            have h3 : IntKind.u8.min ≤ z ∧ z ≤ IntKind.u8.max := by simpa [Lit.wf, IntKind.wrap] using hwf
            have e1 : IntKind.u8.min = 0 := rfl
            have e2 : IntKind.u8.max = 255 := rfl
            omega
          refine ⟨z.toNat, by omega, fun _ => ?_⟩
          have : a.add i = (a.add i).add 0 := by unfold Addr.add; split <;> simp_all
          rw [this, h2, Int.toNat_of_nonneg hz.1]; rfl
      · exact ⟨0, by decide, fun h => absurd h hi⟩
    have hlen : len ≤ 140737488351232 := by
      rw [hx] at hw
      unfold DataW.weights at hw
      rw [Try.underlying73] at hw
      simp only [List.all_cons, Bool.and_eq_true, decide_eq_true_eq, List.length_map, b1, hel] at hw
      have := hw.1
      have e : reachBytes = 140737488351232 := rfl
      omega
    obtain ⟨f, hf⟩ : ∃ f : Nat → Nat, ∀ i, f i < 256 ∧ (i < len → w.cell? (a.add i) = some (.int .u8 (f i : Int))) := ⟨fun i => Classical.choose (each i), fun i => Classical.choose_spec (each i)⟩
    refine ⟨some a, len, cap, (List.range len).map f, hcs, ?_⟩
    have hu : u8s ((List.range len).map f) = (List.range len).map fun i => Value.int .u8 (f i : Int) := by unfold u8s; rw [List.map_map]; rfl
    have hul : (u8s ((List.range len).map f)).length = len := by rw [u8s_len]; simp
    have hadd : 0 < len → ∃ b off, a = ⟨b, off, none⟩ ∧ b < w.heap.size ∧ ∀ i, i < len → w.cell? ⟨b, off + i, none⟩ = some (.int .u8 (f i : Int)) := fun hp => by
      obtain ⟨b, off, spot⟩ := a
      have h0 := (hf 0).2 hp
      have hs : spot = none := by simpa [Addr.add] using World.cell?_spot h0
      subst hs
      refine ⟨b, off, rfl, ?_, fun i hi => ?_⟩
      · have := (hf 0).2 hp
        rw [Dt.Addr.add_mid'] at this
        exact Dt.cell_lt this
      · have := (hf i).2 hi
        rwa [Dt.Addr.add_mid'] at this
    refine ⟨⟨some a, cap, by rw [hul], by rw [hul]; exact hlc, hcm, (fun h => by cases h), fun hp => ?_⟩, fun x hx => ?_, by simpa using hlen, fun hp g hg => ?_⟩
    · rw [hul] at hp
      obtain ⟨b, off, rfl, hb, hcell⟩ := hadd hp
      refine ⟨b, off, rfl, hb, fun i x hx => ?_⟩
      rw [hu, List.getElem?_map] at hx
      have hi : i < len := by
        rcases Nat.lt_or_ge i len with h | h
        · exact h
        · rw [List.getElem?_eq_none (by simpa using h)] at hx; cases hx
      rw [List.getElem?_range hi] at hx
      simp at hx
      rw [← hx]; exact hcell i hi
    · simp at hx
      obtain ⟨i, _, rfl⟩ := hx
      exact (hf i).1
    · simp at hp
      obtain ⟨b, off, rfl, hb, _⟩ := hadd hp
      simp [Value.ownBlock] at hg; omega
end
end Go.Proofs.Ytkjjikjilmngdaa.Nt
