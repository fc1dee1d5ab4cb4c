import Derived.Test.YtlfdbkdaamodnaaSlS
import Derived.Test.YtlfdbkdaamodnaaHand
namespace Go.Proofs.Ytlfdbkdaamodnaa.Bt
open Go.RowKit Dt Go.ChangeShapes Go.WideShapes
set_option linter.unusedVariables false

/-- the law's fields: a number, in how many bits, signed? -/
def SlField (w : World) (a : Option Addr) (len cap : Nat) (z : Nat → Int × Int × Bool) : Prop :=
  SlG w a len cap (fun b off => ∀ i, i < len → w.cell? ⟨b, off + i * 3, none⟩ = some (.int .u64 (z i).1) ∧ w.cell? ⟨b, off + (i * 3 + 1), none⟩ = some (.int .i64 (z i).2.1) ∧ w.cell? ⟨b, off + (i * 3 + 2), none⟩ = some (.bool (z i).2.2)) ∧
  ∀ i, i < len → (Lit.int .u64 (z i).1).wf = true ∧ (Lit.int .i64 (z i).2.1).wf = true

theorem flat_field {fs : Array Field} (h : Try.prog.underlying 60 = some (.struct fs)) : Flat Try.prog fs ∧ fs.size = 3 ∧ (fs[0]?).map (·.type) = some 46 ∧ (fs[1]?).map (·.type) = some 3 ∧ (fs[2]?).map (·.type) = some 4 := by
  rw [Try.underlying60] at h
  simp only [Option.some.injEq, TypeDesc.struct.injEq] at h
  subst h
  refine ⟨fun j f hf => ?_, rfl, rfl, rfl, rfl⟩
  match j, hf with
  | 0, hf => simp at hf; subst hf; exact ⟨rfl, by kernel_rfl⟩
  | 1, hf => simp at hf; subst hf; exact ⟨rfl, by kernel_rfl⟩
  | 2, hf => simp at hf; subst hf; exact ⟨rfl, by kernel_rfl⟩
  | j + 3, hf => simp at hf

theorem slField_of {H : Type} {enc : TypeId × Value → H} {w : World} {base : Nat} {held : Bool} {ts : List TypeId} {ds : List (DataW H)} {ps : List MemPlace} (hs : (DataW.weightsEach Try.prog ts ds).all (· ≤ reachBytes) = true) {j : Nat} {a : Option Addr} {len cap : Nat} {d : DataW H}
    (ht : ts[j]? = some 55) (hd : ds[j]? = some d) (h : DataW.Trod enc Try.prog w base (fun _ => true) held 55 (.slice a len cap) d ps) : ∃ z, SlField w a len cap z := by
  obtain ⟨hfl, hsz, t0, t1, t2⟩ := flat_field Try.underlying60
  obtain ⟨V, hV, hx⟩ := rows_of hs (of_decide_eq_true (by kernel_rfl)) ht hd Try.underlying55 Try.underlying60 (by kernel_rfl) hfl (by rw [hsz]; decide) h
  have each : ∀ i, ∃ z : Int × Int × Bool, i < len → V i 0 = .int .u64 z.1 ∧ V i 1 = .int .i64 z.2.1 ∧ V i 2 = .bool z.2.2 ∧ (Lit.int .u64 z.1).wf = true ∧ (Lit.int .i64 z.2.1).wf = true := fun i => by
    by_cases hi : i < len
    · obtain ⟨n0, y0, g0⟩ := hx i hi 0 _ rfl
      obtain ⟨n1, y1, g1⟩ := hx i hi 1 _ rfl
      obtain ⟨n2, y2, g2⟩ := hx i hi 2 _ rfl
      obtain ⟨a0, e0, _, f0⟩ := DataW.trod_int Try.underlying46 g0
      obtain ⟨a1, e1, _, f1⟩ := DataW.trod_int Try.underlying3 g1
      obtain ⟨a2, e2, _⟩ := DataW.trod_bool Try.underlying4 g2
      exact ⟨(a0, a1, a2), fun _ => ⟨by simpa using e0, by simpa using e1, by simpa using e2, f0, f1⟩⟩
    · exact ⟨(0, 0, false), fun h => absurd h hi⟩
  refine ⟨fun i => Classical.choose (each i), ⟨hV.le, hV.nil, hV.reach, fun hp => ?_⟩, fun i hi => ?_⟩
  · obtain ⟨b, off, e, hlt, hc⟩ := hV.cells hp
    refine ⟨b, off, e, hlt, fun i hi => ?_⟩
    obtain ⟨e0, e1, e2, _⟩ := Classical.choose_spec (each i) hi
    have c0 := hc i hi 0 (by decide)
    have c1 := hc i hi 1 (by decide)
    have c2 := hc i hi 2 (by decide)
    rw [e0] at c0; rw [e1] at c1; rw [e2] at c2
    exact ⟨c0, c1, c2⟩
  · obtain ⟨_, _, _, f0, f1⟩ := Classical.choose_spec (each i) hi
    exact ⟨f0, f1⟩
end Go.Proofs.Ytlfdbkdaamodnaa.Bt
