/- Maps that are keyed by ints, told as functions: what stands at a key is told as the value itself. -/
import Derived.Test.YtckodnogjedmnaaFr
import Derived.Maps.OwnSet
namespace Dt
open Go Go.RowKit Go.WideShapes
set_option linter.unusedVariables false
set_option linter.unusedSimpArgs false

/-- an element reads as itself -/
def RV (v : Value) : Option (DataW Value × List MemPlace) := some (.held v, [])
def inK (x : Int) : Prop := (Lit.int .i64 x).wf = true
theorem inK_of {x : Int} (h1 : -9223372036854775808 ≤ x) (h2 : x ≤ 9223372036854775807) : inK x := by
  simp [inK, Lit.wf, IntKind.min, IntKind.max, IntKind.signed, IntKind.bits]; omega
/-- block b holds a map of c entries, keyed by ints: at x stands what f x tells -/
structure MapW (P : Program) (k : TypeId) (w : World) (b c : Nat) (f : Int → Option Value) : Prop where
  ex : ∃ D : DataW Value, w.ownsMap P k RV b c D ∧ Maps.size D = c ∧ ∀ x, inK x → Maps.has D (.int .i64 x) = (f x).isSome ∧ ∀ z, D.atKey (.int .i64 x) z = match f x with | some v => .held v | none => z
section
variable {P : Program} {k e : TypeId} {w : World} {b c : Nat} {f : Int → Option Value} {x : Int}
theorem own_tight {n : Nat} {D : DataW Value} (h : w.ownsMap P k RV b n D) : w.ownsMap P k RV b (Maps.size D) D := by
  obtain ⟨es, clock, hb, F, hs, rfl⟩ := h
  refine ⟨es, clock, hb, F, ?_, rfl⟩
  simp [Maps.size, length_sorted]
theorem MapW.lt (h : MapW P k w b c f) : b < w.heap.size := by obtain ⟨D, h1, -⟩ := h.ex; exact h1.lt
theorem MapW.fr {S : List Nat} {w' : World} (h : MapW P k w b c f) (hF : Fr S w w') (hb : b ∉ S) : MapW P k w' b c f := by
  obtain ⟨D, ⟨es, clock, hw, r⟩, h2⟩ := h.ex
  exact ⟨D, ⟨es, clock, (hF.block b h.lt hb).trans hw, r⟩, h2⟩
theorem MapW.congr {g : Int → Option Value} (h : MapW P k w b c f) (e : ∀ x, inK x → g x = f x) : MapW P k w b c g := by
  obtain ⟨D, h1, h2, h3⟩ := h.ex
  exact ⟨D, h1, h2, fun x hx => by rw [e x hx]; exact h3 x hx⟩
theorem MapW.made (w : World) (P : Program) (k : TypeId) : MapW P k (w.alloc (.map #[] 0)) w.heap.size 0 (fun _ => none) :=
  ⟨.map [], World.ownsMap_made w P k RV, rfl, fun x _ => ⟨rfl, fun z => rfl⟩⟩
theorem turned_fr {w' : World} (h : w.mapTurned w' b) : Fr [b] w w' := by
  have hg := h.grown
  exact ⟨hg.os, hg.tape, hg.output, hg.size, fun k hk hn => hg.block k hk (fun hx => hn (by simp at hx; simp [hx]))⟩
theorem key_ne {x y : Int} (h : x ≠ y) : (Lit.int .i64 x) ≠ .int .i64 y := fun e => h (by injection e)
theorem MapW.look (h : MapW P k w b c f) (hk : P.underlying k = some (.int .i64)) {t : TypeId} (ht : P.underlying t = some (.map k e)) {z : Value} (hz : (zeroValue e).run P w = .ok z w) (hx : inK x) :
    (Instr.lookup t (.map (some b)) (.int .i64 x) true).run P w = .ok (.tuple #[(f x).getD z, .bool (f x).isSome]) w := by
  obtain ⟨D, h1, h2, h3⟩ := h.ex
  obtain ⟨v, ps, hr, hv⟩ := h1.look_ok (Maps.int_keyed hk) ht hz (zd := .held z) (zp := []) rfl (Maps.keyOf_int_mk hk hx)
  rw [hr, (h3 x hx).1]
  have h4 := (h3 x hx).2 (.held z)
  rw [h4] at hv
  have : v = (f x).getD z := by
    unfold RV at hv
    cases hf : f x with
    | none => rw [hf] at hv; simp at hv; exact hv.1
    | some u => rw [hf] at hv; simp at hv; exact hv.1
  rw [this]
theorem MapW.store (h : MapW P k w b c f) (hk : P.underlying k = some (.int .i64)) {t : TypeId} (ht : P.underlying t = some (.map k e)) (hc : c < maxLen) (hx : inK x) (v : Value) :
    ∃ w', (Instr.mapUpdate t (.map (some b)) (.int .i64 x) v).run P w = .ok () w' ∧ MapW P k w' b (if (f x).isSome then c else c + 1) (fun y => if y = x then some v else f y) ∧ Fr [b] w w' := by
  obtain ⟨D, h1, h2, h3⟩ := h.ex
  obtain ⟨w', hr, ho, ht'⟩ := h1.store (Maps.int_keyed hk) ht hc (d := .held v) (ps := []) (Maps.keyOf_int_mk hk hx) rfl
  have hs : Maps.size (D.put (.int .i64 x) (.held v)) = if (f x).isSome then c else c + 1 := by
    rw [Maps.size_put (h1.tidy (Maps.int_keyed hk)), (h3 x hx).1, h2]
  refine ⟨w', hr, ⟨_, hs ▸ own_tight ho, hs, fun y hy => ?_⟩, turned_fr ht'⟩
  by_cases hxy : y = x
  · subst hxy
    rw [if_pos rfl]
    exact ⟨Maps.has_put_same h1.isMap (show WideAt.IsKeyLit (.int .i64 y) from trivial) _, fun z => Maps.atKey_put_same h1.isMap (show WideAt.IsKeyLit (.int .i64 y) from trivial) _ _⟩
  · rw [if_neg hxy, Maps.has_put_other (key_ne hxy)]
    exact ⟨(h3 y hy).1, fun z => by rw [Maps.atKey_put_other (key_ne hxy)]; exact (h3 y hy).2 z⟩
theorem MapW.drop (h : MapW P k w b c f) (hk : P.underlying k = some (.int .i64)) {t : TypeId} (ht : P.underlying t = some (.map k e)) (hx : inK x) (ty : TypeId) :
    ∃ w', (Builtin.delete_ #[t, k] ty #[.map (some b), .int .i64 x]).run P w = .ok (.tuple #[]) w' ∧ MapW P k w' b (c - if (f x).isSome then 1 else 0) (fun y => if y = x then none else f y) ∧ Fr [b] w w' := by
  obtain ⟨D, h1, h2, h3⟩ := h.ex
  obtain ⟨w', hr, ho, ht'⟩ := h1.drop (Maps.int_keyed hk) ht (Maps.keyOf_int_mk hk hx) ty
  have hs : Maps.size (D.del (.int .i64 x)) = c - if (f x).isSome then 1 else 0 := by
    have := Maps.size_del (k := .int .i64 x) (h1.tidy (Maps.int_keyed hk))
    rw [(h3 x hx).1, h2] at this
    omega
  refine ⟨w', hr, ⟨_, hs ▸ own_tight ho, hs, fun y hy => ?_⟩, turned_fr ht'⟩
  by_cases hxy : y = x
  · subst hxy
    rw [if_pos rfl]
    exact ⟨Maps.has_del_same, fun z => Maps.atKey_del_same z⟩
  · rw [if_neg hxy, Maps.has_del_other (key_ne hxy)]
    exact ⟨(h3 y hy).1, fun z => by rw [Maps.atKey_del_other (key_ne hxy)]; exact (h3 y hy).2 z⟩
theorem MapW.len (h : MapW P k w b c f) {t : TypeId} (ht : P.underlying t = some (.map k e)) (ty : TypeId) : (Builtin.len_ #[t] ty #[.map (some b)]).run P w = .ok (.int .i64 c) w := by
  obtain ⟨D, h1, h2, h3⟩ := h.ex
  rw [h1.len ht ty, h2]
theorem MapW.drew (h : MapW P k w b c f) : MapW P k w.drew b c f := by
  obtain ⟨D, h1, h2⟩ := h.ex; exact ⟨D, h1, h2⟩
theorem MapW.drewN (h : MapW P k w b c f) (n : Nat) : MapW P k (w.drewN n) b c f := by
  obtain ⟨D, h1, h2⟩ := h.ex; exact ⟨D, h1, h2⟩
end
end Dt
