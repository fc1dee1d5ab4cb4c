/- Blocks known whole; 'the world is as it was but for these blocks'. -/
import Derived.Below
import Derived.OneCell
import Derived.Deep.Draws
namespace Dt
open Go Go.RowKit

/-- block 'b' is known whole: its cells, nothing of it frozen -/
def Blk (w : World) (b : Nat) (vs : Array Value) (T : TypeId) : Prop := w.heap[b]? = some (.cells vs T (0, 0))
section
variable {w : World} {b i : Nat} {vs : Array Value} {T : TypeId} {v : Value}
theorem Blk.cell (h : Blk w b vs T) (hv : vs[i]? = some v) : w.cell? ⟨b, i, none⟩ = some v := by simp only [World.cell?, show w.heap[b]? = _ from h]; simpa using hv
theorem Blk.free (h : Blk w b vs T) (i : Nat) : w.frozen? ⟨b, i, none⟩ = false := by simp [World.frozen?, show w.heap[b]? = _ from h]
theorem Blk.lt (h : Blk w b vs T) : b < w.heap.size := lt_of_block h
theorem Blk.set (h : Blk w b vs T) (i : Nat) (v : Value) : Blk (w.setCell ⟨b, i, none⟩ v) b (vs.setIfInBounds i v) T := by
  have hlt := h.lt
  have h' : w.heap[b] = .cells vs T (0, 0) := by simpa [Array.getElem?_eq_getElem hlt] using (show w.heap[b]? = _ from h)
  show (w.heap.modify b _)[b]? = _
  rw [Array.getElem?_eq_getElem (by simpa using hlt), Array.getElem_modify_self, h']
  simp
theorem Blk.other (h : Blk w b vs T) {a : Addr} (ha : b ≠ a.block) (v : Value) : Blk (w.setCell a v) b vs T := by
  unfold Blk; rw [Below.heap_setCell _ _ _ _ ha]; exact h
theorem Blk.drew (h : Blk w b vs T) : Blk w.drew b vs T := h
theorem Blk.drewN (h : Blk w b vs T) (n : Nat) : Blk (w.drewN n) b vs T := h
theorem Blk.alloc (h : Blk w b vs T) (o : Obj) : Blk (w.alloc o) b vs T := by unfold Blk; rw [Below.heap_alloc _ _ _ h.lt]; exact h
theorem Blk.new (w : World) (vs : Array Value) (T : TypeId) : Blk (w.alloc (.cells vs T)) w.heap.size vs T := by
  show (w.heap.push _)[w.heap.size]? = _; simp
theorem Blk.eq {us : Array Value} (h : Blk w b vs T) (e : vs = us) : Blk w b us T := e ▸ h
end

/-- the world is as it was but for the blocks in 'S', and for new ones -/
structure Fr (S : List Nat) (w w' : World) : Prop where
  os : w'.os = w.os
  tape : w'.tape = w.tape
  output : w'.output = w.output
  size : w.heap.size ≤ w'.heap.size
  block : ∀ k, k < w.heap.size → k ∉ S → w'.heap[k]? = w.heap[k]?
section
variable {S : List Nat} {w w' a : World}
theorem Fr.refl (S : List Nat) (w : World) : Fr S w w := ⟨rfl, rfl, rfl, Nat.le_refl _, fun _ _ _ => rfl⟩
theorem Fr.drew (h : Fr S a w) : Fr S a w.drew := ⟨h.os, h.tape, h.output, h.size, h.block⟩
theorem Fr.drewN (h : Fr S a w) (n : Nat) : Fr S a (w.drewN n) := ⟨h.os, h.tape, h.output, h.size, h.block⟩
theorem Fr.trans {S' : List Nat} {c : World} (h : Fr S a w) (k : Fr S' w c) (hs : ∀ x ∈ S', x ∈ S ∨ a.heap.size ≤ x) : Fr S a c :=
  ⟨k.os.trans h.os, k.tape.trans h.tape, k.output.trans h.output, Nat.le_trans h.size k.size, fun i hi hn =>
    (k.block i (Nat.lt_of_lt_of_le hi h.size) (fun hx => (hs i hx).elim hn (by omega))).trans (h.block i hi hn)⟩
theorem Fr.mono {S' : List Nat} (h : Fr S a w) (hs : ∀ x ∈ S, x ∈ S' ∨ a.heap.size ≤ x) : Fr S' a w :=
  ⟨h.os, h.tape, h.output, h.size, fun i hi hn => h.block i hi (fun hx => (hs i hx).elim hn (by omega))⟩
theorem Fr.alloc (h : Fr S a w) (o : Obj) : Fr S a (w.alloc o) :=
  ⟨h.os, h.tape, h.output, by simp; exact Nat.le_succ_of_le h.size, fun i hi hn => (Below.heap_alloc _ _ _ (Nat.lt_of_lt_of_le hi h.size)).trans (h.block i hi hn)⟩
theorem Fr.setCell (h : Fr S a w) {p : Addr} (hp : p.block ∈ S ∨ a.heap.size ≤ p.block) (v : Value) : Fr S a (w.setCell p v) :=
  ⟨h.os, h.tape, h.output, by simp [World.setCell]; exact h.size, fun i hi hn => by
    rw [Below.heap_setCell _ _ _ _ (by rintro rfl; exact hp.elim hn (by omega))]; exact h.block i hi hn⟩
theorem Fr.blk {b : Nat} {vs : Array Value} {T : TypeId} (h : Fr S w w') (k : Blk w b vs T) (hb : b ∉ S) : Blk w' b vs T := by
  unfold Blk; rw [h.block b k.lt hb]; exact k
theorem Fr.cell (h : Fr S w w') {p : Addr} (hp : p.block < w.heap.size) (hb : p.block ∉ S) : w'.cell? p = w.cell? p := World.cell?_of_block (w := w) (h.block p.block hp hb)
theorem Fr.frozen (h : Fr S w w') {p : Addr} (hp : p.block < w.heap.size) (hb : p.block ∉ S) : w'.frozen? p = w.frozen? p := World.frozen?_of_block (w := w) (h.block p.block hp hb)
theorem Fr.below (h : Fr S w w') {B : Nat} (hB : B ≤ w.heap.size) (hs : ∀ x ∈ S, B ≤ x) : Below B w w' :=
  ⟨h.os, h.tape, h.output, h.size, fun k hk => h.block k (by omega) (fun hx => by have := hs k hx; omega)⟩
theorem Fr.of_below {B : Nat} (h : Below B w w') (hB : w.heap.size ≤ B) : Fr S w w' := ⟨h.os, h.tape, h.output, h.size, fun k hk _ => h.block k (by omega)⟩
end
end Dt
