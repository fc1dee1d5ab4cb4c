/- Slices of one-cell elements, by their list. -/
import Derived.Test.YtkjjikjilmngdaaApp
import Derived.Test.YtkjjikjilmngdaaSl
import Derived.Laws.BytesString
import Derived.Lib.SliceRun
namespace Dt
open Go Go.RowKit
set_option linter.unusedVariables false

/-- slice value 'sv' reads as the list 'xs' (elements of one cell) -/
structure LS (w : World) (sv : Value) (xs : List Value) : Prop where
  ex : ∃ a cap, sv = .slice a xs.length cap ∧ xs.length ≤ cap ∧ cap ≤ maxLen ∧ (a = none → cap = 0) ∧ (0 < xs.length → ∃ b off, a = some ⟨b, off, none⟩ ∧ b < w.heap.size ∧ ∀ i x, xs[i]? = some x → w.cell? ⟨b, off + i, none⟩ = some x)

section
variable {w w' : World} {sv : Value} {xs : List Value} {base : Nat} {e : TypeId}
theorem LS.src (h : LS w sv xs) (h1 : ∀ u ∈ xs, u.oneCell' = true) : Src w sv 1 xs.length xs := by
  obtain ⟨a, cap, rfl, hl, hm, hn, hc⟩ := h.ex
  refine ⟨⟨a, cap, rfl, fun e => ?_, fun ad had j u hu => ?_⟩, by simp, h1⟩
  · have := hn e; omega
  · have hpos : 0 < xs.length := by have := (List.getElem?_eq_some_iff.1 hu).1; omega
    obtain ⟨b, off, rfl, _, hc⟩ := hc hpos
    cases had
    rw [Dt.Addr.add_mid']
    exact hc j u hu
theorem LS.of_own (h : w.ownsRow base e 1 sv xs.length xs) : LS w sv xs := by
  rcases h.2 with ⟨rfl, h0⟩ | ⟨g, cap, cur, rfl, hb, hg, h1, h2, _⟩
  · refine ⟨none, 0, by rw [h0], by omega, by decide, fun _ => rfl, fun h => by omega⟩
  · refine ⟨_, cap, rfl, h1, h2, (fun h => by cases h), fun hp => ⟨g, 0, rfl, lt_of_block hg, fun i x hx => ?_⟩⟩
    have hi := (List.getElem?_eq_some_iff.1 hx).1
    rw [Nat.zero_add, h.cellAt i (by omega)]; exact hx
theorem LS.of_own' {n : Nat} (h : w.ownsRow base e 1 sv n xs) : LS w sv xs := by
  have hn : xs.length = n := by have := h.1; omega
  subst hn; exact LS.of_own h
theorem LS.fr {S : List Nat} (h : LS w sv xs) (hf : Fr S w w') (hS : ∀ b, sv.ownBlock = some b → b ∉ S) : LS w' sv xs := by
  obtain ⟨a, cap, rfl, hl, hm, hn, hc⟩ := h.ex
  refine ⟨a, cap, rfl, hl, hm, hn, fun hp => ?_⟩
  obtain ⟨b, off, rfl, hb, hcc⟩ := hc hp
  exact ⟨b, off, rfl, Nat.lt_of_lt_of_le hb hf.size, fun i x hx => (hf.cell (p := ⟨b, off + i, none⟩) hb (hS b rfl)).trans (hcc i x hx)⟩
theorem LS.fr0 (h : LS w sv xs) (hf : Fr [] w w') : LS w' sv xs := h.fr hf (fun _ _ => by simp)
theorem LS.nil (w : World) : LS w (.slice none 0 0) [] := ⟨none, 0, rfl, Nat.le_refl _, by decide, fun _ => rfl, fun h => by simp at h⟩
theorem LS.lt (h : LS w sv xs) {b : Nat} (hb : sv.ownBlock = some b) (hp : 0 < xs.length) : b < w.heap.size := by
  obtain ⟨a, cap, rfl, hl, hm, hn, hc⟩ := h.ex
  obtain ⟨b', off, rfl, hb', hcc⟩ := hc hp
  simp [Value.ownBlock] at hb; omega
theorem LS.of_blk {b : Nat} {vs : Array Value} {T : TypeId} (h : Blk w b vs T) {cap : Nat} (hc : vs.size ≤ cap) (hm : cap ≤ maxLen) : LS w (.slice (some ⟨b, 0, none⟩) vs.size cap) vs.toList :=
  ⟨_, cap, by simp, by simpa using hc, hm, (fun h => by cases h), fun _ => ⟨b, 0, rfl, h.lt, fun i x hx => by rw [Nat.zero_add]; exact h.cell (by simpa using hx)⟩⟩
theorem LS.of_heap {b : Nat} {vs : Array Value} {T : TypeId} {fr : Nat × Nat} (h : w.heap[b]? = some (.cells vs T fr)) {cap : Nat} (hc : vs.size ≤ cap) (hm : cap ≤ maxLen) : LS w (.slice (some ⟨b, 0, none⟩) vs.size cap) vs.toList :=
  ⟨_, cap, by simp, by simpa using hc, hm, (fun h => by cases h), fun _ => ⟨b, 0, rfl, lt_of_block h, fun i x hx => by
    rw [Nat.zero_add]; simp only [World.cell?, h]; simpa using hx⟩⟩
/-- a piece: the first n elements -/
theorem LS.take {a : Option Addr} {len cap : Nat} (h : LS w (.slice a len cap) xs) {n : Nat} (hn : n ≤ xs.length) : LS w (.slice a n cap) (xs.take n) := by
  obtain ⟨a', cap', he, hl, hm, hz, hc⟩ := h.ex
  cases he
  have e1 : (xs.take n).length = n := by simp; omega
  refine ⟨a, cap, by rw [e1], by omega, hm, hz, fun hp => ?_⟩
  obtain ⟨b, off, e, hb, hcc⟩ := hc (by omega)
  refine ⟨b, off, e, hb, fun i x hx => hcc i x ?_⟩
  rw [List.getElem?_take] at hx
  split at hx
  · exact hx
  · cases hx
theorem LS.len {a : Option Addr} {len cap : Nat} (h : LS w (.slice a len cap) xs) : len = xs.length := by
  obtain ⟨a', cap', he, _⟩ := h.ex; cases he; rfl

/-! ### bytes -/
/-- bytes as cells -/
def u8s (bs : List Nat) : List Value := bs.map fun (b : Nat) => .int .u8 b
theorem u8s_len (bs : List Nat) : (u8s bs).length = bs.length := by simp [u8s]
theorem u8s_one (bs : List Nat) : ∀ u ∈ u8s bs, u.oneCell' = true := by
  intro u hu; simp only [u8s, List.mem_map] at hu; obtain ⟨k, _, rfl⟩ := hu; rfl
theorem u8s_get {bs : List Nat} {i : Nat} (h : i < bs.length) : (u8s bs)[i]? = some (.int .u8 (bs[i] : Nat)) := by simp [u8s, h]
theorem u8s_append (a b : List Nat) : u8s a ++ u8s b = u8s (a ++ b) := by simp [u8s]
theorem u8s_take (a : List Nat) (n : Nat) : (u8s a).take n = u8s (a.take n) := by simp [u8s]
def strOf (bs : List Nat) : ByteArray := ⟨(bs.map UInt8.ofNat).toArray⟩
theorem strOf_inj {a b : List Nat} (ha : ∀ x ∈ a, x < 256) (hb : ∀ x ∈ b, x < 256) (h : strOf a = strOf b) : a = b := by
  have h1 : a.map UInt8.ofNat = b.map UInt8.ofNat := by simpa [strOf] using h
  have key : ∀ l : List Nat, (∀ x ∈ l, x < 256) → (l.map UInt8.ofNat).map UInt8.toNat = l := by
    intro l hl
    rw [List.map_map]
    conv => rhs; rw [← List.map_id l]
    exact List.map_congr_left fun x hx => by simpa using Nat.mod_eq_of_lt (hl x hx)
  rw [← key a ha, ← key b hb, h1]
theorem strOf_eq {a b : List Nat} (ha : ∀ x ∈ a, x < 256) (hb : ∀ x ∈ b, x < 256) : (strOf a = strOf b) ↔ a = b := ⟨strOf_inj ha hb, fun h => by rw [h]⟩

theorem foldl_push (l : List Nat) : ∀ s : ByteArray, (l.map fun (b : Nat) => (b : Int)).foldl (fun r n => r.push (UInt8.ofNat n.toNat)) s = ⟨s.data ++ (l.map UInt8.ofNat).toArray⟩ := by
  induction l with
  | nil => intro s; simp
  | cons x l ih =>
    intro s
    simp only [List.map_cons, List.foldl_cons]
    rw [ih]
    have : (s.push (UInt8.ofNat (x : Int).toNat)).data = s.data.push (UInt8.ofNat x) := rfl
    rw [this]; simp
/-- 'string(b)' -/
theorem run_str {P : Program} {src dst e : TypeId} {bs : List Nat} (h : LS w sv (u8s bs)) (hs : P.underlying src = some (.slice e)) (he : P.underlying e = some (.int .u8)) (hd : P.underlying dst = some .string) :
    (convert src dst sv).run P w = .ok (.string (strOf bs)) w := by
  obtain ⟨a, cap, rfl, hl, hm, hz, hc⟩ := h.ex
  rw [run_convert_bytes_string w src dst e a _ cap hs he hd]
  by_cases hp : 0 < (u8s bs).length
  · obtain ⟨b, off, rfl, hb, hcc⟩ := hc hp
    have hload : (loadCells ⟨b, off, none⟩ (u8s bs).length).run P w = .ok ((bs.map fun (b : Nat) => (b : Int)).map (Value.int .u8)).toArray w := by
      have e1 : (bs.map fun (b : Nat) => (b : Int)).map (Value.int .u8) = u8s bs := by simp [u8s]
      rw [e1]
      exact run_loadCells_list (P := P) w ⟨b, off, none⟩ (u8s bs) (fun j v hv => by rw [Dt.Addr.add_mid']; exact hcc j v hv)
    rw [run_bytesToString w ⟨b, off, none⟩ (u8s bs).length cap _ hload, foldl_push]
    simp [strOf, ByteArray.empty, ByteArray.emptyWithCapacity]
    rfl
  · have h0 : bs = [] := List.eq_nil_of_length_eq_zero (by rw [u8s_len] at hp; omega)
    subst h0
    cases a with
    | none => simp [Conv.bytesToString, strOf]; rfl
    | some ad =>
      have hload : (loadCells ad 0).run P w = .ok (([] : List Int).map (Value.int .u8)).toArray w := run_loadCells_list (P := P) w ad [] (fun j v hv => by simp at hv)
      have := run_bytesToString (P := P) w ad 0 cap [] hload
      exact this
end
end Dt
