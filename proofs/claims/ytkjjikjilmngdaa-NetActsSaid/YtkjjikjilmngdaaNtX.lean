/- chapter 24: the reference's insertion is ours: plain law. -/
import Derived.Test.YtkjjikjilmngdaaNtS
namespace Go.Proofs.Ytkjjikjilmngdaa.Nt
open Go.RowKit Dt Go.Proofs.Ytkjjikjilmngdaa.Hd
set_option linter.unusedVariables false
set_option linter.unusedSimpArgs false
/-- what is in order by due -/
def SrtG (l : List Fg) : Prop := l.Pairwise fun x y => x.due ≤ y.due
theorem SrtG.nil : SrtG [] := List.Pairwise.nil
theorem SrtG.at {l : List Fg} (h : SrtG l) {s t : Nat} {x y : Fg} (hs : s ≤ t) (hx : l[s]? = some x) (hy : l[t]? = some y) : x.due ≤ y.due := by
  obtain ⟨h1, e1⟩ := List.getElem?_eq_some_iff.1 hx
  obtain ⟨h2, e2⟩ := List.getElem?_eq_some_iff.1 hy
  rcases Nat.lt_or_ge s t with c | c
  · have := List.pairwise_iff_getElem.1 h s t h1 h2 c
    rw [e1, e2] at this; exact this
  · obtain rfl : s = t := by omega
    rw [hx] at hy; cases hy; exact Nat.le_refl _
/-- put in where the scan from the end stops -/
theorem SrtG.ins {o : List Fg} (h : SrtG o) {x : Fg} {j : Nat} (hj : j ≤ o.length) (h1 : ∀ t, j ≤ t → ∀ y, o[t]? = some y → x.due < y.due) (h2 : ∀ k y, j = k + 1 → o[k]? = some y → y.due ≤ x.due) : insG o x = o.take j ++ x :: o.drop j := by
  refine insG_at (fun t ht y hy => ?_) h1
  obtain ⟨k, rfl⟩ : ∃ k, j = k + 1 := ⟨j - 1, by omega⟩
  have hk := List.getElem?_eq_getElem (show k < o.length by omega)
  exact Nat.le_trans (h.at (by omega) hy hk) (h2 k _ rfl hk)
theorem SrtG.insG {o : List Fg} (h : SrtG o) (x : Fg) : SrtG (insG o x) := by
  unfold Dt.insG SrtG
  rw [List.pairwise_append, List.pairwise_cons]
  refine ⟨h.filter _, ⟨fun y hy => ?_, h.filter _⟩, fun y hy z hz => ?_⟩
  · have := (List.mem_filter.1 hy).2; simp at this; omega
  · have h1 := (List.mem_filter.1 hy).2; simp at h1
    rcases List.mem_cons.1 hz with rfl | hz
    · exact h1
    · have h2 := (List.mem_filter.1 hz).2; simp at h2; omega
theorem SrtG.fold : ∀ (l o : List Fg), SrtG o → SrtG (l.foldl Dt.insG o)
  | [], o, h => h
  | x :: l, o, h => SrtG.fold l _ (h.insG x)
theorem SrtG.sortG (l : List Fg) : SrtG (sortG l) := SrtG.fold l [] SrtG.nil
/-- the numbers of what was put in, beside it -/
structure InsP (V : List RgV) (l : List Fg) (no : Int) : Prop where
  srt : SrtG l
  nos : ∀ x ∈ V, x.no < no
/-- one more of those that are due -/
theorem due_snoc {l : List Fg} {i : Nat} {x : Fg} (h : l[i]? = some x) (ct : Nat) :
    ((l.take (i + 1)).filter fun x => decide (x.due ≤ ct)) = ((l.take i).filter fun x => decide (x.due ≤ ct)) ++ (if x.due ≤ ct then [x] else []) ∧
    ((l.take (i + 1)).filter fun x => !decide (x.due ≤ ct)) = ((l.take i).filter fun x => !decide (x.due ≤ ct)) ++ (if x.due ≤ ct then [] else [x]) := by
  rw [take_snoc h, List.filter_append, List.filter_append]
  by_cases c : x.due ≤ ct <;> simp [c]
theorem rclock_any (t : Int) (w : World) : Calls Try.prog 65 #[.int .i64 t] w fun e w' => e = .returned (.int .i64 (clpI t)) ∧ w = w' := by
  obtain ⟨k, hk⟩ : ∃ k, clpI t = k := ⟨_, rfl⟩
  rw [hk]
  have HT := Lib.hid (show (k : Int) = max 0 (min t 1000000) by rw [← hk]; unfold clpI; omega)
  clear hk
  rcases Int.lt_trichotomy t 0 with h | h | h
  · have h2 : t < 1000000 := by omega
    go_enter Try.func65, Try.ntmps65
    go_wp2_with fail
    have := HT.out
    go_ret; exact ⟨Hd.ret_i (by omega), rfl⟩
  · subst h
    go_enter Try.func65, Try.ntmps65
    go_wp2_with fail
    have := HT.out
    go_ret; exact ⟨Hd.ret_i (by omega), rfl⟩
  · rcases Int.lt_trichotomy 1000000 t with h2 | h2 | h2
    · go_enter Try.func65, Try.ntmps65
      go_wp2_with fail
      have := HT.out
      go_ret; exact ⟨Hd.ret_i (by omega), rfl⟩
    · subst h2
      go_enter Try.func65, Try.ntmps65
      go_wp2_with fail
      have := HT.out
      go_ret; exact ⟨Hd.ret_i (by omega), rfl⟩
    · go_enter Try.func65, Try.ntmps65
      go_wp2_with fail
      have := HT.out
      go_ret; exact ⟨Hd.ret_i (by omega), rfl⟩
end Go.Proofs.Ytkjjikjilmngdaa.Nt
