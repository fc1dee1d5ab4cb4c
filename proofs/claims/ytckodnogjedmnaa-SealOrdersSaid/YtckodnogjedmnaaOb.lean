/- chapter 18: Offer, Tick with the rows told as a function; a caller's frame. -/
import Derived.Test.YtckodnogjedmnaaRt
namespace Go.Proofs.Ytckodnogjedmnaa.Lo
open Go.RowKit Dt Go.Proofs.Ytckodnogjedmnaa.Hd Go.Proofs.Ytckodnogjedmnaa.Cfg Go.Proofs.Ytckodnogjedmnaa.Jt
set_option linter.unusedVariables false
set_option linter.unusedSimpArgs false

/-- a log whose blocks P tells; L rows are sealed, at x stands R x -/
structure LogS (w : World) (P : Nat → Prop) (B M : Nat) (c : CfV) (rows : List (Nat × Row)) (n : Nat) (R : Int → Row) : Prop where
  ex : ∃ tk cnt, HasLog w P B M c rows tk cnt ∧ cnt ≤ n ∧ rowOf tk = R
section
variable {w w' : World} {P Q : Nat → Prop} {B M n : Nat} {c : CfV} {rows : List (Nat × Row)} {R : Int → Row}
theorem LogS.fr {S : List Nat} (h : LogS w P B M c rows n R) (hF : Fr S w w') (hS : ∀ x ∈ S, ¬ P x) : LogS w' P B M c rows n R := by
  obtain ⟨tk, cnt, h1, h2⟩ := h.ex
  exact ⟨tk, cnt, h1.fr hF hS, h2⟩
theorem LogS.wider (h : LogS w P B M c rows n R) (hPQ : ∀ x, P x → Q x) : LogS w Q B M c rows n R := by
  obtain ⟨tk, cnt, h1, h2⟩ := h.ex
  exact ⟨tk, cnt, h1.wider hPQ, h2⟩
theorem LogS.there (h : LogS w P B M c rows n R) : LogS w (fun x => P x ∧ x < w.heap.size) B M c rows n R := by
  obtain ⟨tk, cnt, h1, h2⟩ := h.ex
  exact ⟨tk, cnt, h1.there, h2⟩
theorem LogS.far (h : LogS w P B M c rows n R) {x : Int} (hx : x < rows.length ∨ (rows.length : Int) + 64 ≤ x ∨ (c.fr : Int) ≤ x) : R x = fun _ => c0 := by
  obtain ⟨tk, cnt, h1, h2, rfl⟩ := h.ex
  exact h1.rowOf_far hx
theorem LogS.len (h : LogS w P B M c rows n R) : rows.length ≤ c.fr := by obtain ⟨tk, cnt, h1, h2, rfl⟩ := h.ex; exact h1.len
theorem LogS.cf (h : LogS w P B M c rows n R) : CfN c := by obtain ⟨tk, cnt, h1, h2, rfl⟩ := h.ex; exact h1.n
/-- Offer -/
theorem off_s (h : LogS w P B M c rows n R) (hn : n ≤ 1000000) (hP : ∀ x, w.heap.size ≤ x → P x) (s f b x y : Int) : Calls Try.prog 27 #[.pointer (some ⟨B, 0, none⟩), .int .i64 s, .int .i64 f, .agg #[.int .i64 b, .int .i64 x, .int .i64 y]] w fun e w' => e = .returned (.int .i64 (offerK c.pl c.fr rows.length R s f b x y)) ∧ LogS w' P B M c rows (n + 1) (offerR c.pl c.fr rows.length R s f b x y) ∧ Wr P w w' := by
  obtain ⟨tk, cnt, h1, h2, rfl⟩ := h.ex
  refine (offer_any h1 (by omega) s f b x y).mono ?_
  rintro e w' ⟨tk', cnt', rfl, hl, hc, hR⟩
  exact ⟨rfl, ⟨tk', cnt', hl.log.wider (fun x hx => hx.elim id (hP x)), by omega, hR⟩, hl.wr⟩
/-- the rows behind a tick -/
def tickR (R : Int → Row) (L : Nat) : Int → Row := fun x => if x < L then fun _ => c0 else R x
theorem tick_s (h : LogS w P B M c rows n R) (hP : ∀ x, w.heap.size ≤ x → P x) (t : Int) : Calls Try.prog 23 #[.pointer (some ⟨B, 0, none⟩), .int .i64 t] w fun e w' => ∃ rows', e = .returned (.int .i64 rows'.length) ∧ LogS w' P B M c (rows ++ rows') n (tickR R (rows.length + rows'.length)) ∧ Wr P w w' ∧ (∀ i r, rows'[i]? = some r → r.2 = R (rows.length + i : Nat)) ∧ (∀ i : Nat, i < rows'.length → dl c (rows.length + i : Nat) ≤ t) ∧ (rows.length + rows'.length = c.fr ∨ t < dl c (rows.length + rows'.length : Nat)) := by
  obtain ⟨tk, cnt, h1, h2, rfl⟩ := h.ex
  refine (tick_any h1 t).mono ?_
  rintro e w' ⟨rows', tk', cnt', rfl, hI, hend⟩
  refine ⟨rows', rfl, ⟨tk', cnt', hI.log.wider (fun x hx => hx.elim id (hP x)), by have := hI.le; omega, ?_⟩, hI.wr, hI.got, hI.due, hend⟩
  funext x
  unfold tickR
  by_cases e : x < (rows.length + rows'.length : Nat)
  · rw [if_pos e]; exact hI.log.rowOf_far (.inl (by rw [List.length_append]; exact e))
  · rw [if_neg e]; unfold rowOf; rw [hI.rest x (by omega)]
theorem len_s (h : LogS w P B M c rows n R) : Calls Try.prog 24 #[.pointer (some ⟨B, 0, none⟩)] w fun e w' => e = .returned (.int .i64 rows.length) ∧ w = w' := by
  obtain ⟨tk, cnt, h1, h2, rfl⟩ := h.ex
  exact len_any h1
theorem ended_s (h : LogS w P B M c rows n R) : Calls Try.prog 31 #[.pointer (some ⟨B, 0, none⟩)] w fun e w' => e = .returned (.bool (decide (rows.length = c.fr))) ∧ ∃ k, w' = w.drewN k := by
  obtain ⟨tk, cnt, h1, h2, rfl⟩ := h.ex
  exact ended_any h1
theorem deadline_s (h : LogS w P B M c rows n R) (f : Int) : Calls Try.prog 25 #[.pointer (some ⟨B, 0, none⟩), .int .i64 f] w fun e w' => e = .returned (.int .i64 (if 0 ≤ f ∧ f < c.fr then dl c f else 0)) ∧ ∃ k, w' = w.drewN k := by
  obtain ⟨tk, cnt, h1, h2, rfl⟩ := h.ex
  exact deadline_any h1 f
theorem rows_s (h : LogS w P B M c rows n R) (fr most : Int) :
    Calls Try.prog 28 #[.pointer (some ⟨B, 0, none⟩), .int .i64 fr, .int .i64 most] w fun e w' => ∃ v, e = .returned v ∧ RowsT w' w.heap.size w'.heap.size v (nRows fr most rows.length) c.pl (fun i => (rows.getD (fr.toNat + i) (0, fun _ => c0)).2) ∧ Fr [] w w' := by
  obtain ⟨tk, cnt, h1, h2, rfl⟩ := h.ex
  refine (rows_any h1 fr most).mono ?_
  rintro e w' ⟨v, rfl, hV, hF⟩
  exact ⟨v, rfl, hV.t, hF⟩
theorem waiting_s (h : LogS w P B M c rows n R) : Calls Try.prog 30 #[.pointer (some ⟨B, 0, none⟩)] w fun e w' => e = .returned (.int .i64 (waitR R rows.length c.pl)) ∧ Fr [] w w' := by
  obtain ⟨tk, cnt, h1, h2, rfl⟩ := h.ex
  rw [← waitN_of]
  exact waiting_any h1
theorem lnew_s {b : Nat} {l : List (Int × Int × Int)} {tk : List Nat} (h : CfOk w b c l tk) :
    Calls Try.prog 21 #[c.v] w fun e w' => ∃ B M, e = .returned (.tuple #[.pointer (some ⟨B, 0, none⟩), .int .i64 0]) ∧ LogS w' (fun x => w.heap.size ≤ x) B M c [] 0 (fun _ _ => c0) ∧ Fr [] w w' := by
  refine (lnew_any h).mono ?_
  rintro e w' ⟨B, M, rfl, hl, hF⟩
  exact ⟨B, M, rfl, ⟨_, _, hl, Nat.le_refl _, rfl⟩, hF⟩
end
theorem offerR_same {pl fr L : Nat} {R : Int → Row} {s f b x y : Int} (h : offerK pl fr L R s f b x y ≠ 1) : offerR pl fr L R s f b x y = R := if_neg h
theorem offerR_put {pl fr L : Nat} {R : Int → Row} {s f b x y : Int} (h : offerK pl fr L R s f b x y = 1) : offerR pl fr L R s f b x y = fun z => if z = f then put1 (R f) s.toNat (true, b, x, y) else R z := if_pos h
end Go.Proofs.Ytckodnogjedmnaa.Lo
