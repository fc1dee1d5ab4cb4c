/- chapter 18: Offer, whatever comes; what waits, told by the rows. -/
import Derived.Test.YtckodnogjedmnaaLv
import Derived.Test.YtckodnogjedmnaaLx
import Derived.Test.YtckodnogjedmnaaWt
namespace Go.Proofs.Ytckodnogjedmnaa.Lo
open Go.RowKit Dt Go.Proofs.Ytckodnogjedmnaa.Hd Go.Proofs.Ytckodnogjedmnaa.Cfg Go.Proofs.Ytckodnogjedmnaa.Jt Go.Proofs.Ytckodnogjedmnaa.FlW Ieee
set_option linter.unusedVariables false
set_option linter.unusedSimpArgs false

/-- what becomes of an input -/
def offerK (pl fr L : Nat) (R : Int → Row) (s f b x y : Int) : Int :=
  if ¬ (0 ≤ s ∧ s < pl ∧ 0 ≤ f ∧ f < fr ∧ inB b x y = true) then 5 else if f < L then 2 else if (L : Int) + 64 ≤ f then 3 else if (R f s.toNat).1 = true then 4 else 1
/-- the rows behind it -/
def offerR (pl fr L : Nat) (R : Int → Row) (s f b x y : Int) : Int → Row :=
  if offerK pl fr L R s f b x y = 1 then fun z => if z = f then put1 (R f) s.toNat (true, b, x, y) else R z else R
section
variable {w : World} {P : Nat → Prop} {B M cnt : Nat} {c : CfV} {rows : List (Nat × Row)} {tk : Int → Option (Nat × Row)}
/-- behind a call that the log bears: the log, its frame -/
structure LogP (w w' : World) (P : Nat → Prop) (B M : Nat) (c : CfV) (rows : List (Nat × Row)) (tk' : Int → Option (Nat × Row)) (cnt' : Nat) : Prop where
  log : HasLog w' (fun z => P z ∨ w.heap.size ≤ z) B M c rows tk' cnt'
  wr : Wr P w w'
theorem rowOf_off {tk tk' : Int → Option (Nat × Row)} {f : Int} {s : Nat} {v : C4} (h1 : ∀ z, z ≠ f → tk' z = tk z) (h2 : ∃ g, tk' f = some (g, put1 (rowOf tk f) s v)) : rowOf tk' = fun z => if z = f then put1 (rowOf tk f) s v else rowOf tk z := by
  obtain ⟨g, h2⟩ := h2
  funext z
  by_cases e : z = f
  · subst e; rw [if_pos rfl]; conv => lhs; unfold rowOf; rw [h2]
  · rw [if_neg e]; unfold rowOf; rw [h1 z e]
theorem offer_any (h : HasLog w P B M c rows tk cnt) (hc : cnt ≤ 1000000) (s f b x y : Int) : Calls Try.prog 27 #[.pointer (some ⟨B, 0, none⟩), .int .i64 s, .int .i64 f, .agg #[.int .i64 b, .int .i64 x, .int .i64 y]] w fun e w' => ∃ tk' cnt', e = .returned (.int .i64 (offerK c.pl c.fr rows.length (rowOf tk) s f b x y)) ∧ LogP w w' P B M c rows tk' cnt' ∧ cnt' ≤ cnt + 1 ∧ rowOf tk' = offerR c.pl c.fr rows.length (rowOf tk) s f b x y := by
  have same : ∀ {k : Int} {w' : World} {e : Ending}, offerK c.pl c.fr rows.length (rowOf tk) s f b x y = k → k ≠ 1 → e = .returned (.int .i64 k) ∧ Fr [] w w' → ∃ tk' cnt', e = .returned (.int .i64 (offerK c.pl c.fr rows.length (rowOf tk) s f b x y)) ∧ LogP w w' P B M c rows tk' cnt' ∧ cnt' ≤ cnt + 1 ∧ rowOf tk' = offerR c.pl c.fr rows.length (rowOf tk) s f b x y := by
    intro k w' e h1 h2 ⟨h3, h4⟩
    refine ⟨tk, cnt, by rw [h1]; exact h3, ⟨(h.fr h4 (by simp)).wider (fun x hx => .inl hx), ⟨[], by simp, h4⟩⟩, by omega, ?_⟩
    unfold offerR
    rw [h1, if_neg h2]
  by_cases h1 : 0 ≤ s ∧ s < c.pl ∧ 0 ≤ f ∧ f < c.fr ∧ inB b x y = true
  · by_cases h2 : f < rows.length
    · exact (offer_late h h1 h2).mono fun e w' h5 => same (by unfold offerK; rw [if_neg (by simpa using h1), if_pos h2]) (by decide) h5
    · by_cases h3 : (rows.length : Int) + 64 ≤ f
      · exact (offer_far h h1 h3).mono fun e w' h5 => same (by unfold offerK; rw [if_neg (by simpa using h1), if_neg h2, if_pos h3]) (by decide) h5
      · cases hg : tk f with
        | none =>
          have hk : offerK c.pl c.fr rows.length (rowOf tk) s f b x y = 1 := by
            unfold offerK; rw [if_neg (by simpa using h1), if_neg h2, if_neg h3]; unfold rowOf; rw [hg]; rfl
          refine (offer_new h h1 hc (by omega) (by omega) hg).mono ?_
          rintro e w' ⟨tk', cnt', rfl, hl, hc', h6, h7, hW⟩
          refine ⟨tk', cnt', by rw [hk], ⟨hl, hW⟩, hc', ?_⟩
          unfold offerR; rw [if_pos hk]
          exact rowOf_off h6 h7
        | some r =>
          have hro : rowOf tk f = r.2 := by unfold rowOf; rw [hg]
          cases hre : (r.2 s.toNat).1 with
          | true =>
            exact (offer_again h h1 (by omega) (by omega) hg hre).mono fun e w' h5 => same (by unfold offerK; rw [if_neg (by simpa using h1), if_neg h2, if_neg h3, hro, if_pos hre]) (by decide) h5
          | false =>
            have hk : offerK c.pl c.fr rows.length (rowOf tk) s f b x y = 1 := by
              unfold offerK; rw [if_neg (by simpa using h1), if_neg h2, if_neg h3, hro, hre]; rfl
            refine (offer_old h h1 (by omega) (by omega) hg hre).mono ?_
            rintro e w' ⟨tk', cnt', rfl, hl, hc', h6, h7, hW⟩
            refine ⟨tk', cnt', by rw [hk], ⟨hl, hW⟩, hc', ?_⟩
            unfold offerR; rw [if_pos hk]
            exact rowOf_off h6 h7
  · exact (offer_wrong h h1).mono fun e w' h5 => same (by unfold offerK; rw [if_pos h1]) (by decide) h5
end
theorem realsN_c0 (p : Nat) : realsN (fun _ => c0) p = 0 := by
  unfold realsN; rw [List.countP_eq_zero]; simp [c0]
theorem rowN_of (tk : Int → Option (Nat × Row)) (p : Nat) (x : Int) : rowN tk p x = realsN (rowOf tk x) p := by
  unfold rowN rowOf
  cases tk x with
  | none => exact (realsN_c0 p).symm
  | some r => rfl
/-- what waits, told by the rows -/
def waitR (R : Int → Row) (L p : Nat) : Nat := ((List.range 64).map fun (i : Nat) => realsN (R ((L : Int) + (i : Int))) p).sum
theorem waitN_of (tk : Int → Option (Nat × Row)) (L p : Nat) : waitN tk L p = waitR (rowOf tk) L p := by
  unfold waitN waitL waitR
  congr 1
  exact List.map_congr_left fun i _ => by simp [rowN_of]
/-- a row of none that was taken -/
theorem HasLog.rowOf_far {w : World} {P : Nat → Prop} {B M cnt : Nat} {c : CfV} {rows : List (Nat × Row)} {tk : Int → Option (Nat × Row)} (h : HasLog w P B M c rows tk cnt) {x : Int} (hx : x < rows.length ∨ (rows.length : Int) + 64 ≤ x ∨ (c.fr : Int) ≤ x) : rowOf tk x = fun _ => c0 := by
  unfold rowOf
  cases e : tk x with
  | none => rfl
  | some r => have := h.rng x r e; omega
end Go.Proofs.Ytckodnogjedmnaa.Lo
