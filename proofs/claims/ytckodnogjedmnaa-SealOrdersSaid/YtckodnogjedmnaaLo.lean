/- chapter 18: logs. -/
import Derived.Test.YtckodnogjedmnaaLg2
import Derived.Test.YtckodnogjedmnaaCl
import Derived.Test.YtckodnogjedmnaaJt
namespace Go.Proofs.Ytckodnogjedmnaa.Lo
open Go.RowKit Dt Go.Proofs.Ytckodnogjedmnaa.Hd Go.Proofs.Ytckodnogjedmnaa.Cfg Go.Proofs.Ytckodnogjedmnaa.Jt
set_option linter.unusedVariables false
set_option linter.unusedSimpArgs false

abbrev Row := Nat → C4
/-- the value of a row of p cells in block g -/
def rowV (p g : Nat) : Value := .slice (some ⟨g, 0, none⟩) p p
/-- the cells of a log -/
def logCells (c : CfV) (rv : Value) (M : Nat) : Array Value := #[.int .i64 c.pl, .int .i64 c.per, .int .i64 c.gr, .int .i64 c.st, .int .i64 c.fr, .int .i64 c.seed, .float .f64 c.rate, .float .f64 c.depth, .slice c.ra c.rl c.rc, .slice c.ta c.tl c.tc, rv, .map (some M)]
/-- what a config's numbers are bound by -/
structure CfN (c : CfV) : Prop where
  pl1 : 1 ≤ c.pl
  pl8 : c.pl ≤ 8
  per1 : 1 ≤ c.per
  per8 : c.per ≤ 8
  gr : c.gr ≤ 60
  st : c.st ≤ 100
  fr1 : 1 ≤ c.fr
  fr6 : c.fr ≤ 600
theorem CfN.of {w : World} {B : Nat} {c : CfV} {l : List (Int × Int × Int)} {tk : List Nat} (h : CfOk w B c l tk) : CfN c := ⟨h.pl1, h.pl8, h.per1, h.per8, h.gr, h.st, h.fr1, h.fr6⟩
/-- block B holds a log: its rows, what was taken; all that it has lies in blocks that P tells -/
structure HasLog (w : World) (P : Nat → Prop) (B M : Nat) (c : CfV) (rows : List (Nat × Row)) (tk : Int → Option (Nat × Row)) (cnt : Nat) : Prop where
  n : CfN c
  blk : ∃ rv, Blk w B (logCells c rv M) 82 ∧ w.ownsRow 0 26 1 rv rows.length (rows.map fun r => rowV c.pl r.1) ∧ ∀ g, rv.ownBlock = some g → P g
  map : MapW Try.prog 3 w M cnt (fun x => (tk x).map fun r => rowV c.pl r.1)
  rrb : ∀ r ∈ rows, RB w 66 r.1 r.2 c.pl ∧ P r.1
  trb : ∀ x r, tk x = some r → RB w 66 r.1 r.2 c.pl ∧ P r.1
  inj : ∀ x y r r', tk x = some r → tk y = some r' → x ≠ y → r.1 ≠ r'.1
  dis : ∀ x r r', tk x = some r → r' ∈ rows → r.1 ≠ r'.1
  rng : ∀ x r, tk x = some r → (rows.length : Int) ≤ x ∧ x < rows.length + 64 ∧ x < c.fr
  len : rows.length ≤ c.fr
  pB : P B
  pM : P M
section
variable {w w' : World} {P Q : Nat → Prop} {B M cnt : Nat} {c : CfV} {rows : List (Nat × Row)} {tk : Int → Option (Nat × Row)}
theorem HasLog.fr {S : List Nat} (h : HasLog w P B M c rows tk cnt) (hF : Fr S w w') (hS : ∀ x ∈ S, ¬ P x) : HasLog w' P B M c rows tk cnt := by
  obtain ⟨rv, h1, h2, h3⟩ := h.blk
  exact { h with
    blk := ⟨rv, hF.blk h1 (fun hx => hS _ hx h.pB), own_keep h2 hF (fun g hg hx => hS _ hx (h3 g hg)), h3⟩
    map := h.map.fr hF (fun hx => hS _ hx h.pM)
    rrb := fun r hr => ⟨(h.rrb r hr).1.fr hF (fun hx => hS _ hx (h.rrb r hr).2), (h.rrb r hr).2⟩
    trb := fun x r hr => ⟨(h.trb x r hr).1.fr hF (fun hx => hS _ hx (h.trb x r hr).2), (h.trb x r hr).2⟩ }
theorem HasLog.wider (h : HasLog w P B M c rows tk cnt) (hPQ : ∀ x, P x → Q x) : HasLog w Q B M c rows tk cnt := by
  obtain ⟨rv, h1, h2, h3⟩ := h.blk
  exact { h with
    blk := ⟨rv, h1, h2, fun g hg => hPQ _ (h3 g hg)⟩
    rrb := fun r hr => ⟨(h.rrb r hr).1, hPQ _ (h.rrb r hr).2⟩
    trb := fun x r hr => ⟨(h.trb x r hr).1, hPQ _ (h.trb x r hr).2⟩
    pB := hPQ _ h.pB
    pM := hPQ _ h.pM }
/-- its blocks are there -/
theorem HasLog.there (h : HasLog w P B M c rows tk cnt) : HasLog w (fun x => P x ∧ x < w.heap.size) B M c rows tk cnt := by
  obtain ⟨rv, h1, h2, h3⟩ := h.blk
  exact { h with
    blk := ⟨rv, h1, h2, fun g hg => ⟨h3 g hg, own_lt h2 hg⟩⟩
    rrb := fun r hr => ⟨(h.rrb r hr).1, (h.rrb r hr).2, (h.rrb r hr).1.lt⟩
    trb := fun x r hr => ⟨(h.trb x r hr).1, (h.trb x r hr).2, (h.trb x r hr).1.lt⟩
    pB := ⟨h.pB, h1.lt⟩
    pM := ⟨h.pM, h.map.lt⟩ }
theorem HasLog.congr {tk' : Int → Option (Nat × Row)} (h : HasLog w P B M c rows tk cnt) (e : ∀ x, tk' x = tk x) : HasLog w P B M c rows tk' cnt := by
  have : tk' = tk := funext e
  rw [this]; exact h
end
section
variable {w : World} {P : Nat → Prop} {B M cnt : Nat} {c : CfV} {rows : List (Nat × Row)} {tk : Int → Option (Nat × Row)}
theorem has_any (h : HasLog w P B M c rows tk cnt) (f : Int) : Calls Try.prog 42 #[.pointer (some ⟨B, 0, none⟩), .int .i64 f] w fun e w' => e = .returned (.bool (decide (0 ≤ f ∧ f < c.fr))) ∧ w = w' := by
  obtain ⟨rv, h1, h2, h3⟩ := h.blk
  have c4 := Blk.cell (i := 4) h1 rfl
  simp only [logCells, List.getElem_toArray, List.getElem_cons_zero, List.getElem_cons_succ] at c4
  clear h h1 h2 h3
  by_cases q1 : 0 ≤ f
  · by_cases q2 : f < c.fr
    all_goals
      go_enter Try.func42, Try.ntmps42
      go_wp2_with fail
      go_ret
      refine ⟨?_, rfl⟩
      first
        | (rw [decide_eq_true (by omega)]; done)
        | (rw [decide_eq_false (by omega)]; done)
        | (rw [decide_eq_true (by omega)]; rfl)
        | (rw [decide_eq_false (by omega)]; rfl)
  · go_enter Try.func42, Try.ntmps42
    go_wp2_with fail
    go_ret
    refine ⟨?_, rfl⟩
    rw [decide_eq_false (by omega)]; first | done | rfl
theorem len_any (h : HasLog w P B M c rows tk cnt) : Calls Try.prog 24 #[.pointer (some ⟨B, 0, none⟩)] w fun e w' => e = .returned (.int .i64 rows.length) ∧ w = w' := by
  obtain ⟨rv, h1, h2, h3⟩ := h.blk
  obtain ⟨a, cap, rfl, -, -⟩ := own_val h2
  have c10 := Blk.cell (i := 10) h1 rfl
  simp only [logCells, List.getElem_toArray, List.getElem_cons_zero, List.getElem_cons_succ] at c10
  have hlm : rows.length ≤ maxLen := by have h4 := h.len; have h5 := h.n.fr6; unfold maxLen; omega
  clear h h1 h2 h3
  go_enter Try.func24, Try.ntmps24
  go_wp2_with fail
  go_ret
  exact ⟨rfl, rfl⟩
theorem ended_any (h : HasLog w P B M c rows tk cnt) : Calls Try.prog 31 #[.pointer (some ⟨B, 0, none⟩)] w fun e w' => e = .returned (.bool (decide (rows.length = c.fr))) ∧ ∃ k, w' = w.drewN k := by
  obtain ⟨rv, h1, h2, h3⟩ := h.blk
  obtain ⟨a, cap, rfl, -, -⟩ := own_val h2
  have c10 := Blk.cell (i := 10) h1 rfl
  have c4 := Blk.cell (i := 4) h1 rfl
  simp only [logCells, List.getElem_toArray, List.getElem_cons_zero, List.getElem_cons_succ] at c10 c4
  have hlm : rows.length ≤ maxLen := by have h4 := h.len; have h5 := h.n.fr6; unfold maxLen; omega
  have q : ((rows.length : Int) == (c.fr : Int)) = decide (rows.length = c.fr) := by
    rw [Bool.eq_iff_iff]; simp; omega
  have HQ := Lib.hid q
  clear h h1 h2 h3 q
  go_enter Try.func31, Try.ntmps31
  go_wp2_with fail
  go_quiet (fail)
  go_wp2_with fail
  go_ret
  exact ⟨by rw [← HQ.out]; rfl, nq, rfl⟩
theorem deadline_any (h : HasLog w P B M c rows tk cnt) (f : Int) : Calls Try.prog 25 #[.pointer (some ⟨B, 0, none⟩), .int .i64 f] w fun e w' => e = .returned (.int .i64 (if 0 ≤ f ∧ f < c.fr then c.st + f * c.per + c.gr else 0)) ∧ ∃ k, w' = w.drewN k := by
  have hh := has_any h f
  obtain ⟨rv, h1, h2, h3⟩ := h.blk
  have c1 := Blk.cell (i := 1) h1 rfl
  have c2 := Blk.cell (i := 2) h1 rfl
  have c3 := Blk.cell (i := 3) h1 rfl
  simp only [logCells, List.getElem_toArray, List.getElem_cons_zero, List.getElem_cons_succ] at c1 c2 c3
  have hN := h.n
  clear h h1 h2 h3
  by_cases q1 : 0 ≤ f ∧ f < c.fr
  · have q2 : 0 ≤ f * (c.per : Int) ∧ f * (c.per : Int) ≤ 4800 := by
      have h1 := hN.fr6; have h2 := hN.per8
      constructor
      · exact Int.mul_nonneg q1.1 (by omega)
      · have h3 : f * (c.per : Int) ≤ 600 * 8 := Int.mul_le_mul (by omega) (by omega) (by omega) (by omega)
        omega
    obtain ⟨m, hm⟩ : ∃ m, f * (c.per : Int) = m := ⟨_, rfl⟩
    have q3 := hN.gr
    have q4 := hN.st
    have hw1 : IntKind.i64.wrap (f * (c.per : Int)) = m := by rw [IntWalk.i64_in _ (by omega)]; exact hm
    rw [hm] at q2
    have hw2 : IntKind.i64.wrap ((c.st : Int) + m) = (c.st : Int) + m := IntWalk.i64_in _ (by omega)
    have hw3 : IntKind.i64.wrap ((c.st : Int) + m + c.gr) = (c.st : Int) + m + c.gr := IntWalk.i64_in _ (by omega)
    rw [decide_eq_true q1] at hh
    rw [if_pos q1, hm]
    have HH := Lib.hid hh
    clear hh q1 hm hN q2 q3 q4
    go_enter Try.func25, Try.ntmps25
    go_wp2_with fail
    refine HH.out.mono ?_; rintro e w' ⟨rfl, rfl⟩
    go_wp2_with fail
    go_quiet (fail)
    go_wp2_with fail
    go_ret
    exact ⟨rfl, nq, rfl⟩
  · rw [decide_eq_false q1] at hh
    rw [if_neg q1]
    have HH := Lib.hid hh
    clear hh q1
    go_enter Try.func25, Try.ntmps25
    go_wp2_with fail
    refine HH.out.mono ?_; rintro e w' ⟨rfl, rfl⟩
    go_wp2_with fail
    go_ret
    exact ⟨rfl, 0, rfl⟩
end
/-- is an input within its bounds? -/
def inB (b x y : Int) : Bool := decide (0 ≤ b ∧ b ≤ 255 ∧ -64 ≤ x ∧ x ≤ 64 ∧ -64 ≤ y ∧ y ≤ 64)
theorem right_any (b x y : Int) (w : World) : Calls Try.prog 43 #[.agg #[.int .i64 b, .int .i64 x, .int .i64 y]] w fun e w' => e = .returned (.bool (inB b x y)) ∧ Fr [] w w' := by
  obtain ⟨r, hr⟩ : ∃ r, inB b x y = r := ⟨_, rfl⟩
  rw [hr]
  have HR := Lib.hid hr
  clear hr
  have hcs : (b < 0) ∨ (0 ≤ b ∧ 255 < b) ∨ (0 ≤ b ∧ b ≤ 255 ∧ x < -64) ∨ (0 ≤ b ∧ b ≤ 255 ∧ -64 ≤ x ∧ 64 < x) ∨ (0 ≤ b ∧ b ≤ 255 ∧ -64 ≤ x ∧ x ≤ 64 ∧ y < -64) ∨ (0 ≤ b ∧ b ≤ 255 ∧ -64 ≤ x ∧ x ≤ 64 ∧ -64 ≤ y ∧ 64 < y) ∨ (0 ≤ b ∧ b ≤ 255 ∧ -64 ≤ x ∧ x ≤ 64 ∧ -64 ≤ y ∧ y ≤ 64) := by omega
  rcases hcs with h1 | ⟨h1, h2⟩ | ⟨h1, h2, h3⟩ | ⟨h1, h2, h3, h4⟩ | ⟨h1, h2, h3, h4, h5⟩ | ⟨h1, h2, h3, h4, h5, h6⟩ | ⟨h1, h2, h3, h4, h5, h6⟩
  all_goals
    go_enter Try.func43, Try.ntmps43
    go_wp2_with fail
    go_ret
    refine ⟨?_, (Fr.refl [] w).alloc _⟩
    rw [← HR.out]
    first
      | (have hd : inB b x y = false := decide_eq_false (by omega)
         rw [hd]; first | done | rfl | (rw [show decide (y ≤ 64) = false from decide_eq_false (by omega)]; first | done | rfl))
      | (have hd : inB b x y = true := decide_eq_true (by omega)
         rw [hd]; first | done | rfl)
end Go.Proofs.Ytckodnogjedmnaa.Lo
