/- chapter 18: the reference's log. -/
import Derived.Test.YtckodnogjedmnaaOb
import Derived.Laws.CopyRow
namespace Dt
open Go Go.RowKit
set_option linter.unusedVariables false
set_option linter.unusedSimpArgs false
theorem run_copy_rows {P : Program} (w : World) (dT sT ty elem : TypeId) (g dLen dCap sz : Nat) (a : Addr) (sCap : Nat) (cur : Array Value) (t : TypeId) (cs : List Value)
    (hu : P.underlying dT = some (.slice elem)) (hs : (P.info? elem).map (·.size) = some sz)
    (hg : w.heap[g]? = some (.cells cur t (0, 0))) (hn : cs.length = dLen * sz) (hc : cur.size = dLen * sz)
    (hsrc : ∀ j v, cs[j]? = some v → w.cell? (a.add j) = some v) (h1 : ∀ v ∈ cs, v.oneCell' = true) :
    (Builtin.copy_ #[dT, sT] ty #[.slice (some ⟨g, 0, none⟩) dLen dCap, .slice (some a) dLen sCap]).run P w = .ok (goInt dLen) (w.setRow g cs.toArray) := by
  have hl := run_loadCells_list (P := P) w a cs hsrc
  have hst := run_storeCells_at P g 0 t cs 0 cur w hg (by omega) h1
  have e : cur.toList.take (0 + 0) ++ cs ++ cur.toList.drop (0 + 0 + cs.length) = cs := by
    rw [List.drop_eq_nil_of_le (by simp; omega)]; simp
  rw [e] at hst
  cases hq : P.info? elem with
  | none => simp [hq] at hs
  | some i =>
    have hi : i.size = sz := by simpa [hq] using hs
    rw [hn] at hl
    simp [Builtin.copy_, run_underlying hu, Builtin.lenOf, Builtin.firstCells, Go.sizeOf, typeInfo, hq, hi, hl, hst, Nat.mul_comm]
theorem fr_setRow {w : World} {g : Nat} {cs : Array Value} : Fr [g] w (w.setRow g cs) :=
  ⟨rfl, rfl, rfl, by unfold World.setRow; simp, fun k hk hn => by
    unfold World.setRow
    have : k ≠ g := by simpa using hn
    simp [Array.getElem?_modify, Ne.symm this]⟩
end Dt
namespace Go.Proofs.Ytckodnogjedmnaa.Lo
open Go.RowKit Dt Go.Proofs.Ytckodnogjedmnaa.Hd Go.Proofs.Ytckodnogjedmnaa.Cfg Go.Proofs.Ytckodnogjedmnaa.Jt
set_option linter.unusedVariables false
set_option linter.unusedSimpArgs false
/-- the reference's log: its rows, what was taken (nothing is struck) -/
structure HasRL (w : World) (P : Nat → Prop) (B M : Nat) (c : CfV) (rows : List (Nat × Row)) (tk : Int → Option (Nat × Row)) (cnt : Nat) : Prop where
  n : CfN c
  blk : ∃ rv, Blk w B (logCells c rv M) 72 ∧ w.ownsRow 0 26 1 rv rows.length (rows.map fun r => rowV c.pl r.1) ∧ ∀ g, rv.ownBlock = some g → P g
  map : MapW Try.prog 3 w M cnt (fun x => (tk x).map fun r => rowV c.pl r.1)
  rrb : ∀ r ∈ rows, RB w 66 r.1 r.2 c.pl ∧ P r.1
  trb : ∀ x r, tk x = some r → RB w 66 r.1 r.2 c.pl ∧ P r.1
  len : rows.length ≤ c.fr
  pB : P B
  pM : P M
section
variable {w w' : World} {P Q : Nat → Prop} {B M cnt : Nat} {c : CfV} {rows : List (Nat × Row)} {tk : Int → Option (Nat × Row)}
theorem HasRL.fr {S : List Nat} (h : HasRL w P B M c rows tk cnt) (hF : Fr S w w') (hS : ∀ x ∈ S, ¬ P x) : HasRL w' P B M c rows tk cnt := by
  obtain ⟨rv, h1, h2, h3⟩ := h.blk
  exact { h with
    blk := ⟨rv, hF.blk h1 (fun hx => hS _ hx h.pB), own_keep h2 hF (fun g hg hx => hS _ hx (h3 g hg)), h3⟩
    map := h.map.fr hF (fun hx => hS _ hx h.pM)
    rrb := fun r hr => ⟨(h.rrb r hr).1.fr hF (fun hx => hS _ hx (h.rrb r hr).2), (h.rrb r hr).2⟩
    trb := fun x r hr => ⟨(h.trb x r hr).1.fr hF (fun hx => hS _ hx (h.trb x r hr).2), (h.trb x r hr).2⟩ }
theorem HasRL.wider (h : HasRL w P B M c rows tk cnt) (hPQ : ∀ x, P x → Q x) : HasRL w Q B M c rows tk cnt := by
  obtain ⟨rv, h1, h2, h3⟩ := h.blk
  exact { h with
    blk := ⟨rv, h1, h2, fun g hg => hPQ _ (h3 g hg)⟩
    rrb := fun r hr => ⟨(h.rrb r hr).1, hPQ _ (h.rrb r hr).2⟩
    trb := fun x r hr => ⟨(h.trb x r hr).1, hPQ _ (h.trb x r hr).2⟩
    pB := hPQ _ h.pB
    pM := hPQ _ h.pM }
theorem HasRL.there (h : HasRL w P B M c rows tk cnt) : HasRL w (fun x => P x ∧ x < w.heap.size) B M c rows tk cnt := by
  obtain ⟨rv, h1, h2, h3⟩ := h.blk
  exact { h with
    blk := ⟨rv, h1, h2, fun g hg => ⟨h3 g hg, own_lt h2 hg⟩⟩
    rrb := fun r hr => ⟨(h.rrb r hr).1, (h.rrb r hr).2, (h.rrb r hr).1.lt⟩
    trb := fun x r hr => ⟨(h.trb x r hr).1, (h.trb x r hr).2, (h.trb x r hr).1.lt⟩
    pB := ⟨h.pB, h1.lt⟩
    pM := ⟨h.pM, h.map.lt⟩ }
theorem HasRL.hM (h : HasRL w P B M c rows tk cnt) {g : Nat} {vs : Array Value} {T : TypeId} (hb : Blk w g vs T) : M ≠ g := by
  intro e; subst e
  obtain ⟨D, ⟨es, clock, h1, -⟩, -⟩ := h.map.ex
  have h2 : w.heap[M]? = _ := hb
  rw [h2] at h1; simp at h1
theorem is_any (n lo hi : Int) (w : World) : Calls Try.prog 44 #[.int .i64 n, .int .i64 lo, .int .i64 hi] w fun e w' => e = .returned (.bool (decide (lo ≤ n ∧ n ≤ hi))) ∧ w = w' := by
  by_cases h1 : lo ≤ n
  · by_cases h2 : n ≤ hi
    all_goals
      go_enter Try.func44, Try.ntmps44
      go_wp2_with fail
      go_ret
      refine ⟨?_, rfl⟩
      first
        | (rw [decide_eq_true (by omega)]; first | done | rfl)
        | (rw [decide_eq_false (by omega)]; first | done | rfl)
  · go_enter Try.func44, Try.ntmps44
    go_wp2_with fail
    go_ret
    refine ⟨?_, rfl⟩
    rw [decide_eq_false (by omega)]; first | done | rfl
theorem rin_any (b x y : Int) (w : World) : Calls Try.prog 45 #[.agg #[.int .i64 b, .int .i64 x, .int .i64 y]] w fun e w' => e = .returned (.bool (inB b x y)) ∧ Fr [] w w' := by
  have hX := Blk.new w #[.int .i64 b, .int .i64 x, .int .i64 y] 58
  have hF := (Fr.refl [] w).alloc (.cells #[.int .i64 b, .int .i64 x, .int .i64 y] 58)
  have i1 := is_any b 0 255
  have i2 := is_any x (-64) 64
  have i3 := is_any y (-64) 64
  obtain ⟨r, hr⟩ : ∃ r, inB b x y = r := ⟨_, rfl⟩
  rw [hr]
  have HR := Lib.hid hr
  clear hr
  have I1 := Lib.hid i1; have I2 := Lib.hid i2; have I3 := Lib.hid i3; have HX := Lib.hid hX; have HF := Lib.hid hF
  clear i1 i2 i3 hX hF
  have hcs : ¬ (0 ≤ b ∧ b ≤ 255) ∨ ((0 ≤ b ∧ b ≤ 255) ∧ ¬ (-64 ≤ x ∧ x ≤ 64)) ∨ ((0 ≤ b ∧ b ≤ 255) ∧ (-64 ≤ x ∧ x ≤ 64) ∧ ¬ (-64 ≤ y ∧ y ≤ 64)) ∨ ((0 ≤ b ∧ b ≤ 255) ∧ (-64 ≤ x ∧ x ≤ 64) ∧ (-64 ≤ y ∧ y ≤ 64)) := by omega
  rcases hcs with h1 | ⟨h1, h2⟩ | ⟨h1, h2, h3⟩ | ⟨h1, h2, h3⟩
  · have hd : inB b x y = false := decide_eq_false (by omega)
    have j1 := I1.out
    rw [decide_eq_false h1] at j1
    have J1 := Lib.hid j1
    clear j1 h1
    go_enter Try.func45, Try.ntmps45
    go_wp2_with fail
    refine (J1.out _).mono ?_; rintro e w' ⟨rfl, rfl⟩
    go_wp2_with fail
    go_ret
    exact ⟨by rw [← HR.out, hd]; rfl, HF.out⟩
  · have hd : inB b x y = false := decide_eq_false (by omega)
    have j1 := I1.out
    have j2 := I2.out
    rw [decide_eq_true h1] at j1
    rw [decide_eq_false h2] at j2
    have J1 := Lib.hid j1; have J2 := Lib.hid j2
    clear j1 j2 h1 h2
    go_enter Try.func45, Try.ntmps45
    go_wp2_with fail
    refine (J1.out _).mono ?_; rintro e w' ⟨rfl, rfl⟩
    go_wp2_with fail
    refine (J2.out _).mono ?_; rintro e w' ⟨rfl, rfl⟩
    go_wp2_with fail
    go_ret
    exact ⟨by rw [← HR.out, hd]; rfl, HF.out⟩
  · have hd : inB b x y = false := decide_eq_false (by omega)
    have j1 := I1.out
    have j2 := I2.out
    have j3 := I3.out
    rw [decide_eq_true h1] at j1
    rw [decide_eq_true h2] at j2
    rw [decide_eq_false h3] at j3
    have J1 := Lib.hid j1; have J2 := Lib.hid j2; have J3 := Lib.hid j3
    clear j1 j2 j3 h1 h2 h3
    go_enter Try.func45, Try.ntmps45
    go_wp2_with fail
    refine (J1.out _).mono ?_; rintro e w' ⟨rfl, rfl⟩
    go_wp2_with fail
    refine (J2.out _).mono ?_; rintro e w' ⟨rfl, rfl⟩
    go_wp2_with fail
    refine (J3.out _).mono ?_; rintro e w' ⟨rfl, rfl⟩
    go_wp2_with fail
    go_ret
    exact ⟨by rw [← HR.out, hd]; rfl, HF.out⟩
  · have hd : inB b x y = true := decide_eq_true (by omega)
    have j1 := I1.out
    have j2 := I2.out
    have j3 := I3.out
    rw [decide_eq_true h1] at j1
    rw [decide_eq_true h2] at j2
    rw [decide_eq_true h3] at j3
    have J1 := Lib.hid j1; have J2 := Lib.hid j2; have J3 := Lib.hid j3
    clear j1 j2 j3 h1 h2 h3
    go_enter Try.func45, Try.ntmps45
    go_wp2_with fail
    refine (J1.out _).mono ?_; rintro e w' ⟨rfl, rfl⟩
    go_wp2_with fail
    refine (J2.out _).mono ?_; rintro e w' ⟨rfl, rfl⟩
    go_wp2_with fail
    refine (J3.out _).mono ?_; rintro e w' ⟨rfl, rfl⟩
    go_wp2_with fail
    go_ret
    exact ⟨by rw [← HR.out, hd]; rfl, HF.out⟩
theorem rdeadline_any (h : HasRL w P B M c rows tk cnt) (f : Int) : Calls Try.prog 36 #[.pointer (some ⟨B, 0, none⟩), .int .i64 f] w fun e w' => e = .returned (.int .i64 (if 0 ≤ f ∧ f < c.fr then dl c f else 0)) ∧ ∃ k, w' = w.drewN k := by
  have hh := is_any f 0 ((c.fr : Int) - 1) w
  obtain ⟨rv, h1, h2, h3⟩ := h.blk
  have c1 := Blk.cell (i := 1) h1 rfl
  have c2 := Blk.cell (i := 2) h1 rfl
  have c3 := Blk.cell (i := 3) h1 rfl
  have c4 := Blk.cell (i := 4) h1 rfl
  simp only [logCells, List.getElem_toArray, List.getElem_cons_zero, List.getElem_cons_succ] at c1 c2 c3 c4
  have hN := h.n
  have hfr1 := hN.fr1
  have hfr6 := hN.fr6
  clear h h1 h2 h3
  by_cases q1 : 0 ≤ f ∧ f < c.fr
  · have q2 : 0 ≤ f * (c.per : Int) ∧ f * (c.per : Int) ≤ 4800 := by
      have h1 := hN.fr6; have h2 := hN.per8
      constructor
      · exact Int.mul_nonneg q1.1 (by omega)
      · have h3 : f * (c.per : Int) ≤ 600 * 8 := Int.mul_le_mul (by omega) (by omega) (by omega) (by omega)
        omega
    obtain ⟨m, hm⟩ : ∃ m, f * (c.per : Int) = m := ⟨_, rfl⟩
    have q3 := hN.gr
    have q4 := hN.st
    have hw1 : IntKind.i64.wrap (f * (c.per : Int)) = m := by rw [IntWalk.i64_in _ (by omega)]; exact hm
    rw [hm] at q2
    have hw2 : IntKind.i64.wrap ((c.st : Int) + m) = (c.st : Int) + m := IntWalk.i64_in _ (by omega)
    have hw3 : IntKind.i64.wrap ((c.st : Int) + m + c.gr) = (c.st : Int) + m + c.gr := IntWalk.i64_in _ (by omega)
    rw [decide_eq_true (show 0 ≤ f ∧ f ≤ (c.fr : Int) - 1 by omega)] at hh
    rw [if_pos q1]
    unfold dl
    rw [hm]
    have HH := Lib.hid hh
    clear hh q1 hm hN q2 q3 q4
    go_enter Try.func36, Try.ntmps36
    go_wp2_with fail
    refine HH.out.mono ?_; rintro e w' ⟨rfl, rfl⟩
    go_wp2_with fail
    go_quiet (fail)
    go_wp2_with fail
    go_ret
    exact ⟨rfl, nq, rfl⟩
  · rw [decide_eq_false (show ¬ (0 ≤ f ∧ f ≤ (c.fr : Int) - 1) by omega)] at hh
    rw [if_neg q1]
    have HH := Lib.hid hh
    clear hh q1
    go_enter Try.func36, Try.ntmps36
    go_wp2_with fail
    refine HH.out.mono ?_; rintro e w' ⟨rfl, rfl⟩
    go_wp2_with fail
    go_ret
    exact ⟨rfl, 0, rfl⟩
end
end Go.Proofs.Ytckodnogjedmnaa.Lo
