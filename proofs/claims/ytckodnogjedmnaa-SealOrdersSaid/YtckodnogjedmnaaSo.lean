/- chapter 18: hand.Input; what SealOnce keeps. -/
import Derived.Test.YtckodnogjedmnaaOb
import Derived.Test.YtckodnogjedmnaaSlAc
import Derived.Deep.CutBlock
import Derived.Deep.DeepCutAuto
namespace Go.Proofs.Ytckodnogjedmnaa.Lo
open Go.RowKit Dt Go.Proofs.Ytckodnogjedmnaa.Hd Go.Proofs.Ytckodnogjedmnaa.Cfg Go.Proofs.Ytckodnogjedmnaa.Jt
set_option linter.unusedVariables false
set_option linter.unusedSimpArgs false

theorem input_any (n m : Int) (w : World) : Calls Try.prog 26 #[.int .i64 n, .int .i64 m] w fun e w' => ∃ b x y : Int, e = .returned (.agg #[.int .i64 b, .int .i64 x, .int .i64 y]) ∧ inB b x y = true ∧ Fr [] w w' := by
  go_enter Try.func26, Try.ntmps26
  go_wp2_with fail
  refine (pick_any _ _ _ (by decide) (by decide)).mono ?_; rintro e w' ⟨rfl, rfl⟩
  obtain ⟨b, hb⟩ : ∃ b, n % 256 = b := ⟨_, rfl⟩
  have hb2 : 0 ≤ b ∧ b ≤ 255 := by omega
  rw [hb]; clear hb
  go_wp2_with fail
  refine (pick_any _ _ _ (by decide) (by decide)).mono ?_; rintro e w' ⟨rfl, rfl⟩
  obtain ⟨x, hx⟩ : ∃ x, m % 129 = x := ⟨_, rfl⟩
  have hx2 : 0 ≤ x ∧ x ≤ 128 := by omega
  rw [hx]; clear hx
  go_wp2_with fail
  refine (pick_any _ _ _ (by decide) (by decide)).mono ?_; rintro e w' ⟨rfl, rfl⟩
  have hy : ∀ q : Int, ∃ y, q % 129 = y ∧ 0 ≤ y ∧ y ≤ 128 := fun q => ⟨_, rfl, by omega, by omega⟩
  obtain ⟨y, hye, hy2⟩ := hy _
  rw [hye]; clear hye hy
  go_wp2_with fail
  refine bodyPost_ret (v := .agg #[.int .i64 b, .int .i64 (x - 64), .int .i64 (y - 64)]) (by simp [results, Try.results26, go_sem]) rfl ?_
  exact ⟨b, x - 64, y - 64, rfl, decide_eq_true (by omega), (Fr.refl [] w).alloc _⟩
def cfgC (c : CfV) : Array Value := #[.int .i64 c.pl, .int .i64 c.per, .int .i64 c.gr, .int .i64 c.st, .int .i64 c.fr, .int .i64 c.seed, .float .f64 c.rate, .float .f64 c.depth, .slice c.ra c.rl c.rc, .slice c.ta c.tl c.tc]
abbrev In3 := Int × Int × Int
def inV (i : In3) : Value := .agg #[.int .i64 i.1, .int .i64 i.2.1, .int .i64 i.2.2]
/-- the cell of an input that was taken, or of none -/
def cellOf (f : Int → Option In3) (k : Int) : C4 := match f k with | some i => (true, i.1, i.2.1, i.2.2) | none => c0
/-- the sealed row at k -/
def rowAt (rows : List (Nat × Row)) (k : Nat) : Row := (rows.getD k (0, fun _ => c0)).2
/-- so it stands between two acts -/
structure On (W wr : World) (g : Nat) (c : CfV) (B M F : Nat) (rows : List (Nat × Row)) (vr : Value) (b t tick n : Nat) (R : Int → Row) (f : Int → Option In3) : Prop where
  fr : Fr [] W wr
  cfg : Blk wr g (cfgC c) 46
  log : LogS wr (fun x => W.heap.size ≤ x ∧ x ≠ g ∧ x ≠ F ∧ (x < b ∨ t ≤ x)) B M c rows n R
  rv : RowsT wr b t vr rows.length c.pl (rowAt rows)
  map : ∃ cnt, MapW Try.prog 3 wr F cnt (fun x => (f x).map inV) ∧ cnt ≤ n
  gF : g ≠ F
  gW : W.heap.size ≤ g
  FW : W.heap.size ≤ F
  tl : t ≤ wr.heap.size
  gbt : (g < b ∨ t ≤ g) ∧ (F < b ∨ t ≤ F)
  got : ∀ k : Nat, k < rows.length → ∀ p : Nat, p < c.pl → rowAt rows k p = cellOf f ((k : Int) * 8 + p)
  wait : ∀ x : Int, (rows.length : Int) ≤ x → ∀ p : Nat, p < c.pl → R x p = cellOf f (x * 8 + p)
  due : ∀ k : Nat, k < rows.length → dl c k ≤ tick
section
variable {W wr w' : World} {g : Nat} {c : CfV} {B M F : Nat} {rows : List (Nat × Row)} {vr : Value} {b t tick n : Nat} {R : Int → Row} {f : Int → Option In3}
theorem On.fr0 (h : On W wr g c B M F rows vr b t tick n R f) (hF : Fr [] wr w') : On W w' g c B M F rows vr b t tick n R f :=
  { h with
    fr := h.fr.trans hF (by simp)
    cfg := hF.blk h.cfg (by simp)
    log := h.log.fr hF (by simp)
    rv := h.rv.fr hF (by simp)
    map := by obtain ⟨cnt, h1, h2⟩ := h.map; exact ⟨cnt, h1.fr hF (by simp), h2⟩
    tl := Nat.le_trans h.tl hF.size }
theorem On.new (h : On W wr g c B M F rows vr b t tick n R f) : ∀ x, wr.heap.size ≤ x → W.heap.size ≤ x ∧ x ≠ g ∧ x ≠ F ∧ (x < b ∨ t ≤ x) := fun x hx => by
  have h1 := h.cfg.lt; have h2 := h.fr.size; have h3 := h.tl
  obtain ⟨cnt, h4, -⟩ := h.map
  have h5 := h4.lt
  exact ⟨by omega, by omega, by omega, .inr (by omega)⟩
theorem wr_fr {P : Nat → Prop} {B : Nat} {w w' w0 : World} (h : Wr P w w') (hP : ∀ x, P x → B ≤ x) (hF : Fr [] w0 w) (hB : w0.heap.size ≤ B) : Fr [] w0 w' := by
  obtain ⟨S, h1, h2⟩ := h
  exact hF.trans h2 (fun x hx => .inr (by have := hP x (h1 x hx); omega))
theorem wr_blk {P : Nat → Prop} {w w' : World} {b : Nat} {vs : Array Value} {T : TypeId} (h : Wr P w w') (k : Blk w b vs T) (hP : ¬ P b) : Blk w' b vs T := by
  obtain ⟨S, h1, h2⟩ := h
  exact h2.blk k (fun hx => hP (h1 b hx))
theorem wr_map {P : Nat → Prop} {w w' : World} {k F cnt : Nat} {f : Int → Option Value} (h : Wr P w w') (hm : MapW Try.prog k w F cnt f) (hP : ¬ P F) : MapW Try.prog k w' F cnt f := by
  obtain ⟨S, h1, h2⟩ := h
  exact hm.fr h2 (fun hx => hP (h1 F hx))
/-- behind a call that wrote the log's blocks alone: all but the log -/
theorem On.wrote (h : On W wr g c B M F rows vr b t tick n R f) {rows' : List (Nat × Row)} {n' : Nat} {R' : Int → Row} (hW : Wr (fun x => W.heap.size ≤ x ∧ x ≠ g ∧ x ≠ F ∧ (x < b ∨ t ≤ x)) wr w') :
    Fr [] W w' ∧ Blk w' g (cfgC c) 46 ∧ RowsT w' b t vr rows.length c.pl (rowAt rows) ∧ (∃ cnt, MapW Try.prog 3 w' F cnt (fun x => (f x).map inV) ∧ cnt ≤ n) ∧ t ≤ w'.heap.size := by
  obtain ⟨cnt, h1, h2⟩ := h.map
  exact ⟨wr_fr hW (fun x hx => hx.1) h.fr (Nat.le_refl _), wr_blk hW h.cfg (fun hx => hx.2.1 rfl), h.rv.wr hW (fun x hx => hx.2.2.2), ⟨cnt, wr_map hW h1 (fun hx => hx.2.2.1 rfl), h2⟩, Nat.le_trans h.tl hW.size⟩
/-- an offer that is not taken -/
theorem On.keep (h : On W wr g c B M F rows vr b t tick n R f) (hl : LogS w' (fun x => W.heap.size ≤ x ∧ x ≠ g ∧ x ≠ F ∧ (x < b ∨ t ≤ x)) B M c rows (n + 1) R) (hW : Wr (fun x => W.heap.size ≤ x ∧ x ≠ g ∧ x ≠ F ∧ (x < b ∨ t ≤ x)) wr w') : On W w' g c B M F rows vr b t tick (n + 1) R f := by
  obtain ⟨h1, h2, h3, ⟨cnt, h4, h5⟩, h6⟩ := h.wrote (rows' := rows) (n' := n) (R' := R) hW
  exact { h with fr := h1, cfg := h2, log := hl, rv := h3, map := ⟨cnt, h4, by omega⟩, tl := h6 }
/-- an input, laid into the law's map -/
def putF (f : Int → Option In3) (k : Int) (i : In3) : Int → Option In3 := fun x => if x = k then some i else f x
theorem cellOf_put {f : Int → Option In3} {k : Int} {i : In3} {z : Int} : cellOf (putF f k i) z = if z = k then (true, i.1, i.2.1, i.2.2) else cellOf f z := by
  unfold cellOf putF
  by_cases e : z = k <;> simp [e]
theorem key_inj {x y : Int} {p q : Nat} (hp : p < 8) (hq : q < 8) (h : x * 8 + (p : Int) = y * 8 + q) : x = y ∧ p = q := by omega
/-- an offer that is taken, told the law's map -/
theorem On.take (h : On W wr g c B M F rows vr b t tick n R f) {w2 : World} {x : Int} {s : Nat} {i : In3} (hs : s < c.pl) (hx : (rows.length : Int) ≤ x)
    (hl : LogS w' (fun x => W.heap.size ≤ x ∧ x ≠ g ∧ x ≠ F ∧ (x < b ∨ t ≤ x)) B M c rows (n + 1) (fun z => if z = x then put1 (R x) s (true, i.1, i.2.1, i.2.2) else R z)) (hW : Wr (fun x => W.heap.size ≤ x ∧ x ≠ g ∧ x ≠ F ∧ (x < b ∨ t ≤ x)) wr w')
    {cnt : Nat} (hm : MapW Try.prog 3 w2 F cnt (fun z => if z = x * 8 + (s : Int) then some (inV i) else (f z).map inV)) (hc : cnt ≤ n + 1) (hF2 : Fr [F] w' w2) : On W w2 g c B M F rows vr b t tick (n + 1) (fun z => if z = x then put1 (R x) s (true, i.1, i.2.1, i.2.2) else R z) (putF f (x * 8 + s) i) := by
  obtain ⟨h1, h2, h3, -, h6⟩ := h.wrote (rows' := rows) (n' := n) (R' := R) hW
  have hp8 := h.log.cf.pl8
  exact {
    fr := h1.trans hF2 (fun y hy => .inr (by have := h.FW; simp at hy; omega))
    cfg := hF2.blk h2 (by simpa using h.gF)
    log := hl.fr hF2 (by simp)
    rv := h3.fr hF2 (by have := h.gbt.2; simpa using this)
    map := ⟨cnt, hm.congr (fun z hz => by unfold putF; by_cases e : z = x * 8 + (s : Int) <;> simp [e]), hc⟩
    gF := h.gF
    gW := h.gW
    FW := h.FW
    tl := Nat.le_trans h6 hF2.size
    gbt := h.gbt
    got := fun k hk p hp => by
      rw [cellOf_put, if_neg (fun e => by have := (key_inj (by omega) (by omega) e).1; omega)]
      exact h.got k hk p hp
    wait := fun z hz p hp => by
      rw [cellOf_put]
      by_cases e : z = x
      · subst e
        rw [if_pos rfl]
        unfold put1
        by_cases e2 : p = s
        · subst e2; rw [if_pos rfl, if_pos rfl]
        · rw [if_neg e2, if_neg (fun e3 => e2 (key_inj (by omega) (by omega) e3).2)]
          exact h.wait z hz p hp
      · rw [if_neg e, if_neg (fun e3 => e (key_inj (by omega) (by omega) e3).1)]
        exact h.wait z hz p hp
    due := h.due }
end
end Go.Proofs.Ytckodnogjedmnaa.Lo
