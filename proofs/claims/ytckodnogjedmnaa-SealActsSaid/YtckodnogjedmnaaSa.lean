/- chapter 18: SealActs. Written by wip/genparts.py. -/
import Derived.Test.YtckodnogjedmnaaAc
import Derived.Test.YtckodnogjedmnaaSlAc
import Derived.Test.YtckodnogjedmnaaRg2
import Derived.Deep.CutBlock
import Derived.Deep.DeepCutAuto
import Derived.Laws.EntriesVeiled
namespace Go.Proofs.Ytckodnogjedmnaa.Lo
open Go.RowKit Dt Go.Proofs.Ytckodnogjedmnaa.Hd Go.Proofs.Ytckodnogjedmnaa.Cfg Go.Proofs.Ytckodnogjedmnaa.Jt Go.Proofs.Ytckodnogjedmnaa.FlW Ieee
set_option linter.unusedVariables false
set_option linter.unusedSimpArgs false
attribute [local go_sem] run_store_float
def actV (z : A8) : Array Value := #[.int .i64 z.1, .int .i64 z.2.1, .int .i64 z.2.2.1, .int .i64 z.2.2.2.1, .int .i64 z.2.2.2.2.1, .int .i64 z.2.2.2.2.2.1, .int .i64 z.2.2.2.2.2.2.1, .int .i64 z.2.2.2.2.2.2.2]
/-- so it stands between two acts -/
structure Sa (W w : World) (K : Nat → Prop) (g : Nat) (c : CfV) (B M BR MR : Nat) (rows rowsR : List (Nat × Row)) (n : Nat) (R RI : Int → Row) : Prop where
  ac : Ac W w K c B M BR MR rows rowsR n R RI
  cfg : Blk w g (cfgC c) 46
  kg : K g
  eqv : Eqv rows rowsR R RI
section
variable {W w w' : World} {K K' : Nat → Prop} {g : Nat} {c : CfV} {B M BR MR n : Nat} {rows rowsR : List (Nat × Row)} {R RI : Int → Row}
theorem Sa.fr0 (h : Sa W w K g c B M BR MR rows rowsR n R RI) (hF : Fr [] w w') : Sa W w' K g c B M BR MR rows rowsR n R RI := ⟨h.ac.fr0 hF, hF.blk h.cfg (by simp), h.kg, h.eqv⟩
theorem Sa.new (h : Sa W w K g c B M BR MR rows rowsR n R RI) (o : Obj) : Sa W (w.alloc o) (fun x => K x ∨ x = w.heap.size) g c B M BR MR rows rowsR n R RI := ⟨h.ac.new o, ((Fr.refl [] w).alloc o).blk h.cfg (by simp), .inl h.kg, h.eqv⟩
theorem Sa.frK {S : List Nat} (h : Sa W w K g c B M BR MR rows rowsR n R RI) (hF : Fr S w w') (hS : ∀ x ∈ S, K x ∧ W.heap.size ≤ x) (hg : g ∉ S) : Sa W w' K g c B M BR MR rows rowsR n R RI := ⟨h.ac.frK hF hS, hF.blk h.cfg hg, h.kg, h.eqv⟩
theorem Sa.less (h : Sa W w K g c B M BR MR rows rowsR n R RI) (hK : ∀ x, K' x → K x) (hg : K' g) : Sa W w K' g c B M BR MR rows rowsR n R RI := ⟨h.ac.less hK, h.cfg, hg, h.eqv⟩
end
theorem rrows_at {w : World} {B M : Nat} {c : CfV} {rows : List (Nat × Row)} {P : Nat → Prop} {cnt : Nat} {tk : Int → Option (Nat × Row)} {va : Option Addr} {L vc : Nat} (h : HasRL w P B M c rows tk cnt) (hb : Blk w B (logCells c (.slice va L vc) M) 72) (hL : rows.length = L) : RowsAt w (.slice va L vc) L c.pl (rowAt rows) := by
  obtain ⟨rv, h1, h2, h3⟩ := h.blk
  have e : rv = .slice va L vc := by
    have k1 := Blk.cell (i := 10) h1 rfl
    have k2 := Blk.cell (i := 10) hb rfl
    rw [k1] at k2
    simpa [logCells] using k2
  subst e
  rw [hL] at h2
  obtain ⟨a, cap, e, k1, k2, -, k3⟩ := own_any h2
  injection e with e1 e2 e3
  subst e1 e3
  refine ⟨_, _, rfl, k1, k2, fun hp => ?_⟩
  obtain ⟨g, rfl, -⟩ := k3 hp
  refine ⟨g, 0, rfl, fun i hi => ?_⟩
  obtain ⟨r, hr⟩ : ∃ r, rows[i]? = some r := ⟨_, List.getElem?_eq_getElem (by omega)⟩
  refine ⟨rowV c.pl r.1, ?_, ?_⟩
  · rw [Nat.zero_add, h2.cellAt _ (by omega), List.getElem?_map, hr]; rfl
  · have e : rowAt rows i = r.2 := by unfold rowAt; rw [List.getD_eq_getElem?_getD, hr]; rfl
    rw [e]
    exact rb_at (h.rrb r (List.mem_of_getElem? hr)).1
/-- what region 30 reads -/
structure Sq (W w : World) (K : Nat → Prop) (g : Nat) (c : CfV) (B M BR MR : Nat) (rows rowsR : List (Nat × Row)) (n : Nat) (R RI : Int → Row) (va : Option Addr) (L vc bx : Nat) (z : A8) : Prop where
  sa : Sa W w K g c B M BR MR rows rowsR n R RI
  rb : Blk w BR (logCells c (.slice va L vc) MR) 72
  xb : Blk w bx (actV z) 60
  l1 : rows.length = L
  l2 : rowsR.length = L
section
variable {W w w' : World} {K : Nat → Prop} {g : Nat} {c : CfV} {B M BR MR n : Nat} {rows rowsR : List (Nat × Row)} {R RI : Int → Row} {va : Option Addr} {L vc bx : Nat} {z : A8}
theorem Sq.go (h : Sq W w K g c B M BR MR rows rowsR n R RI va L vc bx z) (hF : Fr [] w w') : Sq W w' K g c B M BR MR rows rowsR n R RI va L vc bx z := ⟨h.sa.fr0 hF, hF.blk h.rb (by simp), hF.blk h.xb (by simp), h.l1, h.l2⟩
theorem Sq.cells (h : Sq W w K g c B M BR MR rows rowsR n R RI va L vc bx z) : w.cell? ⟨BR, 10, none⟩ = some (.slice va L vc) ∧ w.cell? ⟨g, 4, none⟩ = some (.int .i64 c.fr) ∧ w.cell? ⟨bx, 2, none⟩ = some (.int .i64 z.2.2.1) ∧ w.cell? ⟨bx, 3, none⟩ = some (.int .i64 z.2.2.2.1) :=
  ⟨Blk.cell (i := 10) h.rb rfl, Blk.cell (i := 4) h.sa.cfg rfl, Blk.cell (i := 2) h.xb rfl, Blk.cell (i := 3) h.xb rfl⟩
theorem Sq.s (h : Sq W w K g c B M BR MR rows rowsR n R RI va L vc bx z) : (w.cell? ⟨BR, 10, none⟩ = some (.slice va L vc) ∧ w.cell? ⟨g, 4, none⟩ = some (.int .i64 c.fr) ∧ w.cell? ⟨bx, 2, none⟩ = some (.int .i64 z.2.2.1) ∧ w.cell? ⟨bx, 3, none⟩ = some (.int .i64 z.2.2.2.1)) ∧ Sq W w K g c B M BR MR rows rowsR n R RI va L vc bx z := ⟨h.cells, h⟩
theorem Sq.len (h : Sq W w K g c B M BR MR rows rowsR n R RI va L vc bx z) : Calls Try.prog 24 #[.pointer (some ⟨B, 0, none⟩)] w fun e w' => e = .returned (.int .i64 L) ∧ w' = w := by
  obtain ⟨PL, hl⟩ := h.sa.ac.log
  rw [← h.l1]
  exact (len_s hl).mono fun e w' ⟨h1, h2⟩ => ⟨h1, h2.symm⟩
theorem Sq.wait1 (h : Sq W w K g c B M BR MR rows rowsR n R RI va L vc bx z) {N : Nat} (hN : waitR R rows.length c.pl = N) : Calls Try.prog 30 #[.pointer (some ⟨B, 0, none⟩)] w fun e w' => e = .returned (.int .i64 N) ∧ Fr [] w w' := by
  obtain ⟨PL, hl⟩ := h.sa.ac.log
  rw [← hN]
  exact waiting_s hl
theorem Sq.wait2 (h : Sq W w K g c B M BR MR rows rowsR n R RI va L vc bx z) {N : Nat} (hN : waitR R rows.length c.pl = N) : Calls Try.prog 35 #[.pointer (some ⟨BR, 0, none⟩)] w fun e w' => e = .returned (.int .i64 N) ∧ w' = w := by
  obtain ⟨PR, tk, cnt, hl, hR⟩ := h.sa.ac.ref
  rw [← hN, h.sa.eqv.wait, ← hR]
  exact (rwait_any hl).mono fun e w' ⟨h1, h2⟩ => ⟨h1, h2.symm⟩
theorem Sq.ended (h : Sq W w K g c B M BR MR rows rowsR n R RI va L vc bx z) {b : Bool} (hb : decide (L = c.fr) = b) : Calls Try.prog 31 #[.pointer (some ⟨B, 0, none⟩)] w fun e w' => e = .returned (.bool b) ∧ Fr [] w w' := by
  obtain ⟨PL, hl⟩ := h.sa.ac.log
  rw [← hb, ← h.l1]
  exact (ended_s hl).mono fun e w' ⟨h1, k, h2⟩ => ⟨h1, h2 ▸ (Fr.refl [] w).drewN k⟩
theorem Sq.dead1 (h : Sq W w K g c B M BR MR rows rowsR n R RI va L vc bx z) {f D : Int} (hD : (if 0 ≤ f ∧ f < c.fr then dl c f else 0) = D) : Calls Try.prog 25 #[.pointer (some ⟨B, 0, none⟩), .int .i64 f] w fun e w' => e = .returned (.int .i64 D) ∧ Fr [] w w' := by
  obtain ⟨PL, hl⟩ := h.sa.ac.log
  rw [← hD]
  exact (deadline_s hl f).mono fun e w' ⟨h1, k, h2⟩ => ⟨h1, h2 ▸ (Fr.refl [] w).drewN k⟩
theorem Sq.dead2 (h : Sq W w K g c B M BR MR rows rowsR n R RI va L vc bx z) {f D : Int} (hD : (if 0 ≤ f ∧ f < c.fr then dl c f else 0) = D) : Calls Try.prog 36 #[.pointer (some ⟨BR, 0, none⟩), .int .i64 f] w fun e w' => e = .returned (.int .i64 D) ∧ Fr [] w w' := by
  obtain ⟨PR, tk, cnt, hl, hR⟩ := h.sa.ac.ref
  rw [← hD]
  exact (rdeadline_any hl f).mono fun e w' ⟨h1, k, h2⟩ => ⟨h1, h2 ▸ (Fr.refl [] w).drewN k⟩
theorem Sq.rows1 (h : Sq W w K g c B M BR MR rows rowsR n R RI va L vc bx z) (fr most : Int) : Calls Try.prog 28 #[.pointer (some ⟨B, 0, none⟩), .int .i64 fr, .int .i64 most] w fun e w' => ∃ v, e = .returned v ∧ RowsAt w' v (nRows fr most L) c.pl (fun i => rowAt rows (fr.toNat + i)) ∧ Fr [] w w' := by
  obtain ⟨PL, hl⟩ := h.sa.ac.log
  have hp := hl.cf.pl1
  refine (rows_s hl fr most).mono ?_
  rintro e w' ⟨v, rfl, hV, hF⟩
  rw [h.l1] at hV
  exact ⟨v, rfl, hV.at (by omega), hF⟩
theorem Sq.rows2 (h : Sq W w K g c B M BR MR rows rowsR n R RI va L vc bx z) (fr most : Int) : Calls Try.prog 38 #[.pointer (some ⟨BR, 0, none⟩), .int .i64 fr, .int .i64 most] w fun e w' => ∃ v, e = .returned v ∧ RowsAt w' v (nRows fr most L) c.pl (fun i => rowAt rows (fr.toNat + i)) ∧ Fr [] w w' := by
  obtain ⟨PR, tk, cnt, hl, hR⟩ := h.sa.ac.ref
  have hp := hl.n.pl1
  refine (rsome_any hl fr most).mono ?_
  rintro e w' ⟨v, rfl, hV, k, rfl⟩
  rw [h.l2] at hV
  refine ⟨v, rfl, ?_, (Fr.refl [] w).drewN k⟩
  have e : (fun i => rowAt rows (fr.toNat + i)) = fun i => rowAt rowsR (fr.toNat + i) := funext fun i => h.sa.eqv.at _
  rw [e]
  exact hV.fr (by omega) ((Fr.refl [] w).drewN k)
theorem same_s {v v' : Value} {n p : Nat} {Rs : Nat → Row} (h : RowsAt w v n p Rs) (h' : RowsAt w v' n p Rs) (hp : p ≤ 100) : Calls Try.prog 37 #[v, v'] w fun e w' => e = .returned (.bool true) ∧ Fr [] w w' :=
  (samerows_yes h h' (fun _ _ _ _ => rfl) hp).mono fun e w' ⟨h1, k, h2⟩ => ⟨h1, h2 ▸ (Fr.refl [] w).drewN k⟩
theorem Sa.sq {bx : Nat} {z : A8} (h : Sa W w K g c B M BR MR rows rowsR n R RI) (hx : Blk w bx (actV z) 60) : ∃ va vc, Sq W w K g c B M BR MR rows rowsR n R RI va rows.length vc bx z := by
  obtain ⟨PR, tk, cnt, hl, hR⟩ := h.ac.ref
  obtain ⟨rv, h1, h2, h3⟩ := hl.blk
  obtain ⟨va, vc, rfl, -, -⟩ := own_val h2
  rw [← h.eqv.len] at h1
  exact ⟨va, vc, h, h1, hx, rfl, h.eqv.len.symm⟩
end
set_option maxRecDepth 100000 in
set_option maxHeartbeats 51200000 in
theorem walk_sacts (xp xq xg xs xf xd xr : Int) (ra : Option Addr) (rl rc : Nat) (z0 : Nat → Int × Int × Int) (a1 : Option Addr) (len1 cap1 : Nat) (z1 : Nat → A8) (W : World) (s0 : SlR W ra rl rc z0) (s1 : SlAc W a1 len1 cap1 z1) :
    Calls Try.prog 9 #[.agg #[.int .i64 xp, .int .i64 xq, .int .i64 xg, .int .i64 xs, .int .i64 xf, .int .i64 xd, .int .i64 xr, .slice ra rl rc], .slice a1 len1 cap1] W fun e w' => e = .returned (.bool true) ∧ Below W.heap.size W w' := by
  have HS1 := Lib.hid s1
  have hlm1 : len1 ≤ maxLen := Nat.le_trans s1.le s1.max
  have hmm := @run_makeMap Try.prog
  have hF0 := (Fr.refl [] W).alloc (.cells #[.int .i64 xp, .int .i64 xq, .int .i64 xg, .int .i64 xs, .int .i64 xf, .int .i64 xd, .int .i64 xr, .slice ra rl rc] 42)
  have hs5 : SlR (W.alloc (.cells #[.int .i64 xp, .int .i64 xq, .int .i64 xg, .int .i64 xs, .int .i64 xf, .int .i64 xd, .int .i64 xr, .slice ra rl rc] 42)) ra rl rc z0 := by
    obtain ⟨h1, h2, h3, h4⟩ := s0
    refine ⟨h1, h2, h3, fun hp => ?_⟩
    obtain ⟨b, off, e1, e2, e3⟩ := h4 hp
    refine ⟨b, off, e1, Nat.lt_of_lt_of_le e2 hF0.size, fun i hi => ?_⟩
    obtain ⟨k1, k2, k3⟩ := e3 i hi
    exact ⟨(hF0.cell (p := ⟨b, off + i * 3, none⟩) e2 (by simp)).trans k1, (hF0.cell (p := ⟨b, off + (i * 3 + 1), none⟩) e2 (by simp)).trans k2, (hF0.cell (p := ⟨b, off + (i * 3 + 2), none⟩) e2 (by simp)).trans k3⟩
  clear s0 s1
  have HF0 := Lib.hid hF0; have HS5 := Lib.hid hs5
  clear hF0 hs5
  go_enter Try.func9, Try.ntmps9
  go_wp2_with fail
  refine (config_any HS5.out).mono ?_; rintro e w2 ⟨c, l, tk, rfl, hc, hf5, hf94, hF2⟩
  have HF2 := Lib.hid (HF0.out.trans hF2 (by simp))
  have HC := Lib.hid hc
  dsimp only [CfV.v]
  clear hc hF2 HF0 HS5
  go_upto_region 2 with (fail)
  have hX := Blk.new w2 (cfgC c) 46
  have hF3 := (Fr.refl [] w2).alloc (.cells (cfgC c) 46)
  have hc3 := HC.out.fr hF3 (by simp) (by simp)
  have HF3 := Lib.hid (HF2.out.trans hF3 (by simp))
  obtain ⟨g, hg⟩ : ∃ g, w2.heap.size = g := ⟨_, rfl⟩
  rw [hg] at hX ⊢
  have hgs : W.heap.size ≤ g := by rw [← hg]; exact HF2.out.size
  clear hg hF3 HF2 HC
  dsimp only [cfgC] at hX hc3 HF3
  generalize w2.alloc (.cells #[.int .i64 c.pl, .int .i64 c.per, .int .i64 c.gr, .int .i64 c.st, .int .i64 c.fr, .int .i64 c.seed, .float .f64 c.rate, .float .f64 c.depth, .slice c.ra c.rl c.rc, .slice c.ta c.tl c.tc] 46) = w3 at *
  have x0 := Blk.cell (i := 0) hX rfl
  have x1 := Blk.cell (i := 1) hX rfl
  have x2 := Blk.cell (i := 2) hX rfl
  have x3 := Blk.cell (i := 3) hX rfl
  have x4 := Blk.cell (i := 4) hX rfl
  have x5 := Blk.cell (i := 5) hX rfl
  have x6 := Blk.cell (i := 6) hX rfl
  have x7 := Blk.cell (i := 7) hX rfl
  have x8 := Blk.cell (i := 8) hX rfl
  have x9 := Blk.cell (i := 9) hX rfl
  simp only [List.getElem_toArray, List.getElem_cons_zero, List.getElem_cons_succ] at x0 x1 x2 x3 x4 x5 x6 x7 x8 x9
  have hnew := lnew_s hc3
  dsimp only [CfV.v] at hnew
  have HNEW := Lib.hid hnew; have HX := Lib.hid hX; have HC3 := Lib.hid hc3
  clear hnew hX hc3
  go_wp2_with fail
  refine HNEW.out.mono ?_; rintro e w4 ⟨B, M, rfl, hl4, hF4⟩
  have HL4 := Lib.hid hl4.there
  have HF4 := Lib.hid hF4
  have HX4 := Lib.hid (hF4.blk HX.out (by simp))
  have HC4 := Lib.hid (HC3.out.fr hF4 (by simp) (by simp))
  have hg3 := HX.out.lt
  clear x0 x1 x2 x3 x4 x5 x6 x7 x8 x9 hl4 hF4
  go_wp2_with fail
  refine (lknown_any _).mono ?_; rintro e w6 ⟨rfl, hF6⟩
  have hX6 := hF6.blk HX4.out (by simp)
  have hnr := rnew_any (HC4.out.fr hF6 (by simp) (by simp))
  dsimp only [CfV.v] at hnr
  have x0 := Blk.cell (i := 0) hX6 rfl
  have x1 := Blk.cell (i := 1) hX6 rfl
  have x2 := Blk.cell (i := 2) hX6 rfl
  have x3 := Blk.cell (i := 3) hX6 rfl
  have x4 := Blk.cell (i := 4) hX6 rfl
  have x5 := Blk.cell (i := 5) hX6 rfl
  have x6 := Blk.cell (i := 6) hX6 rfl
  have x7 := Blk.cell (i := 7) hX6 rfl
  have x8 := Blk.cell (i := 8) hX6 rfl
  have x9 := Blk.cell (i := 9) hX6 rfl
  simp only [List.getElem_toArray, List.getElem_cons_zero, List.getElem_cons_succ] at x0 x1 x2 x3 x4 x5 x6 x7 x8 x9
  have HNR := Lib.hid hnr; have HX6 := Lib.hid hX6; have HF6 := Lib.hid hF6
  clear hnr hX6 hF6
  go_wp2_with fail
  refine HNR.out.mono ?_; rintro e w7 ⟨BR, MR, rfl, hr7, hF7⟩
  have hSa : Sa W w7 (fun x => x = g) g c B M BR MR [] [] 0 (fun _ _ => c0) (fun _ _ => c0) := by
    have h3 := HF3.out.size
    have h4 := HF4.out.size
    have h6 := HF6.out.size
    have h7 := hF7.size
    have h47 : Fr [] w4 w7 := HF6.out.trans hF7 (by simp)
    refine ⟨⟨⟨_, _, HL4.out.fr h47 (by simp), ⟨_, 0, hr7.there, Nat.le_refl _, rfl⟩, fun x h1 h2 => ?_, fun x h1 => ⟨?_, ?_, ?_⟩, fun x h1 => ⟨?_, ?_, h1.2⟩⟩, (HF3.out.trans HF4.out (by simp)).trans h47 (by simp), fun x hx => ?_⟩, h47.blk HX4.out (by simp), rfl, ⟨rfl, fun _ _ => rfl⟩⟩
    · have := h1.2; have := h2.1; omega
    · have := h1.1; omega
    · have := h1.1; have := h1.2; omega
    · have := h1.2; omega
    · have := h1.1; omega
    · have := h1.1; omega
    · have : x = g := hx; omega
  have HSA := Lib.hid hSa
  have hN := HL4.out.cf
  have hpl1 := hN.pl1
  have hpl8 := hN.pl8
  have hfr6 := hN.fr6
  clear hSa hN hr7 hF7 HL4 HF4 HX4 HX HF3 HC3 HC4 HNEW HNR HX6 HF6 hg3 x0 x1 x2 x3 x4 x5 x6 x7 x8 x9
  go_wp2_with fail
  go_loopw [9, 10] (fun tv iv wr => ∃ (i tick : Nat) (rows rowsR : List (Nat × Row)) (R RI : Int → Row), iv = .int .i64 i ∧ i ≤ len1 ∧ i ≤ 70 ∧ tv = .int .i64 tick ∧ tick ≤ 4 * i ∧ Sa W wr (fun x => x = g) g c B M BR MR rows rowsR (2 * i) R RI) (fun _ iv _ => 71 - (intOf iv).toNat)
  case atStart => exact ⟨0, 0, _, _, _, _, rfl, Nat.zero_le _, Nat.zero_le _, rfl, Nat.zero_le _, HSA.out⟩
  case round =>
    clear HSA
    obtain ⟨i, tick, rows, rowsR, R, RI, rfl, hi1, hi70, rfl, htk, hSa⟩ := hrel
    have HSA := Lib.hid hSa
    clear hSa
    by_cases q : i < len1 ∧ i < 70
    case neg =>
      as_aux_lemma =>
        have hD : Fr [] wr wr.drew := (Fr.refl [] wr).drew
        have hSaD := HSA.out.fr0 hD
        obtain ⟨PR, tkr, cntr, hrl, -⟩ := hSaD.ac.ref
        obtain ⟨rv, r1, r2, r3⟩ := hrl.blk
        obtain ⟨va, vc, rfl, -, -⟩ := own_val r2
        obtain ⟨L, hL⟩ : ∃ L, rowsR.length = L := ⟨_, rfl⟩
        have hL1 : rows.length = L := by rw [HSA.out.eqv.len]; exact hL
        have hL6 : L ≤ c.fr := by rw [← hL]; exact hrl.len
        rw [hL] at r1
        have d10 := Blk.cell (i := 10) r1 rfl
        simp only [logCells, List.getElem_toArray, List.getElem_cons_zero, List.getElem_cons_succ] at d10
        have HRA := Lib.hid (rrows_at hrl r1 hL)
        obtain ⟨PL, hlog⟩ := hSaD.ac.log
        have hrw := rows_s hlog 0 600
        rw [show nRows 0 600 rows.length = L by rw [hL1]; unfold nRows; rw [if_pos (by decide)]; omega] at hrw
        have HRW := Lib.hid hrw; have HD := Lib.hid hD
        have hd10 : wr.drew.cell? ⟨BR, 10, none⟩ = some (.slice va L vc) := d10
        clear hSaD hrl r1 r2 r3 hL hL1 hrw hlog d10 hD
        by_cases qx : i < len1
        case' pos => have qx2 : ¬ (i : Int) < 70 := by omega
        case' pos => have qx1 : (i : Int) < len1 := by omega
        case' neg => have qx1 : ¬ (i : Int) < len1 := by omega
        all_goals
          clear q qx
          go_wp2_with fail
          refine wp_region_M 7 (fun w' => w'.cell? ⟨BR, 10, none⟩ = some (.slice va L vc)) (by kernel_rfl) (hd10) (fun hS => ?_)
          try simp only [List.getElem_toArray, List.getElem_cons_succ, List.getElem_cons_zero, Act.put, List.setIfInBounds_toArray, List.set_cons_zero, List.set_cons_succ]
          refine wpAnyM_take (i := 0) (v := ?_) rfl (by kernel_rfl) (by kernel_rfl) (by kernel_rfl) (by kernel_rfl) (fun _ _ _ h => h) (Or.inl ⟨by kernel_rfl, ?_⟩) hS ?_; rotate_left; (intro w hSw; obtain y1 := hSw; go_simp; try with_reducible rfl)
          try simp only [List.getElem_toArray, List.getElem_cons_succ, List.getElem_cons_zero, Act.put, List.setIfInBounds_toArray, List.set_cons_zero, List.set_cons_succ]
          refine wpAnyM_take (i := 2) (v := ?_) rfl (by kernel_rfl) (by kernel_rfl) (by kernel_rfl) (by kernel_rfl) (fun _ _ _ h => h) (Or.inl ⟨by kernel_rfl, ?_⟩) hS ?_; rotate_left; (intro w hSw; obtain y1 := hSw; go_simp; try with_reducible rfl)
          try simp only [List.getElem_toArray, List.getElem_cons_succ, List.getElem_cons_zero, Act.put, List.setIfInBounds_toArray, List.set_cons_zero, List.set_cons_succ]
          refine wpAnyM_take (i := 3) (v := ?_) rfl (by kernel_rfl) (by kernel_rfl) (by kernel_rfl) (by kernel_rfl) (fun _ _ _ h => h) (Or.inl ⟨by kernel_rfl, ?_⟩) hS ?_; rotate_left; (intro w hSw; obtain y1 := hSw; go_simp; try with_reducible rfl)
          try simp only [List.getElem_toArray, List.getElem_cons_succ, List.getElem_cons_zero, Act.put, List.setIfInBounds_toArray, List.set_cons_zero, List.set_cons_succ]
          refine wpAnyM_take (i := 4) (v := ?_) rfl (by kernel_rfl) (by kernel_rfl) (by kernel_rfl) (by kernel_rfl) (fun _ _ _ h => h) (Or.inl ⟨by kernel_rfl, ?_⟩) hS ?_; rotate_left; (intro w hSw; obtain y1 := hSw; go_simp; try with_reducible rfl)
          try simp only [List.getElem_toArray, List.getElem_cons_succ, List.getElem_cons_zero, Act.put, List.setIfInBounds_toArray, List.set_cons_zero, List.set_cons_succ]
          refine wpAnyM_take (i := 5) (v := ?_) rfl (by kernel_rfl) (by kernel_rfl) (by kernel_rfl) (by kernel_rfl) (fun _ _ _ h => h) (Or.inl ⟨by kernel_rfl, ?_⟩) hS ?_; rotate_left; (intro w hSw; obtain y1 := hSw; go_simp; try with_reducible rfl)
          try simp only [List.getElem_toArray, List.getElem_cons_succ, List.getElem_cons_zero, Act.put, List.setIfInBounds_toArray, List.set_cons_zero, List.set_cons_succ]
          refine wpAnyM_one (i := 1) (by kernel_rfl) rfl (fun KK hK => ?_)
          go_simp
          refine HRW.out.mono ?_; rintro e w3 ⟨v, rfl, hV, hF3⟩
          have hV2 := hV.at (by omega)
          have hO2 := HRA.out.fr (by omega) hF3
          have hS2 : w3.cell? ⟨BR, 10, none⟩ = some (.slice va L vc) := (hF3.cell (cell_lt hd10) (by simp)).trans hd10
          have e2 : (fun i => (rows.getD ((0 : Int).toNat + i) (0, fun _ => c0)).2) = rowAt rowsR := by
            funext i
            rw [← HSA.out.eqv.at i]; unfold rowAt; simp
          rw [e2] at hV2
          have HV2 := Lib.hid hV2; have HO2 := Lib.hid hO2; have HF3 := Lib.hid (HD.out.trans hF3 (by simp))
          clear hV hV2 hO2 hF3 e2
          refine hK.out _ _ (fun _ => hS2) (fun _ => ?_); clear hK KK; have hS := hS2; clear hS2
          try simp only [List.getElem_toArray, List.getElem_cons_succ, List.getElem_cons_zero, Act.put, List.setIfInBounds_toArray, List.set_cons_zero, List.set_cons_succ]
          refine wpAnyM_one (i := 6) (by kernel_rfl) rfl (fun KK hK => ?_)
          go_simp
          refine (same_s HV2.out HO2.out (by omega)).mono ?_; rintro e w4 ⟨rfl, hF4⟩
          have hS2 : w4.cell? ⟨BR, 10, none⟩ = some (.slice va L vc) := (hF4.cell (cell_lt hS) (by simp)).trans hS
          have HF4 := Lib.hid (HF3.out.trans hF4 (by simp))
          clear hF4
          refine hK.out _ _ (fun _ => hS2) (fun _ => ?_); clear hK KK; have hS := hS2; clear hS2
          
          try simp only [List.getElem_toArray, List.getElem_cons_succ, List.getElem_cons_zero, Act.put, List.setIfInBounds_toArray, List.set_cons_zero, List.set_cons_succ]
          refine wpAnyM_one (i := 7) (by kernel_rfl) rfl (fun KK hK => ?_)
          go_simp
          refine hK.out _ _ (fun h => absurd h (by decide)) (fun _ => ?_); clear hK KK
          try simp only [List.getElem_toArray, List.getElem_cons_succ, List.getElem_cons_zero, Act.put, List.setIfInBounds_toArray, List.set_cons_zero, List.set_cons_succ]
          refine wpAnyM_done (by kernel_rfl) ?_ _
          try simp only [List.getElem_toArray, List.getElem_cons_succ, List.getElem_cons_zero, Act.put, List.setIfInBounds_toArray, List.set_cons_zero, List.set_cons_succ]
          clear hS
          go_wp2_with fail
          go_ret
          exact ⟨rfl, (HSA.out.ac.fr.trans HF4.out (by simp)).below (Nat.le_refl _) (by simp)⟩
    case pos =>
      obtain ⟨q1, q2⟩ := q
      have q1' : (i : Int) < len1 := by omega
      have q2' : (i : Int) < 70 := by omega
      obtain ⟨ba, off, rfl, hba, k0, k1, k2, k3, k4, k5, k6, k7⟩ := (HS1.out.fr (fun b hb => HSA.out.ac.fr.block b hb (by simp)) HSA.out.ac.fr.size).get q1
      obtain ⟨⟨zw, zs, zf, zn, zm, zb, zx, zy⟩, hz⟩ : ∃ z, z1 i = z := ⟨_, rfl⟩
      rw [hz] at k0 k1 k2 k3 k4 k5 k6 k7
      dsimp only at k0 k1 k2 k3 k4 k5 k6 k7
      clear hz hba
      go_upto_region 11 with (fail)
      have hSa1 := HSA.out.new (.cells #[.int .i64 zw, .int .i64 zs, .int .i64 zf, .int .i64 zn, .int .i64 zm, .int .i64 zb, .int .i64 zx, .int .i64 zy] 60)
      have hBX := Blk.new wr #[.int .i64 zw, .int .i64 zs, .int .i64 zf, .int .i64 zn, .int .i64 zm, .int .i64 zb, .int .i64 zx, .int .i64 zy] 60
      clear HSA k0 k1 k2 k3 k4 k5 k6 k7
      generalize wr.alloc (.cells #[.int .i64 zw, .int .i64 zs, .int .i64 zf, .int .i64 zn, .int .i64 zm, .int .i64 zb, .int .i64 zx, .int .i64 zy] 60) = w1 at *
      generalize wr.heap.size = bx at *
      have a0 := Blk.cell (i := 0) hBX rfl
      have a1 := Blk.cell (i := 1) hBX rfl
      have a2 := Blk.cell (i := 2) hBX rfl
      have a3 := Blk.cell (i := 3) hBX rfl
      have a4 := Blk.cell (i := 4) hBX rfl
      have a5 := Blk.cell (i := 5) hBX rfl
      have a6 := Blk.cell (i := 6) hBX rfl
      have a7 := Blk.cell (i := 7) hBX rfl
      have g0 := Blk.cell (i := 0) hSa1.cfg rfl
      have g4 := Blk.cell (i := 4) hSa1.cfg rfl
      simp only [cfgC, List.getElem_toArray, List.getElem_cons_zero, List.getElem_cons_succ] at a0 a1 a2 a3 a4 a5 a6 a7 g0 g4
      have HSA := Lib.hid hSa1; have HBX := Lib.hid hBX
      clear hSa1 hBX
      go_upto_if 53 with (fail)
      go_cut [9] (fun tv wc => ∃ (tick : Nat) (rows rowsR : List (Nat × Row)) (R RI : Int → Row), tv = .int .i64 tick ∧ tick ≤ 4 * (i + 1) ∧ Sa W wc (fun x => x = g ∨ x = bx) g c B M BR MR rows rowsR (2 * (i + 1)) R RI ∧ Blk wc bx #[.int .i64 zw, .int .i64 zs, .int .i64 zf, .int .i64 zn, .int .i64 zm, .int .i64 zb, .int .i64 zx, .int .i64 zy] 60)
      case first =>
        by_cases hc : zw.tmod 4 = 3
        case pos =>
          have hc1 : (zw.tmod 4 == 3) = true := by simp [hc]
          clear hc
          as_aux_lemma =>
            go_wp2_with fail
            refine (pick_any _ _ _ (by decide) (by decide)).mono ?_; rintro e w' ⟨rfl, rfl⟩
            obtain ⟨d, hd⟩ : ∃ d : Nat, zn % 5 = d := ⟨(zn % 5).toNat, by omega⟩
            have hd4 : d ≤ 4 := by omega
            rw [hd]; clear hd
            go_upto_region 13 with (fail)
            obtain ⟨tk2, htk2⟩ : ∃ q : Nat, tick + d = q := ⟨_, rfl⟩
            rw [show (tick : Int) + (d : Int) = (tk2 : Int) by omega]
            have htk3 : tk2 ≤ 4 * (i + 1) := by omega
            clear htk2 hd4
            go_upto_if 63 with (fail)
            go_cut [12] (fun fv wc => ∃ t : Int, fv = .int .i64 t ∧ w1 = wc)
            case first =>
              by_cases hc : zn.tmod 41 = 40
              · have hc2 : (zn.tmod 41 == 40) = true := by simp [hc]
                go_wp2_with fail
                go_meet
                case rel => exact ⟨zm, rfl, rfl⟩
              · have hc2 : (zn.tmod 41 == 40) = false := by simp [hc]
                go_wp2_with fail
                go_meet
                case rel => exact ⟨tk2, rfl, rfl⟩
            case rest =>
              obtain ⟨t, rfl, rfl⟩ := hcut
              go_wp2_with fail
              refine (HSA.out.ac.tick1 t).mono ?_; rintro e w2 ⟨r1, rfl, ⟨hA2, hK2⟩, g1, d1, e1, l1⟩
              have HA2 := Lib.hid hA2; have HK2 := Lib.hid hK2; have HG1 := Lib.hid g1; have HD1 := Lib.hid d1; have HE1 := Lib.hid e1; have HL1 := Lib.hid l1
              clear hA2 hK2 g1 d1 e1 l1 a0 a1 a2 a3 a4 a5 a6 a7 g0 g4
              go_wp2_with fail
              refine (HA2.out.tick2 t).mono ?_; rintro e w3 ⟨r2, rfl, ⟨hA3, hK3⟩, g2, d2, e2, l2⟩
              obtain ⟨hn, hE⟩ := HSA.out.eqv.tick HG1.out g2 HD1.out d2 HE1.out e2 HL1.out l2
              have hB3 := hK3.blk (HK2.out.blk HBX.out (.inr rfl)) (.inr rfl)
              have hC3 := hK3.blk (HK2.out.blk HSA.out.cfg (.inl rfl)) (.inl rfl)
              have HSX := Lib.hid (Sa.mk (hA3.more (n' := 2 * (i + 1)) (by omega)) hC3 (.inl rfl) hE); have HB3 := Lib.hid hB3
              rw [hn]
              clear hA3 hK3 g2 d2 e2 l2 hn hE hB3 hC3
              go_wp2_with fail
              go_meet
              case rel => exact ⟨tk2, _, _, _, _, rfl, htk3, HSX.out, HB3.out⟩
        case neg =>
          have hc1 : (zw.tmod 4 == 3) = false := by simp [hc]
          clear hc
          as_aux_lemma =>
            go_wp2_with fail
            refine (pick_any _ _ _ (by omega) (by omega)).mono ?_; rintro e w' ⟨rfl, rfl⟩
            obtain ⟨sx, hsx⟩ : ∃ sx : Int, zs % (c.pl : Int) = sx := ⟨_, rfl⟩
            rw [hsx]; clear hsx
            obtain ⟨PR, tkr, cntr, hrl, -⟩ := HSA.out.ac.ref
            obtain ⟨rv, r1, r2, r3⟩ := hrl.blk
            obtain ⟨rva, rvc, rfl, -, -⟩ := own_val r2
            have d10 := Blk.cell (i := 10) r1 rfl
            simp only [logCells, List.getElem_toArray, List.getElem_cons_zero, List.getElem_cons_succ] at d10
            obtain ⟨L, hL⟩ : ∃ L, rowsR.length = L := ⟨_, rfl⟩
            have hL6 : L ≤ c.fr := by rw [← hL]; exact hrl.len
            have hlm : L ≤ maxLen := by unfold maxLen; omega
            rw [hL] at d10
            obtain ⟨d, hd⟩ : ∃ d : Nat, zf % 70 = d := ⟨(zf % 70).toNat, by omega⟩
            have hd70 : d < 70 := by omega
            have hpk : ∀ j, Calls Try.prog 18 #[.int .i64 zf, .int .i64 70] (w1.drewN j) fun e w' => e = .returned (.int .i64 d) ∧ w' = w1.drewN j := fun j => by
              rw [← hd]
              exact (pick_any zf 70 (w1.drewN j) (by decide) (by decide)).mono fun e w' h => ⟨h.1, h.2.symm⟩
            have HPK := Lib.hid hpk
            clear hpk hd hL hrl r1 r2 r3
            go_wp2_with fail
            go_quiet (first | (go_at_call 18; exact Calls.quiet_of_same (HPK.out _)))
            go_upto_region 20 with (fail)
            obtain ⟨fx, hfx⟩ : ∃ fx : Int, (L : Int) + d - 3 = fx := ⟨_, rfl⟩
            rw [hfx]
            clear hfx hd70 HPK d10
            have hX := (Fr.refl [] w1).drewN nq
            have HSA2 := Lib.hid (HSA.out.fr0 hX); have HBX2 := Lib.hid (hX.blk HBX.out (by simp))
            clear hX a0 a1 a2 a3 a4 a5 a6 a7 g0 g4 HSA HBX
            generalize w1.drewN nq = w2 at *
            have a3 := Blk.cell (i := 3) HBX2.out rfl
            have a4 := Blk.cell (i := 4) HBX2.out rfl
            simp only [List.getElem_toArray, List.getElem_cons_zero, List.getElem_cons_succ] at a3 a4
            go_wp2_with fail
            refine (input_any _ _ _).mono ?_; rintro e w3 ⟨ib, ix, iy, rfl, -, hF3⟩
            go_upto_region 21 with (fail)
            have hSa3 := (HSA2.out.fr0 hF3).new (.cells #[.int .i64 ib, .int .i64 ix, .int .i64 iy] 58)
            have hBY := Blk.new w3 #[.int .i64 ib, .int .i64 ix, .int .i64 iy] 58
            have hBX3 := ((Fr.refl [] w3).alloc (.cells #[.int .i64 ib, .int .i64 ix, .int .i64 iy] 58)).blk (hF3.blk HBX2.out (by simp)) (by simp)
            have hbW : W.heap.size ≤ w3.heap.size := Nat.le_trans HSA2.out.ac.fr.size hF3.size
            have hgY : g ≠ w3.heap.size := by have := (hF3.blk HSA2.out.cfg (by simp)).lt; omega
            have hxY : bx ≠ w3.heap.size := by have := (hF3.blk HBX2.out (by simp)).lt; omega
            clear HSA2 HBX2 hF3 a3 a4
            generalize w3.alloc (.cells #[.int .i64 ib, .int .i64 ix, .int .i64 iy] 58) = w4 at *
            generalize w3.heap.size = bY at *
            have a0 := Blk.cell (i := 0) hBX3 rfl
            have a5 := Blk.cell (i := 5) hBX3 rfl
            have a6 := Blk.cell (i := 6) hBX3 rfl
            have a7 := Blk.cell (i := 7) hBX3 rfl
            have b0 := Blk.cell (i := 0) hBY rfl
            have b1 := Blk.cell (i := 1) hBY rfl
            have b2 := Blk.cell (i := 2) hBY rfl
            have fz0 := Blk.free hBY 0
            have fz1 := Blk.free hBY 1
            have fz2 := Blk.free hBY 2
            simp only [List.getElem_toArray, List.getElem_cons_zero, List.getElem_cons_succ] at a0 a5 a6 a7 b0 b1 b2
            have HSA := Lib.hid hSa3; have HBY := Lib.hid hBY; have HBX := Lib.hid hBX3
            clear hSa3 hBY hBX3
            go_upto_if 96 with (fail)
            go_cut [15] (fun bv wc => bv = .pointer (some ⟨bY, 0, none⟩) ∧ ∃ ib ix iy : Int, Blk wc bY #[.int .i64 ib, .int .i64 ix, .int .i64 iy] 58 ∧ Sa W wc (fun x => (x = g ∨ x = bx) ∨ x = bY) g c B M BR MR rows rowsR (2 * i) R RI ∧ Blk wc bx #[.int .i64 zw, .int .i64 zs, .int .i64 zf, .int .i64 zn, .int .i64 zm, .int .i64 zb, .int .i64 zx, .int .i64 zy] 60)
            case first =>
              by_cases hc : zw.tmod 37 = 36
              · have hc2 : (zw.tmod 37 == 36) = true := by simp [hc]
                go_wp2_with fail
                go_meet
                case rel =>
                  have hF : Fr [bY] w4 (((w4.setCell ⟨bY, 0, none⟩ (.int .i64 zb)).setCell ⟨bY, 1, none⟩ (.int .i64 zx)).setCell ⟨bY, 2, none⟩ (.int .i64 zy)) := (((Fr.refl [bY] w4).setCell (.inl (by simp)) _).setCell (.inl (by simp)) _).setCell (.inl (by simp)) _
                  have hKS : ∀ x ∈ [bY], ((x = g ∨ x = bx) ∨ x = bY) ∧ W.heap.size ≤ x := fun x hx => by
                    have e : x = bY := by simpa using hx
                    rw [e]; exact ⟨.inr rfl, hbW⟩
                  exact ⟨rfl, zb, zx, zy, by have := ((HBY.out.set 0 (.int .i64 zb)).set 1 (.int .i64 zx)).set 2 (.int .i64 zy); simpa using this, HSA.out.frK hF hKS (by simpa using hgY), hF.blk HBX.out (by simpa using hxY)⟩
              · have hc2 : (zw.tmod 37 == 36) = false := by simp [hc]
                go_wp2_with fail
                go_meet
                case rel => exact ⟨rfl, ib, ix, iy, HBY.out, HSA.out, HBX.out⟩
            case rest =>
              clear HSA HBX HBY a0 a5 a6 a7 b0 b1 b2 fz0 fz1 fz2
              obtain ⟨rfl, jb, jx, jy, hBY, hSa, hBX⟩ := hcut
              have a0 := Blk.cell (i := 0) hBX rfl
              have a1 := Blk.cell (i := 1) hBX rfl
              have a2 := Blk.cell (i := 2) hBX rfl
              simp only [List.getElem_toArray, List.getElem_cons_zero, List.getElem_cons_succ] at a0 a1 a2
              have HSA := Lib.hid hSa; have HBY := Lib.hid hBY; have HBX := Lib.hid hBX
              clear hSa hBY hBX
              go_upto_if 102 with (fail)
              go_cut [13] (fun fv w' => ∃ t : Int, fv = .int .i64 t ∧ wc = w')
              case first =>
                by_cases hc : zw.tmod 41 = 40
                · have hc2 : (zw.tmod 41 == 40) = true := by simp [hc]
                  go_wp2_with fail
                  go_meet
                  case rel => exact ⟨zs, rfl, rfl⟩
                · have hc2 : (zw.tmod 41 == 40) = false := by simp [hc]
                  go_wp2_with fail
                  go_meet
                  case rel => exact ⟨sx, rfl, rfl⟩
              case rest =>
                obtain ⟨sl, rfl, rfl⟩ := hcut
                go_upto_if 108 with (fail)
                go_cut [14] (fun fv w' => ∃ t : Int, fv = .int .i64 t ∧ wc = w')
                case first =>
                  by_cases hc : zw.tmod 43 = 42
                  · have hc2 : (zw.tmod 43 == 42) = true := by simp [hc]
                    go_wp2_with fail
                    go_meet
                    case rel => exact ⟨zf, rfl, rfl⟩
                  · have hc2 : (zw.tmod 43 == 42) = false := by simp [hc]
                    go_wp2_with fail
                    go_meet
                    case rel => exact ⟨fx, rfl, rfl⟩
                case rest =>
                  obtain ⟨fl, rfl, rfl⟩ := hcut
                  have b0 := Blk.cell (i := 0) HBY.out rfl
                  have b1 := Blk.cell (i := 1) HBY.out rfl
                  have b2 := Blk.cell (i := 2) HBY.out rfl
                  simp only [List.getElem_toArray, List.getElem_cons_zero, List.getElem_cons_succ] at b0 b1 b2
                  have hD : Fr [] wc wc.drew := (Fr.refl [] wc).drew
                  have HSD := Lib.hid (HSA.out.fr0 hD)
                  obtain ⟨kc, hkc⟩ : ∃ k, offerK c.pl c.fr rows.length R sl fl jb jx jy = k := ⟨_, rfl⟩
                  have HKC := Lib.hid hkc
                  clear hkc a0 a1 a2 hD
                  go_wp2_with fail
                  refine wp_region_M 11 (fun w' => w'.cell? ⟨bY, 0, none⟩ = some (.int .i64 jb) ∧ w'.cell? ⟨bY, 1, none⟩ = some (.int .i64 jx) ∧ w'.cell? ⟨bY, 2, none⟩ = some (.int .i64 jy)) (by kernel_rfl) (⟨b0, b1, b2⟩) (fun hS => ?_)
                  try simp only [List.getElem_toArray, List.getElem_cons_succ, List.getElem_cons_zero, Act.put, List.setIfInBounds_toArray, List.set_cons_zero, List.set_cons_succ]
                  refine wpAnyM_take (i := 0) (v := ?_) rfl (by kernel_rfl) (by kernel_rfl) (by kernel_rfl) (by kernel_rfl) (fun _ _ _ h => h) (Or.inl ⟨by kernel_rfl, ?_⟩) hS ?_; rotate_left; (intro w hSw; obtain ⟨y0, y1, y2⟩ := hSw; go_simp; try with_reducible rfl)
                  try simp only [List.getElem_toArray, List.getElem_cons_succ, List.getElem_cons_zero, Act.put, List.setIfInBounds_toArray, List.set_cons_zero, List.set_cons_succ]
                  refine wpAnyM_take (i := 1) (v := ?_) rfl (by kernel_rfl) (by kernel_rfl) (by kernel_rfl) (by kernel_rfl) (fun _ _ _ h => h) (Or.inl ⟨by kernel_rfl, ?_⟩) hS ?_; rotate_left; (intro w hSw; obtain ⟨y0, y1, y2⟩ := hSw; go_simp; try with_reducible rfl)
                  try simp only [List.getElem_toArray, List.getElem_cons_succ, List.getElem_cons_zero, Act.put, List.setIfInBounds_toArray, List.set_cons_zero, List.set_cons_succ]
                  refine wpAnyM_take (i := 2) (v := ?_) rfl (by kernel_rfl) (by kernel_rfl) (by kernel_rfl) (by kernel_rfl) (fun _ _ _ h => h) (Or.inl ⟨by kernel_rfl, ?_⟩) hS ?_; rotate_left; (intro w hSw; obtain ⟨y0, y1, y2⟩ := hSw; go_simp; try with_reducible rfl)
                  try simp only [List.getElem_toArray, List.getElem_cons_succ, List.getElem_cons_zero, Act.put, List.setIfInBounds_toArray, List.set_cons_zero, List.set_cons_succ]
                  refine wpAnyM_take (i := 3) (v := ?_) rfl (by kernel_rfl) (by kernel_rfl) (by kernel_rfl) (by kernel_rfl) (fun _ _ _ h => h) (Or.inl ⟨by kernel_rfl, ?_⟩) hS ?_; rotate_left; (intro w hSw; obtain ⟨y0, y1, y2⟩ := hSw; go_simp; try with_reducible rfl)
                  try simp only [List.getElem_toArray, List.getElem_cons_succ, List.getElem_cons_zero, Act.put, List.setIfInBounds_toArray, List.set_cons_zero, List.set_cons_succ]
                  refine wpAnyM_take (i := 5) (v := ?_) rfl (by kernel_rfl) (by kernel_rfl) (by kernel_rfl) (by kernel_rfl) (fun _ _ _ h => h) (Or.inl ⟨by kernel_rfl, ?_⟩) hS ?_; rotate_left; (intro w hSw; obtain ⟨y0, y1, y2⟩ := hSw; go_simp; try with_reducible rfl)
                  try simp only [List.getElem_toArray, List.getElem_cons_succ, List.getElem_cons_zero, Act.put, List.setIfInBounds_toArray, List.set_cons_zero, List.set_cons_succ]
                  refine wpAnyM_take (i := 6) (v := ?_) rfl (by kernel_rfl) (by kernel_rfl) (by kernel_rfl) (by kernel_rfl) (fun _ _ _ h => h) (Or.inl ⟨by kernel_rfl, ?_⟩) hS ?_; rotate_left; (intro w hSw; obtain ⟨y0, y1, y2⟩ := hSw; go_simp; try with_reducible rfl)
                  try simp only [List.getElem_toArray, List.getElem_cons_succ, List.getElem_cons_zero, Act.put, List.setIfInBounds_toArray, List.set_cons_zero, List.set_cons_succ]
                  refine wpAnyM_take (i := 7) (v := ?_) rfl (by kernel_rfl) (by kernel_rfl) (by kernel_rfl) (by kernel_rfl) (fun _ _ _ h => h) (Or.inl ⟨by kernel_rfl, ?_⟩) hS ?_; rotate_left; (intro w hSw; obtain ⟨y0, y1, y2⟩ := hSw; go_simp; try with_reducible rfl)
                  try simp only [List.getElem_toArray, List.getElem_cons_succ, List.getElem_cons_zero, Act.put, List.setIfInBounds_toArray, List.set_cons_zero, List.set_cons_succ]
                  refine wpAnyM_take (i := 8) (v := ?_) rfl (by kernel_rfl) (by kernel_rfl) (by kernel_rfl) (by kernel_rfl) (fun _ _ _ h => h) (Or.inl ⟨by kernel_rfl, ?_⟩) hS ?_; rotate_left; (intro w hSw; obtain ⟨y0, y1, y2⟩ := hSw; go_simp; try with_reducible rfl)
                  try simp only [List.getElem_toArray, List.getElem_cons_succ, List.getElem_cons_zero, Act.put, List.setIfInBounds_toArray, List.set_cons_zero, List.set_cons_succ]
                  refine wpAnyM_one (i := 4) (by kernel_rfl) rfl (fun KK hK => ?_)
                  go_simp
                  refine (HSD.out.ac.off1 (by omega) sl fl jb jx jy).mono ?_; rintro e w5 ⟨rfl, hA5, hK5⟩
                  have hB5 := hK5.blk (Blk.drew HBY.out) (.inr rfl)
                  have hS2 : w5.cell? ⟨bY, 0, none⟩ = some (.int .i64 jb) ∧ w5.cell? ⟨bY, 1, none⟩ = some (.int .i64 jx) ∧ w5.cell? ⟨bY, 2, none⟩ = some (.int .i64 jy) := ⟨Blk.cell (i := 0) hB5 rfl, Blk.cell (i := 1) hB5 rfl, Blk.cell (i := 2) hB5 rfl⟩
                  have HA5 := Lib.hid hA5; have HK5 := Lib.hid hK5
                  clear hA5 hK5 hB5
                  rw [HKC.out]
                  refine hK.out _ _ (fun _ => hS2) (fun _ => ?_); clear hK KK; have hS := hS2; clear hS2
                  try simp only [List.getElem_toArray, List.getElem_cons_succ, List.getElem_cons_zero, Act.put, List.setIfInBounds_toArray, List.set_cons_zero, List.set_cons_succ]
                  refine wpAnyM_one (i := 9) (by kernel_rfl) rfl (fun KK hK => ?_)
                  go_simp
                  refine (HA5.out.off2 (by omega) sl fl jb jx jy).mono ?_; rintro e w6 ⟨rfl, hA6, hK6⟩
                  have hSB := Sa.mk (hA6.more (n' := 2 * (i + 1)) (by omega)) (hK6.blk (HK5.out.blk (Blk.drew HSA.out.cfg) (.inl (.inl rfl))) (.inl (.inl rfl))) (.inl (.inl rfl)) HSA.out.eqv.off
                  have hB6 := hK6.blk (HK5.out.blk (Blk.drew HBY.out) (.inr rfl)) (.inr rfl)
                  have hS2 : w6.cell? ⟨bY, 0, none⟩ = some (.int .i64 jb) ∧ w6.cell? ⟨bY, 1, none⟩ = some (.int .i64 jx) ∧ w6.cell? ⟨bY, 2, none⟩ = some (.int .i64 jy) := ⟨Blk.cell (i := 0) hB6 rfl, Blk.cell (i := 1) hB6 rfl, Blk.cell (i := 2) hB6 rfl⟩
                  have hXB := hK6.blk (HK5.out.blk (Blk.drew HBX.out) (.inl (.inr rfl))) (.inl (.inr rfl))
                  rw [← HSA.out.eqv.offK, HKC.out]
                  have HSB := Lib.hid hSB; have HXB := Lib.hid hXB
                  clear hA6 hK6 hSB hXB hB6
                  refine hK.out _ _ (fun _ => hS2) (fun _ => ?_); clear hK KK; have hS := hS2; clear hS2
                  try simp only [List.getElem_toArray, List.getElem_cons_succ, List.getElem_cons_zero, Act.put, List.setIfInBounds_toArray, List.set_cons_zero, List.set_cons_succ]
                  refine wpAnyM_take (i := 10) (v := .bool false) rfl (by kernel_rfl) (by kernel_rfl) (by kernel_rfl) (by kernel_rfl) (fun _ _ _ h => h) (Or.inl ⟨by kernel_rfl, ?_⟩) hS ?_; (intro w hSw; (focus (go_simp; first | done | omega | with_reducible rfl)))
                  try simp only [List.getElem_toArray, List.getElem_cons_succ, List.getElem_cons_zero, Act.put, List.setIfInBounds_toArray, List.set_cons_zero, List.set_cons_succ]
                  refine wpAnyM_done (by kernel_rfl) ?_ _
                  try simp only [List.getElem_toArray, List.getElem_cons_succ, List.getElem_cons_zero, Act.put, List.setIfInBounds_toArray, List.set_cons_zero, List.set_cons_succ]
                  clear hS
                  go_wp2_with fail
                  go_meet
                  case rel => exact ⟨tick, _, _, _, _, rfl, by omega, HSB.out.less (fun x hx => .inl hx) (.inl rfl), HXB.out⟩
      case rest =>
        clear a0 a1 a2 a3 a4 a5 a6 a7 g0 g4 HSA HBX
        obtain ⟨tick2, rows2, rowsR2, R2, RI2, rfl, htk2, hSa2, hBX2⟩ := hcut
        as_aux_lemma =>
          obtain ⟨va, vc, hSq⟩ := hSa2.sq (z := (zw, zs, zf, zn, zm, zb, zx, zy)) hBX2
          obtain ⟨L, hL⟩ : ∃ L, rows2.length = L := ⟨_, rfl⟩
          rw [hL] at hSq
          have a4 := Blk.cell (i := 4) hBX2 rfl
          simp only [List.getElem_toArray, List.getElem_cons_zero, List.getElem_cons_succ] at a4
          have hLf : L ≤ c.fr := by obtain ⟨PL, hl⟩ := hSa2.ac.log; rw [← hL]; exact hl.len
          have hlm : L ≤ maxLen := by unfold maxLen; omega
          have HSQ := Lib.hid hSq
          clear hSq hSa2 hBX2 hL
          go_wp2_with fail
          refine (pick_any _ _ _ (by decide) (by decide)).mono ?_; rintro e w' ⟨rfl, rfl⟩
          obtain ⟨d, hd⟩ : ∃ d : Nat, zm % 90 = d := ⟨(zm % 90).toNat, by omega⟩
          have hd90 : d < 90 := by omega
          rw [hd]; clear hd
          go_upto_region 30 with (fail)
          obtain ⟨fr0, hfr0⟩ : ∃ fr0 : Int, (d : Int) - 3 = fr0 := ⟨_, rfl⟩
          rw [hfr0]
          clear hfr0 hd90 a4
          have hD : Fr [] wc wc.drew := (Fr.refl [] wc).drew
          have hSqD := HSQ.out.go hD
          obtain ⟨NW, hNW⟩ : ∃ N, waitR R2 rows2.length c.pl = N := ⟨_, rfl⟩
          obtain ⟨eb, heb⟩ : ∃ b, decide (L = c.fr) = b := ⟨_, rfl⟩
          obtain ⟨D, hDl⟩ : ∃ D, (if 0 ≤ zf ∧ zf < c.fr then dl c zf else 0) = D := ⟨_, rfl⟩
          have HNW := Lib.hid hNW; have HEB := Lib.hid heb; have HDL := Lib.hid hDl
          have hebI : ((L : Int) == (c.fr : Int)) = eb := by rw [← heb, Bool.eq_iff_iff]; simp; omega
          have hebN : (L == c.fr) = eb := by rw [← heb, Bool.eq_iff_iff]; simp
          have HEI := Lib.hid hebI; have HEN := Lib.hid hebN
          clear hNW heb hDl hebI hebN hD
          refine wp_region_M 53 (fun w' => (w'.cell? ⟨BR, 10, none⟩ = some (.slice va L vc) ∧ w'.cell? ⟨g, 4, none⟩ = some (.int .i64 c.fr) ∧ w'.cell? ⟨bx, 2, none⟩ = some (.int .i64 zf) ∧ w'.cell? ⟨bx, 3, none⟩ = some (.int .i64 zn)) ∧ Sq W w' (fun x => x = g ∨ x = bx) g c B M BR MR rows2 rowsR2 (2 * (i + 1)) R2 RI2 va L vc bx (zw, zs, zf, zn, zm, zb, zx, zy)) (by kernel_rfl) (hSqD.s) (fun hS => ?_)
          try simp only [List.getElem_toArray, List.getElem_cons_succ, List.getElem_cons_zero, Act.put, List.setIfInBounds_toArray, List.set_cons_zero, List.set_cons_succ]
          refine wpAnyM_take (i := 0) (v := ?_) rfl (by kernel_rfl) (by kernel_rfl) (by kernel_rfl) (by kernel_rfl) (fun _ _ _ h => h) (Or.inl ⟨by kernel_rfl, ?_⟩) hS ?_; rotate_left; (intro w hSw; obtain ⟨⟨y1, y2, y3, y4⟩, ySq⟩ := hSw; go_simp; try with_reducible rfl)
          try simp only [List.getElem_toArray, List.getElem_cons_succ, List.getElem_cons_zero, Act.put, List.setIfInBounds_toArray, List.set_cons_zero, List.set_cons_succ]
          refine wpAnyM_call (i := 1) (v := .int .i64 (L : Int)) rfl rfl Try.func24 (by kernel_rfl) (by kernel_rfl) (by kernel_rfl) (by kernel_rfl) (by kernel_rfl) (by kernel_rfl) (fun _ _ _ h => h) (by kernel_rfl) (by kernel_rfl) (fun w hSw => hSw.2.len) hS ?_
          try simp only [List.getElem_toArray, List.getElem_cons_succ, List.getElem_cons_zero, Act.put, List.setIfInBounds_toArray, List.set_cons_zero, List.set_cons_succ]
          refine wpAnyM_take (i := 2) (v := ?_) rfl (by kernel_rfl) (by kernel_rfl) (by kernel_rfl) (by kernel_rfl) (fun _ _ _ h => h) (Or.inl ⟨by kernel_rfl, ?_⟩) hS ?_; rotate_left; (intro w hSw; obtain ⟨⟨y1, y2, y3, y4⟩, ySq⟩ := hSw; go_simp; try with_reducible rfl)
          try simp only [List.getElem_toArray, List.getElem_cons_succ, List.getElem_cons_zero, Act.put, List.setIfInBounds_toArray, List.set_cons_zero, List.set_cons_succ]
          refine wpAnyM_take (i := 3) (v := ?_) rfl (by kernel_rfl) (by kernel_rfl) (by kernel_rfl) (by kernel_rfl) (fun _ _ _ h => h) (Or.inl ⟨by kernel_rfl, ?_⟩) hS ?_; rotate_left; (intro w hSw; obtain ⟨⟨y1, y2, y3, y4⟩, ySq⟩ := hSw; go_simp; try with_reducible rfl)
          try simp only [List.getElem_toArray, List.getElem_cons_succ, List.getElem_cons_zero, Act.put, List.setIfInBounds_toArray, List.set_cons_zero, List.set_cons_succ]
          refine wpAnyM_take (i := 4) (v := ?_) rfl (by kernel_rfl) (by kernel_rfl) (by kernel_rfl) (by kernel_rfl) (fun _ _ _ h => h) (Or.inl ⟨by kernel_rfl, ?_⟩) hS ?_; rotate_left; (intro w hSw; obtain ⟨⟨y1, y2, y3, y4⟩, ySq⟩ := hSw; go_simp; try with_reducible rfl)
          try simp only [List.getElem_toArray, List.getElem_cons_succ, List.getElem_cons_zero, Act.put, List.setIfInBounds_toArray, List.set_cons_zero, List.set_cons_succ]
          refine wpAnyM_take (i := 5) (v := ?_) rfl (by kernel_rfl) (by kernel_rfl) (by kernel_rfl) (by kernel_rfl) (fun _ _ _ h => h) (Or.inl ⟨by kernel_rfl, ?_⟩) hS ?_; rotate_left; (intro w hSw; obtain ⟨⟨y1, y2, y3, y4⟩, ySq⟩ := hSw; go_simp; try with_reducible rfl)
          try simp only [List.getElem_toArray, List.getElem_cons_succ, List.getElem_cons_zero, Act.put, List.setIfInBounds_toArray, List.set_cons_zero, List.set_cons_succ]
          refine wpAnyM_take (i := 6) (v := ?_) rfl (by kernel_rfl) (by kernel_rfl) (by kernel_rfl) (by kernel_rfl) (fun _ _ _ h => h) (Or.inl ⟨by kernel_rfl, ?_⟩) hS ?_; rotate_left; (intro w hSw; obtain ⟨⟨y1, y2, y3, y4⟩, ySq⟩ := hSw; go_simp; try with_reducible rfl)
          try simp only [List.getElem_toArray, List.getElem_cons_succ, List.getElem_cons_zero, Act.put, List.setIfInBounds_toArray, List.set_cons_zero, List.set_cons_succ]
          refine wpAnyM_take (i := 7) (v := .bool false) rfl (by kernel_rfl) (by kernel_rfl) (by kernel_rfl) (by kernel_rfl) (fun _ _ _ h => h) (Or.inl ⟨by kernel_rfl, ?_⟩) hS ?_; (intro w hSw; (focus (go_simp; first | done | omega | with_reducible rfl)))
          try simp only [List.getElem_toArray, List.getElem_cons_succ, List.getElem_cons_zero, Act.put, List.setIfInBounds_toArray, List.set_cons_zero, List.set_cons_succ]
          refine wpAnyM_take (i := 8) (v := ?_) rfl (by kernel_rfl) (by kernel_rfl) (by kernel_rfl) (by kernel_rfl) (fun _ _ _ h => h) (Or.inl ⟨by kernel_rfl, ?_⟩) hS ?_; rotate_left; (intro w hSw; obtain ⟨⟨y1, y2, y3, y4⟩, ySq⟩ := hSw; go_simp; try with_reducible rfl)
          try simp only [List.getElem_toArray, List.getElem_cons_succ, List.getElem_cons_zero, Act.put, List.setIfInBounds_toArray, List.set_cons_zero, List.set_cons_succ]
          refine wpAnyM_take (i := 9) (v := ?_) rfl (by kernel_rfl) (by kernel_rfl) (by kernel_rfl) (by kernel_rfl) (fun _ _ _ h => h) (Or.inl ⟨by kernel_rfl, ?_⟩) hS ?_; rotate_left; (intro w hSw; obtain ⟨⟨y1, y2, y3, y4⟩, ySq⟩ := hSw; go_simp; try with_reducible rfl)
          try simp only [List.getElem_toArray, List.getElem_cons_succ, List.getElem_cons_zero, Act.put, List.setIfInBounds_toArray, List.set_cons_zero, List.set_cons_succ]
          refine wpAnyM_take (i := 11) (v := ?_) rfl (by kernel_rfl) (by kernel_rfl) (by kernel_rfl) (by kernel_rfl) (fun _ _ _ h => h) (Or.inl ⟨by kernel_rfl, ?_⟩) hS ?_; rotate_left; (intro w hSw; obtain ⟨⟨y1, y2, y3, y4⟩, ySq⟩ := hSw; go_simp; try with_reducible rfl)
          try simp only [List.getElem_toArray, List.getElem_cons_succ, List.getElem_cons_zero, Act.put, List.setIfInBounds_toArray, List.set_cons_zero, List.set_cons_succ]
          refine wpAnyM_one (i := 10) (by kernel_rfl) rfl (fun KK hK => ?_)
          go_simp
          refine (hS.2.wait1 HNW.out).mono ?_; rintro e w4 ⟨rfl, hF4⟩
          have hS2 := (hS.2.go hF4).s
          clear hF4
          refine hK.out _ _ (fun _ => hS2) (fun _ => ?_); clear hK KK; have hS := hS2; clear hS2
          try simp only [List.getElem_toArray, List.getElem_cons_succ, List.getElem_cons_zero, Act.put, List.setIfInBounds_toArray, List.set_cons_zero, List.set_cons_succ]
          refine wpAnyM_call (i := 12) (v := .int .i64 (NW : Int)) rfl rfl Try.func35 (by kernel_rfl) (by kernel_rfl) (by kernel_rfl) (by kernel_rfl) (by kernel_rfl) (by kernel_rfl) (fun _ _ _ h => h) (by kernel_rfl) (by kernel_rfl) (fun w hSw => hSw.2.wait2 HNW.out) hS ?_
          try simp only [List.getElem_toArray, List.getElem_cons_succ, List.getElem_cons_zero, Act.put, List.setIfInBounds_toArray, List.set_cons_zero, List.set_cons_succ]
          refine wpAnyM_take (i := 13) (v := .bool false) rfl (by kernel_rfl) (by kernel_rfl) (by kernel_rfl) (by kernel_rfl) (fun _ _ _ h => h) (Or.inl ⟨by kernel_rfl, ?_⟩) hS ?_; (intro w hSw; (focus (go_simp; first | done | omega | with_reducible rfl)))
          try simp only [List.getElem_toArray, List.getElem_cons_succ, List.getElem_cons_zero, Act.put, List.setIfInBounds_toArray, List.set_cons_zero, List.set_cons_succ]
          refine wpAnyM_one (i := 14) (by kernel_rfl) rfl (fun KK hK => ?_)
          go_simp
          refine hK.out _ _ (fun _ => hS) (fun _ => ?_); clear hK KK
          try simp only [List.getElem_toArray, List.getElem_cons_succ, List.getElem_cons_zero, Act.put, List.setIfInBounds_toArray, List.set_cons_zero, List.set_cons_succ]
          refine wpAnyM_take (i := 15) (v := ?_) rfl (by kernel_rfl) (by kernel_rfl) (by kernel_rfl) (by kernel_rfl) (fun _ _ _ h => h) (Or.inl ⟨by kernel_rfl, ?_⟩) hS ?_; rotate_left; (intro w hSw; obtain ⟨⟨y1, y2, y3, y4⟩, ySq⟩ := hSw; go_simp; try with_reducible rfl)
          try simp only [List.getElem_toArray, List.getElem_cons_succ, List.getElem_cons_zero, Act.put, List.setIfInBounds_toArray, List.set_cons_zero, List.set_cons_succ]
          refine wpAnyM_take (i := 16) (v := ?_) rfl (by kernel_rfl) (by kernel_rfl) (by kernel_rfl) (by kernel_rfl) (fun _ _ _ h => h) (Or.inl ⟨by kernel_rfl, ?_⟩) hS ?_; rotate_left; (intro w hSw; obtain ⟨⟨y1, y2, y3, y4⟩, ySq⟩ := hSw; go_simp; try with_reducible rfl)
          try simp only [List.getElem_toArray, List.getElem_cons_succ, List.getElem_cons_zero, Act.put, List.setIfInBounds_toArray, List.set_cons_zero, List.set_cons_succ]
          refine wpAnyM_take (i := 18) (v := ?_) rfl (by kernel_rfl) (by kernel_rfl) (by kernel_rfl) (by kernel_rfl) (fun _ _ _ h => h) (Or.inl ⟨by kernel_rfl, ?_⟩) hS ?_; rotate_left; (intro w hSw; obtain ⟨⟨y1, y2, y3, y4⟩, ySq⟩ := hSw; go_simp; try with_reducible rfl)
          try simp only [List.getElem_toArray, List.getElem_cons_succ, List.getElem_cons_zero, Act.put, List.setIfInBounds_toArray, List.set_cons_zero, List.set_cons_succ]
          refine wpAnyM_take (i := 19) (v := ?_) rfl (by kernel_rfl) (by kernel_rfl) (by kernel_rfl) (by kernel_rfl) (fun _ _ _ h => h) (Or.inl ⟨by kernel_rfl, ?_⟩) hS ?_; rotate_left; (intro w hSw; obtain ⟨⟨y1, y2, y3, y4⟩, ySq⟩ := hSw; go_simp; try with_reducible rfl)
          try simp only [List.getElem_toArray, List.getElem_cons_succ, List.getElem_cons_zero, Act.put, List.setIfInBounds_toArray, List.set_cons_zero, List.set_cons_succ]
          refine wpAnyM_take (i := 20) (v := ?_) rfl (by kernel_rfl) (by kernel_rfl) (by kernel_rfl) (by kernel_rfl) (fun _ _ _ h => h) (Or.inl ⟨by kernel_rfl, ?_⟩) hS ?_; rotate_left; (intro w hSw; obtain ⟨⟨y1, y2, y3, y4⟩, ySq⟩ := hSw; go_simp; try with_reducible rfl)
          try simp only [List.getElem_toArray, List.getElem_cons_succ, List.getElem_cons_zero, Act.put, List.setIfInBounds_toArray, List.set_cons_zero, List.set_cons_succ]
          refine wpAnyM_take (i := 21) (v := ?_) rfl (by kernel_rfl) (by kernel_rfl) (by kernel_rfl) (by kernel_rfl) (fun _ _ _ h => h) (Or.inl ⟨by kernel_rfl, ?_⟩) hS ?_; rotate_left; (intro w hSw; obtain ⟨⟨y1, y2, y3, y4⟩, ySq⟩ := hSw; go_simp; try with_reducible rfl)
          try simp only [List.getElem_toArray, List.getElem_cons_succ, List.getElem_cons_zero, Act.put, List.setIfInBounds_toArray, List.set_cons_zero, List.set_cons_succ]
          refine wpAnyM_take (i := 22) (v := ?_) rfl (by kernel_rfl) (by kernel_rfl) (by kernel_rfl) (by kernel_rfl) (fun _ _ _ h => h) (Or.inl ⟨by kernel_rfl, ?_⟩) hS ?_; rotate_left; (intro w hSw; obtain ⟨⟨y1, y2, y3, y4⟩, ySq⟩ := hSw; go_simp; try with_reducible rfl)
          try simp only [List.getElem_toArray, List.getElem_cons_succ, List.getElem_cons_zero, Act.put, List.setIfInBounds_toArray, List.set_cons_zero, List.set_cons_succ]
          refine wpAnyM_take (i := 23) (v := ?_) rfl (by kernel_rfl) (by kernel_rfl) (by kernel_rfl) (by kernel_rfl) (fun _ _ _ h => h) (Or.inl ⟨by kernel_rfl, ?_⟩) hS ?_; rotate_left; (intro w hSw; obtain ⟨⟨y1, y2, y3, y4⟩, ySq⟩ := hSw; go_simp; try with_reducible rfl)
          try simp only [List.getElem_toArray, List.getElem_cons_succ, List.getElem_cons_zero, Act.put, List.setIfInBounds_toArray, List.set_cons_zero, List.set_cons_succ]
          refine wpAnyM_take (i := 24) (v := ?_) rfl (by kernel_rfl) (by kernel_rfl) (by kernel_rfl) (by kernel_rfl) (fun _ _ _ h => h) (Or.inl ⟨by kernel_rfl, ?_⟩) hS ?_; rotate_left; (intro w hSw; obtain ⟨⟨y1, y2, y3, y4⟩, ySq⟩ := hSw; go_simp; try with_reducible rfl)
          try simp only [List.getElem_toArray, List.getElem_cons_succ, List.getElem_cons_zero, Act.put, List.setIfInBounds_toArray, List.set_cons_zero, List.set_cons_succ]
          refine wpAnyM_take (i := 25) (v := .bool eb) rfl (by kernel_rfl) (by kernel_rfl) (by kernel_rfl) (by kernel_rfl) (fun _ _ _ h => h) (Or.inl ⟨by kernel_rfl, ?_⟩) hS ?_; (intro w hSw; (focus (have e3 := HEB.out; by_cases q : L = c.fr; (case pos => (rw [decide_eq_true q] at e3; subst e3; subst q; go_simp; first | done | with_reducible rfl | rfl)); (case neg => (rw [decide_eq_false q] at e3; subst e3; have q2 : ¬ (L : Int) = c.fr := (by omega); have q3 : ((L : Int) == (c.fr : Int)) = false := (by simpa using q2); go_simp; first | done | with_reducible rfl | rfl)))))
          try simp only [List.getElem_toArray, List.getElem_cons_succ, List.getElem_cons_zero, Act.put, List.setIfInBounds_toArray, List.set_cons_zero, List.set_cons_succ]
          refine wpAnyM_one (i := 17) (by kernel_rfl) rfl (fun KK hK => ?_)
          go_simp
          refine (hS.2.ended HEB.out).mono ?_; rintro e w4 ⟨rfl, hF4⟩
          have hS2 := (hS.2.go hF4).s
          clear hF4
          refine hK.out _ _ (fun _ => hS2) (fun _ => ?_); clear hK KK; have hS := hS2; clear hS2
          try simp only [List.getElem_toArray, List.getElem_cons_succ, List.getElem_cons_zero, Act.put, List.setIfInBounds_toArray, List.set_cons_zero, List.set_cons_succ]
          refine wpAnyM_take (i := 26) (v := .bool false) rfl (by kernel_rfl) (by kernel_rfl) (by kernel_rfl) (by kernel_rfl) (fun _ _ _ h => h) (Or.inl ⟨by kernel_rfl, ?_⟩) hS ?_; (intro w hSw; (focus (go_simp; first | done | omega | with_reducible rfl)))
          try simp only [List.getElem_toArray, List.getElem_cons_succ, List.getElem_cons_zero, Act.put, List.setIfInBounds_toArray, List.set_cons_zero, List.set_cons_succ]
          refine wpAnyM_one (i := 27) (by kernel_rfl) rfl (fun KK hK => ?_)
          go_simp
          refine hK.out _ _ (fun _ => hS) (fun _ => ?_); clear hK KK
          try simp only [List.getElem_toArray, List.getElem_cons_succ, List.getElem_cons_zero, Act.put, List.setIfInBounds_toArray, List.set_cons_zero, List.set_cons_succ]
          refine wpAnyM_take (i := 28) (v := ?_) rfl (by kernel_rfl) (by kernel_rfl) (by kernel_rfl) (by kernel_rfl) (fun _ _ _ h => h) (Or.inl ⟨by kernel_rfl, ?_⟩) hS ?_; rotate_left; (intro w hSw; obtain ⟨⟨y1, y2, y3, y4⟩, ySq⟩ := hSw; go_simp; try with_reducible rfl)
          try simp only [List.getElem_toArray, List.getElem_cons_succ, List.getElem_cons_zero, Act.put, List.setIfInBounds_toArray, List.set_cons_zero, List.set_cons_succ]
          refine wpAnyM_take (i := 29) (v := ?_) rfl (by kernel_rfl) (by kernel_rfl) (by kernel_rfl) (by kernel_rfl) (fun _ _ _ h => h) (Or.inl ⟨by kernel_rfl, ?_⟩) hS ?_; rotate_left; (intro w hSw; obtain ⟨⟨y1, y2, y3, y4⟩, ySq⟩ := hSw; go_simp; try with_reducible rfl)
          try simp only [List.getElem_toArray, List.getElem_cons_succ, List.getElem_cons_zero, Act.put, List.setIfInBounds_toArray, List.set_cons_zero, List.set_cons_succ]
          refine wpAnyM_take (i := 30) (v := ?_) rfl (by kernel_rfl) (by kernel_rfl) (by kernel_rfl) (by kernel_rfl) (fun _ _ _ h => h) (Or.inl ⟨by kernel_rfl, ?_⟩) hS ?_; rotate_left; (intro w hSw; obtain ⟨⟨y1, y2, y3, y4⟩, ySq⟩ := hSw; go_simp; try with_reducible rfl)
          try simp only [List.getElem_toArray, List.getElem_cons_succ, List.getElem_cons_zero, Act.put, List.setIfInBounds_toArray, List.set_cons_zero, List.set_cons_succ]
          refine wpAnyM_take (i := 31) (v := ?_) rfl (by kernel_rfl) (by kernel_rfl) (by kernel_rfl) (by kernel_rfl) (fun _ _ _ h => h) (Or.inl ⟨by kernel_rfl, ?_⟩) hS ?_; rotate_left; (intro w hSw; obtain ⟨⟨y1, y2, y3, y4⟩, ySq⟩ := hSw; go_simp; try with_reducible rfl)
          try simp only [List.getElem_toArray, List.getElem_cons_succ, List.getElem_cons_zero, Act.put, List.setIfInBounds_toArray, List.set_cons_zero, List.set_cons_succ]
          refine wpAnyM_take (i := 33) (v := ?_) rfl (by kernel_rfl) (by kernel_rfl) (by kernel_rfl) (by kernel_rfl) (fun _ _ _ h => h) (Or.inl ⟨by kernel_rfl, ?_⟩) hS ?_; rotate_left; (intro w hSw; obtain ⟨⟨y1, y2, y3, y4⟩, ySq⟩ := hSw; go_simp; try with_reducible rfl)
          try simp only [List.getElem_toArray, List.getElem_cons_succ, List.getElem_cons_zero, Act.put, List.setIfInBounds_toArray, List.set_cons_zero, List.set_cons_succ]
          refine wpAnyM_take (i := 34) (v := ?_) rfl (by kernel_rfl) (by kernel_rfl) (by kernel_rfl) (by kernel_rfl) (fun _ _ _ h => h) (Or.inl ⟨by kernel_rfl, ?_⟩) hS ?_; rotate_left; (intro w hSw; obtain ⟨⟨y1, y2, y3, y4⟩, ySq⟩ := hSw; go_simp; try with_reducible rfl)
          try simp only [List.getElem_toArray, List.getElem_cons_succ, List.getElem_cons_zero, Act.put, List.setIfInBounds_toArray, List.set_cons_zero, List.set_cons_succ]
          refine wpAnyM_take (i := 35) (v := ?_) rfl (by kernel_rfl) (by kernel_rfl) (by kernel_rfl) (by kernel_rfl) (fun _ _ _ h => h) (Or.inl ⟨by kernel_rfl, ?_⟩) hS ?_; rotate_left; (intro w hSw; obtain ⟨⟨y1, y2, y3, y4⟩, ySq⟩ := hSw; go_simp; try with_reducible rfl)
          try simp only [List.getElem_toArray, List.getElem_cons_succ, List.getElem_cons_zero, Act.put, List.setIfInBounds_toArray, List.set_cons_zero, List.set_cons_succ]
          refine wpAnyM_one (i := 32) (by kernel_rfl) rfl (fun KK hK => ?_)
          go_simp
          refine (hS.2.dead1 HDL.out).mono ?_; rintro e w4 ⟨rfl, hF4⟩
          have hS2 := (hS.2.go hF4).s
          clear hF4
          refine hK.out _ _ (fun _ => hS2) (fun _ => ?_); clear hK KK; have hS := hS2; clear hS2
          try simp only [List.getElem_toArray, List.getElem_cons_succ, List.getElem_cons_zero, Act.put, List.setIfInBounds_toArray, List.set_cons_zero, List.set_cons_succ]
          refine wpAnyM_one (i := 36) (by kernel_rfl) rfl (fun KK hK => ?_)
          go_simp
          refine (hS.2.dead2 HDL.out).mono ?_; rintro e w4 ⟨rfl, hF4⟩
          have hS2 := (hS.2.go hF4).s
          clear hF4
          refine hK.out _ _ (fun _ => hS2) (fun _ => ?_); clear hK KK; have hS := hS2; clear hS2
          try simp only [List.getElem_toArray, List.getElem_cons_succ, List.getElem_cons_zero, Act.put, List.setIfInBounds_toArray, List.set_cons_zero, List.set_cons_succ]
          refine wpAnyM_take (i := 37) (v := .bool false) rfl (by kernel_rfl) (by kernel_rfl) (by kernel_rfl) (by kernel_rfl) (fun _ _ _ h => h) (Or.inl ⟨by kernel_rfl, ?_⟩) hS ?_; (intro w hSw; (focus (go_simp; first | done | omega | with_reducible rfl)))
          try simp only [List.getElem_toArray, List.getElem_cons_succ, List.getElem_cons_zero, Act.put, List.setIfInBounds_toArray, List.set_cons_zero, List.set_cons_succ]
          refine wpAnyM_one (i := 38) (by kernel_rfl) rfl (fun KK hK => ?_)
          go_simp
          refine hK.out _ _ (fun _ => hS) (fun _ => ?_); clear hK KK
          try simp only [List.getElem_toArray, List.getElem_cons_succ, List.getElem_cons_zero, Act.put, List.setIfInBounds_toArray, List.set_cons_zero, List.set_cons_succ]
          refine wpAnyM_take (i := 39) (v := ?_) rfl (by kernel_rfl) (by kernel_rfl) (by kernel_rfl) (by kernel_rfl) (fun _ _ _ h => h) (Or.inl ⟨by kernel_rfl, ?_⟩) hS ?_; rotate_left; (intro w hSw; obtain ⟨⟨y1, y2, y3, y4⟩, ySq⟩ := hSw; go_simp; try with_reducible rfl)
          try simp only [List.getElem_toArray, List.getElem_cons_succ, List.getElem_cons_zero, Act.put, List.setIfInBounds_toArray, List.set_cons_zero, List.set_cons_succ]
          refine wpAnyM_take (i := 40) (v := ?_) rfl (by kernel_rfl) (by kernel_rfl) (by kernel_rfl) (by kernel_rfl) (fun _ _ _ h => h) (Or.inl ⟨by kernel_rfl, ?_⟩) hS ?_; rotate_left; (intro w hSw; obtain ⟨⟨y1, y2, y3, y4⟩, ySq⟩ := hSw; go_simp; try with_reducible rfl)
          try simp only [List.getElem_toArray, List.getElem_cons_succ, List.getElem_cons_zero, Act.put, List.setIfInBounds_toArray, List.set_cons_zero, List.set_cons_succ]
          refine wpAnyM_take (i := 41) (v := ?_) rfl (by kernel_rfl) (by kernel_rfl) (by kernel_rfl) (by kernel_rfl) (fun _ _ _ h => h) (Or.inl ⟨by kernel_rfl, ?_⟩) hS ?_; rotate_left; (intro w hSw; obtain ⟨⟨y1, y2, y3, y4⟩, ySq⟩ := hSw; go_simp; try with_reducible rfl)
          try simp only [List.getElem_toArray, List.getElem_cons_succ, List.getElem_cons_zero, Act.put, List.setIfInBounds_toArray, List.set_cons_zero, List.set_cons_succ]
          refine wpAnyM_take (i := 42) (v := ?_) rfl (by kernel_rfl) (by kernel_rfl) (by kernel_rfl) (by kernel_rfl) (fun _ _ _ h => h) (Or.inl ⟨by kernel_rfl, ?_⟩) hS ?_; rotate_left; (intro w hSw; obtain ⟨⟨y1, y2, y3, y4⟩, ySq⟩ := hSw; go_simp; try with_reducible rfl)
          try simp only [List.getElem_toArray, List.getElem_cons_succ, List.getElem_cons_zero, Act.put, List.setIfInBounds_toArray, List.set_cons_zero, List.set_cons_succ]
          refine wpAnyM_take (i := 43) (v := ?_) rfl (by kernel_rfl) (by kernel_rfl) (by kernel_rfl) (by kernel_rfl) (fun _ _ _ h => h) (Or.inl ⟨by kernel_rfl, ?_⟩) hS ?_; rotate_left; (intro w hSw; obtain ⟨⟨y1, y2, y3, y4⟩, ySq⟩ := hSw; go_simp; try with_reducible rfl)
          try simp only [List.getElem_toArray, List.getElem_cons_succ, List.getElem_cons_zero, Act.put, List.setIfInBounds_toArray, List.set_cons_zero, List.set_cons_succ]
          refine wpAnyM_take (i := 45) (v := ?_) rfl (by kernel_rfl) (by kernel_rfl) (by kernel_rfl) (by kernel_rfl) (fun _ _ _ h => h) (Or.inl ⟨by kernel_rfl, ?_⟩) hS ?_; rotate_left; (intro w hSw; obtain ⟨⟨y1, y2, y3, y4⟩, ySq⟩ := hSw; go_simp; try with_reducible rfl)
          try simp only [List.getElem_toArray, List.getElem_cons_succ, List.getElem_cons_zero, Act.put, List.setIfInBounds_toArray, List.set_cons_zero, List.set_cons_succ]
          refine wpAnyM_take (i := 46) (v := ?_) rfl (by kernel_rfl) (by kernel_rfl) (by kernel_rfl) (by kernel_rfl) (fun _ _ _ h => h) (Or.inl ⟨by kernel_rfl, ?_⟩) hS ?_; rotate_left; (intro w hSw; obtain ⟨⟨y1, y2, y3, y4⟩, ySq⟩ := hSw; go_simp; try with_reducible rfl)
          try simp only [List.getElem_toArray, List.getElem_cons_succ, List.getElem_cons_zero, Act.put, List.setIfInBounds_toArray, List.set_cons_zero, List.set_cons_succ]
          refine wpAnyM_take (i := 47) (v := ?_) rfl (by kernel_rfl) (by kernel_rfl) (by kernel_rfl) (by kernel_rfl) (fun _ _ _ h => h) (Or.inl ⟨by kernel_rfl, ?_⟩) hS ?_; rotate_left; (intro w hSw; obtain ⟨⟨y1, y2, y3, y4⟩, ySq⟩ := hSw; go_simp; try with_reducible rfl)
          try simp only [List.getElem_toArray, List.getElem_cons_succ, List.getElem_cons_zero, Act.put, List.setIfInBounds_toArray, List.set_cons_zero, List.set_cons_succ]
          refine wpAnyM_take (i := 48) (v := ?_) rfl (by kernel_rfl) (by kernel_rfl) (by kernel_rfl) (by kernel_rfl) (fun _ _ _ h => h) (Or.inl ⟨by kernel_rfl, ?_⟩) hS ?_; rotate_left; (intro w hSw; obtain ⟨⟨y1, y2, y3, y4⟩, ySq⟩ := hSw; go_simp; try with_reducible rfl)
          try simp only [List.getElem_toArray, List.getElem_cons_succ, List.getElem_cons_zero, Act.put, List.setIfInBounds_toArray, List.set_cons_zero, List.set_cons_succ]
          refine wpAnyM_one (i := 44) (by kernel_rfl) rfl (fun KK hK => ?_)
          go_simp
          refine (hS.2.rows1 fr0 zn).mono ?_; rintro e w44 ⟨v1, rfl, hV1, hF4⟩
          have hS2 := (hS.2.go hF4).s
          have HV1 := Lib.hid hV1
          clear hF4 hV1
          refine hK.out _ _ (fun _ => hS2) (fun _ => ?_); clear hK KK; have hS := hS2; clear hS2
          try simp only [List.getElem_toArray, List.getElem_cons_succ, List.getElem_cons_zero, Act.put, List.setIfInBounds_toArray, List.set_cons_zero, List.set_cons_succ]
          refine wpAnyM_one (i := 49) (by kernel_rfl) rfl (fun KK hK => ?_)
          go_simp
          refine (hS.2.rows2 fr0 zn).mono ?_; rintro e w49 ⟨v2, rfl, hV2, hF4⟩
          have hS2 := (hS.2.go hF4).s
          have HV2 := Lib.hid hV2; have HV12 := Lib.hid (HV1.out.fr (by omega) hF4)
          clear hF4 hV2
          refine hK.out _ _ (fun _ => hS2) (fun _ => ?_); clear hK KK; have hS := hS2; clear hS2
          try simp only [List.getElem_toArray, List.getElem_cons_succ, List.getElem_cons_zero, Act.put, List.setIfInBounds_toArray, List.set_cons_zero, List.set_cons_succ]
          refine wpAnyM_one (i := 50) (by kernel_rfl) rfl (fun KK hK => ?_)
          go_simp
          refine (same_s HV12.out HV2.out (by omega)).mono ?_; rintro e w50 ⟨rfl, hF4⟩
          have hS2 := (hS.2.go hF4).s
          have HSE := Lib.hid hS2.2
          clear hF4
          refine hK.out _ _ (fun _ => hS2) (fun _ => ?_); clear hK KK; have hS := hS2; clear hS2
          
          try simp only [List.getElem_toArray, List.getElem_cons_succ, List.getElem_cons_zero, Act.put, List.setIfInBounds_toArray, List.set_cons_zero, List.set_cons_succ]
          refine wpAnyM_take (i := 51) (v := ?_) rfl (by kernel_rfl) (by kernel_rfl) (by kernel_rfl) (by kernel_rfl) (fun _ _ _ h => h) (Or.inl ⟨by kernel_rfl, ?_⟩) hS ?_; rotate_left; (intro w hSw; obtain ⟨⟨y1, y2, y3, y4⟩, ySq⟩ := hSw; go_simp; try with_reducible rfl)
          try simp only [List.getElem_toArray, List.getElem_cons_succ, List.getElem_cons_zero, Act.put, List.setIfInBounds_toArray, List.set_cons_zero, List.set_cons_succ]
          refine wpAnyM_one (i := 52) (by kernel_rfl) rfl (fun KK hK => ?_)
          go_simp
          refine hK.out _ _ (fun _ => hS) (fun _ => ?_); clear hK KK
          try simp only [List.getElem_toArray, List.getElem_cons_succ, List.getElem_cons_zero, Act.put, List.setIfInBounds_toArray, List.set_cons_zero, List.set_cons_succ]
          refine wpAnyM_done (by kernel_rfl) ?_ _
          try simp only [List.getElem_toArray, List.getElem_cons_succ, List.getElem_cons_zero, Act.put, List.setIfInBounds_toArray, List.set_cons_zero, List.set_cons_succ]
          clear hS
          go_wp2_with fail
          go_roundw
          case rel => exact ⟨i + 1, tick2, _, _, _, _, by simp, by omega, by omega, rfl, by omega, HSE.out.sa.less (fun x hx => .inl hx) rfl⟩
          case measure => simp [intOf]; omega
end Go.Proofs.Ytckodnogjedmnaa.Lo
