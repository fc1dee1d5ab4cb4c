/- configs: of raw ones. -/
import Derived.Test.YtckodnogjedmnaaCf2
import Derived.Test.YtckodnogjedmnaaBkN
namespace Go.Proofs.Ytckodnogjedmnaa.Cfg
open Go.RowKit Dt Go.Proofs.Ytckodnogjedmnaa.Hd Go.Proofs.Ytckodnogjedmnaa.FlW Ieee
set_option linter.unusedVariables false
set_option linter.unusedSimpArgs false
attribute [local go_sem] run_store_float

/-- a config -/
structure CfV where
  pl : Nat
  per : Nat
  gr : Nat
  st : Nat
  fr : Nat
  seed : Nat
  rate : Nat
  depth : Nat
  ra : Option Addr
  rl : Nat
  rc : Nat
  ta : Option Addr
  tl : Nat
  tc : Nat
def CfV.v (c : CfV) : Value := .agg #[.int .i64 c.pl, .int .i64 c.per, .int .i64 c.gr, .int .i64 c.st, .int .i64 c.fr, .int .i64 c.seed, .float .f64 c.rate, .float .f64 c.depth, .slice c.ra c.rl c.rc, .slice c.ta c.tl c.tc]
/-- numbers as cells -/
def intsN (l : List Nat) : List Value := l.map fun (n : Nat) => .int .i64 n
theorem intsN_len (l : List Nat) : (intsN l).length = l.length := by simp [intsN]
theorem intsN_one (l : List Nat) : ∀ u ∈ intsN l, u.oneCell' = true := fun u hu => by
  simp only [intsN, List.mem_map] at hu; obtain ⟨k, -, rfl⟩ := hu; rfl
theorem intsN_app (l r : List Nat) : intsN (l ++ r) = intsN l ++ intsN r := by simp [intsN]
/-- a config as it may be; its rules, its tokens lie in blocks from B on -/
structure CfOk (w : World) (B : Nat) (c : CfV) (l : List (Int × Int × Int)) (tk : List Nat) : Prop where
  pl1 : 1 ≤ c.pl
  pl8 : c.pl ≤ 8
  per1 : 1 ≤ c.per
  per8 : c.per ≤ 8
  gr : c.gr ≤ 60
  st : c.st ≤ 100
  fr1 : 1 ≤ c.fr
  fr6 : c.fr ≤ 600
  seed : c.seed ≤ 2147483647
  rate : rateB c.rate = true
  depth : depthB c.depth = true
  rules : w.ownsRow B 87 3 (.slice c.ra c.rl c.rc) c.rl (ops3 l)
  r16 : l.length = c.rl ∧ c.rl ≤ 16
  rok : ∀ t ∈ l, OpOk t
  toks : w.ownsRow B 3 1 (.slice c.ta c.tl c.tc) c.tl (intsN tk)
  tlen : tk.length = c.tl ∧ c.tl = c.pl
  tnd : tk.Nodup
  tmax : ∀ t ∈ tk, t ≤ 2147483646
theorem infI : (Try.prog.info? 3).map (fun i => (i.zero, i.size, i.bytes)) = some (some (.int .i64 0), 1, 8) := by kernel_rfl
/-- the tokens of so many players -/
def toksOf (b n : Nat) : List Nat := (List.range n).map fun i => b * 10 + i
theorem toksOf_succ (b n : Nat) : toksOf b (n + 1) = toksOf b n ++ [b * 10 + n] := by unfold toksOf; rw [List.range_succ, List.map_append]; rfl
theorem toksOf_nd (b n : Nat) : (toksOf b n).Nodup := by
  unfold toksOf
  refine List.Pairwise.map _ (fun x y h => ?_) (List.nodup_range (n := n))
  omega
def ConfigP (w : World) (e : Ending) (w' : World) : Prop := ∃ c l tk, e = .returned (CfV.v c) ∧ CfOk w' w.heap.size c l tk ∧ 5 ≤ c.fr ∧ c.fr ≤ 94 ∧ Fr [] w w'
set_option maxRecDepth 100000 in
set_option maxHeartbeats 12800000 in
theorem config_any {w : World} {xp xq xg xs xf xd xr : Int} {ra : Option Addr} {rl rc : Nat} {z : Nat → Int × Int × Int} (hs : SlR w ra rl rc z) : Calls Try.prog 20 #[.agg #[.int .i64 xp, .int .i64 xq, .int .i64 xg, .int .i64 xs, .int .i64 xf, .int .i64 xd, .int .i64 xr, .slice ra rl rc]] w (ConfigP w) := by
  obtain ⟨p0, hp0⟩ : ∃ p0 : Nat, xp % 4 = p0 := ⟨(xp % 4).toNat, by omega⟩
  have bp0 : p0 < 4 := by omega
  have Hp0 := Lib.hid hp0
  clear hp0
  obtain ⟨q0, hq0⟩ : ∃ q0 : Nat, xq % 3 = q0 := ⟨(xq % 3).toNat, by omega⟩
  have bq0 : q0 < 3 := by omega
  have Hq0 := Lib.hid hq0
  clear hq0
  obtain ⟨g0, hg0⟩ : ∃ g0 : Nat, xg % 8 = g0 := ⟨(xg % 8).toNat, by omega⟩
  have bg0 : g0 < 8 := by omega
  have Hg0 := Lib.hid hg0
  clear hg0
  obtain ⟨s0, hs0⟩ : ∃ s0 : Nat, xs % 6 = s0 := ⟨(xs % 6).toNat, by omega⟩
  have bs0 : s0 < 6 := by omega
  have Hs0 := Lib.hid hs0
  clear hs0
  obtain ⟨f0, hf0⟩ : ∃ f0 : Nat, xf % 90 = f0 := ⟨(xf % 90).toNat, by omega⟩
  have bf0 : f0 < 90 := by omega
  have Hf0 := Lib.hid hf0
  clear hf0
  obtain ⟨d0, hd0⟩ : ∃ d0 : Nat, xd % 2147483648 = d0 := ⟨(xd % 2147483648).toNat, by omega⟩
  have bd0 : d0 < 2147483648 := by omega
  have Hd0 := Lib.hid hd0
  clear hd0
  obtain ⟨r0, hr0⟩ : ∃ r0 : Nat, xr % 9 = r0 := ⟨(xr % 9).toNat, by omega⟩
  have br0 : r0 < 9 := by omega
  have Hr0 := Lib.hid hr0
  clear hr0
  obtain ⟨rz, hrz1, hrz2⟩ := rate_tab r0 br0
  have hq1 : ∀ w, (binOp .quo 43 (.float .f64 (Go.floatOfInt .f64 ((r0 : Nat) : Int))) (.float .f64 4616189618054758400)).run Try.prog w = .ok (.float .f64 rz) w := run_fl .quo _ hrz1
  have HQ1 := Lib.hid hq1
  have HS := Lib.hid hs; have HRZ := Lib.hid hrz2
  clear hrz1 hrz2 hq1 hs
  obtain ⟨i0, hi0, hz0, hz1, hz2⟩ := info_parts infI
  go_enter Try.func20, Try.ntmps20
  go_wp2_with fail
  have hX := (Blk.new w #[.int .i64 xp, .int .i64 xq, .int .i64 xg, .int .i64 xs, .int .i64 xf, .int .i64 xd, .int .i64 xr, .slice ra rl rc] 42).alloc (.cells #[.int .i64 0, .int .i64 0, .int .i64 0, .int .i64 0, .int .i64 0, .int .i64 0, .float .f64 0, .float .f64 0, .slice none 0 0, .slice none 0 0] 46)
  have hR := Blk.new (w.alloc (.cells #[.int .i64 xp, .int .i64 xq, .int .i64 xg, .int .i64 xs, .int .i64 xf, .int .i64 xd, .int .i64 xr, .slice ra rl rc] 42)) #[.int .i64 0, .int .i64 0, .int .i64 0, .int .i64 0, .int .i64 0, .int .i64 0, .float .f64 0, .float .f64 0, .slice none 0 0, .slice none 0 0] 46
  rw [show (w.alloc (.cells #[.int .i64 xp, .int .i64 xq, .int .i64 xg, .int .i64 xs, .int .i64 xf, .int .i64 xd, .int .i64 xr, .slice ra rl rc] 42)).heap.size = w.heap.size + 1 by simp] at hR
  have hF := ((Fr.refl [] w).alloc (.cells #[.int .i64 xp, .int .i64 xq, .int .i64 xg, .int .i64 xs, .int .i64 xf, .int .i64 xd, .int .i64 xr, .slice ra rl rc] 42)).alloc (.cells #[.int .i64 0, .int .i64 0, .int .i64 0, .int .i64 0, .int .i64 0, .int .i64 0, .float .f64 0, .float .f64 0, .slice none 0 0, .slice none 0 0] 46)
  generalize (w.alloc (.cells #[.int .i64 xp, .int .i64 xq, .int .i64 xg, .int .i64 xs, .int .i64 xf, .int .i64 xd, .int .i64 xr, .slice ra rl rc] 42)).alloc (.cells #[.int .i64 0, .int .i64 0, .int .i64 0, .int .i64 0, .int .i64 0, .int .i64 0, .float .f64 0, .float .f64 0, .slice none 0 0, .slice none 0 0] 46) = w1 at *
  obtain ⟨g, hg⟩ : ∃ g, w.heap.size = g := ⟨_, rfl⟩
  rw [hg] at hX hR ⊢
  have HG := Lib.hid hg
  clear hg
  have x0 := Blk.cell (i := 0) hX rfl
  have x1 := Blk.cell (i := 1) hX rfl
  have x2 := Blk.cell (i := 2) hX rfl
  have x3 := Blk.cell (i := 3) hX rfl
  have x4 := Blk.cell (i := 4) hX rfl
  have x5 := Blk.cell (i := 5) hX rfl
  simp only [List.getElem_toArray, List.getElem_cons_zero, List.getElem_cons_succ] at x0 x1 x2 x3 x4 x5
  refine wp_region_M 23 (fun w' => w'.cell? ⟨g, 0, none⟩ = some (.int .i64 xp) ∧ w'.cell? ⟨g, 1, none⟩ = some (.int .i64 xq) ∧ w'.cell? ⟨g, 2, none⟩ = some (.int .i64 xg) ∧ w'.cell? ⟨g, 3, none⟩ = some (.int .i64 xs) ∧ w'.cell? ⟨g, 4, none⟩ = some (.int .i64 xf) ∧ w'.cell? ⟨g, 5, none⟩ = some (.int .i64 xd)) (by kernel_rfl) (⟨x0, x1, x2, x3, x4, x5⟩) (fun hS => ?_)
  try simp only [List.getElem_toArray, List.getElem_cons_succ, List.getElem_cons_zero, Act.put, List.setIfInBounds_toArray, List.set_cons_zero, List.set_cons_succ]
  refine wpAnyM_take (i := 0) (v := ?_) rfl (by kernel_rfl) (by kernel_rfl) (by kernel_rfl) (by kernel_rfl) (fun _ _ _ h => h) (Or.inl ⟨by kernel_rfl, ?_⟩) hS ?_; rotate_left; (intro w hSw; (try dsimp only at hSw); go_split_ands; go_simp; try with_reducible rfl)
  try simp only [List.getElem_toArray, List.getElem_cons_succ, List.getElem_cons_zero, Act.put, List.setIfInBounds_toArray, List.set_cons_zero, List.set_cons_succ]
  refine wpAnyM_take (i := 1) (v := ?_) rfl (by kernel_rfl) (by kernel_rfl) (by kernel_rfl) (by kernel_rfl) (fun _ _ _ h => h) (Or.inl ⟨by kernel_rfl, ?_⟩) hS ?_; rotate_left; (intro w hSw; (try dsimp only at hSw); go_split_ands; go_simp; try with_reducible rfl)
  try simp only [List.getElem_toArray, List.getElem_cons_succ, List.getElem_cons_zero, Act.put, List.setIfInBounds_toArray, List.set_cons_zero, List.set_cons_succ]
  refine wpAnyM_call (i := 2) (v := .int .i64 (p0 : Int)) rfl rfl Try.func18 (by kernel_rfl) (by kernel_rfl) (by kernel_rfl) (by kernel_rfl) (by kernel_rfl) (by kernel_rfl) (fun _ _ _ h => h) (by kernel_rfl) (by kernel_rfl) (fun w hSw => (by have h := pick_q xp 4 w (by decide) (by decide); rwa [Hp0.out] at h)) hS ?_
  try simp only [List.getElem_toArray, List.getElem_cons_succ, List.getElem_cons_zero, Act.put, List.setIfInBounds_toArray, List.set_cons_zero, List.set_cons_succ]
  refine wpAnyM_take (i := 3) (v := ?_) rfl (by kernel_rfl) (by kernel_rfl) (by kernel_rfl) (by kernel_rfl) (fun _ _ _ h => h) (Or.inl ⟨by kernel_rfl, ?_⟩) hS ?_; rotate_left; (intro w hSw; (try dsimp only at hSw); go_split_ands; go_simp; try with_reducible rfl)
  try simp only [List.getElem_toArray, List.getElem_cons_succ, List.getElem_cons_zero, Act.put, List.setIfInBounds_toArray, List.set_cons_zero, List.set_cons_succ]
  refine wpAnyM_take (i := 4) (v := ?_) rfl (by kernel_rfl) (by kernel_rfl) (by kernel_rfl) (by kernel_rfl) (fun _ _ _ h => h) (Or.inl ⟨by kernel_rfl, ?_⟩) hS ?_; rotate_left; (intro w hSw; (try dsimp only at hSw); go_split_ands; go_simp; try with_reducible rfl)
  try simp only [List.getElem_toArray, List.getElem_cons_succ, List.getElem_cons_zero, Act.put, List.setIfInBounds_toArray, List.set_cons_zero, List.set_cons_succ]
  refine wpAnyM_take (i := 5) (v := ?_) rfl (by kernel_rfl) (by kernel_rfl) (by kernel_rfl) (by kernel_rfl) (fun _ _ _ h => h) (Or.inl ⟨by kernel_rfl, ?_⟩) hS ?_; rotate_left; (intro w hSw; (try dsimp only at hSw); go_split_ands; go_simp; try with_reducible rfl)
  try simp only [List.getElem_toArray, List.getElem_cons_succ, List.getElem_cons_zero, Act.put, List.setIfInBounds_toArray, List.set_cons_zero, List.set_cons_succ]
  refine wpAnyM_call (i := 6) (v := .int .i64 (q0 : Int)) rfl rfl Try.func18 (by kernel_rfl) (by kernel_rfl) (by kernel_rfl) (by kernel_rfl) (by kernel_rfl) (by kernel_rfl) (fun _ _ _ h => h) (by kernel_rfl) (by kernel_rfl) (fun w hSw => (by have h := pick_q xq 3 w (by decide) (by decide); rwa [Hq0.out] at h)) hS ?_
  try simp only [List.getElem_toArray, List.getElem_cons_succ, List.getElem_cons_zero, Act.put, List.setIfInBounds_toArray, List.set_cons_zero, List.set_cons_succ]
  refine wpAnyM_take (i := 7) (v := ?_) rfl (by kernel_rfl) (by kernel_rfl) (by kernel_rfl) (by kernel_rfl) (fun _ _ _ h => h) (Or.inl ⟨by kernel_rfl, ?_⟩) hS ?_; rotate_left; (intro w hSw; (try dsimp only at hSw); go_split_ands; go_simp; try with_reducible rfl)
  try simp only [List.getElem_toArray, List.getElem_cons_succ, List.getElem_cons_zero, Act.put, List.setIfInBounds_toArray, List.set_cons_zero, List.set_cons_succ]
  refine wpAnyM_take (i := 8) (v := ?_) rfl (by kernel_rfl) (by kernel_rfl) (by kernel_rfl) (by kernel_rfl) (fun _ _ _ h => h) (Or.inl ⟨by kernel_rfl, ?_⟩) hS ?_; rotate_left; (intro w hSw; (try dsimp only at hSw); go_split_ands; go_simp; try with_reducible rfl)
  try simp only [List.getElem_toArray, List.getElem_cons_succ, List.getElem_cons_zero, Act.put, List.setIfInBounds_toArray, List.set_cons_zero, List.set_cons_succ]
  refine wpAnyM_take (i := 9) (v := ?_) rfl (by kernel_rfl) (by kernel_rfl) (by kernel_rfl) (by kernel_rfl) (fun _ _ _ h => h) (Or.inl ⟨by kernel_rfl, ?_⟩) hS ?_; rotate_left; (intro w hSw; (try dsimp only at hSw); go_split_ands; go_simp; try with_reducible rfl)
  try simp only [List.getElem_toArray, List.getElem_cons_succ, List.getElem_cons_zero, Act.put, List.setIfInBounds_toArray, List.set_cons_zero, List.set_cons_succ]
  refine wpAnyM_call (i := 10) (v := .int .i64 (g0 : Int)) rfl rfl Try.func18 (by kernel_rfl) (by kernel_rfl) (by kernel_rfl) (by kernel_rfl) (by kernel_rfl) (by kernel_rfl) (fun _ _ _ h => h) (by kernel_rfl) (by kernel_rfl) (fun w hSw => (by have h := pick_q xg 8 w (by decide) (by decide); rwa [Hg0.out] at h)) hS ?_
  try simp only [List.getElem_toArray, List.getElem_cons_succ, List.getElem_cons_zero, Act.put, List.setIfInBounds_toArray, List.set_cons_zero, List.set_cons_succ]
  refine wpAnyM_take (i := 11) (v := ?_) rfl (by kernel_rfl) (by kernel_rfl) (by kernel_rfl) (by kernel_rfl) (fun _ _ _ h => h) (Or.inl ⟨by kernel_rfl, ?_⟩) hS ?_; rotate_left; (intro w hSw; (try dsimp only at hSw); go_split_ands; go_simp; try with_reducible rfl)
  try simp only [List.getElem_toArray, List.getElem_cons_succ, List.getElem_cons_zero, Act.put, List.setIfInBounds_toArray, List.set_cons_zero, List.set_cons_succ]
  refine wpAnyM_take (i := 12) (v := ?_) rfl (by kernel_rfl) (by kernel_rfl) (by kernel_rfl) (by kernel_rfl) (fun _ _ _ h => h) (Or.inl ⟨by kernel_rfl, ?_⟩) hS ?_; rotate_left; (intro w hSw; (try dsimp only at hSw); go_split_ands; go_simp; try with_reducible rfl)
  try simp only [List.getElem_toArray, List.getElem_cons_succ, List.getElem_cons_zero, Act.put, List.setIfInBounds_toArray, List.set_cons_zero, List.set_cons_succ]
  refine wpAnyM_call (i := 13) (v := .int .i64 (s0 : Int)) rfl rfl Try.func18 (by kernel_rfl) (by kernel_rfl) (by kernel_rfl) (by kernel_rfl) (by kernel_rfl) (by kernel_rfl) (fun _ _ _ h => h) (by kernel_rfl) (by kernel_rfl) (fun w hSw => (by have h := pick_q xs 6 w (by decide) (by decide); rwa [Hs0.out] at h)) hS ?_
  try simp only [List.getElem_toArray, List.getElem_cons_succ, List.getElem_cons_zero, Act.put, List.setIfInBounds_toArray, List.set_cons_zero, List.set_cons_succ]
  refine wpAnyM_take (i := 14) (v := ?_) rfl (by kernel_rfl) (by kernel_rfl) (by kernel_rfl) (by kernel_rfl) (fun _ _ _ h => h) (Or.inl ⟨by kernel_rfl, ?_⟩) hS ?_; rotate_left; (intro w hSw; (try dsimp only at hSw); go_split_ands; go_simp; try with_reducible rfl)
  try simp only [List.getElem_toArray, List.getElem_cons_succ, List.getElem_cons_zero, Act.put, List.setIfInBounds_toArray, List.set_cons_zero, List.set_cons_succ]
  refine wpAnyM_take (i := 15) (v := ?_) rfl (by kernel_rfl) (by kernel_rfl) (by kernel_rfl) (by kernel_rfl) (fun _ _ _ h => h) (Or.inl ⟨by kernel_rfl, ?_⟩) hS ?_; rotate_left; (intro w hSw; (try dsimp only at hSw); go_split_ands; go_simp; try with_reducible rfl)
  try simp only [List.getElem_toArray, List.getElem_cons_succ, List.getElem_cons_zero, Act.put, List.setIfInBounds_toArray, List.set_cons_zero, List.set_cons_succ]
  refine wpAnyM_call (i := 16) (v := .int .i64 (f0 : Int)) rfl rfl Try.func18 (by kernel_rfl) (by kernel_rfl) (by kernel_rfl) (by kernel_rfl) (by kernel_rfl) (by kernel_rfl) (fun _ _ _ h => h) (by kernel_rfl) (by kernel_rfl) (fun w hSw => (by have h := pick_q xf 90 w (by decide) (by decide); rwa [Hf0.out] at h)) hS ?_
  try simp only [List.getElem_toArray, List.getElem_cons_succ, List.getElem_cons_zero, Act.put, List.setIfInBounds_toArray, List.set_cons_zero, List.set_cons_succ]
  refine wpAnyM_take (i := 17) (v := ?_) rfl (by kernel_rfl) (by kernel_rfl) (by kernel_rfl) (by kernel_rfl) (fun _ _ _ h => h) (Or.inl ⟨by kernel_rfl, ?_⟩) hS ?_; rotate_left; (intro w hSw; (try dsimp only at hSw); go_split_ands; go_simp; try with_reducible rfl)
  try simp only [List.getElem_toArray, List.getElem_cons_succ, List.getElem_cons_zero, Act.put, List.setIfInBounds_toArray, List.set_cons_zero, List.set_cons_succ]
  refine wpAnyM_take (i := 18) (v := ?_) rfl (by kernel_rfl) (by kernel_rfl) (by kernel_rfl) (by kernel_rfl) (fun _ _ _ h => h) (Or.inl ⟨by kernel_rfl, ?_⟩) hS ?_; rotate_left; (intro w hSw; (try dsimp only at hSw); go_split_ands; go_simp; try with_reducible rfl)
  try simp only [List.getElem_toArray, List.getElem_cons_succ, List.getElem_cons_zero, Act.put, List.setIfInBounds_toArray, List.set_cons_zero, List.set_cons_succ]
  refine wpAnyM_take (i := 19) (v := ?_) rfl (by kernel_rfl) (by kernel_rfl) (by kernel_rfl) (by kernel_rfl) (fun _ _ _ h => h) (Or.inl ⟨by kernel_rfl, ?_⟩) hS ?_; rotate_left; (intro w hSw; (try dsimp only at hSw); go_split_ands; go_simp; try with_reducible rfl)
  try simp only [List.getElem_toArray, List.getElem_cons_succ, List.getElem_cons_zero, Act.put, List.setIfInBounds_toArray, List.set_cons_zero, List.set_cons_succ]
  refine wpAnyM_call (i := 20) (v := .int .i64 (d0 : Int)) rfl rfl Try.func18 (by kernel_rfl) (by kernel_rfl) (by kernel_rfl) (by kernel_rfl) (by kernel_rfl) (by kernel_rfl) (fun _ _ _ h => h) (by kernel_rfl) (by kernel_rfl) (fun w hSw => (by have h := pick_q xd 2147483648 w (by decide) (by decide); rwa [Hd0.out] at h)) hS ?_
  try simp only [List.getElem_toArray, List.getElem_cons_succ, List.getElem_cons_zero, Act.put, List.setIfInBounds_toArray, List.set_cons_zero, List.set_cons_succ]
  refine wpAnyM_take (i := 21) (v := ?_) rfl (by kernel_rfl) (by kernel_rfl) (by kernel_rfl) (by kernel_rfl) (fun _ _ _ h => h) (Or.inl ⟨by kernel_rfl, ?_⟩) hS ?_; rotate_left; (intro w hSw; (try dsimp only at hSw); go_split_ands; go_simp; try with_reducible rfl)
  try simp only [List.getElem_toArray, List.getElem_cons_succ, List.getElem_cons_zero, Act.put, List.setIfInBounds_toArray, List.set_cons_zero, List.set_cons_succ]
  refine wpAnyM_one (i := 22) (by kernel_rfl) rfl (fun KK hK => ?_)
  go_simp
  have hS2 := And.intro (Blk.cell (i := 0) (hX.drew.alloc (.cells #[.int .i64 0, .int .i64 0, .int .i64 0, .int .i64 0, .int .i64 0, .int .i64 0, .float .f64 0, .float .f64 0, .slice none 0 0, .slice none 0 0] 46)) rfl) (And.intro (Blk.cell (i := 1) (hX.drew.alloc (.cells #[.int .i64 0, .int .i64 0, .int .i64 0, .int .i64 0, .int .i64 0, .int .i64 0, .float .f64 0, .float .f64 0, .slice none 0 0, .slice none 0 0] 46)) rfl) (And.intro (Blk.cell (i := 2) (hX.drew.alloc (.cells #[.int .i64 0, .int .i64 0, .int .i64 0, .int .i64 0, .int .i64 0, .int .i64 0, .float .f64 0, .float .f64 0, .slice none 0 0, .slice none 0 0] 46)) rfl) (And.intro (Blk.cell (i := 3) (hX.drew.alloc (.cells #[.int .i64 0, .int .i64 0, .int .i64 0, .int .i64 0, .int .i64 0, .int .i64 0, .float .f64 0, .float .f64 0, .slice none 0 0, .slice none 0 0] 46)) rfl) (And.intro (Blk.cell (i := 4) (hX.drew.alloc (.cells #[.int .i64 0, .int .i64 0, .int .i64 0, .int .i64 0, .int .i64 0, .int .i64 0, .float .f64 0, .float .f64 0, .slice none 0 0, .slice none 0 0] 46)) rfl) (Blk.cell (i := 5) (hX.drew.alloc (.cells #[.int .i64 0, .int .i64 0, .int .i64 0, .int .i64 0, .int .i64 0, .int .i64 0, .float .f64 0, .float .f64 0, .slice none 0 0, .slice none 0 0] 46)) rfl)))))
  refine hK.out _ _ (fun _ => hS2) (fun _ => ?_); clear hK KK hS2
  
  try simp only [List.getElem_toArray, List.getElem_cons_succ, List.getElem_cons_zero, Act.put, List.setIfInBounds_toArray, List.set_cons_zero, List.set_cons_succ]
  refine wpAnyM_one (i := 23) (by kernel_rfl) rfl (fun KK hK => ?_)
  go_simp
  refine hK.out _ _ (fun h => absurd h (by decide)) (fun _ => ?_); clear hK KK
  try simp only [List.getElem_toArray, List.getElem_cons_succ, List.getElem_cons_zero, Act.put, List.setIfInBounds_toArray, List.set_cons_zero, List.set_cons_succ]
  refine wpAnyM_done (by kernel_rfl) ?_ _
  try simp only [List.getElem_toArray, List.getElem_cons_succ, List.getElem_cons_zero, Act.put, List.setIfInBounds_toArray, List.set_cons_zero, List.set_cons_succ]
  clear hS
  change Exit.then _ _ _ _ (w1.drew.alloc (.cells #[.int .i64 (IntKind.i64.wrap (1 + (p0 : Int))), .int .i64 (IntKind.i64.wrap (1 + (q0 : Int))), .int .i64 g0, .int .i64 s0, .int .i64 (IntKind.i64.wrap (5 + (f0 : Int))), .int .i64 d0, .float .f64 0, .float .f64 0, .slice none 0 0, .slice none 0 0] 46))
  have hO := Blk.new w1.drew #[.int .i64 (IntKind.i64.wrap (1 + (p0 : Int))), .int .i64 (IntKind.i64.wrap (1 + (q0 : Int))), .int .i64 g0, .int .i64 s0, .int .i64 (IntKind.i64.wrap (5 + (f0 : Int))), .int .i64 d0, .float .f64 0, .float .f64 0, .slice none 0 0, .slice none 0 0] 46
  have hFo := (Fr.refl [] w1).drew.alloc (.cells #[.int .i64 (IntKind.i64.wrap (1 + (p0 : Int))), .int .i64 (IntKind.i64.wrap (1 + (q0 : Int))), .int .i64 g0, .int .i64 s0, .int .i64 (IntKind.i64.wrap (5 + (f0 : Int))), .int .i64 d0, .float .f64 0, .float .f64 0, .slice none 0 0, .slice none 0 0] 46)
  have hX2 := hFo.blk hX (by simp)
  have hR2 := hFo.blk hR (by simp)
  have hF2 := hF.trans hFo (by simp)
  have hl := hR.lt
  change Blk _ w1.heap.size _ _ at hO
  obtain ⟨o, ho⟩ : ∃ o, w1.heap.size = o := ⟨_, rfl⟩
  rw [ho] at hO hl ⊢
  clear ho x0 x1 x2 x3 x4 x5 hX hR hF hFo
  generalize w1.drew.alloc (.cells #[.int .i64 (IntKind.i64.wrap (1 + (p0 : Int))), .int .i64 (IntKind.i64.wrap (1 + (q0 : Int))), .int .i64 g0, .int .i64 s0, .int .i64 (IntKind.i64.wrap (5 + (f0 : Int))), .int .i64 d0, .float .f64 0, .float .f64 0, .slice none 0 0, .slice none 0 0] 46) = w2 at *
  rw [show IntKind.i64.wrap (1 + (p0 : Int)) = 1 + (p0 : Int) from IntWalk.i64_in _ (by omega), show IntKind.i64.wrap (1 + (q0 : Int)) = 1 + (q0 : Int) from IntWalk.i64_in _ (by omega), show IntKind.i64.wrap (5 + (f0 : Int)) = 5 + (f0 : Int) from IntWalk.i64_in _ (by omega)] at hO ⊢
  have x0 := Blk.cell (i := 0) hX2 rfl
  have x6 := Blk.cell (i := 6) hX2 rfl
  have f0' := Blk.free hO 0
  have o0 := Blk.cell (i := 0) hO rfl
  simp only [List.getElem_toArray, List.getElem_cons_zero, List.getElem_cons_succ] at x0 x6 o0
  have HO := Lib.hid hO; have HX2 := Lib.hid hX2; have HR2 := Lib.hid hR2; have HF2 := Lib.hid hF2
  clear hO hX2 hR2 hF2
  go_upto_if 30 with (fail)
  go_cut [3] from 27 (fun v3 wc => v3 = .pointer (some ⟨o, 0, none⟩) ∧ (∃ pl : Nat, 1 ≤ pl ∧ pl ≤ 8 ∧ Blk wc o #[.int .i64 (pl : Int), .int .i64 (1 + (q0 : Int)), .int .i64 g0, .int .i64 s0, .int .i64 (5 + (f0 : Int)), .int .i64 d0, .float .f64 0, .float .f64 0, .slice none 0 0, .slice none 0 0] 46) ∧ Fr [o] w2 wc)
  case first =>
    by_cases h : xp.tmod 11 = 10
    · have h' : (xp.tmod 11 == 10) = true := by simp [h]
      clear h
      go_wp2_with fail
      refine (pick_any _ _ _ (by decide) (by decide)).mono ?_; rintro e w' ⟨rfl, rfl⟩
      obtain ⟨kk, hkk⟩ : ∃ kk : Nat, wrap64 (xp.tdiv 11) % 8 = kk := ⟨(wrap64 (xp.tdiv 11) % 8).toNat, by omega⟩
      have hk8 : kk < 8 := by omega
      rw [hkk]
      clear hkk
      go_wp2_with fail
      go_meet
      case rel => exact ⟨rfl, ⟨1 + kk, by omega, by omega, by have h := HO.out.set 0 (.int .i64 (1 + (kk : Int))); rw [show ((1 + kk : Nat) : Int) = 1 + (kk : Int) by omega]; exact h⟩, (Fr.refl [o] w2).setCell (p := ⟨o, 0, none⟩) (.inl (by simp)) _⟩
    · have h' : (xp.tmod 11 == 10) = false := by simp [h]
      clear h
      go_wp2_with fail
      go_meet
      case rel => exact ⟨rfl, ⟨1 + p0, by omega, by omega, by rw [show ((1 + p0 : Nat) : Int) = 1 + (p0 : Int) by omega]; exact HO.out⟩, Fr.refl _ _⟩
  case rest =>
    obtain ⟨rfl, ⟨pl, hpl1, hpl8, hO⟩, hFc⟩ := hcut
    have hX3 := hFc.blk HX2.out (by simp; omega)
    have hR3 := hFc.blk HR2.out (by simp; omega)
    have hF3 := HF2.out.trans hFc (fun x hx => .inr (by rw [HG.out]; simp at hx; omega))
    clear x0 x6 f0' o0 HO HX2 HR2 HF2 hFc
    generalize wc = w3 at *
    obtain ⟨dk, hdk⟩ : ∃ dk : Nat, wrap64 (xr.tdiv 9) % 40 = dk := ⟨(wrap64 (xr.tdiv 9) % 40).toNat, by omega⟩
    have hdk40 : dk < 40 := by omega
    obtain ⟨dy, dz, hdz1, hdz2, hdz3⟩ := depth_tab dk hdk40
    have hq2 : ∀ w, (binOp .quo 43 (.float .f64 (Go.floatOfInt .f64 ((dk : Nat) : Int))) (.float .f64 4611686018427387904)).run Try.prog w = .ok (.float .f64 dy) w := run_fl .quo _ hdz1
    have hq3 : ∀ w, (binOp .add 43 (.float .f64 4607182418800017408) (.float .f64 dy)).run Try.prog w = .ok (.float .f64 dz) w := run_fl .add _ hdz2
    have HDK := Lib.hid hdk; have HDZ := Lib.hid hdz3
    clear hdk hdz1 hdz2 hdz3
    have x6 := Blk.cell (i := 6) hX3 rfl
    have o6 := Blk.cell (i := 6) hO rfl
    have o7 := Blk.cell (i := 7) hO rfl
    have f6 := Blk.free hO 6
    have f7 := Blk.free hO 7
    simp only [List.getElem_toArray, List.getElem_cons_zero, List.getElem_cons_succ] at x6 o6 o7
    have hq1 := HQ1.out
    have hgo : g ≠ o := by omega
    have hO4 : Blk ((w3.setCell ⟨o, 6, none⟩ (.float .f64 rz)).setCell ⟨o, 7, none⟩ (.float .f64 dz)) o #[.int .i64 (pl : Int), .int .i64 (1 + (q0 : Int)), .int .i64 g0, .int .i64 s0, .int .i64 (5 + (f0 : Int)), .int .i64 d0, .float .f64 rz, .float .f64 dz, .slice none 0 0, .slice none 0 0] 46 := (hO.set 6 _).set 7 _
    have hFz : Fr [o] w3 ((w3.setCell ⟨o, 6, none⟩ (.float .f64 rz)).setCell ⟨o, 7, none⟩ (.float .f64 dz)) := ((Fr.refl [o] w3).setCell (p := ⟨o, 6, none⟩) (.inl (by simp)) _).setCell (p := ⟨o, 7, none⟩) (.inl (by simp)) _
    have HO4 := Lib.hid hO4; have HFZ := Lib.hid hFz; have HX3 := Lib.hid hX3; have HR3 := Lib.hid hR3; have HF3 := Lib.hid hF3
    clear hO4 hFz hO hX3 hR3 hF3
    go_wp2_with fail
    refine (pick_any _ _ _ (by decide) (by decide)).mono ?_; rintro e w' ⟨rfl, rfl⟩
    rw [Hr0.out]
    go_wp2_with fail
    refine (pick_any _ _ _ (by decide) (by decide)).mono ?_; rintro e w' ⟨rfl, rfl⟩
    rw [HDK.out]
    go_upto_if 54 with (fail)
    clear o6 o7 f6 f7 x6 hq1 hq2 hq3
    generalize (w3.setCell ⟨o, 6, none⟩ (.float .f64 rz)).setCell ⟨o, 7, none⟩ (.float .f64 dz) = w4 at *
    have o6 := Blk.cell (i := 6) HO4.out rfl
    have o7 := Blk.cell (i := 7) HO4.out rfl
    have f6 := Blk.free HO4.out 6
    have f7 := Blk.free HO4.out 7
    simp only [List.getElem_toArray, List.getElem_cons_zero, List.getElem_cons_succ] at o6 o7
    go_cut [3] from 51 (fun v3 wc => v3 = .pointer (some ⟨o, 0, none⟩) ∧ (∃ r d : Nat, rateB r = true ∧ depthB d = true ∧ Blk wc o #[.int .i64 (pl : Int), .int .i64 (1 + (q0 : Int)), .int .i64 g0, .int .i64 s0, .int .i64 (5 + (f0 : Int)), .int .i64 d0, .float .f64 r, .float .f64 d, .slice none 0 0, .slice none 0 0] 46) ∧ Fr [o] w4 wc)
    case first =>
      by_cases h : 0 < xr.tmod 3
      · go_wp2_with fail
        go_meet
        case rel => exact ⟨rfl, ⟨_, _, rate_3, depth_50, (HO4.out.set 6 (.float .f64 4613937818241073152)).set 7 (.float .f64 4632233691727265792)⟩, ((Fr.refl [o] w4).setCell (p := ⟨o, 6, none⟩) (.inl (by simp)) _).setCell (p := ⟨o, 7, none⟩) (.inl (by simp)) _⟩
      · go_wp2_with fail
        go_meet
        case rel => exact ⟨rfl, ⟨_, _, HRZ.out, HDZ.out, HO4.out⟩, Fr.refl _ _⟩
    case rest =>
      obtain ⟨rfl, ⟨r, d, hr, hd, hO⟩, hFc⟩ := hcut
      have hFc' := HFZ.out.trans hFc (fun x hx => .inl hx)
      have hX5 := hFc'.blk HX3.out (by simp; omega)
      have hR5 := hFc'.blk HR3.out (by simp; omega)
      have hF5 := HF3.out.trans hFc' (fun x hx => .inr (by rw [HG.out]; simp at hx; omega))
      clear o6 o7 f6 f7 HO4 HFZ HX3 HR3 HF3 hFc hFc'
      generalize wc = w5 at *
      have hs5 : SlR w5 ra rl rc z := by
        obtain ⟨h1, h2, h3, h4⟩ := HS.out
        refine ⟨h1, h2, h3, fun hp => ?_⟩
        obtain ⟨b, off, e1, e2, e3⟩ := h4 hp
        refine ⟨b, off, e1, Nat.lt_of_lt_of_le e2 hF5.size, fun i hi => ?_⟩
        obtain ⟨k1, k2, k3⟩ := e3 i hi
        exact ⟨(hF5.cell (p := ⟨b, off + i * 3, none⟩) e2 (by simp)).trans k1, (hF5.cell (p := ⟨b, off + (i * 3 + 1), none⟩) e2 (by simp)).trans k2, (hF5.cell (p := ⟨b, off + (i * 3 + 2), none⟩) e2 (by simp)).trans k3⟩
      have x7 := Blk.cell (i := 7) hX5 rfl
      simp only [List.getElem_toArray, List.getElem_cons_zero, List.getElem_cons_succ] at x7
      have HO5 := Lib.hid hO; have HX5 := Lib.hid hX5; have HR5 := Lib.hid hR5; have HF5 := Lib.hid hF5; have HRD := Lib.hid (And.intro hr hd); have HS5 := Lib.hid hs5
      clear hO hX5 hR5 hF5 hr hd hs5
      go_wp2_with fail
      refine (rules_any HS5.out).mono ?_
      rintro e w6 ⟨rv, l, rfl, hrv, hl16, hlok, hF6⟩
      obtain ⟨rva, rvc, rfl, -, -⟩ := own_val hrv
      have hB6 := hF6.blk HO5.out (by simp)
      have o8 := Blk.cell (i := 8) hB6 rfl
      have f8 := Blk.free hB6 8
      simp only [List.getElem_toArray, List.getElem_cons_zero, List.getElem_cons_succ] at o8
      have hB7 : Blk (w6.setCell ⟨o, 8, none⟩ (.slice rva l.length rvc)) o #[.int .i64 (pl : Int), .int .i64 (1 + (q0 : Int)), .int .i64 g0, .int .i64 s0, .int .i64 (5 + (f0 : Int)), .int .i64 d0, .float .f64 r, .float .f64 d, .slice rva l.length rvc, .slice none 0 0] 46 := hB6.set 8 _
      have hFs : Fr [o] w6 (w6.setCell ⟨o, 8, none⟩ (.slice rva l.length rvc)) := (Fr.refl [o] w6).setCell (p := ⟨o, 8, none⟩) (.inl (by simp)) _
      have hrv7 := own_keep hrv hFs (fun y hy hx => by simp at hx; subst hx; exact own_blk (g := 0) hrv hB6 (by decide) _ hy rfl)
      have hX7 := hFs.blk (hF6.blk HX5.out (by simp)) (by simp; omega)
      have hR7 := hFs.blk (hF6.blk HR5.out (by simp)) (by simp; omega)
      have hF7 := (HF5.out.trans hF6 (by simp)).trans hFs (fun x hx => .inr (by rw [HG.out]; simp at hx; omega))
      have hg5 : g ≤ w5.heap.size := by have h1 := HF5.out.size; have h2 := HG.out; omega
      have HB7 := Lib.hid hB7; have HRV := Lib.hid (own_weaken hrv7 hg5); have HX7 := Lib.hid hX7; have HR7 := Lib.hid hR7; have HF7 := Lib.hid hF7; have HL := Lib.hid (And.intro hl16 hlok)
      clear x7 HO5 HX5 HR5 HF5 HS5 hrv hl16 hlok hF6 hB6 hB7 hFs hrv7 hX7 hR7 hF7 hg5
      go_upto_region 10 with (fail)
      clear o8 f8
      generalize w6.setCell ⟨o, 8, none⟩ (.slice rva l.length rvc) = w7 at *
      obtain ⟨tb, htb⟩ : ∃ tb : Nat, IntKind.i64.wrap (xd.tdiv 3) % 1000000 = tb := ⟨(IntKind.i64.wrap (xd.tdiv 3) % 1000000).toNat, by omega⟩
      have htb6 : tb < 1000000 := by omega
      have HTB := Lib.hid htb
      clear htb
      go_wp2_with fail
      clear HS HRZ HQ1 HDK HDZ bp0 br0
      go_loopw [4] (fun iv wr => ∃ (k : Nat) (ta : Option Addr) (tc : Nat), k ≤ pl ∧ iv = .int .i64 k ∧ Blk wr o #[.int .i64 (pl : Int), .int .i64 (1 + (q0 : Int)), .int .i64 g0, .int .i64 s0, .int .i64 (5 + (f0 : Int)), .int .i64 d0, .float .f64 r, .float .f64 d, .slice rva l.length rvc, .slice ta k tc] 46 ∧ wr.ownsRow g 3 1 (.slice ta k tc) k (intsN (toksOf tb k)) ∧ wr.ownsRow g 87 3 (.slice rva l.length rvc) l.length (ops3 l) ∧ Blk wr g #[.int .i64 xp, .int .i64 xq, .int .i64 xg, .int .i64 xs, .int .i64 xf, .int .i64 xd, .int .i64 xr, .slice ra rl rc] 42 ∧ Blk wr (g + 1) #[.int .i64 0, .int .i64 0, .int .i64 0, .int .i64 0, .int .i64 0, .int .i64 0, .float .f64 0, .float .f64 0, .slice none 0 0, .slice none 0 0] 46 ∧ Fr [] w wr) (fun iv _ => pl - (intOf iv).toNat)
      case atStart => exact ⟨0, none, 0, Nat.zero_le _, rfl, HB7.out, own_nil _ _ _ _, HRV.out, HX7.out, HR7.out, HF7.out⟩
      case round =>
        obtain ⟨k, ta, tc, hk, rfl, hB, ht, hr, hX, hR, hF⟩ := hrel
        clear HB7 HRV HX7 HR7 HF7
        have o0 := Blk.cell (i := 0) hB rfl
        simp only [List.getElem_toArray, List.getElem_cons_zero, List.getElem_cons_succ] at o0
        by_cases hkp : k < pl
        · have q1 : (k : Int) < pl := by omega
          have o9 := Blk.cell (i := 9) hB rfl
          have x5 := Blk.cell (i := 5) hX rfl
          simp only [List.getElem_toArray, List.getElem_cons_zero, List.getElem_cons_succ] at o9 x5
          have hw1 : IntKind.i64.wrap ((tb : Int) * 10) = (tb : Int) * 10 := IntWalk.i64_in _ (by omega)
          have hw2 : IntKind.i64.wrap ((tb : Int) * 10 + (k : Int)) = ((tb * 10 + k : Nat) : Int) := by rw [IntWalk.i64_in _ (by omega)]; omega
          have HB := Lib.hid hB; have HT := Lib.hid ht; have HR := Lib.hid hr; have HX := Lib.hid hX; have HRR := Lib.hid hR; have HFk := Lib.hid hF
          have hgr : g ≤ wr.drew.heap.size := by have h1 : w.heap.size ≤ wr.drew.heap.size := hF.size; have h2 := HG.out; omega
          clear hB ht hr hX hR hF
          go_upto_region 13 with (fail)
          clear o0
          refine wp_region_M 11 (fun w' => w'.cell? ⟨o, 9, none⟩ = some (.slice ta k tc) ∧ w'.cell? ⟨g, 5, none⟩ = some (.int .i64 xd)) (by kernel_rfl) (⟨o9, x5⟩) (fun hS => ?_)
          try simp only [List.getElem_toArray, List.getElem_cons_succ, List.getElem_cons_zero, Act.put, List.setIfInBounds_toArray, List.set_cons_zero, List.set_cons_succ]
          refine wpAnyM_take (i := 0) (v := ?_) rfl (by kernel_rfl) (by kernel_rfl) (by kernel_rfl) (by kernel_rfl) (fun _ _ _ h => h) (Or.inl ⟨by kernel_rfl, ?_⟩) hS ?_; rotate_left; (intro w hSw; (try dsimp only at hSw); go_split_ands; go_simp; try with_reducible rfl)
          try simp only [List.getElem_toArray, List.getElem_cons_succ, List.getElem_cons_zero, Act.put, List.setIfInBounds_toArray, List.set_cons_zero, List.set_cons_succ]
          refine wpAnyM_take (i := 1) (v := ?_) rfl (by kernel_rfl) (by kernel_rfl) (by kernel_rfl) (by kernel_rfl) (fun _ _ _ h => h) (Or.inl ⟨by kernel_rfl, ?_⟩) hS ?_; rotate_left; (intro w hSw; (try dsimp only at hSw); go_split_ands; go_simp; try with_reducible rfl)
          try simp only [List.getElem_toArray, List.getElem_cons_succ, List.getElem_cons_zero, Act.put, List.setIfInBounds_toArray, List.set_cons_zero, List.set_cons_succ]
          refine wpAnyM_take (i := 2) (v := ?_) rfl (by kernel_rfl) (by kernel_rfl) (by kernel_rfl) (by kernel_rfl) (fun _ _ _ h => h) (Or.inl ⟨by kernel_rfl, ?_⟩) hS ?_; rotate_left; (intro w hSw; (try dsimp only at hSw); go_split_ands; go_simp; try with_reducible rfl)
          try simp only [List.getElem_toArray, List.getElem_cons_succ, List.getElem_cons_zero, Act.put, List.setIfInBounds_toArray, List.set_cons_zero, List.set_cons_succ]
          refine wpAnyM_take (i := 3) (v := ?_) rfl (by kernel_rfl) (by kernel_rfl) (by kernel_rfl) (by kernel_rfl) (fun _ _ _ h => h) (Or.inl ⟨by kernel_rfl, ?_⟩) hS ?_; rotate_left; (intro w hSw; (try dsimp only at hSw); go_split_ands; go_simp; try with_reducible rfl)
          try simp only [List.getElem_toArray, List.getElem_cons_succ, List.getElem_cons_zero, Act.put, List.setIfInBounds_toArray, List.set_cons_zero, List.set_cons_succ]
          refine wpAnyM_take (i := 4) (v := ?_) rfl (by kernel_rfl) (by kernel_rfl) (by kernel_rfl) (by kernel_rfl) (fun _ _ _ h => h) (Or.inl ⟨by kernel_rfl, ?_⟩) hS ?_; rotate_left; (intro w hSw; (try dsimp only at hSw); go_split_ands; go_simp; try with_reducible rfl)
          try simp only [List.getElem_toArray, List.getElem_cons_succ, List.getElem_cons_zero, Act.put, List.setIfInBounds_toArray, List.set_cons_zero, List.set_cons_succ]
          refine wpAnyM_call (i := 5) (v := .int .i64 (tb : Int)) rfl rfl Try.func18 (by kernel_rfl) (by kernel_rfl) (by kernel_rfl) (by kernel_rfl) (by kernel_rfl) (by kernel_rfl) (fun _ _ _ h => h) (by kernel_rfl) (by kernel_rfl) (fun w hSw => (by have h := pick_q (IntKind.i64.wrap (xd.tdiv 3)) 1000000 w (by decide) (by decide); rwa [HTB.out] at h)) hS ?_
          try simp only [List.getElem_toArray, List.getElem_cons_succ, List.getElem_cons_zero, Act.put, List.setIfInBounds_toArray, List.set_cons_zero, List.set_cons_succ]
          refine wpAnyM_take (i := 6) (v := .int .i64 ((tb : Int) * 10)) rfl (by kernel_rfl) (by kernel_rfl) (by kernel_rfl) (by kernel_rfl) (fun _ _ _ h => h) (Or.inl ⟨by kernel_rfl, ?_⟩) hS ?_; (intro w hSw; go_simp)
          try simp only [List.getElem_toArray, List.getElem_cons_succ, List.getElem_cons_zero, Act.put, List.setIfInBounds_toArray, List.set_cons_zero, List.set_cons_succ]
          refine wpAnyM_take (i := 7) (v := ?_) rfl (by kernel_rfl) (by kernel_rfl) (by kernel_rfl) (by kernel_rfl) (fun _ _ _ h => h) (Or.inl ⟨by kernel_rfl, ?_⟩) hS ?_; rotate_left; (intro w hSw; (try dsimp only at hSw); go_split_ands; go_simp; try with_reducible rfl)
          try simp only [List.getElem_toArray, List.getElem_cons_succ, List.getElem_cons_zero, Act.put, List.setIfInBounds_toArray, List.set_cons_zero, List.set_cons_succ]
          refine wpAnyM_take (i := 8) (v := .int .i64 ((tb * 10 + k : Nat) : Int)) rfl (by kernel_rfl) (by kernel_rfl) (by kernel_rfl) (by kernel_rfl) (fun _ _ _ h => h) (Or.inl ⟨by kernel_rfl, ?_⟩) hS ?_; (intro w hSw; go_simp)
          try simp only [List.getElem_toArray, List.getElem_cons_succ, List.getElem_cons_zero, Act.put, List.setIfInBounds_toArray, List.set_cons_zero, List.set_cons_succ]
          refine wpAnyM_one (i := 9) (by kernel_rfl) rfl (fun KK hK => ?_)
          go_simp
          have hF9 := (Fr.refl [] wr).drew.alloc (.cells #[.int .i64 ((tb * 10 + k : Nat) : Int)] 3)
          have hS9 := And.intro (Blk.cell (i := 9) (hF9.blk HB.out (by simp)) rfl) (Blk.cell (i := 5) (hF9.blk HX.out (by simp)) rfl)
          refine hK.out _ _ (fun _ => hS9) (fun _ => ?_); clear hK KK hS9
          try simp only [List.getElem_toArray, List.getElem_cons_succ, List.getElem_cons_zero, Act.put, List.setIfInBounds_toArray, List.set_cons_zero, List.set_cons_succ]
          refine wpAnyM_one (i := 10) (by kernel_rfl) rfl (fun KK hK => ?_)
          have ht9 := own_fr (S := []) HT.out hF9 (by simp)
          have hnb := Blk.new wr.drew #[.int .i64 ((tb * 10 + k : Nat) : Int)] 3
          refine step_append_src _ rfl (Operand.tmp 68) (Operand.tmp 76) 38 rfl g 3 i0 _ 1 8 Try.underlying38 hi0 hz0 hz1 hz2 rfl (by decide) (.slice ta k tc) (.slice (some ⟨wr.drew.heap.size, 0, none⟩) 1 1) k 1 (intsN (toksOf tb k)) (intsN [tb * 10 + k]) rfl (by kernel_rfl) ht9 (src_blk hnb (by simp) (by simp [Value.oneCell']) 1) (by unfold maxLen; omega) (by omega) (Nat.le_trans hgr hF9.size) ?_
          intro v5 w5 ho5 hg5 hat5
          have hfg := fr_grown hg5
          have hF10 := hF9.mono (S' := (Value.slice ta k tc).ownBlock.toList) (by simp) |>.trans hfg (fun x hx => .inl hx)
          have hob := own_notin ht9 (hF9.blk HB.out (by simp)) (by decide)
          have hog := own_notin ht9 (hF9.blk HX.out (by simp)) (by decide)
          have hor := own_notin ht9 (hF9.blk HRR.out (by simp)) (by decide)
          have hr9 := own_fr (S := []) HR.out hF9 (by simp)
          have hr10 := own_keep hr9 hfg (fun y hy hx => by simp only [Option.mem_toList] at hx; exact own_own ht9 hr9 (by decide) y hx hy)
          have hB10 := hF10.blk HB.out hob
          have hX10 := hF10.blk HX.out hog
          have hR10 := hF10.blk HRR.out hor
          have hFF := fr_own (HFk.out.trans hF9 (by simp)) ht9 hg5 (by rw [HG.out]; exact Nat.le_refl _)
          rw [← intsN_app, ← toksOf_succ] at ho5
          have hS10 := And.intro (Blk.cell (i := 9) hB10 rfl) (Blk.cell (i := 5) hX10 rfl)
          refine hK.out _ _ (fun _ => hS10) (fun _ => ?_); clear hK KK hS10
          obtain ⟨va, vc, rfl, -, -⟩ := own_val ho5
          have f9 := Blk.free hB10 9
          have c9 := Blk.cell (i := 9) hB10 rfl
          simp only [List.getElem_toArray, List.getElem_cons_zero, List.getElem_cons_succ] at c9
          
          try simp only [List.getElem_toArray, List.getElem_cons_succ, List.getElem_cons_zero, Act.put, List.setIfInBounds_toArray, List.set_cons_zero, List.set_cons_succ]
          refine wpAnyM_one (i := 11) (by kernel_rfl) rfl (fun KK hK => ?_)
          go_simp
          refine hK.out _ _ (fun h => absurd h (by decide)) (fun _ => ?_); clear hK KK
          try simp only [List.getElem_toArray, List.getElem_cons_succ, List.getElem_cons_zero, Act.put, List.setIfInBounds_toArray, List.set_cons_zero, List.set_cons_succ]
          refine wpAnyM_one (i := 12) (by kernel_rfl) rfl (fun KK hK => ?_)
          go_simp
          refine hK.out _ _ (fun h => absurd h (by decide)) (fun _ => ?_); clear hK KK
          try simp only [List.getElem_toArray, List.getElem_cons_succ, List.getElem_cons_zero, Act.put, List.setIfInBounds_toArray, List.set_cons_zero, List.set_cons_succ]
          refine wpAnyM_done (by kernel_rfl) ?_ _
          try simp only [List.getElem_toArray, List.getElem_cons_succ, List.getElem_cons_zero, Act.put, List.setIfInBounds_toArray, List.set_cons_zero, List.set_cons_succ]
          clear hS
          have hB11 : Blk (w5.setCell ⟨o, 9, none⟩ (.slice va (k + 1) vc)) o #[.int .i64 (pl : Int), .int .i64 (1 + (q0 : Int)), .int .i64 g0, .int .i64 s0, .int .i64 (5 + (f0 : Int)), .int .i64 d0, .float .f64 r, .float .f64 d, .slice rva l.length rvc, .slice va (k + 1) vc] 46 := hB10.set 9 _
          have hFs : Fr [o] w5 (w5.setCell ⟨o, 9, none⟩ (.slice va (k + 1) vc)) := (Fr.refl [o] w5).setCell (p := ⟨o, 9, none⟩) (.inl (by simp)) _
          have ht11 := own_keep ho5 hFs (fun y hy hx => by simp at hx; subst hx; exact own_blk (g := 0) ho5 hB10 (by decide) _ hy rfl)
          have hr11 := own_keep hr10 hFs (fun y hy hx => by simp at hx; subst hx; exact own_blk (g := 0) hr10 hB10 (by decide) _ hy rfl)
          have hX11 := hFs.blk hX10 (by simp; omega)
          have hR11 := hFs.blk hR10 (by simp; omega)
          have hF11 := hFF.trans hFs (fun x hx => .inr (by rw [HG.out]; simp at hx; omega))
          have HB11 := Lib.hid hB11; have HT11 := Lib.hid ht11; have HR11 := Lib.hid hr11; have HX11 := Lib.hid hX11; have HRR11 := Lib.hid hR11; have HF11 := Lib.hid hF11
          clear hB11 ht11 hr11 hX11 hR11 hF11 hFs hB10 hX10 hR10 hr10 hFF ho5 hr9 hob hog hor hF10 hfg ht9 hnb hF9 hg5 hat5 hw1 hw2
          clear f9 c9
          generalize w5.setCell ⟨o, 9, none⟩ (.slice va (k + 1) vc) = w6 at *
          go_wp2_with fail
          go_roundw
          case rel => exact ⟨k + 1, va, vc, by omega, by go_num, HB11.out, HT11.out, HR11.out, HX11.out, HRR11.out, HF11.out⟩
          case measure => simp [intOf]; omega
        · have hke : k = pl := by omega
          subst hke
          have q1 : ¬ (k : Int) < k := by omega
          have o1 := Blk.cell (i := 1) hB rfl
          have o2 := Blk.cell (i := 2) hB rfl
          have o3 := Blk.cell (i := 3) hB rfl
          have o4 := Blk.cell (i := 4) hB rfl
          have o5 := Blk.cell (i := 5) hB rfl
          have o6 := Blk.cell (i := 6) hB rfl
          have o7 := Blk.cell (i := 7) hB rfl
          have o8 := Blk.cell (i := 8) hB rfl
          have o9 := Blk.cell (i := 9) hB rfl
          have t0 := Blk.cell (i := 0) hR rfl
          have u0 := Blk.free hR 0
          have t1 := Blk.cell (i := 1) hR rfl
          have u1 := Blk.free hR 1
          have t2 := Blk.cell (i := 2) hR rfl
          have u2 := Blk.free hR 2
          have t3 := Blk.cell (i := 3) hR rfl
          have u3 := Blk.free hR 3
          have t4 := Blk.cell (i := 4) hR rfl
          have u4 := Blk.free hR 4
          have t5 := Blk.cell (i := 5) hR rfl
          have u5 := Blk.free hR 5
          have t6 := Blk.cell (i := 6) hR rfl
          have u6 := Blk.free hR 6
          have t7 := Blk.cell (i := 7) hR rfl
          have u7 := Blk.free hR 7
          have t8 := Blk.cell (i := 8) hR rfl
          have u8 := Blk.free hR 8
          have t9 := Blk.cell (i := 9) hR rfl
          have u9 := Blk.free hR 9
          simp only [List.getElem_toArray, List.getElem_cons_zero, List.getElem_cons_succ] at o1 o2 o3 o4 o5 o6 o7 o8 o9 t0 t1 t2 t3 t4 t5 t6 t7 t8 t9
          have HFe := Lib.hid (((((((((((hF.setCell (p := ⟨g + 1, 0, none⟩) (.inr (by rw [HG.out]; simp)) (.int .i64 (k : Int))).setCell (p := ⟨g + 1, 1, none⟩) (.inr (by rw [HG.out]; simp)) (.int .i64 (1 + (q0 : Int)))).setCell (p := ⟨g + 1, 2, none⟩) (.inr (by rw [HG.out]; simp)) (.int .i64 g0)).setCell (p := ⟨g + 1, 3, none⟩) (.inr (by rw [HG.out]; simp)) (.int .i64 s0)).setCell (p := ⟨g + 1, 4, none⟩) (.inr (by rw [HG.out]; simp)) (.int .i64 (5 + (f0 : Int)))).setCell (p := ⟨g + 1, 5, none⟩) (.inr (by rw [HG.out]; simp)) (.int .i64 d0)).setCell (p := ⟨g + 1, 6, none⟩) (.inr (by rw [HG.out]; simp)) (.float .f64 r)).setCell (p := ⟨g + 1, 7, none⟩) (.inr (by rw [HG.out]; simp)) (.float .f64 d)).setCell (p := ⟨g + 1, 8, none⟩) (.inr (by rw [HG.out]; simp)) (.slice rva l.length rvc)).setCell (p := ⟨g + 1, 9, none⟩) (.inr (by rw [HG.out]; simp)) (.slice ta k tc)))
          have HT := Lib.hid (own_keep ht (((((((((((Fr.refl [g + 1] wr).setCell (p := ⟨g + 1, 0, none⟩) (.inl (by simp)) (.int .i64 (k : Int))).setCell (p := ⟨g + 1, 1, none⟩) (.inl (by simp)) (.int .i64 (1 + (q0 : Int)))).setCell (p := ⟨g + 1, 2, none⟩) (.inl (by simp)) (.int .i64 g0)).setCell (p := ⟨g + 1, 3, none⟩) (.inl (by simp)) (.int .i64 s0)).setCell (p := ⟨g + 1, 4, none⟩) (.inl (by simp)) (.int .i64 (5 + (f0 : Int)))).setCell (p := ⟨g + 1, 5, none⟩) (.inl (by simp)) (.int .i64 d0)).setCell (p := ⟨g + 1, 6, none⟩) (.inl (by simp)) (.float .f64 r)).setCell (p := ⟨g + 1, 7, none⟩) (.inl (by simp)) (.float .f64 d)).setCell (p := ⟨g + 1, 8, none⟩) (.inl (by simp)) (.slice rva l.length rvc)).setCell (p := ⟨g + 1, 9, none⟩) (.inl (by simp)) (.slice ta k tc)) (fun y hy hx => by simp at hx; subst hx; exact own_blk (g := 0) ht hR (by decide) _ hy rfl)); have HR := Lib.hid (own_keep hr (((((((((((Fr.refl [g + 1] wr).setCell (p := ⟨g + 1, 0, none⟩) (.inl (by simp)) (.int .i64 (k : Int))).setCell (p := ⟨g + 1, 1, none⟩) (.inl (by simp)) (.int .i64 (1 + (q0 : Int)))).setCell (p := ⟨g + 1, 2, none⟩) (.inl (by simp)) (.int .i64 g0)).setCell (p := ⟨g + 1, 3, none⟩) (.inl (by simp)) (.int .i64 s0)).setCell (p := ⟨g + 1, 4, none⟩) (.inl (by simp)) (.int .i64 (5 + (f0 : Int)))).setCell (p := ⟨g + 1, 5, none⟩) (.inl (by simp)) (.int .i64 d0)).setCell (p := ⟨g + 1, 6, none⟩) (.inl (by simp)) (.float .f64 r)).setCell (p := ⟨g + 1, 7, none⟩) (.inl (by simp)) (.float .f64 d)).setCell (p := ⟨g + 1, 8, none⟩) (.inl (by simp)) (.slice rva l.length rvc)).setCell (p := ⟨g + 1, 9, none⟩) (.inl (by simp)) (.slice ta k tc)) (fun y hy hx => by simp at hx; subst hx; exact own_blk (g := 0) hr hR (by decide) _ hy rfl))
          clear hB ht hr hX hR hF
          go_wp2_with fail
          refine bodyPost_ret (v := .agg #[.int .i64 (k : Int), .int .i64 (1 + (q0 : Int)), .int .i64 g0, .int .i64 s0, .int .i64 (5 + (f0 : Int)), .int .i64 d0, .float .f64 r, .float .f64 d, .slice rva l.length rvc, .slice ta k tc]) (by simp [results, Try.results20, go_sem, t0, t1, t2, t3, t4, t5, t6, t7, t8, t9]) rfl ?_
          refine ⟨⟨k, 1 + q0, g0, s0, 5 + f0, d0, r, d, rva, l.length, rvc, ta, k, tc⟩, l, toksOf tb k, ?_, ⟨hpl1, hpl8, by dsimp only; omega, by dsimp only; omega, by dsimp only; omega, by dsimp only; omega, by dsimp only; omega, by dsimp only; omega, by dsimp only; omega, HRD.out.1, HRD.out.2, by rw [HG.out]; exact HR.out, ⟨rfl, HL.out.1⟩, HL.out.2, by rw [HG.out]; exact HT.out, ⟨by simp [toksOf], rfl⟩, toksOf_nd _ _, fun t ht => ?_⟩, by dsimp only; omega, by dsimp only; omega, HFe.out⟩
          · unfold CfV.v; simp only
            rw [show ((1 + q0 : Nat) : Int) = 1 + (q0 : Int) by omega, show ((5 + f0 : Nat) : Int) = 5 + (f0 : Int) by omega]
          · unfold toksOf at ht
            obtain ⟨i, hi, rfl⟩ := List.mem_map.1 ht
            have := List.mem_range.1 hi
            omega
end Go.Proofs.Ytckodnogjedmnaa.Cfg
