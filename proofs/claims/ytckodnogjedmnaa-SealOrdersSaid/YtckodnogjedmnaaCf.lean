/- configs: ops, rules. -/
import Derived.Test.YtckodnogjedmnaaHand
import Derived.Test.YtckodnogjedmnaaOwn
import Derived.Test.YtckodnogjedmnaaRg2
import Derived.StillTailTactics
import Derived.Deep.QuietTactic
import Derived.BigQuiet
import Derived.Deep.Cut
import Derived.Deep.CutBlock
import Derived.IntWalk
namespace Go.Proofs.Ytckodnogjedmnaa.Cfg
open Go.RowKit Dt Go.Proofs.Ytckodnogjedmnaa.Hd
set_option linter.unusedVariables false
set_option linter.unusedSimpArgs false

/-- some op -/
def SomeOp (w : World) (e : Ending) (w' : World) : Prop := ∃ a b c : Int, e = .returned (.agg #[.int .i64 a, .int .i64 b, .int .i64 c]) ∧ Fr [] w w'
theorem pick_q (n m : Int) (w : World) (h1 : 1 ≤ m) (h2 : m ≤ 4611686018427387904) :
    Calls Try.prog 18 #[.int .i64 n, .int .i64 m] w fun e w' => e = .returned (.int .i64 (n % m)) ∧ w' = w := (pick_any n m w h1 h2).mono fun _ _ ⟨a, b⟩ => ⟨a, b.symm⟩
set_option maxRecDepth 100000 in
set_option maxHeartbeats 6400000 in
theorem op_any {w : World} (x y z : Int) : Calls Try.prog 46 #[.agg #[.int .i64 x, .int .i64 y, .int .i64 z]] w (SomeOp w) := by
  go_enter Try.func46, Try.ntmps46
  go_wp2_with fail
  have hX := (Blk.new w #[.int .i64 x, .int .i64 y, .int .i64 z] 89).alloc (.cells #[.int .i64 0, .int .i64 0, .int .i64 0] 87)
  have hR := Blk.new (w.alloc (.cells #[.int .i64 x, .int .i64 y, .int .i64 z] 89)) #[.int .i64 0, .int .i64 0, .int .i64 0] 87
  rw [show (w.alloc (.cells #[.int .i64 x, .int .i64 y, .int .i64 z] 89)).heap.size = w.heap.size + 1 by simp] at hR
  have hF := ((Fr.refl [] w).alloc (.cells #[.int .i64 x, .int .i64 y, .int .i64 z] 89)).alloc (.cells #[.int .i64 0, .int .i64 0, .int .i64 0] 87)
  generalize (w.alloc (.cells #[.int .i64 x, .int .i64 y, .int .i64 z] 89)).alloc (.cells #[.int .i64 0, .int .i64 0, .int .i64 0] 87) = w1 at *
  obtain ⟨g, hg⟩ : ∃ g, w.heap.size = g := ⟨_, rfl⟩
  rw [hg] at hX hR ⊢
  have HG := Lib.hid hg
  clear hg
  have x0 := Blk.cell (i := 0) hX rfl
  have x1 := Blk.cell (i := 1) hX rfl
  have x2 := Blk.cell (i := 2) hX rfl
  simp only [List.getElem_toArray, List.getElem_cons_zero, List.getElem_cons_succ] at x0 x1 x2
  refine wp_region_M 12 (fun w' => w'.cell? ⟨g, 0, none⟩ = some (.int .i64 x) ∧ w'.cell? ⟨g, 1, none⟩ = some (.int .i64 y) ∧ w'.cell? ⟨g, 2, none⟩ = some (.int .i64 z)) (by kernel_rfl) (⟨x0, x1, x2⟩) (fun hS => ?_)
  try simp only [List.getElem_toArray, List.getElem_cons_succ, List.getElem_cons_zero, Act.put, List.setIfInBounds_toArray, List.set_cons_zero, List.set_cons_succ]
  refine wpAnyM_take (i := 0) (v := ?_) rfl (by kernel_rfl) (by kernel_rfl) (by kernel_rfl) (by kernel_rfl) (fun _ _ _ h => h) (Or.inl ⟨by kernel_rfl, ?_⟩) hS ?_; rotate_left; (intro w hSw; (try dsimp only at hSw); go_split_ands; go_simp; try with_reducible rfl)
  try simp only [List.getElem_toArray, List.getElem_cons_succ, List.getElem_cons_zero, Act.put, List.setIfInBounds_toArray, List.set_cons_zero, List.set_cons_succ]
  refine wpAnyM_take (i := 1) (v := ?_) rfl (by kernel_rfl) (by kernel_rfl) (by kernel_rfl) (by kernel_rfl) (fun _ _ _ h => h) (Or.inl ⟨by kernel_rfl, ?_⟩) hS ?_; rotate_left; (intro w hSw; (try dsimp only at hSw); go_split_ands; go_simp; try with_reducible rfl)
  try simp only [List.getElem_toArray, List.getElem_cons_succ, List.getElem_cons_zero, Act.put, List.setIfInBounds_toArray, List.set_cons_zero, List.set_cons_succ]
  refine wpAnyM_call (i := 2) (v := .int .i64 (x % 13)) rfl rfl Try.func18 (by kernel_rfl) (by kernel_rfl) (by kernel_rfl) (by kernel_rfl) (by kernel_rfl) (by kernel_rfl) (fun _ _ _ h => h) (by kernel_rfl) (by kernel_rfl) (fun w hSw => pick_q x 13 w (by decide) (by decide)) hS ?_
  try simp only [List.getElem_toArray, List.getElem_cons_succ, List.getElem_cons_zero, Act.put, List.setIfInBounds_toArray, List.set_cons_zero, List.set_cons_succ]
  refine wpAnyM_take (i := 3) (v := ?_) rfl (by kernel_rfl) (by kernel_rfl) (by kernel_rfl) (by kernel_rfl) (fun _ _ _ h => h) (Or.inl ⟨by kernel_rfl, ?_⟩) hS ?_; rotate_left; (intro w hSw; (try dsimp only at hSw); go_split_ands; go_simp; try with_reducible rfl)
  try simp only [List.getElem_toArray, List.getElem_cons_succ, List.getElem_cons_zero, Act.put, List.setIfInBounds_toArray, List.set_cons_zero, List.set_cons_succ]
  refine wpAnyM_take (i := 4) (v := ?_) rfl (by kernel_rfl) (by kernel_rfl) (by kernel_rfl) (by kernel_rfl) (fun _ _ _ h => h) (Or.inl ⟨by kernel_rfl, ?_⟩) hS ?_; rotate_left; (intro w hSw; (try dsimp only at hSw); go_split_ands; go_simp; try with_reducible rfl)
  try simp only [List.getElem_toArray, List.getElem_cons_succ, List.getElem_cons_zero, Act.put, List.setIfInBounds_toArray, List.set_cons_zero, List.set_cons_succ]
  refine wpAnyM_take (i := 5) (v := ?_) rfl (by kernel_rfl) (by kernel_rfl) (by kernel_rfl) (by kernel_rfl) (fun _ _ _ h => h) (Or.inl ⟨by kernel_rfl, ?_⟩) hS ?_; rotate_left; (intro w hSw; (try dsimp only at hSw); go_split_ands; go_simp; try with_reducible rfl)
  try simp only [List.getElem_toArray, List.getElem_cons_succ, List.getElem_cons_zero, Act.put, List.setIfInBounds_toArray, List.set_cons_zero, List.set_cons_succ]
  refine wpAnyM_call (i := 6) (v := .int .i64 (y % 4)) rfl rfl Try.func18 (by kernel_rfl) (by kernel_rfl) (by kernel_rfl) (by kernel_rfl) (by kernel_rfl) (by kernel_rfl) (fun _ _ _ h => h) (by kernel_rfl) (by kernel_rfl) (fun w hSw => pick_q y 4 w (by decide) (by decide)) hS ?_
  try simp only [List.getElem_toArray, List.getElem_cons_succ, List.getElem_cons_zero, Act.put, List.setIfInBounds_toArray, List.set_cons_zero, List.set_cons_succ]
  refine wpAnyM_take (i := 7) (v := ?_) rfl (by kernel_rfl) (by kernel_rfl) (by kernel_rfl) (by kernel_rfl) (fun _ _ _ h => h) (Or.inl ⟨by kernel_rfl, ?_⟩) hS ?_; rotate_left; (intro w hSw; (try dsimp only at hSw); go_split_ands; go_simp; try with_reducible rfl)
  try simp only [List.getElem_toArray, List.getElem_cons_succ, List.getElem_cons_zero, Act.put, List.setIfInBounds_toArray, List.set_cons_zero, List.set_cons_succ]
  refine wpAnyM_take (i := 8) (v := ?_) rfl (by kernel_rfl) (by kernel_rfl) (by kernel_rfl) (by kernel_rfl) (fun _ _ _ h => h) (Or.inl ⟨by kernel_rfl, ?_⟩) hS ?_; rotate_left; (intro w hSw; (try dsimp only at hSw); go_split_ands; go_simp; try with_reducible rfl)
  try simp only [List.getElem_toArray, List.getElem_cons_succ, List.getElem_cons_zero, Act.put, List.setIfInBounds_toArray, List.set_cons_zero, List.set_cons_succ]
  refine wpAnyM_call (i := 9) (v := .int .i64 (z % 4)) rfl rfl Try.func18 (by kernel_rfl) (by kernel_rfl) (by kernel_rfl) (by kernel_rfl) (by kernel_rfl) (by kernel_rfl) (fun _ _ _ h => h) (by kernel_rfl) (by kernel_rfl) (fun w hSw => pick_q z 4 w (by decide) (by decide)) hS ?_
  try simp only [List.getElem_toArray, List.getElem_cons_succ, List.getElem_cons_zero, Act.put, List.setIfInBounds_toArray, List.set_cons_zero, List.set_cons_succ]
  refine wpAnyM_take (i := 10) (v := ?_) rfl (by kernel_rfl) (by kernel_rfl) (by kernel_rfl) (by kernel_rfl) (fun _ _ _ h => h) (Or.inl ⟨by kernel_rfl, ?_⟩) hS ?_; rotate_left; (intro w hSw; (try dsimp only at hSw); go_split_ands; go_simp; try with_reducible rfl)
  try simp only [List.getElem_toArray, List.getElem_cons_succ, List.getElem_cons_zero, Act.put, List.setIfInBounds_toArray, List.set_cons_zero, List.set_cons_succ]
  refine wpAnyM_one (i := 11) (by kernel_rfl) rfl (fun KK hK => ?_)
  go_simp
  have hS2 := And.intro (Blk.cell (i := 0) (hX.drew.alloc (.cells #[.int .i64 0, .int .i64 0, .int .i64 0] 87)) rfl) (And.intro (Blk.cell (i := 1) (hX.drew.alloc (.cells #[.int .i64 0, .int .i64 0, .int .i64 0] 87)) rfl) (Blk.cell (i := 2) (hX.drew.alloc (.cells #[.int .i64 0, .int .i64 0, .int .i64 0] 87)) rfl))
  refine hK.out _ _ (fun _ => hS2) (fun _ => ?_); clear hK KK hS2
  
  try simp only [List.getElem_toArray, List.getElem_cons_succ, List.getElem_cons_zero, Act.put, List.setIfInBounds_toArray, List.set_cons_zero, List.set_cons_succ]
  refine wpAnyM_one (i := 12) (by kernel_rfl) rfl (fun KK hK => ?_)
  go_simp
  refine hK.out _ _ (fun h => absurd h (by decide)) (fun _ => ?_); clear hK KK
  try simp only [List.getElem_toArray, List.getElem_cons_succ, List.getElem_cons_zero, Act.put, List.setIfInBounds_toArray, List.set_cons_zero, List.set_cons_succ]
  refine wpAnyM_done (by kernel_rfl) ?_ _
  try simp only [List.getElem_toArray, List.getElem_cons_succ, List.getElem_cons_zero, Act.put, List.setIfInBounds_toArray, List.set_cons_zero, List.set_cons_succ]
  clear hS
  have hO := Blk.new w1.drew #[.int .i64 (IntKind.i64.wrap (1 + x % 13)), .int .i64 (y % 4), .int .i64 (z % 4)] 87
  have hFo := (Fr.refl [] w1).drew.alloc (.cells #[.int .i64 (IntKind.i64.wrap (1 + x % 13)), .int .i64 (y % 4), .int .i64 (z % 4)] 87)
  have hX2 := hFo.blk hX (by simp)
  have hR2 := hFo.blk hR (by simp)
  have hF2 := hF.trans hFo (by simp)
  have hl := hR.lt
  change Exit.then _ _ _ _ (w1.drew.alloc (.cells #[.int .i64 (IntKind.i64.wrap (1 + x % 13)), .int .i64 (y % 4), .int .i64 (z % 4)] 87))
  change Blk _ w1.heap.size _ _ at hO
  obtain ⟨o, ho⟩ : ∃ o, w1.heap.size = o := ⟨_, rfl⟩
  rw [ho] at hO hl ⊢
  clear ho x0 x1 x2 hX hR hF hFo
  generalize w1.drew.alloc (.cells #[.int .i64 (IntKind.i64.wrap (1 + x % 13)), .int .i64 (y % 4), .int .i64 (z % 4)] 87) = w2 at *
  rw [show IntKind.i64.wrap (1 + x % 13) = 1 + x % 13 from IntWalk.i64_in _ (by omega)] at hO ⊢
  obtain ⟨cd, hcd⟩ : ∃ cd, 1 + x % 13 = cd := ⟨_, rfl⟩
  rw [hcd] at hO ⊢
  clear hcd
  have x0 := Blk.cell (i := 0) hX2 rfl
  have x1 := Blk.cell (i := 1) hX2 rfl
  have x2 := Blk.cell (i := 2) hX2 rfl
  have o0 := Blk.cell (i := 0) hO rfl
  have o2 := Blk.cell (i := 2) hO rfl
  have f2 := Blk.free hO 2
  have f1 := Blk.free hO 1
  simp only [List.getElem_toArray, List.getElem_cons_zero, List.getElem_cons_succ] at x0 x1 x2 o0 o2
  have hgo : g ≠ o := by omega
  have hFw : ∀ k (v : Value), Fr [o] w2 (w2.setCell ⟨o, k, none⟩ v) := fun k v => (Fr.refl [o] w2).setCell (p := ⟨o, k, none⟩) (.inl (by simp)) v
  have HFW := Lib.hid hFw; have HO := Lib.hid hO; have HX2 := Lib.hid hX2; have HR2 := Lib.hid hR2; have HF2 := Lib.hid hF2
  clear hFw hO hX2 hR2 hF2
  go_upto_block 0 with (fail)
  go_cut [3] from 16 (fun v3 wc => v3 = .pointer (some ⟨o, 0, none⟩) ∧ (∃ a b c : Int, Blk wc o #[.int .i64 a, .int .i64 b, .int .i64 c] 87) ∧ Fr [o] w2 wc)
  case first =>
    rcases (show cd = 1 ∨ cd = 7 ∨ cd = 9 ∨ cd = 10 ∨ (cd ≠ 1 ∧ cd ≠ 7 ∧ cd ≠ 9 ∧ cd ≠ 10) by omega) with rfl | rfl | rfl | rfl | ⟨h1, h2, h3, h4⟩
    iterate 4 (
      go_wp2_with fail
      refine (pick_any _ _ _ (by decide) (by decide)).mono ?_; rintro e w' ⟨rfl, rfl⟩
      go_wp2_with fail
      go_meet
      case rel => exact ⟨rfl, ⟨_, _, _, HO.out.set 2 _⟩, HFW.out _ _⟩)
    have h1' : (cd == 1) = false := by simp; omega
    have h2' : (cd == 7) = false := by simp; omega
    have h3' : (cd == 9) = false := by simp; omega
    have h4' : (cd == 10) = false := by simp; omega
    go_wp2_with fail
    go_meet
    case rel => exact ⟨rfl, ⟨_, _, _, HO.out⟩, Fr.refl _ _⟩
  case rest =>
    obtain ⟨rfl, ⟨a, b, c, hO⟩, hFc⟩ := hcut
    have hX3 := hFc.blk HX2.out (by simp; omega)
    have hR3 := hFc.blk HR2.out (by simp; omega)
    have hF3 := HF2.out.trans hFc (fun x hx => .inr (by rw [HG.out]; simp at hx; omega))
    clear x0 x1 x2 o0 o2 f1 f2 HFW HO HX2 HR2 HF2 hFc
    generalize wc = w3 at *
    have x0 := Blk.cell (i := 0) hX3 rfl
    have x1 := Blk.cell (i := 1) hX3 rfl
    have x2 := Blk.cell (i := 2) hX3 rfl
    have o0 := Blk.cell (i := 0) hO rfl
    have o1 := Blk.cell (i := 1) hO rfl
    have o2 := Blk.cell (i := 2) hO rfl
    have f0 := Blk.free hO 0
    have f1 := Blk.free hO 1
    have f2 := Blk.free hO 2
    simp only [List.getElem_toArray, List.getElem_cons_zero, List.getElem_cons_succ] at x0 x1 x2 o0 o1 o2
    have HFW := Lib.hid (show ∀ k (v : Value), Fr [o] w3 (w3.setCell ⟨o, k, none⟩ v) from fun k v => (Fr.refl [o] w3).setCell (p := ⟨o, k, none⟩) (.inl (by simp)) v)
    have HO := Lib.hid hO; have HX3 := Lib.hid hX3; have HR3 := Lib.hid hR3; have HF3 := Lib.hid hF3
    clear hO hX3 hR3 hF3
    obtain ⟨q, hq⟩ : ∃ q, x % 101 = q := ⟨_, rfl⟩
    have HQ := Lib.hid hq
    clear hq
    go_wp2_with fail
    refine (pick_any _ _ _ (by decide) (by decide)).mono ?_; rintro e w' ⟨rfl, rfl⟩
    rw [HQ.out]
    go_upto_block 1 with (fail)
    go_cut [3] from 38 (fun v3 wc => v3 = .pointer (some ⟨o, 0, none⟩) ∧ (∃ a b c : Int, Blk wc o #[.int .i64 a, .int .i64 b, .int .i64 c] 87) ∧ Fr [o] w3 wc)
    case first =>
      rcases (show q = 97 ∨ q = 98 ∨ q = 99 ∨ q = 100 ∨ (q ≠ 97 ∧ q ≠ 98 ∧ q ≠ 99 ∧ q ≠ 100) by omega) with rfl | rfl | rfl | rfl | ⟨h1, h2, h3, h4⟩
      · go_wp2_with fail
        go_meet
        case rel => exact ⟨rfl, ⟨_, _, _, HO.out.set 1 _⟩, HFW.out _ _⟩
      · go_wp2_with fail
        go_meet
        case rel => exact ⟨rfl, ⟨_, _, _, HO.out.set 2 _⟩, HFW.out _ _⟩
      · go_wp2_with fail
        go_meet
        case rel => exact ⟨rfl, ⟨_, _, _, HO.out.set 0 _⟩, HFW.out _ _⟩
      · go_wp2_with fail
        refine (pick_any _ _ _ (by decide) (by decide)).mono ?_; rintro e w' ⟨rfl, rfl⟩
        go_wp2_with fail
        go_meet
        case rel => exact ⟨rfl, ⟨_, _, _, HO.out.set 1 _⟩, HFW.out _ _⟩
      · have h1' : (q == 97) = false := by simp; omega
        have h2' : (q == 98) = false := by simp; omega
        have h3' : (q == 99) = false := by simp; omega
        have h4' : (q == 100) = false := by simp; omega
        go_wp2_with fail
        go_meet
        case rel => exact ⟨rfl, ⟨_, _, _, HO.out⟩, Fr.refl _ _⟩
    case rest =>
      obtain ⟨rfl, ⟨a', b', c', hO⟩, hFc⟩ := hcut
      have hR4 := hFc.blk HR3.out (by simp; omega)
      have hF4 := HF3.out.trans hFc (fun x hx => .inr (by rw [HG.out]; simp at hx; omega))
      clear x0 x1 x2 o0 o1 o2 f0 f1 f2 HFW HO HX3 HR3 HF3 hFc
      have o0 := Blk.cell (i := 0) hO rfl
      have o1 := Blk.cell (i := 1) hO rfl
      have o2 := Blk.cell (i := 2) hO rfl
      have r0 := Blk.cell (i := 0) hR4 rfl
      have r1 := Blk.cell (i := 1) hR4 rfl
      have r2 := Blk.cell (i := 2) hR4 rfl
      have z0 := Blk.free hR4 0
      have z1 := Blk.free hR4 1
      have z2 := Blk.free hR4 2
      simp only [List.getElem_toArray, List.getElem_cons_zero, List.getElem_cons_succ] at o0 o1 o2 r0 r1 r2
      have HF4 := Lib.hid (((hF4.setCell (p := ⟨g + 1, 0, none⟩) (.inr (by rw [HG.out]; simp)) (.int .i64 a')).setCell (p := ⟨g + 1, 1, none⟩) (.inr (by rw [HG.out]; simp)) (.int .i64 b')).setCell (p := ⟨g + 1, 2, none⟩) (.inr (by rw [HG.out]; simp)) (.int .i64 c'))
      clear hF4 hR4 hO
      go_wp2_with fail
      refine bodyPost_ret (v := .agg #[.int .i64 a', .int .i64 b', .int .i64 c']) (by simp [results, Try.results46, go_sem, r0, r1, r2]) rfl ?_
      exact ⟨_, _, _, rfl, HF4.out⟩
end Go.Proofs.Ytckodnogjedmnaa.Cfg
