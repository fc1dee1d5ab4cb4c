import Derived.Test.YtlfdbkdaamodnaaTrap14
import Derived.Test.YtlfdbkdaamodnaaTrap7
import Derived.Test.YtlfdbkdaamodnaaRg
namespace Go.Proofs.Ytlfdbkdaamodnaa.Tr
open Go.RowKit Dt Go.Proofs.Ytlfdbkdaamodnaa.Hd
set_option linter.unusedVariables false
set_option linter.unusedSimpArgs false

theorem neq26 (c a : Int) (w : World) : (binOp .neq 26 (.agg #[.int .i64 c, .int .i64 a]) (.agg #[.int .i64 c, .int .i64 a])).run Try.prog w = .ok (.bool false) w := by
  simp [go_sem]

set_option maxRecDepth 100000 in
set_option maxHeartbeats 3200000 in
theorem run_step {A : Nat → Act3} {w : World} {bp base d i c N : Nat} {fs : List (Int × Int)} {fv : Value} {a : Option Addr} {len cap : Nat} (hs : SlAct w a len cap A) (hlb : ∀ b, a.map (·.block) = some b → b < bp) (h : PS w bp base (.slice a len cap) i c fs fv) 
    (hN : N = min len 40) (hd6 : d ≤ 6) (hi : i ≤ N) (hfs : fs.length ≤ i) (hc : c ≤ i)
    (ih : d < 6 → ∀ w' i c fs fv, SlAct w' a len cap A → PS w' bp base (.slice a len cap) i c fs fv → i ≤ N → fs.length ≤ i → c ≤ i → Calls Try.prog 31 #[.pointer (some ⟨bp, 0, none⟩), .int .i64 ((d : Int) + 1)] w' fun e w'' => e = .returned (.tuple #[]) ∧ ∃ i' c' fs' fv', Ran A N bp base (.slice a len cap) w' fv i (0, []) w'' i' c' fs' fv' ∧ (i < N → i < i') ∧ Fin A N i (d + 1) c fs = Fin A N i' d c' fs') :
    Calls Try.prog 31 #[.pointer (some ⟨bp, 0, none⟩), .int .i64 d] w fun e w'' => e = .returned (.tuple #[]) ∧ ∃ i' c' fs' fv', Ran A N bp base (.slice a len cap) w fv i (0, []) w'' i' c' fs' fv' ∧ (i < N → i < i') ∧ Fin A N i d c fs = Fin A N i' (d - 1) c' fs' := by
  have hmf : ∀ (fn : Fn) (first cap : Array Value) (w : World), (Instr.makeFunc fn first cap).run Try.prog w = .ok (.func fn first cap) w := fun _ _ _ _ => rfl
  have HH := Lib.hid h; clear h
  have IH := Lib.hid ih; clear ih
  have HS := Lib.hid hs; clear hs
  have HLB := Lib.hid hlb; clear hlb
  have HN := Lib.hid hN; clear hN
  go_enter Try.func31, Try.ntmps31
  go_wp2_with fail
  have kx := (Blk.new w #[.pointer (some ⟨bp, 0, none⟩)] 34).alloc (.cells #[.int .i64 d] 3)
  have kd := Blk.new (w.alloc (.cells #[.pointer (some ⟨bp, 0, none⟩)] 34)) #[.int .i64 d] 3
  rw [World.size_alloc] at kd
  have hF1 := ((Fr.refl [] w).alloc (.cells #[.pointer (some ⟨bp, 0, none⟩)] 34)).alloc (.cells #[.int .i64 d] 3)
  have P1 := HH.out.fr hF1 (by simp) (by simp)
  have S1 : SlAct _ a len cap A := HS.out.fr hF1 (by simp)
  obtain ⟨K, hK⟩ : ∃ K, K = w.heap.size := ⟨_, rfl⟩
  rw [← hK] at kx kd ⊢
  generalize (w.alloc (.cells #[.pointer (some ⟨bp, 0, none⟩)] 34)).alloc (.cells #[.int .i64 d] 3) = w1 at *
  have hSS : ∀ x ∈ bp :: fv.ownBlock.toList, x < w1.heap.size := by
    intro x hx
    simp only [List.mem_cons, Option.mem_toList] at hx
    rcases hx with rfl | hx
    · exact P1.blk.lt
    · exact own_lt P1.own hx
  have hSK : ∀ x ∈ bp :: fv.ownBlock.toList, x < K := by
    intro x hx
    simp only [List.mem_cons, Option.mem_toList] at hx
    rcases hx with rfl | hx
    · rw [hK]; exact HH.out.blk.lt
    · rw [hK]; exact own_lt HH.out.own hx
  have hK1 := kd.lt
  have HK := Lib.hid hK; clear hK
  have HP1 := Lib.hid P1; have HS1 := Lib.hid S1; have HF1 := Lib.hid hF1
  clear P1 S1 hF1
  refine (catch_any2 (S := bp :: fv.ownBlock.toList) (R := fun o w2 => ∃ i' c' fs' fv', PS w2 bp base (.slice a len cap) i' c' fs' fv' ∧ AtF fv' fv (w1.heap.size + 2) ∧ (i ≤ i' ∧ i' ≤ N) ∧ fs'.length ≤ i' ∧ c' ≤ i' ∧ (i < N → i < i') ∧
      ((o = .done ∧ Fin A N i d c fs = Fin A N i' (d - 1) c' fs') ∨ ∃ x y, o = .thrown x y [] ∧ fs'.length < i' ∧ Fin A N i d c fs = Fin A N i' (d - 1) c' (fs' ++ [(x, y)]))) hSS (fun _ => by kernel_rfl) (fun w0 hF0 hsz => 
    (play_body (HS1.out.fr hF0 (by simp)) HLB.out (HP1.out.fr hF0 (by simp) (by simp)) (hF0.blk kx (by simp)) (hF0.blk kd (by simp)) HN.out hd6 hi hfs hc IH.out).mono (fun e w2 ⟨o, hok, he, hF, i', c', fs', fv', hR, hpr, hdj⟩ => ⟨o, hok, he, hF, i', c', fs', fv', hR.ps, (by
      rcases hR.at_ with h | ⟨g, h, hg⟩
      · exact .inl h
      · exact .inr ⟨g, h, by omega⟩), hR.le, hR.fs, hR.c, hpr, hdj⟩))).mono ?_
  rintro e w3 ⟨o, w2, hok, rfl, hF3, ⟨i', c', fs', fv', P2, hat, hle, hfl, hcl, hpr, hdj⟩, hF4⟩
  have P3 : PS w3 bp base (.slice a len cap) i' c' fs' fv' := by
    refine P2.fr hF4 ?_ ?_
    · have := hSS bp (by simp); simp; omega
    · intro g hg
      rcases hat with h | ⟨g', h, hg'⟩
      · have := hSS g (by rw [← h, hg]; simp)
        simp; omega
      · rw [h] at hg; cases hg; simp; omega
  have hF5 := HF1.out.mono (S' := bp :: fv.ownBlock.toList) (by simp) |>.trans hF3 (fun x hx => .inl hx)
  have hat2 : AtF fv' fv w.heap.size := by
    rcases hat with h | ⟨g, h, hg⟩
    · exact .inl h
    · exact .inr ⟨g, h, by have := HK.out; omega⟩
  have bx3 := hF3.blk kx (fun h => by have := hSK _ h; omega)
  clear P2 hF3 hF4 hat kx kd hSS
  rcases hdj with ⟨rfl, hFin⟩ | ⟨x, y, rfl, hfl2, hFin⟩
  · simp only [Out.asCatch]
    have hRan : Ran A N bp base (.slice a len cap) w fv i (0, []) (w3.alloc (.cells #[.int .i64 0, .int .i64 0] 26)) i' c' fs' fv' := ⟨P3.fr ((Fr.refl [] w3).alloc _) (by simp) (by simp), hF5.alloc _, hat2, hle, hfl, hcl⟩
    have hne := neq26 0 0
    have HR := Lib.hid hRan; have HFN := Lib.hid hFin; have HPR := Lib.hid hpr
    clear hRan hFin hpr hF5 hat2 P3 bx3
    go_wp2_with fail
    refine bodyPost_end (results_none rfl _ _ _) rfl ?_
    exact ⟨rfl, i', c', fs', fv', HR.out, HPR.out, HFN.out⟩
  · simp only [Out.asCatch]
    go_upto_region 3 with (fail)
    have HFN := Lib.hid hFin; have HPR := Lib.hid hpr; have HAT := Lib.hid hat2
    clear hFin hpr hat2
    have m1 := bx3.alloc (.cells #[.int .i64 x, .int .i64 y] 26)
    have m2 := P3.blk.alloc (.cells #[.int .i64 x, .int .i64 y] 26)
    have m3 := Blk.new w3 #[.int .i64 x, .int .i64 y] 26
    have hown : (w3.alloc (.cells #[.int .i64 x, .int .i64 y] 26)).ownsRow base 26 2 fv' fs'.length (cellsF fs') := own_keep P3.own ((Fr.refl [] w3).alloc _) (by simp)
    have hF6 := hF5.alloc (.cells #[.int .i64 x, .int .i64 y] 26)
    have ag1 : fv'.ownBlock ≠ some K := fun h => by
      have := own_ne (g := 0) P3.own bx3 (by decide)
      rw [h] at this; simp at this
    have ag2 : fv'.ownBlock ≠ some bp := fun h => by
      have := own_ne (g := 0) P3.own P3.blk (by decide)
      rw [h] at this; simp at this
    have ag3 : fv'.ownBlock ≠ some w3.heap.size := fun h => by have := own_lt P3.own h; omega
    have hroom := P3.room
    have hlt0 := P3.lt
    have hKb : K ≠ bp := by have := hSK bp (by simp); omega
    have hKF := bx3.lt
    have hpF := P3.blk.lt
    clear bx3 P3 hF5
    generalize w3.heap.size = F at *
    generalize w3.alloc (.cells #[.int .i64 x, .int .i64 y] 26) = w4 at *
    have c1 := m1.cell (i := 0) rfl
    have c2 := m2.cell (i := 3) rfl
    have c3 := m3.cell (i := 0) rfl
    have c4 := m3.cell (i := 1) rfl
    have f2 := m2.free 3
    simp only [List.getElem_toArray, List.getElem_cons_zero, List.getElem_cons_succ] at c1 c2 c3 c4
    have e1 := World.new_ne w4 _ c1
    have e2 := World.new_ne w4 _ c2
    have e3 := World.new_ne w4 _ c3
    have e4 := World.new_ne w4 _ c4
    have e5 : ∀ o, (w4.alloc o).frozen? ⟨bp, 3, none⟩ = false := fun o => (m2.alloc o).free 3
    have e6 : ∀ o, (w4.alloc o).drew.frozen? ⟨bp, 3, none⟩ = false := fun o => (m2.alloc o).drew.free 3
    have hbF : bp ≠ F := by omega
    have hFb : F ≠ bp := by omega
    have hbK : bp ≠ K := by omega
    have l1 := m1.lt
    have l2 := m2.lt
    have l3 := m3.lt
    obtain ⟨i0, hi0, hz0, hz1, hz2⟩ := info_parts info26
    have h40 : fs'.length ≤ 40 := by have := HN.out; omega
    obtain ⟨H, hH⟩ : ∃ H, H = w4.heap.size := ⟨_, rfl⟩
    have hroom4 : base ≤ w4.heap.size := Nat.le_trans HH.out.room hF6.size
    refine wp_region_G 10 (fun w' => w'.cell? ⟨K, 0, none⟩ = some (.pointer (some ⟨bp, 0, none⟩)) ∧ w'.cell? ⟨bp, 3, none⟩ = some fv' ∧ w'.cell? ⟨F, 0, none⟩ = some (.int .i64 x) ∧ w'.cell? ⟨F, 1, none⟩ = some (.int .i64 y)) (by kernel_rfl) ⟨c1, c2, c3, c4⟩ (fun hS => ?_)
    refine wpAnyG_take (i := 0) (v := ?_) rfl (by kernel_rfl) (by kernel_rfl) (by kernel_rfl) (by kernel_rfl) (fun _ _ _ h => h) (Or.inl ⟨by rfl, ?_⟩) hS ?_; rotate_left; (intro w hSw; (try dsimp only at hSw); go_split_ands; go_simp; try with_reducible rfl)
    try simp only [Act.put, List.setIfInBounds_toArray, List.set_cons_zero, List.set_cons_succ]
    refine wpAnyG_take (i := 1) (v := ?_) rfl (by kernel_rfl) (by kernel_rfl) (by kernel_rfl) (by kernel_rfl) (fun _ _ _ h => h) (Or.inl ⟨by rfl, ?_⟩) hS ?_; rotate_left; (intro w hSw; (try dsimp only at hSw); go_split_ands; go_simp; try with_reducible rfl)
    try simp only [Act.put, List.setIfInBounds_toArray, List.set_cons_zero, List.set_cons_succ]
    refine wpAnyG_take (i := 2) (v := ?_) rfl (by kernel_rfl) (by kernel_rfl) (by kernel_rfl) (by kernel_rfl) (fun _ _ _ h => h) (Or.inl ⟨by rfl, ?_⟩) hS ?_; rotate_left; (intro w hSw; (try dsimp only at hSw); go_split_ands; go_simp; try with_reducible rfl)
    try simp only [Act.put, List.setIfInBounds_toArray, List.set_cons_zero, List.set_cons_succ]
    refine wpAnyG_take (i := 3) (v := ?_) rfl (by kernel_rfl) (by kernel_rfl) (by kernel_rfl) (by kernel_rfl) (fun _ _ _ h => h) (Or.inl ⟨by rfl, ?_⟩) hS ?_; rotate_left; (intro w hSw; (try dsimp only at hSw); go_split_ands; go_simp; try with_reducible rfl)
    try simp only [Act.put, List.setIfInBounds_toArray, List.set_cons_zero, List.set_cons_succ]
    refine wpAnyG_take (i := 4) (v := ?_) rfl (by kernel_rfl) (by kernel_rfl) (by kernel_rfl) (by kernel_rfl) (fun _ _ _ h => h) (Or.inl ⟨by rfl, ?_⟩) hS ?_; rotate_left; (intro w hSw; (try dsimp only at hSw); go_split_ands; go_simp; try with_reducible rfl)
    try simp only [Act.put, List.setIfInBounds_toArray, List.set_cons_zero, List.set_cons_succ]
    refine wpAnyG_take (i := 5) (v := ?_) rfl (by kernel_rfl) (by kernel_rfl) (by kernel_rfl) (by kernel_rfl) (fun _ _ _ h => h) (Or.inl ⟨by rfl, ?_⟩) hS ?_; rotate_left; (intro w hSw; (try dsimp only at hSw); go_split_ands; go_simp; try with_reducible rfl)
    try simp only [Act.put, List.setIfInBounds_toArray, List.set_cons_zero, List.set_cons_succ]
    refine wpAnyG_one (i := 6) (by kernel_rfl) rfl (fun KK hK => ?_)
    go_simp
    refine hK.out _ _ (fun _ => ⟨(m1.alloc _).cell (i := 0) rfl, (m2.alloc _).cell (i := 3) rfl, (m3.alloc _).cell (i := 0) rfl, (m3.alloc _).cell (i := 1) rfl⟩) (fun hS2 => ?_)
    clear hK KK hS
    try simp only [Act.put, List.setIfInBounds_toArray, List.set_cons_zero, List.set_cons_succ]
    refine wpAnyG_one (i := 7) (by kernel_rfl) rfl (fun KK hK => ?_)
    refine step_append_lies _ (by rfl) _ _ _ (by rfl) base 26 i0 _ 2 16 Try.underlying35 hi0 hz0 hz1 hz2 rfl (by omega) fv' fs'.length (cellsF fs') (by rfl) ((hown.alloc _).drew)
          ⟨w4.heap.size, 0, none⟩ 1 1 [.int .i64 x, .int .i64 y] (by rfl) (by rfl) (World.news_of_block (cs := #[.int .i64 x, .int .i64 y]) (t := 26) (fr := (0, 0)) (heap_alloc_new w4 _)) (by simp [Value.oneCell'])
          (by omega) (by unfold maxLen; omega) (by omega) (by simp; omega) (w4.heap.size + 1) (by simp) ?_
    intro gg cap5 w5 hown5 hgrow hat5 hlt5
    have m2' := (m2.alloc (.cells #[.int .i64 x, .int .i64 y] 26)).drew
    have m25 := blk_own m2' ((hown.alloc _).drew) hgrow hlt0
    have d2 := m25.cell (i := 3) rfl
    have g2 := m25.free 3
    simp only [List.getElem_toArray, List.getElem_cons_zero, List.getElem_cons_succ] at d2
    have hF7 : Fr (bp :: fv.ownBlock.toList) w w5 := (hF6.alloc (.cells #[.int .i64 x, .int .i64 y] 26)).drew.trans (fr_grown hgrow) (fun z hz => by
      have := HAT.out.in_ (b := bp) z (by simp only [List.mem_cons]; exact .inr hz)
      exact this)
    have hS3 : w5.cell? ⟨K, 0, none⟩ = some (.pointer (some ⟨bp, 0, none⟩)) ∧ w5.cell? ⟨bp, 3, none⟩ = some fv' ∧ w5.cell? ⟨F, 0, none⟩ = some (.int .i64 x) ∧ w5.cell? ⟨F, 1, none⟩ = some (.int .i64 y) := by
      refine ⟨?_, d2, ?_, ?_⟩
      · rw [hgrow.cell_far _ (by simp; omega) (Ne.symm ag1)]; exact (m1.alloc _).cell (i := 0) rfl
      · rw [hgrow.cell_far _ (by simp; omega) (Ne.symm ag3)]; exact (m3.alloc _).cell (i := 0) rfl
      · rw [hgrow.cell_far _ (by simp; omega) (Ne.symm ag3)]; exact (m3.alloc _).cell (i := 1) rfl
    refine hK.out _ _ (fun _ => hS3) (fun _ => ?_)
    clear hK KK hS2 c1 c2 c3 c4 f2 e1 e2 e3 e4 e5 e6 m1 m2 m3 m2'
    try simp only [Act.put, List.setIfInBounds_toArray, List.set_cons_zero, List.set_cons_succ]
    refine wpAnyG_one (i := 8) (by kernel_rfl) rfl (fun KK hK => ?_)
    go_simp
    refine hK.out _ _ (fun _ => hS3) (fun _ => ?_)
    clear hK KK
    try simp only [Act.put, List.setIfInBounds_toArray, List.set_cons_zero, List.set_cons_succ]
    refine wpAnyG_one (i := 9) (by kernel_rfl) rfl (fun KK hK => ?_)
    go_simp
    refine hK.out _ _ (fun _ => hS3) (fun _ => ?_)
    clear hK KK
    try simp only [Act.put, List.setIfInBounds_toArray, List.set_cons_zero, List.set_cons_succ]
    refine wpAnyG_one (i := 10) (by kernel_rfl) rfl (fun KK hK => ?_)
    go_simp
    refine hK.out _ _ (fun h => absurd rfl h) (fun _ => ?_)
    clear hK KK
    refine wpAnyG_done (by kernel_rfl) ?_ _
    try simp only [Act.put, List.setIfInBounds_toArray, List.set_cons_zero, List.set_cons_succ]
    refine bodyPost_end (results_none rfl _ _ _) rfl ?_
    have hl6 : (fs' ++ [(x, y)]).length = fs'.length + 1 := by simp
    have own6 : w5.ownsRow base 26 2 (.slice (some ⟨gg, 0, none⟩) (fs'.length + 1) cap5) (fs' ++ [(x, y)]).length (cellsF (fs' ++ [(x, y)])) := by
      rw [hl6, cellsF_snoc]; exact hown5
    have hF8 := hF7.setCell (p := ⟨bp, 3, none⟩) (.inl (by simp)) (.slice (some ⟨gg, 0, none⟩) (fs'.length + 1) cap5)
    refine ⟨rfl, i', c', fs' ++ [(x, y)], .slice (some ⟨gg, 0, none⟩) (fs'.length + 1) cap5, ⟨⟨m25.set 3 _, own_fr own6 ((Fr.refl [bp] w5).setCell (p := ⟨bp, 3, none⟩) (.inl (by simp)) _) (by simp; exact hlt0), hlt0, Nat.le_trans HH.out.room hF8.size⟩, hF8, ?_, hle, by rw [hl6]; omega, hcl⟩, HPR.out, HFN.out⟩
    rcases hat5 with h | h
    · rcases HAT.out with h' | ⟨g, h', hg⟩
      · exact .inl (by rw [← h', h]; rfl)
      · exact .inr ⟨gg, rfl, by rw [h] at h'; cases h'; exact hg⟩
    · exact .inr ⟨gg, rfl, by have := hF6.size; omega⟩

/-- the player, from any depth -/
theorem run_any {A : Nat → Act3} {bp base N : Nat} {a : Option Addr} {len cap : Nat} (hlb : ∀ b, a.map (·.block) = some b → b < bp) (hN : N = min len 40) : ∀ (n d : Nat), d + n = 6 → ∀ (w : World) (i c : Nat) (fs : List (Int × Int)) (fv : Value), SlAct w a len cap A → PS w bp base (.slice a len cap) i c fs fv → i ≤ N → fs.length ≤ i → c ≤ i →
    Calls Try.prog 31 #[.pointer (some ⟨bp, 0, none⟩), .int .i64 d] w fun e w'' => e = .returned (.tuple #[]) ∧ ∃ i' c' fs' fv', Ran A N bp base (.slice a len cap) w fv i (0, []) w'' i' c' fs' fv' ∧ (i < N → i < i') ∧ Fin A N i d c fs = Fin A N i' (d - 1) c' fs' := by
  intro n
  induction n with
  | zero => exact fun d hd w i c fs fv hs h hi hfs hc => run_step hs hlb h hN (by omega) hi hfs hc (fun h => by omega)
  | succ n ih =>
    intro d hd w i c fs fv hs h hi hfs hc
    refine run_step hs hlb h hN (by omega) hi hfs hc (fun _ w' i c fs fv hs h hi hfs hc => ?_)
    have := ih (d + 1) (by omega) w' i c fs fv hs h hi hfs hc
    rw [show (((d + 1 : Nat)) : Int) = (d : Int) + 1 by omega] at this
    exact this
end Go.Proofs.Ytlfdbkdaamodnaa.Tr
