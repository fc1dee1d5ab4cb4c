/- chapter 16: Send. -/
import Derived.Test.YtkjjikjilmngdaaLk
import Derived.Test.YtkjjikjilmngdaaCloneSent
import Derived.Test.YtkjjikjilmngdaaRg2
import Derived.StillTailTactics
namespace Go.Proofs.Ytkjjikjilmngdaa.Lk
open Go.RowKit Dt Go.Proofs.Ytkjjikjilmngdaa.Wn Go.Proofs.Ytkjjikjilmngdaa.Sq Go.Proofs.Ytkjjikjilmngdaa.Mt
set_option linter.unusedVariables false
set_option linter.unusedSimpArgs false

theorem pr_drop (q : List (Nat × Nat)) (k : Nat) : pr (q.drop k) = (pr q).drop (k * 2) := by
  induction k generalizing q with
  | zero => simp
  | succ k ih =>
    cases q with
    | nil => simp [pr]
    | cons x q =>
      have e : pr (x :: q) = [.int .i64 x.1, .int .i64 x.2] ++ pr q := by simp [pr]
      rw [List.drop_succ_cons, ih, e, show (k + 1) * 2 = 2 + k * 2 by omega, List.drop_append]
      simp
/-- what Send leaves -/
def SendP (w : World) (b o nx n m j : Nat) (T : TypeId) (vs : Array Value) (wv : Value) (s : WS) (q : List (Nat × Nat)) (p : Pk) (tk : Int) (e : Ending) (w' : World) : Prop :=
  ∃ (la ac : Int) (us : Array Value) (wv' : Value), e = .returned (Pk.v { p with seq := nx, last := la, any := s.any, acks := ac }) ∧ (s.any = false → la = 0 ∧ ac = 0) ∧ (s.any = true → la = s.last ∧ Bt ac s.f) ∧
    Blk w' b us T ∧ LinkS us o ((nx + 1) % 65536) wv' s n m j ∧ Out vs us o 8 ∧
    w'.ownsRow w.heap.size 103 2 wv' (keep32 (q ++ [(nx, clp tk)])).length (pr (keep32 (q ++ [(nx, clp tk)]))) ∧ Fr (b :: wv.ownBlock.toList) w w'
set_option maxRecDepth 100000 in
set_option maxHeartbeats 6400000 in
theorem send_any {w : World} {b o base nx n m j : Nat} {T : TypeId} {vs : Array Value} {wv : Value} {s : WS} {q : List (Nat × Nat)} {tk : Int} (h : Blk w b vs T) (H : LinkS vs o nx wv s n m j) (hT : T ≠ 103) (hown : w.ownsRow base 103 2 wv q.length (pr q)) (hbase : base ≤ w.heap.size) (hq : q.length ≤ 32) (hnx : nx < 65536) (p : Pk) :
    Calls Try.prog 13 #[.pointer (some ⟨b, o, none⟩), p.v, .int .i64 tk] w (SendP w b o nx n m j T vs wv s q p tk) := by
  obtain ⟨kind, slot, sq, last, pany, acks, got, first, ia, il, ic, pl, ra, rl, rcp, frame, mark⟩ := p
  dsimp only [Pk.v]
  obtain ⟨hd, hwin, hmtr⟩ := H
  obtain ⟨wa, wc, rfl, hwc1, hwc2⟩ := own_val hown
  have c0 := Blk.cell h (hd.at (i := 0) rfl)
  have c1 := Blk.cell h (hd.at (i := 1) rfl)
  rw [Nat.add_zero] at c0
  have f0 := Blk.free h o
  have f1 := Blk.free h (o + 1)
  have hlt := h.lt
  have HQ := Lib.hid hq
  have HH := Lib.hid h; have HD := Lib.hid hd; have HM := Lib.hid hmtr; have HO := Lib.hid hown; have HT := Lib.hid hT; have HWC := Lib.hid (And.intro hwc1 hwc2)
  have HANY := Lib.hid (fun (w1 : World) (hF : Fr [] w w1) => (wany_at (hF.blk h (by simp)) hwin).mono fun _ _ ⟨a, b⟩ => (⟨a, b.symm⟩ : _ ∧ _ = w1))
  have HLAST := Lib.hid (fun (w1 : World) (hF : Fr [] w w1) => (wlast_at (hF.blk h (by simp)) hwin).mono fun _ _ ⟨a, b⟩ => (⟨a, b.symm⟩ : _ ∧ _ = w1))
  have HWIN := Lib.hid hwin
  obtain ⟨⟨v, hv, hbt⟩, hw1, hw2⟩ := hwin
  have HBITS := Lib.hid (fun (w1 : World) (hF : Fr [] w w1) => (wbits_at (hF.blk h (by simp)) hv).mono fun _ _ ⟨a, b⟩ => (⟨a, b.symm⟩ : _ ∧ _ = w1))
  have HBT := Lib.hid hbt
  obtain ⟨any, lst, f⟩ := s
  simp only at HANY HLAST HBITS HBT hw1 hw2
  clear h hd hmtr hown hv hbt hT hwc1 hwc2 hq
  cases any with
  | false =>
    go_enter Try.func13, Try.ntmps13
    go_wp2_with fail
    have hP := (Blk.new w #[.int .i64 kind, .int .i64 slot, .int .i64 sq, .int .i64 last, .bool pany, .int .u64 acks, .int .i64 got, .int .i64 first, .slice ia il ic, .int .i64 pl, .slice ra rl rcp, .int .i64 frame, .int .i64 mark] 38).alloc (.cells #[.int .i64 0, .int .i64 0, .int .i64 0, .int .i64 0, .bool false, .int .u64 0, .int .i64 0, .int .i64 0, .slice none 0 0, .int .i64 0, .slice none 0 0, .int .i64 0, .int .i64 0] 38)
    have hR := Blk.new (w.alloc (.cells #[.int .i64 kind, .int .i64 slot, .int .i64 sq, .int .i64 last, .bool pany, .int .u64 acks, .int .i64 got, .int .i64 first, .slice ia il ic, .int .i64 pl, .slice ra rl rcp, .int .i64 frame, .int .i64 mark] 38)) #[.int .i64 0, .int .i64 0, .int .i64 0, .int .i64 0, .bool false, .int .u64 0, .int .i64 0, .int .i64 0, .slice none 0 0, .int .i64 0, .slice none 0 0, .int .i64 0, .int .i64 0] 38
    rw [show (w.alloc (.cells #[.int .i64 kind, .int .i64 slot, .int .i64 sq, .int .i64 last, .bool pany, .int .u64 acks, .int .i64 got, .int .i64 first, .slice ia il ic, .int .i64 pl, .slice ra rl rcp, .int .i64 frame, .int .i64 mark] 38)).heap.size = w.heap.size + 1 by simp] at hR
    have hF1 := ((Fr.refl [] w).alloc (.cells #[.int .i64 kind, .int .i64 slot, .int .i64 sq, .int .i64 last, .bool pany, .int .u64 acks, .int .i64 got, .int .i64 first, .slice ia il ic, .int .i64 pl, .slice ra rl rcp, .int .i64 frame, .int .i64 mark] 38)).alloc (.cells #[.int .i64 0, .int .i64 0, .int .i64 0, .int .i64 0, .bool false, .int .u64 0, .int .i64 0, .int .i64 0, .slice none 0 0, .int .i64 0, .slice none 0 0, .int .i64 0, .int .i64 0] 38)
    generalize (w.alloc (.cells #[.int .i64 kind, .int .i64 slot, .int .i64 sq, .int .i64 last, .bool pany, .int .u64 acks, .int .i64 got, .int .i64 first, .slice ia il ic, .int .i64 pl, .slice ra rl rcp, .int .i64 frame, .int .i64 mark] 38)).alloc (.cells #[.int .i64 0, .int .i64 0, .int .i64 0, .int .i64 0, .bool false, .int .u64 0, .int .i64 0, .int .i64 0, .slice none 0 0, .int .i64 0, .slice none 0 0, .int .i64 0, .int .i64 0] 38) = w1 at *
    obtain ⟨g, hg⟩ : ∃ g, w.heap.size = g := ⟨_, rfl⟩
    rw [hg] at hP hR hlt hbase ⊢
    have HG := Lib.hid hg
    clear hg
    have d0 := (hF1.cell (p := ⟨b, o, none⟩) (by rw [HG.out]; exact hlt) (by simp)).trans c0
    have HP := Lib.hid hP; have HR := Lib.hid hR; have HF1 := Lib.hid hF1; have HC1 := Lib.hid c1; have HF0 := Lib.hid f0; have HFF := Lib.hid f1
    clear c0 c1 f0 f1 hP hR hF1
    go_still_tail 9, (by kernel_rfl)
    still_call (HANY.out _ HF1.out.drew)
    repeat still_step
    refine wpStill_nil ?_
    change wpList _ _ _ _ _ w1.drew
    have hP2 := HP.out.drew
    have HR2 := Lib.hid HR.out.drew
    have HF2 := Lib.hid HF1.out.drew
    clear d0 HP HR HF1
    generalize w1.drew = w2 at *
    have p2 := hP2.free 2
    have p3 := hP2.free 3
    have p4 := hP2.free 4
    have p5 := hP2.free 5
    have q2 := Blk.cell (i := 2) hP2 rfl
    have q3 := Blk.cell (i := 3) hP2 rfl
    have q4 := Blk.cell (i := 4) hP2 rfl
    have q5 := Blk.cell (i := 5) hP2 rfl
    simp only [List.getElem_toArray, List.getElem_cons_zero, List.getElem_cons_succ] at q2 q3 q4 q5
    have hP3 : Blk ((((w2.setCell ⟨g, 2, none⟩ (.int .i64 nx)).setCell ⟨g, 4, none⟩ (.bool false)).setCell ⟨g, 3, none⟩ (.int .i64 0)).setCell ⟨g, 5, none⟩ (.int .u64 0)) g #[.int .i64 kind, .int .i64 slot, .int .i64 nx, .int .i64 0, .bool false, .int .u64 0, .int .i64 got, .int .i64 first, .slice ia il ic, .int .i64 pl, .slice ra rl rcp, .int .i64 frame, .int .i64 mark] 38 := (((hP2.set 2 _).set 4 _).set 3 _).set 5 _
    have hR3 := (((HR2.out.other (a := ⟨g, 2, none⟩) (by simp) (.int .i64 nx)).other (a := ⟨g, 4, none⟩) (by simp) (.bool false)).other (a := ⟨g, 3, none⟩) (by simp) (.int .i64 0)).other (a := ⟨g, 5, none⟩) (by simp) (.int .u64 0)
    have hF3 := (((HF2.out.setCell (p := ⟨g, 2, none⟩) (.inr (by rw [HG.out]; exact Nat.le_refl _)) (.int .i64 nx)).setCell (p := ⟨g, 4, none⟩) (.inr (by rw [HG.out]; exact Nat.le_refl _)) (.bool false)).setCell (p := ⟨g, 3, none⟩) (.inr (by rw [HG.out]; exact Nat.le_refl _)) (.int .i64 0)).setCell (p := ⟨g, 5, none⟩) (.inr (by rw [HG.out]; exact Nat.le_refl _)) (.int .u64 0)
    have HP3 := Lib.hid hP3; have HR3 := Lib.hid hR3; have HF3 := Lib.hid hF3
    clear hP3 hR3 hF3 hP2
    go_upto_region 4 with (fail)
    clear p2 p3 p4 p5 q2 q3 q4 q5 HF2 HR2
    generalize (((w2.setCell ⟨g, 2, none⟩ (.int .i64 nx)).setCell ⟨g, 4, none⟩ (.bool false)).setCell ⟨g, 3, none⟩ (.int .i64 0)).setCell ⟨g, 5, none⟩ (.int .u64 0) = w3 at *
    have hB3 := HF3.out.blk HH.out (by simp)
    have c0 := Blk.cell hB3 (HD.out.at (i := 0) rfl)
    rw [Nat.add_zero] at c0
    have f0 := Blk.free hB3 o
    have hbg : b ≠ g := by omega
    have hB4 := hB3.set o (.int .i64 (((nx : Int) + 1) % 65536))
    have hS4 := HD.out.set (i := 0) (by simp) (.int .i64 (((nx : Int) + 1) % 65536))
    have hO4 := (Out.refl vs o 2).set (i := 0) (by decide) (.int .i64 (((nx : Int) + 1) % 65536))
    rw [Nat.add_zero] at hS4 hO4
    have hP4 := HP3.out.other (a := ⟨b, o, none⟩) (Ne.symm hbg) (.int .i64 (((nx : Int) + 1) % 65536))
    have hR4 := HR3.out.other (a := ⟨b, o, none⟩) (show g + 1 ≠ b by omega) (.int .i64 (((nx : Int) + 1) % 65536))
    have hF4 := (HF3.out.mono (S' := [b]) (by simp)).setCell (p := ⟨b, o, none⟩) (.inl (by simp)) (.int .i64 (((nx : Int) + 1) % 65536))
    have hF4' : Fr [b] w3 (w3.setCell ⟨b, o, none⟩ (.int .i64 (((nx : Int) + 1) % 65536))) := (Fr.refl [b] w3).setCell (p := ⟨b, o, none⟩) (.inl (by simp)) _
    have HB4 := Lib.hid hB4; have HS4 := Lib.hid hS4; have HO4 := Lib.hid hO4; have HP4 := Lib.hid hP4; have HR4 := Lib.hid hR4; have HF4 := Lib.hid hF4; have HF4' := Lib.hid hF4'
    clear hB3 hB4 hS4 hO4 hP4 hR4 hF4 hF4'
    go_wp2_with fail
    refine (next_any _ _).mono ?_; rintro e w' ⟨rfl, rfl⟩
    go_upto_region 5 with (fail)
    clear c0 f0
    have HO4b := Lib.hid (own_keep (S := [b]) HO.out ((HF3.out.mono (S' := [b]) (by simp)).trans HF4'.out (fun x hx => .inl hx)) (fun y hy => by
      have := own_notin HO.out HH.out HT.out
      simp only [Option.mem_toList] at this
      intro hx; simp at hx; subst hx; exact this hy))
    clear HP3 HR3 HF3 HF4'
    generalize w3.setCell ⟨b, o, none⟩ (.int .i64 (((nx : Int) + 1) % 65536)) = w4 at *
    obtain ⟨i0, hi0, hz0, hz1, hz2⟩ := info_parts infSent
    have hc1 : w4.drew.cell? ⟨b, o + 1, none⟩ = some (.slice wa q.length wc) := Blk.cell HB4.out (HS4.out.at (i := 1) rfl)
    have hc2 : w4.drew.cell? ⟨g, 2, none⟩ = some (.int .i64 nx) := Blk.cell HP4.out rfl
    have hq := HQ.out
    have hbs := HF4.out.size
    rw [HG.out] at hbs
    have hbg4 : base ≤ w4.drew.heap.size := Nat.le_trans hbase hbs
    have hlt4 : b < w4.drew.heap.size := HB4.out.lt
    have hgt4 : g < w4.drew.heap.size := HP4.out.lt
    refine wp_region_M 12 (fun w' => w'.cell? ⟨b, o + 1, none⟩ = some (.slice wa q.length wc) ∧ w'.cell? ⟨g, 2, none⟩ = some (.int .i64 nx)) (by kernel_rfl) (⟨hc1, hc2⟩) (fun hS => ?_)
    try simp only [List.getElem_toArray, List.getElem_cons_succ, List.getElem_cons_zero, Act.put, List.setIfInBounds_toArray, List.set_cons_zero, List.set_cons_succ]
    refine wpAnyM_take (i := 0) (v := ?_) rfl (by kernel_rfl) (by kernel_rfl) (by kernel_rfl) (by kernel_rfl) (fun _ _ _ h => h) (Or.inl ⟨by kernel_rfl, ?_⟩) hS ?_; rotate_left; (intro w hSw; (try dsimp only at hSw); go_split_ands; go_simp; try with_reducible rfl)
    try simp only [List.getElem_toArray, List.getElem_cons_succ, List.getElem_cons_zero, Act.put, List.setIfInBounds_toArray, List.set_cons_zero, List.set_cons_succ]
    refine wpAnyM_take (i := 1) (v := ?_) rfl (by kernel_rfl) (by kernel_rfl) (by kernel_rfl) (by kernel_rfl) (fun _ _ _ h => h) (Or.inl ⟨by kernel_rfl, ?_⟩) hS ?_; rotate_left; (intro w hSw; (try dsimp only at hSw); go_split_ands; go_simp; try with_reducible rfl)
    try simp only [List.getElem_toArray, List.getElem_cons_succ, List.getElem_cons_zero, Act.put, List.setIfInBounds_toArray, List.set_cons_zero, List.set_cons_succ]
    refine wpAnyM_take (i := 2) (v := ?_) rfl (by kernel_rfl) (by kernel_rfl) (by kernel_rfl) (by kernel_rfl) (fun _ _ _ h => h) (Or.inl ⟨by kernel_rfl, ?_⟩) hS ?_; rotate_left; (intro w hSw; (try dsimp only at hSw); go_split_ands; go_simp; try with_reducible rfl)
    try simp only [List.getElem_toArray, List.getElem_cons_succ, List.getElem_cons_zero, Act.put, List.setIfInBounds_toArray, List.set_cons_zero, List.set_cons_succ]
    refine wpAnyM_take (i := 3) (v := ?_) rfl (by kernel_rfl) (by kernel_rfl) (by kernel_rfl) (by kernel_rfl) (fun _ _ _ h => h) (Or.inl ⟨by kernel_rfl, ?_⟩) hS ?_; rotate_left; (intro w hSw; (try dsimp only at hSw); go_split_ands; go_simp; try with_reducible rfl)
    try simp only [List.getElem_toArray, List.getElem_cons_succ, List.getElem_cons_zero, Act.put, List.setIfInBounds_toArray, List.set_cons_zero, List.set_cons_succ]
    refine wpAnyM_take (i := 4) (v := ?_) rfl (by kernel_rfl) (by kernel_rfl) (by kernel_rfl) (by kernel_rfl) (fun _ _ _ h => h) (Or.inl ⟨by kernel_rfl, ?_⟩) hS ?_; rotate_left; (intro w hSw; (try dsimp only at hSw); go_split_ands; go_simp; try with_reducible rfl)
    try simp only [List.getElem_toArray, List.getElem_cons_succ, List.getElem_cons_zero, Act.put, List.setIfInBounds_toArray, List.set_cons_zero, List.set_cons_succ]
    refine wpAnyM_take (i := 5) (v := ?_) rfl (by kernel_rfl) (by kernel_rfl) (by kernel_rfl) (by kernel_rfl) (fun _ _ _ h => h) (Or.inl ⟨by kernel_rfl, ?_⟩) hS ?_; rotate_left; (intro w hSw; (try dsimp only at hSw); go_split_ands; go_simp; try with_reducible rfl)
    try simp only [List.getElem_toArray, List.getElem_cons_succ, List.getElem_cons_zero, Act.put, List.setIfInBounds_toArray, List.set_cons_zero, List.set_cons_succ]
    refine wpAnyM_take (i := 6) (v := ?_) rfl (by kernel_rfl) (by kernel_rfl) (by kernel_rfl) (by kernel_rfl) (fun _ _ _ h => h) (Or.inl ⟨by kernel_rfl, ?_⟩) hS ?_; rotate_left; (intro w hSw; (try dsimp only at hSw); go_split_ands; go_simp; try with_reducible rfl)
    try simp only [List.getElem_toArray, List.getElem_cons_succ, List.getElem_cons_zero, Act.put, List.setIfInBounds_toArray, List.set_cons_zero, List.set_cons_succ]
    refine wpAnyM_take (i := 7) (v := ?_) rfl (by kernel_rfl) (by kernel_rfl) (by kernel_rfl) (by kernel_rfl) (fun _ _ _ h => h) (Or.inl ⟨by kernel_rfl, ?_⟩) hS ?_; rotate_left; (intro w hSw; (try dsimp only at hSw); go_split_ands; go_simp; try with_reducible rfl)
    try simp only [List.getElem_toArray, List.getElem_cons_succ, List.getElem_cons_zero, Act.put, List.setIfInBounds_toArray, List.set_cons_zero, List.set_cons_succ]
    refine wpAnyM_one (i := 8) (by kernel_rfl) rfl (fun KK hK => ?_)
    go_simp
    refine (clp_any tk _).mono ?_; rintro e w' ⟨rfl, rfl⟩
    (try dsimp only); refine hK.out _ _ (fun _ => hS) (fun _ => ?_); clear hK KK
    try simp only [List.getElem_toArray, List.getElem_cons_succ, List.getElem_cons_zero, Act.put, List.setIfInBounds_toArray, List.set_cons_zero, List.set_cons_succ]
    refine wpAnyM_take (i := 9) (v := ?_) rfl (by kernel_rfl) (by kernel_rfl) (by kernel_rfl) (by kernel_rfl) (fun _ _ _ h => h) (Or.inl ⟨by kernel_rfl, ?_⟩) hS ?_; rotate_left; (intro w hSw; (try dsimp only at hSw); go_split_ands; go_simp; try with_reducible rfl)
    try simp only [List.getElem_toArray, List.getElem_cons_succ, List.getElem_cons_zero, Act.put, List.setIfInBounds_toArray, List.set_cons_zero, List.set_cons_succ]
    refine wpAnyM_one (i := 10) (by kernel_rfl) rfl (fun KK hK => ?_)
    go_simp
    have hS5 := And.intro (((Fr.refl [] w4).drew.alloc (.cells #[.int .i64 nx, .int .i64 (clp tk)] 103)).cell (p := ⟨b, o + 1, none⟩) hlt4 (by simp) |>.trans hc1) (((Fr.refl [] w4).drew.alloc (.cells #[.int .i64 nx, .int .i64 (clp tk)] 103)).cell (p := ⟨g, 2, none⟩) hgt4 (by simp) |>.trans hc2)
    refine hK.out _ _ (fun _ => hS5) (fun _ => ?_); clear hK KK
    try simp only [List.getElem_toArray, List.getElem_cons_succ, List.getElem_cons_zero, Act.put, List.setIfInBounds_toArray, List.set_cons_zero, List.set_cons_succ]
    refine wpAnyM_one (i := 11) (by kernel_rfl) rfl (fun KK hK => ?_)
    have hown5 := own_fr (S := []) HO4b.out (((Fr.refl [] w4).drew).alloc (.cells #[.int .i64 nx, .int .i64 (clp tk)] 103)) (by simp)
    have hnb := Blk.new w4.drew #[.int .i64 nx, .int .i64 (clp tk)] 103
    refine step_append_src _ rfl (Operand.tmp 43) (Operand.tmp 49) 24 rfl base 103 i0 _ 2 16 Try.underlying24 hi0 hz0 hz1 hz2 rfl (by decide) (.slice wa q.length wc) (.slice (some ⟨w4.drew.heap.size, 0, none⟩) 1 1) q.length 1 (pr q) (pr [(nx, clp tk)]) rfl (by kernel_rfl) hown5 (src_blk hnb (by simp) (by simp [Value.oneCell']) 1) (by unfold maxLen; omega) (by omega) (by simp; omega) ?_
    intro wv5 w5 ho5 hg5 hat5
    have hnob := own_notin hown5 (HB4.out.drew.alloc (.cells #[.int .i64 nx, .int .i64 (clp tk)] 103)) HT.out
    have hnog := own_notin hown5 (HP4.out.drew.alloc (.cells #[.int .i64 nx, .int .i64 (clp tk)] 103)) (by decide)
    have hnor := own_notin hown5 (HR4.out.drew.alloc (.cells #[.int .i64 nx, .int .i64 (clp tk)] 103)) (by decide)
    have hfg := fr_grown hg5
    have hF45 := ((Fr.refl (Value.slice wa q.length wc).ownBlock.toList w4).drew.alloc (.cells #[.int .i64 nx, .int .i64 (clp tk)] 103)).trans hfg (fun x hx => .inl hx)
    have hS6 := And.intro ((hF45.cell (p := ⟨b, o + 1, none⟩) hlt4 hnob).trans hc1) ((hF45.cell (p := ⟨g, 2, none⟩) hgt4 hnog).trans hc2)
    have HB5 := Lib.hid (hF45.blk HB4.out hnob); have HP5 := Lib.hid (hF45.blk HP4.out hnog); have HR5 := Lib.hid (hF45.blk HR4.out hnor)
    have HF5 := Lib.hid ((HF4.out.mono (S' := b :: (Value.slice wa q.length wc).ownBlock.toList) (by simp)).trans hF45 (fun x hx => .inl (by simp only [List.mem_cons]; exact .inr hx)))
    rw [← pr_app] at ho5
    have HO5 := Lib.hid ho5
    have HN5 := Lib.hid (own_notin ho5 HB5.out HT.out)
    clear hown5 hnb hnob hnog hnor hfg hF45 hg5 hat5 ho5
    refine hK.out _ _ (fun _ => hS6) (fun _ => ?_); clear hK KK
    have f1 := Blk.free HB5.out (o + 1)
    have hB6 := HB5.out.set (o + 1) wv5
    have hS6b := HS4.out.set (i := 1) (by simp) wv5
    have hO6 := HO4.out.set (i := 1) (by decide) wv5
    have hP6 := HP5.out.other (a := ⟨b, o + 1, none⟩) (Ne.symm hbg) wv5
    have hR6 := HR5.out.other (a := ⟨b, o + 1, none⟩) (show g + 1 ≠ b by omega) wv5
    have hF6 := HF5.out.setCell (p := ⟨b, o + 1, none⟩) (.inl (by simp)) wv5
    have HO6b := Lib.hid (own_keep HO5.out ((Fr.refl [b] w5).setCell (p := ⟨b, o + 1, none⟩) (.inl (by simp)) wv5) (fun y hy => by
      have := HN5.out
      simp only [Option.mem_toList] at this
      intro hx; simp at hx; subst hx; exact this hy))
    have HB6 := Lib.hid hB6; have HS6 := Lib.hid hS6b; have HO6 := Lib.hid hO6; have HP6 := Lib.hid hP6; have HR6 := Lib.hid hR6; have HF6 := Lib.hid hF6
    clear hB6 hS6b hO6 hP6 hR6 hF6 HB5 HP5 HR5 HF5 HO5 HN5 hS6
    have hvc : wv5.oneCell' = true := by obtain ⟨a5, k5, rfl, -, -⟩ := own_val HO6b.out; rfl
    obtain ⟨wa5, wc5, rfl, hc51, hc52⟩ := own_val HO6b.out
    
    try simp only [List.getElem_toArray, List.getElem_cons_succ, List.getElem_cons_zero, Act.put, List.setIfInBounds_toArray, List.set_cons_zero, List.set_cons_succ]
    refine wpAnyM_one (i := 12) (by kernel_rfl) rfl (fun KK hK => ?_)
    go_simp
    refine hK.out _ _ (fun h => absurd h (by decide)) (fun _ => ?_); clear hK KK
    try simp only [List.getElem_toArray, List.getElem_cons_succ, List.getElem_cons_zero, Act.put, List.setIfInBounds_toArray, List.set_cons_zero, List.set_cons_succ]
    refine wpAnyM_one (i := 13) (by kernel_rfl) rfl (fun KK hK => ?_)
    go_simp
    refine hK.out _ _ (fun h => absurd h (by decide)) (fun _ => ?_); clear hK KK
    try simp only [List.getElem_toArray, List.getElem_cons_succ, List.getElem_cons_zero, Act.put, List.setIfInBounds_toArray, List.set_cons_zero, List.set_cons_succ]
    refine wpAnyM_one (i := 14) (by kernel_rfl) rfl (fun KK hK => ?_)
    go_simp
    refine hK.out _ _ (fun h => absurd h (by decide)) (fun _ => ?_); clear hK KK
    try simp only [List.getElem_toArray, List.getElem_cons_succ, List.getElem_cons_zero, Act.put, List.setIfInBounds_toArray, List.set_cons_zero, List.set_cons_succ]
    refine wpAnyM_done (by kernel_rfl) ?_ _
    try simp only [List.getElem_toArray, List.getElem_cons_succ, List.getElem_cons_zero, Act.put, List.setIfInBounds_toArray, List.set_cons_zero, List.set_cons_succ]
    clear hS
    go_upto_region 6 with (fail)
    clear HO4b HB4 HS4 HO4 HP4 HR4 HF4 hc1 hc2 hbg4 hlt4 hgt4 hbs
    generalize w5.setCell ⟨b, o + 1, none⟩ (.slice wa5 (q.length + 1) wc5) = w6 at *
    have hc1 : w6.drew.cell? ⟨b, o + 1, none⟩ = some (.slice wa5 (q.length + 1) wc5) := Blk.cell HB6.out (HS6.out.at (i := 1) rfl)
    have hlt6 : b < w6.drew.heap.size := HB6.out.lt
    obtain ⟨x, hx⟩ : ∃ x, IntKind.i64.wrap ((q.length : Int) + 1 - 32) = x := ⟨_, rfl⟩
    have hx2 : x = (q.length : Int) + 1 - 32 := by rw [← hx]; exact IntWalk.i64_in _ (by omega)
    obtain ⟨k, hk⟩ : ∃ k, q.length + 1 - 32 = k := ⟨_, rfl⟩
    have hmx : (if 0 < x then x else 0) = (k : Int) := by rw [hx2]; split <;> omega
    have hkl : k ≤ q.length + 1 := by omega
    have hkc : (k : Int) ≤ (q.length : Int) + 1 := by omega
    have hkc2 : (k : Int) ≤ (wc5 : Int) := by omega
    have hsl : ∀ w, (Instr.sliceAt 24 (.slice wa5 (q.length + 1) wc5) (some (.int .i64 (k : Int))) none none).run Try.prog w = .ok (sliced wa5 k (q.length + 1) wc5 2) w := fun w => by go_simp
    have HSL0 := Lib.hid hsl
    obtain ⟨s5, hs5⟩ : ∃ s5, sliced wa5 k (q.length + 1) wc5 2 = s5 := ⟨_, rfl⟩
    have HSL := Lib.hid (show ∀ w, (Instr.sliceAt 24 (.slice wa5 (q.length + 1) wc5) (some (.int .i64 (k : Int))) none none).run Try.prog w = .ok s5 w by rw [← hs5]; exact HSL0.out)
    have HSRC := Lib.hid (fun (w1 : World) (hF : Fr [] w6 w1) => (show Src w1 s5 2 (q.length + 1 - k) ((pr (q ++ [(nx, clp tk)])).drop (k * 2)) by rw [← hs5]; exact own_from (own_fr HO6b.out hF (by simp)) (pr_one _) hkl (by decide)))
    have HLT5 := Lib.hid (show ∀ b', (sliced wa5 k (q.length + 1) wc5 2).ownBlock = some b' → 0 < ((pr (q ++ [(nx, clp tk)])).drop (k * 2)).length → b' < w6.drew.heap.size from fun b' hb' _ => own_lt HO6b.out (sliced_block hb'))
    have HS5 := Lib.hid hs5; have HK := Lib.hid hk; have HX2 := Lib.hid hx2
    clear hsl HSL0 hs5 hk hx2 hkc hkc2 hc51 hc52
    refine wp_region_M 14 (fun w' => w'.cell? ⟨b, o + 1, none⟩ = some (.slice wa5 (q.length + 1) wc5)) (by kernel_rfl) (hc1) (fun hS => ?_)
    try simp only [List.getElem_toArray, List.getElem_cons_succ, List.getElem_cons_zero, Act.put, List.setIfInBounds_toArray, List.set_cons_zero, List.set_cons_succ]
    refine wpAnyM_take (i := 0) (v := ?_) rfl (by kernel_rfl) (by kernel_rfl) (by kernel_rfl) (by kernel_rfl) (fun _ _ _ h => h) (Or.inl ⟨by kernel_rfl, ?_⟩) hS ?_; rotate_left; (intro w hSw; obtain hSw := hSw; go_simp; try with_reducible rfl)
    try simp only [List.getElem_toArray, List.getElem_cons_succ, List.getElem_cons_zero, Act.put, List.setIfInBounds_toArray, List.set_cons_zero, List.set_cons_succ]
    refine wpAnyM_take (i := 1) (v := ?_) rfl (by kernel_rfl) (by kernel_rfl) (by kernel_rfl) (by kernel_rfl) (fun _ _ _ h => h) (Or.inl ⟨by kernel_rfl, ?_⟩) hS ?_; rotate_left; (intro w hSw; obtain hSw := hSw; go_simp; try with_reducible rfl)
    try simp only [List.getElem_toArray, List.getElem_cons_succ, List.getElem_cons_zero, Act.put, List.setIfInBounds_toArray, List.set_cons_zero, List.set_cons_succ]
    refine wpAnyM_take (i := 2) (v := ?_) rfl (by kernel_rfl) (by kernel_rfl) (by kernel_rfl) (by kernel_rfl) (fun _ _ _ h => h) (Or.inl ⟨by kernel_rfl, ?_⟩) hS ?_; rotate_left; (intro w hSw; obtain hSw := hSw; go_simp; try with_reducible rfl)
    try simp only [List.getElem_toArray, List.getElem_cons_succ, List.getElem_cons_zero, Act.put, List.setIfInBounds_toArray, List.set_cons_zero, List.set_cons_succ]
    refine wpAnyM_take (i := 3) (v := ?_) rfl (by kernel_rfl) (by kernel_rfl) (by kernel_rfl) (by kernel_rfl) (fun _ _ _ h => h) (Or.inl ⟨by kernel_rfl, ?_⟩) hS ?_; rotate_left; (intro w hSw; obtain hSw := hSw; go_simp; try with_reducible rfl)
    try simp only [List.getElem_toArray, List.getElem_cons_succ, List.getElem_cons_zero, Act.put, List.setIfInBounds_toArray, List.set_cons_zero, List.set_cons_succ]
    refine wpAnyM_take (i := 4) (v := ?_) rfl (by kernel_rfl) (by kernel_rfl) (by kernel_rfl) (by kernel_rfl) (fun _ _ _ h => h) (Or.inl ⟨by kernel_rfl, ?_⟩) hS ?_; rotate_left; (intro w hSw; obtain hSw := hSw; go_simp; try with_reducible rfl)
    try simp only [List.getElem_toArray, List.getElem_cons_succ, List.getElem_cons_zero, Act.put, List.setIfInBounds_toArray, List.set_cons_zero, List.set_cons_succ]
    refine wpAnyM_take (i := 5) (v := ?_) rfl (by kernel_rfl) (by kernel_rfl) (by kernel_rfl) (by kernel_rfl) (fun _ _ _ h => h) (Or.inl ⟨by kernel_rfl, ?_⟩) hS ?_; rotate_left; (intro w hSw; obtain hSw := hSw; go_simp; try with_reducible rfl)
    try simp only [List.getElem_toArray, List.getElem_cons_succ, List.getElem_cons_zero, Act.put, List.setIfInBounds_toArray, List.set_cons_zero, List.set_cons_succ]
    refine wpAnyM_take (i := 6) (v := ?_) rfl (by kernel_rfl) (by kernel_rfl) (by kernel_rfl) (by kernel_rfl) (fun _ _ _ h => h) (Or.inl ⟨by kernel_rfl, ?_⟩) hS ?_; rotate_left; (intro w hSw; obtain hSw := hSw; go_simp; try with_reducible rfl)
    try simp only [List.getElem_toArray, List.getElem_cons_succ, List.getElem_cons_zero, Act.put, List.setIfInBounds_toArray, List.set_cons_zero, List.set_cons_succ]
    refine wpAnyM_take (i := 7) (v := ?_) rfl (by kernel_rfl) (by kernel_rfl) (by kernel_rfl) (by kernel_rfl) (fun _ _ _ h => h) (Or.inl ⟨by kernel_rfl, ?_⟩) hS ?_; rotate_left; (intro w hSw; obtain hSw := hSw; go_simp; try with_reducible rfl)
    try simp only [List.getElem_toArray, List.getElem_cons_succ, List.getElem_cons_zero, Act.put, List.setIfInBounds_toArray, List.set_cons_zero, List.set_cons_succ]
    refine wpAnyM_take (i := 8) (v := ?_) rfl (by kernel_rfl) (by kernel_rfl) (by kernel_rfl) (by kernel_rfl) (fun _ _ _ h => h) (Or.inl ⟨by kernel_rfl, ?_⟩) hS ?_; rotate_left; (intro w hSw; obtain hSw := hSw; go_simp; try with_reducible rfl)
    try simp only [List.getElem_toArray, List.getElem_cons_succ, List.getElem_cons_zero, Act.put, List.setIfInBounds_toArray, List.set_cons_zero, List.set_cons_succ]
    refine wpAnyM_take (i := 9) (v := ?_) rfl (by kernel_rfl) (by kernel_rfl) (by kernel_rfl) (by kernel_rfl) (fun _ _ _ h => h) (Or.inl ⟨by kernel_rfl, ?_⟩) hS ?_; rotate_left; (intro w hSw; obtain hSw := hSw; go_simp; try with_reducible rfl)
    try simp only [List.getElem_toArray, List.getElem_cons_succ, List.getElem_cons_zero, Act.put, List.setIfInBounds_toArray, List.set_cons_zero, List.set_cons_succ]
    refine wpAnyM_take (i := 10) (v := ?_) rfl (by kernel_rfl) (by kernel_rfl) (by kernel_rfl) (by kernel_rfl) (fun _ _ _ h => h) (Or.inl ⟨by kernel_rfl, ?_⟩) hS ?_; rotate_left; (intro w hSw; obtain hSw := hSw; go_simp; try with_reducible rfl)
    try simp only [List.getElem_toArray, List.getElem_cons_succ, List.getElem_cons_zero, Act.put, List.setIfInBounds_toArray, List.set_cons_zero, List.set_cons_succ]
    refine wpAnyM_take (i := 11) (v := ?_) rfl (by kernel_rfl) (by kernel_rfl) (by kernel_rfl) (by kernel_rfl) (fun _ _ _ h => h) (Or.inl ⟨by kernel_rfl, ?_⟩) hS ?_; rotate_left; (intro w hSw; obtain hSw := hSw; go_simp; try with_reducible rfl)
    try simp only [List.getElem_toArray, List.getElem_cons_succ, List.getElem_cons_zero, Act.put, List.setIfInBounds_toArray, List.set_cons_zero, List.set_cons_succ]
    refine wpAnyM_take (i := 12) (v := s5) rfl (by kernel_rfl) (by kernel_rfl) (by kernel_rfl) (by kernel_rfl) (fun _ _ _ h => h) (Or.inl ⟨by kernel_rfl, ?_⟩) hS ?_; (intro w hSw; exact exec_slc (x' := .slice wa5 (q.length + 1) wc5) (lo' := some (.int .i64 (k : Int))) (hi' := none) rfl (by kernel_rfl) (by kernel_rfl) (by kernel_rfl) HSL.out _)
    try simp only [List.getElem_toArray, List.getElem_cons_succ, List.getElem_cons_zero, Act.put, List.setIfInBounds_toArray, List.set_cons_zero, List.set_cons_succ]
    refine wpAnyM_one (i := 13) (by kernel_rfl) rfl (fun KK hK => ?_)
    go_simp
    refine (clone_Sent (HSRC.out w6.drew (Fr.refl [] w6).drew) (by rw [← HS5.out]; exact HLT5.out) (by omega)).mono ?_; rintro e w7 ⟨wv7, rfl, ho7, hF7⟩
    have hS7 := (hF7.cell (p := ⟨b, o + 1, none⟩) hlt6 (by simp)).trans hc1
    have hF67 : Fr [] w6 w7 := (Fr.refl [] w6).drew.trans hF7 (by simp)
    have HB7 := Lib.hid (hF67.blk HB6.out (by simp)); have HP7 := Lib.hid (hF67.blk HP6.out (by simp)); have HR7 := Lib.hid (hF67.blk HR6.out (by simp))
    have HF7 := Lib.hid (HF6.out.trans hF67 (by simp))
    have HO7 := Lib.hid (own_weaken ho7 (show w.heap.size ≤ w6.drew.heap.size from HF6.out.size))
    have HN7 := Lib.hid (own_notin ho7 HB7.out HT.out)
    clear hF7 hF67 ho7
    dsimp only; refine hK.out _ _ (fun _ => hS7) (fun _ => ?_); clear hK KK hS7
    have f1 := Blk.free HB7.out (o + 1)
    have c1 := Blk.cell HB7.out (HS6.out.at (i := 1) rfl)
    have hB8 := HB7.out.set (o + 1) wv7
    have hS8 := HS6.out.set (i := 1) (by simp) wv7
    have hO8 := HO6.out.set (i := 1) (by decide) wv7
    have hP8 := HP7.out.other (a := ⟨b, o + 1, none⟩) (Ne.symm hbg) wv7
    have hR8 := HR7.out.other (a := ⟨b, o + 1, none⟩) (show g + 1 ≠ b by omega) wv7
    have hF8 := HF7.out.setCell (p := ⟨b, o + 1, none⟩) (.inl (by simp)) wv7
    have HO8b := Lib.hid (own_keep HO7.out ((Fr.refl [b] w7).setCell (p := ⟨b, o + 1, none⟩) (.inl (by simp)) wv7) (fun y hy => by
      have := HN7.out
      simp only [Option.mem_toList] at this
      intro hx; simp at hx; subst hx; exact this hy))
    have HB8 := Lib.hid hB8; have HS8 := Lib.hid hS8; have HO8 := Lib.hid hO8; have HP8 := Lib.hid hP8; have HR8 := Lib.hid hR8; have HF8 := Lib.hid hF8
    clear hB8 hS8 hO8 hP8 hR8 hF8 HB7 HP7 HR7 HF7 HO7 HN7 HB6 HP6 HR6 HF6 HS6 HO6
    obtain ⟨wa7, wc7, rfl, hc71, hc72⟩ := own_val HO8b.out
    
    try simp only [List.getElem_toArray, List.getElem_cons_succ, List.getElem_cons_zero, Act.put, List.setIfInBounds_toArray, List.set_cons_zero, List.set_cons_succ]
    refine wpAnyM_one (i := 14) (by kernel_rfl) rfl (fun KK hK => ?_)
    go_simp
    refine hK.out _ _ (fun h => absurd h (by decide)) (fun _ => ?_); clear hK KK
    try simp only [List.getElem_toArray, List.getElem_cons_succ, List.getElem_cons_zero, Act.put, List.setIfInBounds_toArray, List.set_cons_zero, List.set_cons_succ]
    refine wpAnyM_one (i := 15) (by kernel_rfl) rfl (fun KK hK => ?_)
    go_simp
    refine hK.out _ _ (fun h => absurd h (by decide)) (fun _ => ?_); clear hK KK
    try simp only [List.getElem_toArray, List.getElem_cons_succ, List.getElem_cons_zero, Act.put, List.setIfInBounds_toArray, List.set_cons_zero, List.set_cons_succ]
    refine wpAnyM_one (i := 16) (by kernel_rfl) rfl (fun KK hK => ?_)
    go_simp
    refine hK.out _ _ (fun h => absurd h (by decide)) (fun _ => ?_); clear hK KK
    try simp only [List.getElem_toArray, List.getElem_cons_succ, List.getElem_cons_zero, Act.put, List.setIfInBounds_toArray, List.set_cons_zero, List.set_cons_succ]
    refine wpAnyM_done (by kernel_rfl) ?_ _
    try simp only [List.getElem_toArray, List.getElem_cons_succ, List.getElem_cons_zero, Act.put, List.setIfInBounds_toArray, List.set_cons_zero, List.set_cons_succ]
    clear hS
    go_upto_region 7 with (fail)
    clear f1 c1
    generalize w7.setCell ⟨b, o + 1, none⟩ (.slice wa7 (q.length + 1 - k) wc7) = w8 at *
    have l0 := Blk.cell (i := 0) HP8.out rfl
    have l1 := Blk.cell (i := 1) HP8.out rfl
    have l2 := Blk.cell (i := 2) HP8.out rfl
    have l3 := Blk.cell (i := 3) HP8.out rfl
    have l4 := Blk.cell (i := 4) HP8.out rfl
    have l5 := Blk.cell (i := 5) HP8.out rfl
    have l6 := Blk.cell (i := 6) HP8.out rfl
    have l7 := Blk.cell (i := 7) HP8.out rfl
    have l8 := Blk.cell (i := 8) HP8.out rfl
    have l9 := Blk.cell (i := 9) HP8.out rfl
    have l10 := Blk.cell (i := 10) HP8.out rfl
    have l11 := Blk.cell (i := 11) HP8.out rfl
    have l12 := Blk.cell (i := 12) HP8.out rfl
    have r0 := Blk.cell (i := 0) HR8.out rfl
    have r1 := Blk.cell (i := 1) HR8.out rfl
    have r2 := Blk.cell (i := 2) HR8.out rfl
    have r3 := Blk.cell (i := 3) HR8.out rfl
    have r4 := Blk.cell (i := 4) HR8.out rfl
    have r5 := Blk.cell (i := 5) HR8.out rfl
    have r6 := Blk.cell (i := 6) HR8.out rfl
    have r7 := Blk.cell (i := 7) HR8.out rfl
    have r8 := Blk.cell (i := 8) HR8.out rfl
    have r9 := Blk.cell (i := 9) HR8.out rfl
    have r10 := Blk.cell (i := 10) HR8.out rfl
    have r11 := Blk.cell (i := 11) HR8.out rfl
    have r12 := Blk.cell (i := 12) HR8.out rfl
    have z0 := Blk.free HR8.out 0
    have z1 := Blk.free HR8.out 1
    have z2 := Blk.free HR8.out 2
    have z3 := Blk.free HR8.out 3
    have z4 := Blk.free HR8.out 4
    have z5 := Blk.free HR8.out 5
    have z6 := Blk.free HR8.out 6
    have z7 := Blk.free HR8.out 7
    have z8 := Blk.free HR8.out 8
    have z9 := Blk.free HR8.out 9
    have z10 := Blk.free HR8.out 10
    have z11 := Blk.free HR8.out 11
    have z12 := Blk.free HR8.out 12
    simp only [List.getElem_toArray, List.getElem_cons_zero, List.getElem_cons_succ] at l0 r0 l1 r1 l2 r2 l3 r3 l4 r4 l5 r5 l6 r6 l7 r7 l8 r8 l9 r9 l10 r10 l11 r11 l12 r12
    go_wp2_with fail
    have hFz : Fr [g + 1] w8 ((((((((((((((w8.setCell ⟨g + 1, 0, none⟩ (.int .i64 kind)).setCell ⟨g + 1, 1, none⟩ (.int .i64 slot)).setCell ⟨g + 1, 2, none⟩ (.int .i64 nx)).setCell ⟨g + 1, 3, none⟩ (.int .i64 0)).setCell ⟨g + 1, 4, none⟩ (.bool false)).setCell ⟨g + 1, 5, none⟩ (.int .u64 0)).setCell ⟨g + 1, 6, none⟩ (.int .i64 got)).setCell ⟨g + 1, 7, none⟩ (.int .i64 first)).setCell ⟨g + 1, 8, none⟩ (.slice ia il ic)).setCell ⟨g + 1, 9, none⟩ (.int .i64 pl)).setCell ⟨g + 1, 10, none⟩ (.slice ra rl rcp)).setCell ⟨g + 1, 11, none⟩ (.int .i64 frame)).setCell ⟨g + 1, 12, none⟩ (.int .i64 mark))) := ((((((((((((((Fr.refl [g + 1] w8).setCell (p := ⟨g + 1, 0, none⟩) (.inl (by simp)) _).setCell (p := ⟨g + 1, 1, none⟩) (.inl (by simp)) _).setCell (p := ⟨g + 1, 2, none⟩) (.inl (by simp)) _).setCell (p := ⟨g + 1, 3, none⟩) (.inl (by simp)) _).setCell (p := ⟨g + 1, 4, none⟩) (.inl (by simp)) _).setCell (p := ⟨g + 1, 5, none⟩) (.inl (by simp)) _).setCell (p := ⟨g + 1, 6, none⟩) (.inl (by simp)) _).setCell (p := ⟨g + 1, 7, none⟩) (.inl (by simp)) _).setCell (p := ⟨g + 1, 8, none⟩) (.inl (by simp)) _).setCell (p := ⟨g + 1, 9, none⟩) (.inl (by simp)) _).setCell (p := ⟨g + 1, 10, none⟩) (.inl (by simp)) _).setCell (p := ⟨g + 1, 11, none⟩) (.inl (by simp)) _).setCell (p := ⟨g + 1, 12, none⟩) (.inl (by simp)) _)
    have hBz := hFz.blk HB8.out (by simp; omega)
    have hOz := own_keep HO8b.out hFz (by
      have := own_notin HO8b.out HR8.out (by decide)
      intro y hy hx
      simp only [Option.mem_toList] at this
      simp at hx; subst hx; exact this hy)
    have hFe := HF8.out.trans hFz (fun x hx => .inr (by rw [HG.out]; simp at hx; omega))
    have HBz := Lib.hid hBz; have HOz := Lib.hid hOz; have HFe := Lib.hid hFe
    clear hBz hOz hFe hFz
    refine bodyPost_ret (v := .agg #[.int .i64 kind, .int .i64 slot, .int .i64 nx, .int .i64 0, .bool false, .int .u64 0, .int .i64 got, .int .i64 first, .slice ia il ic, .int .i64 pl, .slice ra rl rcp, .int .i64 frame, .int .i64 mark]) (by simp [results, Try.results13, go_sem, r0, r1, r2, r3, r4, r5, r6, r7, r8, r9, r10, r11, r12]) rfl ?_
    have hnx' : ((((nx + 1) % 65536 : Nat)) : Int) = ((nx : Int) + 1) % 65536 := by omega
    have hke : keep32 (q ++ [(nx, clp tk)]) = (q ++ [(nx, clp tk)]).drop k := by unfold keep32; rw [← HK.out]; simp
    have hkl2 : (keep32 (q ++ [(nx, clp tk)])).length = q.length + 1 - k := by rw [hke]; simp
    refine ⟨0, 0, _, .slice wa7 (q.length + 1 - k) wc7, rfl, ?_, ?_, HBz.out, ⟨?_, HWIN.out.out HO8.out (by omega), HM.out.out HO8.out (.inr (by omega))⟩, HO8.out.wider (Nat.le_refl _) (by omega), ?_, HFe.out⟩
    · exact fun _ => ⟨rfl, rfl⟩
    · intro h; cases h
    · rw [hnx']; exact HS8.out
    · rw [hkl2, hke, pr_drop]; exact HOz.out
  | true =>
    go_enter Try.func13, Try.ntmps13
    go_wp2_with fail
    have hP := (Blk.new w #[.int .i64 kind, .int .i64 slot, .int .i64 sq, .int .i64 last, .bool pany, .int .u64 acks, .int .i64 got, .int .i64 first, .slice ia il ic, .int .i64 pl, .slice ra rl rcp, .int .i64 frame, .int .i64 mark] 38).alloc (.cells #[.int .i64 0, .int .i64 0, .int .i64 0, .int .i64 0, .bool false, .int .u64 0, .int .i64 0, .int .i64 0, .slice none 0 0, .int .i64 0, .slice none 0 0, .int .i64 0, .int .i64 0] 38)
    have hR := Blk.new (w.alloc (.cells #[.int .i64 kind, .int .i64 slot, .int .i64 sq, .int .i64 last, .bool pany, .int .u64 acks, .int .i64 got, .int .i64 first, .slice ia il ic, .int .i64 pl, .slice ra rl rcp, .int .i64 frame, .int .i64 mark] 38)) #[.int .i64 0, .int .i64 0, .int .i64 0, .int .i64 0, .bool false, .int .u64 0, .int .i64 0, .int .i64 0, .slice none 0 0, .int .i64 0, .slice none 0 0, .int .i64 0, .int .i64 0] 38
    rw [show (w.alloc (.cells #[.int .i64 kind, .int .i64 slot, .int .i64 sq, .int .i64 last, .bool pany, .int .u64 acks, .int .i64 got, .int .i64 first, .slice ia il ic, .int .i64 pl, .slice ra rl rcp, .int .i64 frame, .int .i64 mark] 38)).heap.size = w.heap.size + 1 by simp] at hR
    have hF1 := ((Fr.refl [] w).alloc (.cells #[.int .i64 kind, .int .i64 slot, .int .i64 sq, .int .i64 last, .bool pany, .int .u64 acks, .int .i64 got, .int .i64 first, .slice ia il ic, .int .i64 pl, .slice ra rl rcp, .int .i64 frame, .int .i64 mark] 38)).alloc (.cells #[.int .i64 0, .int .i64 0, .int .i64 0, .int .i64 0, .bool false, .int .u64 0, .int .i64 0, .int .i64 0, .slice none 0 0, .int .i64 0, .slice none 0 0, .int .i64 0, .int .i64 0] 38)
    generalize (w.alloc (.cells #[.int .i64 kind, .int .i64 slot, .int .i64 sq, .int .i64 last, .bool pany, .int .u64 acks, .int .i64 got, .int .i64 first, .slice ia il ic, .int .i64 pl, .slice ra rl rcp, .int .i64 frame, .int .i64 mark] 38)).alloc (.cells #[.int .i64 0, .int .i64 0, .int .i64 0, .int .i64 0, .bool false, .int .u64 0, .int .i64 0, .int .i64 0, .slice none 0 0, .int .i64 0, .slice none 0 0, .int .i64 0, .int .i64 0] 38) = w1 at *
    obtain ⟨g, hg⟩ : ∃ g, w.heap.size = g := ⟨_, rfl⟩
    rw [hg] at hP hR hlt hbase ⊢
    have HG := Lib.hid hg
    clear hg
    have d0 := (hF1.cell (p := ⟨b, o, none⟩) (by rw [HG.out]; exact hlt) (by simp)).trans c0
    have HP := Lib.hid hP; have HR := Lib.hid hR; have HF1 := Lib.hid hF1; have HC1 := Lib.hid c1; have HF0 := Lib.hid f0; have HFF := Lib.hid f1
    clear c0 c1 f0 f1 hP hR hF1
    go_still_tail 9, (by kernel_rfl)
    still_call (HANY.out _ HF1.out.drew)
    repeat still_step
    refine wpStill_nil ?_
    change wpList _ _ _ _ _ w1.drew
    have hP2 := HP.out.drew
    have HR2 := Lib.hid HR.out.drew
    have HF2 := Lib.hid HF1.out.drew
    clear d0 HP HR HF1
    generalize w1.drew = w2 at *
    have p2 := hP2.free 2
    have p3 := hP2.free 3
    have p4 := hP2.free 4
    have p5 := hP2.free 5
    have q2 := Blk.cell (i := 2) hP2 rfl
    have q3 := Blk.cell (i := 3) hP2 rfl
    have q4 := Blk.cell (i := 4) hP2 rfl
    have q5 := Blk.cell (i := 5) hP2 rfl
    simp only [List.getElem_toArray, List.getElem_cons_zero, List.getElem_cons_succ] at q2 q3 q4 q5
    have hP3 : Blk ((((w2.setCell ⟨g, 2, none⟩ (.int .i64 nx)).setCell ⟨g, 4, none⟩ (.bool true)).setCell ⟨g, 3, none⟩ (.int .i64 0)).setCell ⟨g, 5, none⟩ (.int .u64 0)) g #[.int .i64 kind, .int .i64 slot, .int .i64 nx, .int .i64 0, .bool true, .int .u64 0, .int .i64 got, .int .i64 first, .slice ia il ic, .int .i64 pl, .slice ra rl rcp, .int .i64 frame, .int .i64 mark] 38 := (((hP2.set 2 _).set 4 _).set 3 _).set 5 _
    have hR3 := (((HR2.out.other (a := ⟨g, 2, none⟩) (by simp) (.int .i64 nx)).other (a := ⟨g, 4, none⟩) (by simp) (.bool true)).other (a := ⟨g, 3, none⟩) (by simp) (.int .i64 0)).other (a := ⟨g, 5, none⟩) (by simp) (.int .u64 0)
    have hF3 := (((HF2.out.setCell (p := ⟨g, 2, none⟩) (.inr (by rw [HG.out]; exact Nat.le_refl _)) (.int .i64 nx)).setCell (p := ⟨g, 4, none⟩) (.inr (by rw [HG.out]; exact Nat.le_refl _)) (.bool true)).setCell (p := ⟨g, 3, none⟩) (.inr (by rw [HG.out]; exact Nat.le_refl _)) (.int .i64 0)).setCell (p := ⟨g, 5, none⟩) (.inr (by rw [HG.out]; exact Nat.le_refl _)) (.int .u64 0)
    have HP3 := Lib.hid hP3; have HR3 := Lib.hid hR3; have HF3 := Lib.hid hF3
    clear hP3 hR3 hF3 hP2
    go_upto_region 3 with (fail)
    clear p2 p3 p4 p5 q2 q3 q4 q5 HF2 HR2
    generalize (((w2.setCell ⟨g, 2, none⟩ (.int .i64 nx)).setCell ⟨g, 4, none⟩ (.bool true)).setCell ⟨g, 3, none⟩ (.int .i64 0)).setCell ⟨g, 5, none⟩ (.int .u64 0) = w3 at *
    go_still_tail 9, (by kernel_rfl)
    still_call (HLAST.out _ HF3.out.drew)
    repeat still_step
    still_call (HBITS.out _ HF3.out.drew)
    repeat still_step
    refine wpStill_nil ?_
    change wpList _ _ _ _ _ w3.drew
    have hP4 := HP3.out.drew
    have HR4 := Lib.hid HR3.out.drew
    have HF4 := Lib.hid HF3.out.drew
    clear HP3 HR3 HF3
    generalize w3.drew = w4 at *
    have p3 := hP4.free 3
    have p5 := hP4.free 5
    have q3 := Blk.cell (i := 3) hP4 rfl
    have q5 := Blk.cell (i := 5) hP4 rfl
    simp only [List.getElem_toArray, List.getElem_cons_zero, List.getElem_cons_succ] at q3 q5
    have hP3 : Blk ((w4.setCell ⟨g, 3, none⟩ (.int .i64 lst)).setCell ⟨g, 5, none⟩ (.int .u64 v)) g #[.int .i64 kind, .int .i64 slot, .int .i64 nx, .int .i64 lst, .bool true, .int .u64 v, .int .i64 got, .int .i64 first, .slice ia il ic, .int .i64 pl, .slice ra rl rcp, .int .i64 frame, .int .i64 mark] 38 := (hP4.set 3 _).set 5 _
    have hR3 := (HR4.out.other (a := ⟨g, 3, none⟩) (by simp) (.int .i64 lst)).other (a := ⟨g, 5, none⟩) (by simp) (.int .u64 v)
    have hF3 := (HF4.out.setCell (p := ⟨g, 3, none⟩) (.inr (by rw [HG.out]; exact Nat.le_refl _)) (.int .i64 lst)).setCell (p := ⟨g, 5, none⟩) (.inr (by rw [HG.out]; exact Nat.le_refl _)) (.int .u64 v)
    have HP3 := Lib.hid hP3; have HR3 := Lib.hid hR3; have HF3 := Lib.hid hF3
    clear hP3 hR3 hF3 hP4
    go_upto_region 4 with (fail)
    clear p3 p5 q3 q5 HF4 HR4
    generalize (w4.setCell ⟨g, 3, none⟩ (.int .i64 lst)).setCell ⟨g, 5, none⟩ (.int .u64 v) = w3 at *
    have hB3 := HF3.out.blk HH.out (by simp)
    have c0 := Blk.cell hB3 (HD.out.at (i := 0) rfl)
    rw [Nat.add_zero] at c0
    have f0 := Blk.free hB3 o
    have hbg : b ≠ g := by omega
    have hB4 := hB3.set o (.int .i64 (((nx : Int) + 1) % 65536))
    have hS4 := HD.out.set (i := 0) (by simp) (.int .i64 (((nx : Int) + 1) % 65536))
    have hO4 := (Out.refl vs o 2).set (i := 0) (by decide) (.int .i64 (((nx : Int) + 1) % 65536))
    rw [Nat.add_zero] at hS4 hO4
    have hP4 := HP3.out.other (a := ⟨b, o, none⟩) (Ne.symm hbg) (.int .i64 (((nx : Int) + 1) % 65536))
    have hR4 := HR3.out.other (a := ⟨b, o, none⟩) (show g + 1 ≠ b by omega) (.int .i64 (((nx : Int) + 1) % 65536))
    have hF4 := (HF3.out.mono (S' := [b]) (by simp)).setCell (p := ⟨b, o, none⟩) (.inl (by simp)) (.int .i64 (((nx : Int) + 1) % 65536))
    have hF4' : Fr [b] w3 (w3.setCell ⟨b, o, none⟩ (.int .i64 (((nx : Int) + 1) % 65536))) := (Fr.refl [b] w3).setCell (p := ⟨b, o, none⟩) (.inl (by simp)) _
    have HB4 := Lib.hid hB4; have HS4 := Lib.hid hS4; have HO4 := Lib.hid hO4; have HP4 := Lib.hid hP4; have HR4 := Lib.hid hR4; have HF4 := Lib.hid hF4; have HF4' := Lib.hid hF4'
    clear hB3 hB4 hS4 hO4 hP4 hR4 hF4 hF4'
    go_wp2_with fail
    refine (next_any _ _).mono ?_; rintro e w' ⟨rfl, rfl⟩
    go_upto_region 5 with (fail)
    clear c0 f0
    have HO4b := Lib.hid (own_keep (S := [b]) HO.out ((HF3.out.mono (S' := [b]) (by simp)).trans HF4'.out (fun x hx => .inl hx)) (fun y hy => by
      have := own_notin HO.out HH.out HT.out
      simp only [Option.mem_toList] at this
      intro hx; simp at hx; subst hx; exact this hy))
    clear HP3 HR3 HF3 HF4'
    generalize w3.setCell ⟨b, o, none⟩ (.int .i64 (((nx : Int) + 1) % 65536)) = w4 at *
    obtain ⟨i0, hi0, hz0, hz1, hz2⟩ := info_parts infSent
    have hc1 : w4.drew.cell? ⟨b, o + 1, none⟩ = some (.slice wa q.length wc) := Blk.cell HB4.out (HS4.out.at (i := 1) rfl)
    have hc2 : w4.drew.cell? ⟨g, 2, none⟩ = some (.int .i64 nx) := Blk.cell HP4.out rfl
    have hq := HQ.out
    have hbs := HF4.out.size
    rw [HG.out] at hbs
    have hbg4 : base ≤ w4.drew.heap.size := Nat.le_trans hbase hbs
    have hlt4 : b < w4.drew.heap.size := HB4.out.lt
    have hgt4 : g < w4.drew.heap.size := HP4.out.lt
    refine wp_region_M 12 (fun w' => w'.cell? ⟨b, o + 1, none⟩ = some (.slice wa q.length wc) ∧ w'.cell? ⟨g, 2, none⟩ = some (.int .i64 nx)) (by kernel_rfl) (⟨hc1, hc2⟩) (fun hS => ?_)
    try simp only [List.getElem_toArray, List.getElem_cons_succ, List.getElem_cons_zero, Act.put, List.setIfInBounds_toArray, List.set_cons_zero, List.set_cons_succ]
    refine wpAnyM_take (i := 0) (v := ?_) rfl (by kernel_rfl) (by kernel_rfl) (by kernel_rfl) (by kernel_rfl) (fun _ _ _ h => h) (Or.inl ⟨by kernel_rfl, ?_⟩) hS ?_; rotate_left; (intro w hSw; (try dsimp only at hSw); go_split_ands; go_simp; try with_reducible rfl)
    try simp only [List.getElem_toArray, List.getElem_cons_succ, List.getElem_cons_zero, Act.put, List.setIfInBounds_toArray, List.set_cons_zero, List.set_cons_succ]
    refine wpAnyM_take (i := 1) (v := ?_) rfl (by kernel_rfl) (by kernel_rfl) (by kernel_rfl) (by kernel_rfl) (fun _ _ _ h => h) (Or.inl ⟨by kernel_rfl, ?_⟩) hS ?_; rotate_left; (intro w hSw; (try dsimp only at hSw); go_split_ands; go_simp; try with_reducible rfl)
    try simp only [List.getElem_toArray, List.getElem_cons_succ, List.getElem_cons_zero, Act.put, List.setIfInBounds_toArray, List.set_cons_zero, List.set_cons_succ]
    refine wpAnyM_take (i := 2) (v := ?_) rfl (by kernel_rfl) (by kernel_rfl) (by kernel_rfl) (by kernel_rfl) (fun _ _ _ h => h) (Or.inl ⟨by kernel_rfl, ?_⟩) hS ?_; rotate_left; (intro w hSw; (try dsimp only at hSw); go_split_ands; go_simp; try with_reducible rfl)
    try simp only [List.getElem_toArray, List.getElem_cons_succ, List.getElem_cons_zero, Act.put, List.setIfInBounds_toArray, List.set_cons_zero, List.set_cons_succ]
    refine wpAnyM_take (i := 3) (v := ?_) rfl (by kernel_rfl) (by kernel_rfl) (by kernel_rfl) (by kernel_rfl) (fun _ _ _ h => h) (Or.inl ⟨by kernel_rfl, ?_⟩) hS ?_; rotate_left; (intro w hSw; (try dsimp only at hSw); go_split_ands; go_simp; try with_reducible rfl)
    try simp only [List.getElem_toArray, List.getElem_cons_succ, List.getElem_cons_zero, Act.put, List.setIfInBounds_toArray, List.set_cons_zero, List.set_cons_succ]
    refine wpAnyM_take (i := 4) (v := ?_) rfl (by kernel_rfl) (by kernel_rfl) (by kernel_rfl) (by kernel_rfl) (fun _ _ _ h => h) (Or.inl ⟨by kernel_rfl, ?_⟩) hS ?_; rotate_left; (intro w hSw; (try dsimp only at hSw); go_split_ands; go_simp; try with_reducible rfl)
    try simp only [List.getElem_toArray, List.getElem_cons_succ, List.getElem_cons_zero, Act.put, List.setIfInBounds_toArray, List.set_cons_zero, List.set_cons_succ]
    refine wpAnyM_take (i := 5) (v := ?_) rfl (by kernel_rfl) (by kernel_rfl) (by kernel_rfl) (by kernel_rfl) (fun _ _ _ h => h) (Or.inl ⟨by kernel_rfl, ?_⟩) hS ?_; rotate_left; (intro w hSw; (try dsimp only at hSw); go_split_ands; go_simp; try with_reducible rfl)
    try simp only [List.getElem_toArray, List.getElem_cons_succ, List.getElem_cons_zero, Act.put, List.setIfInBounds_toArray, List.set_cons_zero, List.set_cons_succ]
    refine wpAnyM_take (i := 6) (v := ?_) rfl (by kernel_rfl) (by kernel_rfl) (by kernel_rfl) (by kernel_rfl) (fun _ _ _ h => h) (Or.inl ⟨by kernel_rfl, ?_⟩) hS ?_; rotate_left; (intro w hSw; (try dsimp only at hSw); go_split_ands; go_simp; try with_reducible rfl)
    try simp only [List.getElem_toArray, List.getElem_cons_succ, List.getElem_cons_zero, Act.put, List.setIfInBounds_toArray, List.set_cons_zero, List.set_cons_succ]
    refine wpAnyM_take (i := 7) (v := ?_) rfl (by kernel_rfl) (by kernel_rfl) (by kernel_rfl) (by kernel_rfl) (fun _ _ _ h => h) (Or.inl ⟨by kernel_rfl, ?_⟩) hS ?_; rotate_left; (intro w hSw; (try dsimp only at hSw); go_split_ands; go_simp; try with_reducible rfl)
    try simp only [List.getElem_toArray, List.getElem_cons_succ, List.getElem_cons_zero, Act.put, List.setIfInBounds_toArray, List.set_cons_zero, List.set_cons_succ]
    refine wpAnyM_one (i := 8) (by kernel_rfl) rfl (fun KK hK => ?_)
    go_simp
    refine (clp_any tk _).mono ?_; rintro e w' ⟨rfl, rfl⟩
    (try dsimp only); refine hK.out _ _ (fun _ => hS) (fun _ => ?_); clear hK KK
    try simp only [List.getElem_toArray, List.getElem_cons_succ, List.getElem_cons_zero, Act.put, List.setIfInBounds_toArray, List.set_cons_zero, List.set_cons_succ]
    refine wpAnyM_take (i := 9) (v := ?_) rfl (by kernel_rfl) (by kernel_rfl) (by kernel_rfl) (by kernel_rfl) (fun _ _ _ h => h) (Or.inl ⟨by kernel_rfl, ?_⟩) hS ?_; rotate_left; (intro w hSw; (try dsimp only at hSw); go_split_ands; go_simp; try with_reducible rfl)
    try simp only [List.getElem_toArray, List.getElem_cons_succ, List.getElem_cons_zero, Act.put, List.setIfInBounds_toArray, List.set_cons_zero, List.set_cons_succ]
    refine wpAnyM_one (i := 10) (by kernel_rfl) rfl (fun KK hK => ?_)
    go_simp
    have hS5 := And.intro (((Fr.refl [] w4).drew.alloc (.cells #[.int .i64 nx, .int .i64 (clp tk)] 103)).cell (p := ⟨b, o + 1, none⟩) hlt4 (by simp) |>.trans hc1) (((Fr.refl [] w4).drew.alloc (.cells #[.int .i64 nx, .int .i64 (clp tk)] 103)).cell (p := ⟨g, 2, none⟩) hgt4 (by simp) |>.trans hc2)
    refine hK.out _ _ (fun _ => hS5) (fun _ => ?_); clear hK KK
    try simp only [List.getElem_toArray, List.getElem_cons_succ, List.getElem_cons_zero, Act.put, List.setIfInBounds_toArray, List.set_cons_zero, List.set_cons_succ]
    refine wpAnyM_one (i := 11) (by kernel_rfl) rfl (fun KK hK => ?_)
    have hown5 := own_fr (S := []) HO4b.out (((Fr.refl [] w4).drew).alloc (.cells #[.int .i64 nx, .int .i64 (clp tk)] 103)) (by simp)
    have hnb := Blk.new w4.drew #[.int .i64 nx, .int .i64 (clp tk)] 103
    refine step_append_src _ rfl (Operand.tmp 43) (Operand.tmp 49) 24 rfl base 103 i0 _ 2 16 Try.underlying24 hi0 hz0 hz1 hz2 rfl (by decide) (.slice wa q.length wc) (.slice (some ⟨w4.drew.heap.size, 0, none⟩) 1 1) q.length 1 (pr q) (pr [(nx, clp tk)]) rfl (by kernel_rfl) hown5 (src_blk hnb (by simp) (by simp [Value.oneCell']) 1) (by unfold maxLen; omega) (by omega) (by simp; omega) ?_
    intro wv5 w5 ho5 hg5 hat5
    have hnob := own_notin hown5 (HB4.out.drew.alloc (.cells #[.int .i64 nx, .int .i64 (clp tk)] 103)) HT.out
    have hnog := own_notin hown5 (HP4.out.drew.alloc (.cells #[.int .i64 nx, .int .i64 (clp tk)] 103)) (by decide)
    have hnor := own_notin hown5 (HR4.out.drew.alloc (.cells #[.int .i64 nx, .int .i64 (clp tk)] 103)) (by decide)
    have hfg := fr_grown hg5
    have hF45 := ((Fr.refl (Value.slice wa q.length wc).ownBlock.toList w4).drew.alloc (.cells #[.int .i64 nx, .int .i64 (clp tk)] 103)).trans hfg (fun x hx => .inl hx)
    have hS6 := And.intro ((hF45.cell (p := ⟨b, o + 1, none⟩) hlt4 hnob).trans hc1) ((hF45.cell (p := ⟨g, 2, none⟩) hgt4 hnog).trans hc2)
    have HB5 := Lib.hid (hF45.blk HB4.out hnob); have HP5 := Lib.hid (hF45.blk HP4.out hnog); have HR5 := Lib.hid (hF45.blk HR4.out hnor)
    have HF5 := Lib.hid ((HF4.out.mono (S' := b :: (Value.slice wa q.length wc).ownBlock.toList) (by simp)).trans hF45 (fun x hx => .inl (by simp only [List.mem_cons]; exact .inr hx)))
    rw [← pr_app] at ho5
    have HO5 := Lib.hid ho5
    have HN5 := Lib.hid (own_notin ho5 HB5.out HT.out)
    clear hown5 hnb hnob hnog hnor hfg hF45 hg5 hat5 ho5
    refine hK.out _ _ (fun _ => hS6) (fun _ => ?_); clear hK KK
    have f1 := Blk.free HB5.out (o + 1)
    have hB6 := HB5.out.set (o + 1) wv5
    have hS6b := HS4.out.set (i := 1) (by simp) wv5
    have hO6 := HO4.out.set (i := 1) (by decide) wv5
    have hP6 := HP5.out.other (a := ⟨b, o + 1, none⟩) (Ne.symm hbg) wv5
    have hR6 := HR5.out.other (a := ⟨b, o + 1, none⟩) (show g + 1 ≠ b by omega) wv5
    have hF6 := HF5.out.setCell (p := ⟨b, o + 1, none⟩) (.inl (by simp)) wv5
    have HO6b := Lib.hid (own_keep HO5.out ((Fr.refl [b] w5).setCell (p := ⟨b, o + 1, none⟩) (.inl (by simp)) wv5) (fun y hy => by
      have := HN5.out
      simp only [Option.mem_toList] at this
      intro hx; simp at hx; subst hx; exact this hy))
    have HB6 := Lib.hid hB6; have HS6 := Lib.hid hS6b; have HO6 := Lib.hid hO6; have HP6 := Lib.hid hP6; have HR6 := Lib.hid hR6; have HF6 := Lib.hid hF6
    clear hB6 hS6b hO6 hP6 hR6 hF6 HB5 HP5 HR5 HF5 HO5 HN5 hS6
    have hvc : wv5.oneCell' = true := by obtain ⟨a5, k5, rfl, -, -⟩ := own_val HO6b.out; rfl
    obtain ⟨wa5, wc5, rfl, hc51, hc52⟩ := own_val HO6b.out
    
    try simp only [List.getElem_toArray, List.getElem_cons_succ, List.getElem_cons_zero, Act.put, List.setIfInBounds_toArray, List.set_cons_zero, List.set_cons_succ]
    refine wpAnyM_one (i := 12) (by kernel_rfl) rfl (fun KK hK => ?_)
    go_simp
    refine hK.out _ _ (fun h => absurd h (by decide)) (fun _ => ?_); clear hK KK
    try simp only [List.getElem_toArray, List.getElem_cons_succ, List.getElem_cons_zero, Act.put, List.setIfInBounds_toArray, List.set_cons_zero, List.set_cons_succ]
    refine wpAnyM_one (i := 13) (by kernel_rfl) rfl (fun KK hK => ?_)
    go_simp
    refine hK.out _ _ (fun h => absurd h (by decide)) (fun _ => ?_); clear hK KK
    try simp only [List.getElem_toArray, List.getElem_cons_succ, List.getElem_cons_zero, Act.put, List.setIfInBounds_toArray, List.set_cons_zero, List.set_cons_succ]
    refine wpAnyM_one (i := 14) (by kernel_rfl) rfl (fun KK hK => ?_)
    go_simp
    refine hK.out _ _ (fun h => absurd h (by decide)) (fun _ => ?_); clear hK KK
    try simp only [List.getElem_toArray, List.getElem_cons_succ, List.getElem_cons_zero, Act.put, List.setIfInBounds_toArray, List.set_cons_zero, List.set_cons_succ]
    refine wpAnyM_done (by kernel_rfl) ?_ _
    try simp only [List.getElem_toArray, List.getElem_cons_succ, List.getElem_cons_zero, Act.put, List.setIfInBounds_toArray, List.set_cons_zero, List.set_cons_succ]
    clear hS
    go_upto_region 6 with (fail)
    clear HO4b HB4 HS4 HO4 HP4 HR4 HF4 hc1 hc2 hbg4 hlt4 hgt4 hbs
    generalize w5.setCell ⟨b, o + 1, none⟩ (.slice wa5 (q.length + 1) wc5) = w6 at *
    have hc1 : w6.drew.cell? ⟨b, o + 1, none⟩ = some (.slice wa5 (q.length + 1) wc5) := Blk.cell HB6.out (HS6.out.at (i := 1) rfl)
    have hlt6 : b < w6.drew.heap.size := HB6.out.lt
    obtain ⟨x, hx⟩ : ∃ x, IntKind.i64.wrap ((q.length : Int) + 1 - 32) = x := ⟨_, rfl⟩
    have hx2 : x = (q.length : Int) + 1 - 32 := by rw [← hx]; exact IntWalk.i64_in _ (by omega)
    obtain ⟨k, hk⟩ : ∃ k, q.length + 1 - 32 = k := ⟨_, rfl⟩
    have hmx : (if 0 < x then x else 0) = (k : Int) := by rw [hx2]; split <;> omega
    have hkl : k ≤ q.length + 1 := by omega
    have hkc : (k : Int) ≤ (q.length : Int) + 1 := by omega
    have hkc2 : (k : Int) ≤ (wc5 : Int) := by omega
    have hsl : ∀ w, (Instr.sliceAt 24 (.slice wa5 (q.length + 1) wc5) (some (.int .i64 (k : Int))) none none).run Try.prog w = .ok (sliced wa5 k (q.length + 1) wc5 2) w := fun w => by go_simp
    have HSL0 := Lib.hid hsl
    obtain ⟨s5, hs5⟩ : ∃ s5, sliced wa5 k (q.length + 1) wc5 2 = s5 := ⟨_, rfl⟩
    have HSL := Lib.hid (show ∀ w, (Instr.sliceAt 24 (.slice wa5 (q.length + 1) wc5) (some (.int .i64 (k : Int))) none none).run Try.prog w = .ok s5 w by rw [← hs5]; exact HSL0.out)
    have HSRC := Lib.hid (fun (w1 : World) (hF : Fr [] w6 w1) => (show Src w1 s5 2 (q.length + 1 - k) ((pr (q ++ [(nx, clp tk)])).drop (k * 2)) by rw [← hs5]; exact own_from (own_fr HO6b.out hF (by simp)) (pr_one _) hkl (by decide)))
    have HLT5 := Lib.hid (show ∀ b', (sliced wa5 k (q.length + 1) wc5 2).ownBlock = some b' → 0 < ((pr (q ++ [(nx, clp tk)])).drop (k * 2)).length → b' < w6.drew.heap.size from fun b' hb' _ => own_lt HO6b.out (sliced_block hb'))
    have HS5 := Lib.hid hs5; have HK := Lib.hid hk; have HX2 := Lib.hid hx2
    clear hsl HSL0 hs5 hk hx2 hkc hkc2 hc51 hc52
    refine wp_region_M 14 (fun w' => w'.cell? ⟨b, o + 1, none⟩ = some (.slice wa5 (q.length + 1) wc5)) (by kernel_rfl) (hc1) (fun hS => ?_)
    try simp only [List.getElem_toArray, List.getElem_cons_succ, List.getElem_cons_zero, Act.put, List.setIfInBounds_toArray, List.set_cons_zero, List.set_cons_succ]
    refine wpAnyM_take (i := 0) (v := ?_) rfl (by kernel_rfl) (by kernel_rfl) (by kernel_rfl) (by kernel_rfl) (fun _ _ _ h => h) (Or.inl ⟨by kernel_rfl, ?_⟩) hS ?_; rotate_left; (intro w hSw; obtain hSw := hSw; go_simp; try with_reducible rfl)
    try simp only [List.getElem_toArray, List.getElem_cons_succ, List.getElem_cons_zero, Act.put, List.setIfInBounds_toArray, List.set_cons_zero, List.set_cons_succ]
    refine wpAnyM_take (i := 1) (v := ?_) rfl (by kernel_rfl) (by kernel_rfl) (by kernel_rfl) (by kernel_rfl) (fun _ _ _ h => h) (Or.inl ⟨by kernel_rfl, ?_⟩) hS ?_; rotate_left; (intro w hSw; obtain hSw := hSw; go_simp; try with_reducible rfl)
    try simp only [List.getElem_toArray, List.getElem_cons_succ, List.getElem_cons_zero, Act.put, List.setIfInBounds_toArray, List.set_cons_zero, List.set_cons_succ]
    refine wpAnyM_take (i := 2) (v := ?_) rfl (by kernel_rfl) (by kernel_rfl) (by kernel_rfl) (by kernel_rfl) (fun _ _ _ h => h) (Or.inl ⟨by kernel_rfl, ?_⟩) hS ?_; rotate_left; (intro w hSw; obtain hSw := hSw; go_simp; try with_reducible rfl)
    try simp only [List.getElem_toArray, List.getElem_cons_succ, List.getElem_cons_zero, Act.put, List.setIfInBounds_toArray, List.set_cons_zero, List.set_cons_succ]
    refine wpAnyM_take (i := 3) (v := ?_) rfl (by kernel_rfl) (by kernel_rfl) (by kernel_rfl) (by kernel_rfl) (fun _ _ _ h => h) (Or.inl ⟨by kernel_rfl, ?_⟩) hS ?_; rotate_left; (intro w hSw; obtain hSw := hSw; go_simp; try with_reducible rfl)
    try simp only [List.getElem_toArray, List.getElem_cons_succ, List.getElem_cons_zero, Act.put, List.setIfInBounds_toArray, List.set_cons_zero, List.set_cons_succ]
    refine wpAnyM_take (i := 4) (v := ?_) rfl (by kernel_rfl) (by kernel_rfl) (by kernel_rfl) (by kernel_rfl) (fun _ _ _ h => h) (Or.inl ⟨by kernel_rfl, ?_⟩) hS ?_; rotate_left; (intro w hSw; obtain hSw := hSw; go_simp; try with_reducible rfl)
    try simp only [List.getElem_toArray, List.getElem_cons_succ, List.getElem_cons_zero, Act.put, List.setIfInBounds_toArray, List.set_cons_zero, List.set_cons_succ]
    refine wpAnyM_take (i := 5) (v := ?_) rfl (by kernel_rfl) (by kernel_rfl) (by kernel_rfl) (by kernel_rfl) (fun _ _ _ h => h) (Or.inl ⟨by kernel_rfl, ?_⟩) hS ?_; rotate_left; (intro w hSw; obtain hSw := hSw; go_simp; try with_reducible rfl)
    try simp only [List.getElem_toArray, List.getElem_cons_succ, List.getElem_cons_zero, Act.put, List.setIfInBounds_toArray, List.set_cons_zero, List.set_cons_succ]
    refine wpAnyM_take (i := 6) (v := ?_) rfl (by kernel_rfl) (by kernel_rfl) (by kernel_rfl) (by kernel_rfl) (fun _ _ _ h => h) (Or.inl ⟨by kernel_rfl, ?_⟩) hS ?_; rotate_left; (intro w hSw; obtain hSw := hSw; go_simp; try with_reducible rfl)
    try simp only [List.getElem_toArray, List.getElem_cons_succ, List.getElem_cons_zero, Act.put, List.setIfInBounds_toArray, List.set_cons_zero, List.set_cons_succ]
    refine wpAnyM_take (i := 7) (v := ?_) rfl (by kernel_rfl) (by kernel_rfl) (by kernel_rfl) (by kernel_rfl) (fun _ _ _ h => h) (Or.inl ⟨by kernel_rfl, ?_⟩) hS ?_; rotate_left; (intro w hSw; obtain hSw := hSw; go_simp; try with_reducible rfl)
    try simp only [List.getElem_toArray, List.getElem_cons_succ, List.getElem_cons_zero, Act.put, List.setIfInBounds_toArray, List.set_cons_zero, List.set_cons_succ]
    refine wpAnyM_take (i := 8) (v := ?_) rfl (by kernel_rfl) (by kernel_rfl) (by kernel_rfl) (by kernel_rfl) (fun _ _ _ h => h) (Or.inl ⟨by kernel_rfl, ?_⟩) hS ?_; rotate_left; (intro w hSw; obtain hSw := hSw; go_simp; try with_reducible rfl)
    try simp only [List.getElem_toArray, List.getElem_cons_succ, List.getElem_cons_zero, Act.put, List.setIfInBounds_toArray, List.set_cons_zero, List.set_cons_succ]
    refine wpAnyM_take (i := 9) (v := ?_) rfl (by kernel_rfl) (by kernel_rfl) (by kernel_rfl) (by kernel_rfl) (fun _ _ _ h => h) (Or.inl ⟨by kernel_rfl, ?_⟩) hS ?_; rotate_left; (intro w hSw; obtain hSw := hSw; go_simp; try with_reducible rfl)
    try simp only [List.getElem_toArray, List.getElem_cons_succ, List.getElem_cons_zero, Act.put, List.setIfInBounds_toArray, List.set_cons_zero, List.set_cons_succ]
    refine wpAnyM_take (i := 10) (v := ?_) rfl (by kernel_rfl) (by kernel_rfl) (by kernel_rfl) (by kernel_rfl) (fun _ _ _ h => h) (Or.inl ⟨by kernel_rfl, ?_⟩) hS ?_; rotate_left; (intro w hSw; obtain hSw := hSw; go_simp; try with_reducible rfl)
    try simp only [List.getElem_toArray, List.getElem_cons_succ, List.getElem_cons_zero, Act.put, List.setIfInBounds_toArray, List.set_cons_zero, List.set_cons_succ]
    refine wpAnyM_take (i := 11) (v := ?_) rfl (by kernel_rfl) (by kernel_rfl) (by kernel_rfl) (by kernel_rfl) (fun _ _ _ h => h) (Or.inl ⟨by kernel_rfl, ?_⟩) hS ?_; rotate_left; (intro w hSw; obtain hSw := hSw; go_simp; try with_reducible rfl)
    try simp only [List.getElem_toArray, List.getElem_cons_succ, List.getElem_cons_zero, Act.put, List.setIfInBounds_toArray, List.set_cons_zero, List.set_cons_succ]
    refine wpAnyM_take (i := 12) (v := s5) rfl (by kernel_rfl) (by kernel_rfl) (by kernel_rfl) (by kernel_rfl) (fun _ _ _ h => h) (Or.inl ⟨by kernel_rfl, ?_⟩) hS ?_; (intro w hSw; exact exec_slc (x' := .slice wa5 (q.length + 1) wc5) (lo' := some (.int .i64 (k : Int))) (hi' := none) rfl (by kernel_rfl) (by kernel_rfl) (by kernel_rfl) HSL.out _)
    try simp only [List.getElem_toArray, List.getElem_cons_succ, List.getElem_cons_zero, Act.put, List.setIfInBounds_toArray, List.set_cons_zero, List.set_cons_succ]
    refine wpAnyM_one (i := 13) (by kernel_rfl) rfl (fun KK hK => ?_)
    go_simp
    refine (clone_Sent (HSRC.out w6.drew (Fr.refl [] w6).drew) (by rw [← HS5.out]; exact HLT5.out) (by omega)).mono ?_; rintro e w7 ⟨wv7, rfl, ho7, hF7⟩
    have hS7 := (hF7.cell (p := ⟨b, o + 1, none⟩) hlt6 (by simp)).trans hc1
    have hF67 : Fr [] w6 w7 := (Fr.refl [] w6).drew.trans hF7 (by simp)
    have HB7 := Lib.hid (hF67.blk HB6.out (by simp)); have HP7 := Lib.hid (hF67.blk HP6.out (by simp)); have HR7 := Lib.hid (hF67.blk HR6.out (by simp))
    have HF7 := Lib.hid (HF6.out.trans hF67 (by simp))
    have HO7 := Lib.hid (own_weaken ho7 (show w.heap.size ≤ w6.drew.heap.size from HF6.out.size))
    have HN7 := Lib.hid (own_notin ho7 HB7.out HT.out)
    clear hF7 hF67 ho7
    dsimp only; refine hK.out _ _ (fun _ => hS7) (fun _ => ?_); clear hK KK hS7
    have f1 := Blk.free HB7.out (o + 1)
    have c1 := Blk.cell HB7.out (HS6.out.at (i := 1) rfl)
    have hB8 := HB7.out.set (o + 1) wv7
    have hS8 := HS6.out.set (i := 1) (by simp) wv7
    have hO8 := HO6.out.set (i := 1) (by decide) wv7
    have hP8 := HP7.out.other (a := ⟨b, o + 1, none⟩) (Ne.symm hbg) wv7
    have hR8 := HR7.out.other (a := ⟨b, o + 1, none⟩) (show g + 1 ≠ b by omega) wv7
    have hF8 := HF7.out.setCell (p := ⟨b, o + 1, none⟩) (.inl (by simp)) wv7
    have HO8b := Lib.hid (own_keep HO7.out ((Fr.refl [b] w7).setCell (p := ⟨b, o + 1, none⟩) (.inl (by simp)) wv7) (fun y hy => by
      have := HN7.out
      simp only [Option.mem_toList] at this
      intro hx; simp at hx; subst hx; exact this hy))
    have HB8 := Lib.hid hB8; have HS8 := Lib.hid hS8; have HO8 := Lib.hid hO8; have HP8 := Lib.hid hP8; have HR8 := Lib.hid hR8; have HF8 := Lib.hid hF8
    clear hB8 hS8 hO8 hP8 hR8 hF8 HB7 HP7 HR7 HF7 HO7 HN7 HB6 HP6 HR6 HF6 HS6 HO6
    obtain ⟨wa7, wc7, rfl, hc71, hc72⟩ := own_val HO8b.out
    
    try simp only [List.getElem_toArray, List.getElem_cons_succ, List.getElem_cons_zero, Act.put, List.setIfInBounds_toArray, List.set_cons_zero, List.set_cons_succ]
    refine wpAnyM_one (i := 14) (by kernel_rfl) rfl (fun KK hK => ?_)
    go_simp
    refine hK.out _ _ (fun h => absurd h (by decide)) (fun _ => ?_); clear hK KK
    try simp only [List.getElem_toArray, List.getElem_cons_succ, List.getElem_cons_zero, Act.put, List.setIfInBounds_toArray, List.set_cons_zero, List.set_cons_succ]
    refine wpAnyM_one (i := 15) (by kernel_rfl) rfl (fun KK hK => ?_)
    go_simp
    refine hK.out _ _ (fun h => absurd h (by decide)) (fun _ => ?_); clear hK KK
    try simp only [List.getElem_toArray, List.getElem_cons_succ, List.getElem_cons_zero, Act.put, List.setIfInBounds_toArray, List.set_cons_zero, List.set_cons_succ]
    refine wpAnyM_one (i := 16) (by kernel_rfl) rfl (fun KK hK => ?_)
    go_simp
    refine hK.out _ _ (fun h => absurd h (by decide)) (fun _ => ?_); clear hK KK
    try simp only [List.getElem_toArray, List.getElem_cons_succ, List.getElem_cons_zero, Act.put, List.setIfInBounds_toArray, List.set_cons_zero, List.set_cons_succ]
    refine wpAnyM_done (by kernel_rfl) ?_ _
    try simp only [List.getElem_toArray, List.getElem_cons_succ, List.getElem_cons_zero, Act.put, List.setIfInBounds_toArray, List.set_cons_zero, List.set_cons_succ]
    clear hS
    go_upto_region 7 with (fail)
    clear f1 c1
    generalize w7.setCell ⟨b, o + 1, none⟩ (.slice wa7 (q.length + 1 - k) wc7) = w8 at *
    have l0 := Blk.cell (i := 0) HP8.out rfl
    have l1 := Blk.cell (i := 1) HP8.out rfl
    have l2 := Blk.cell (i := 2) HP8.out rfl
    have l3 := Blk.cell (i := 3) HP8.out rfl
    have l4 := Blk.cell (i := 4) HP8.out rfl
    have l5 := Blk.cell (i := 5) HP8.out rfl
    have l6 := Blk.cell (i := 6) HP8.out rfl
    have l7 := Blk.cell (i := 7) HP8.out rfl
    have l8 := Blk.cell (i := 8) HP8.out rfl
    have l9 := Blk.cell (i := 9) HP8.out rfl
    have l10 := Blk.cell (i := 10) HP8.out rfl
    have l11 := Blk.cell (i := 11) HP8.out rfl
    have l12 := Blk.cell (i := 12) HP8.out rfl
    have r0 := Blk.cell (i := 0) HR8.out rfl
    have r1 := Blk.cell (i := 1) HR8.out rfl
    have r2 := Blk.cell (i := 2) HR8.out rfl
    have r3 := Blk.cell (i := 3) HR8.out rfl
    have r4 := Blk.cell (i := 4) HR8.out rfl
    have r5 := Blk.cell (i := 5) HR8.out rfl
    have r6 := Blk.cell (i := 6) HR8.out rfl
    have r7 := Blk.cell (i := 7) HR8.out rfl
    have r8 := Blk.cell (i := 8) HR8.out rfl
    have r9 := Blk.cell (i := 9) HR8.out rfl
    have r10 := Blk.cell (i := 10) HR8.out rfl
    have r11 := Blk.cell (i := 11) HR8.out rfl
    have r12 := Blk.cell (i := 12) HR8.out rfl
    have z0 := Blk.free HR8.out 0
    have z1 := Blk.free HR8.out 1
    have z2 := Blk.free HR8.out 2
    have z3 := Blk.free HR8.out 3
    have z4 := Blk.free HR8.out 4
    have z5 := Blk.free HR8.out 5
    have z6 := Blk.free HR8.out 6
    have z7 := Blk.free HR8.out 7
    have z8 := Blk.free HR8.out 8
    have z9 := Blk.free HR8.out 9
    have z10 := Blk.free HR8.out 10
    have z11 := Blk.free HR8.out 11
    have z12 := Blk.free HR8.out 12
    simp only [List.getElem_toArray, List.getElem_cons_zero, List.getElem_cons_succ] at l0 r0 l1 r1 l2 r2 l3 r3 l4 r4 l5 r5 l6 r6 l7 r7 l8 r8 l9 r9 l10 r10 l11 r11 l12 r12
    go_wp2_with fail
    have hFz : Fr [g + 1] w8 ((((((((((((((w8.setCell ⟨g + 1, 0, none⟩ (.int .i64 kind)).setCell ⟨g + 1, 1, none⟩ (.int .i64 slot)).setCell ⟨g + 1, 2, none⟩ (.int .i64 nx)).setCell ⟨g + 1, 3, none⟩ (.int .i64 lst)).setCell ⟨g + 1, 4, none⟩ (.bool true)).setCell ⟨g + 1, 5, none⟩ (.int .u64 v)).setCell ⟨g + 1, 6, none⟩ (.int .i64 got)).setCell ⟨g + 1, 7, none⟩ (.int .i64 first)).setCell ⟨g + 1, 8, none⟩ (.slice ia il ic)).setCell ⟨g + 1, 9, none⟩ (.int .i64 pl)).setCell ⟨g + 1, 10, none⟩ (.slice ra rl rcp)).setCell ⟨g + 1, 11, none⟩ (.int .i64 frame)).setCell ⟨g + 1, 12, none⟩ (.int .i64 mark))) := ((((((((((((((Fr.refl [g + 1] w8).setCell (p := ⟨g + 1, 0, none⟩) (.inl (by simp)) _).setCell (p := ⟨g + 1, 1, none⟩) (.inl (by simp)) _).setCell (p := ⟨g + 1, 2, none⟩) (.inl (by simp)) _).setCell (p := ⟨g + 1, 3, none⟩) (.inl (by simp)) _).setCell (p := ⟨g + 1, 4, none⟩) (.inl (by simp)) _).setCell (p := ⟨g + 1, 5, none⟩) (.inl (by simp)) _).setCell (p := ⟨g + 1, 6, none⟩) (.inl (by simp)) _).setCell (p := ⟨g + 1, 7, none⟩) (.inl (by simp)) _).setCell (p := ⟨g + 1, 8, none⟩) (.inl (by simp)) _).setCell (p := ⟨g + 1, 9, none⟩) (.inl (by simp)) _).setCell (p := ⟨g + 1, 10, none⟩) (.inl (by simp)) _).setCell (p := ⟨g + 1, 11, none⟩) (.inl (by simp)) _).setCell (p := ⟨g + 1, 12, none⟩) (.inl (by simp)) _)
    have hBz := hFz.blk HB8.out (by simp; omega)
    have hOz := own_keep HO8b.out hFz (by
      have := own_notin HO8b.out HR8.out (by decide)
      intro y hy hx
      simp only [Option.mem_toList] at this
      simp at hx; subst hx; exact this hy)
    have hFe := HF8.out.trans hFz (fun x hx => .inr (by rw [HG.out]; simp at hx; omega))
    have HBz := Lib.hid hBz; have HOz := Lib.hid hOz; have HFe := Lib.hid hFe
    clear hBz hOz hFe hFz
    refine bodyPost_ret (v := .agg #[.int .i64 kind, .int .i64 slot, .int .i64 nx, .int .i64 lst, .bool true, .int .u64 v, .int .i64 got, .int .i64 first, .slice ia il ic, .int .i64 pl, .slice ra rl rcp, .int .i64 frame, .int .i64 mark]) (by simp [results, Try.results13, go_sem, r0, r1, r2, r3, r4, r5, r6, r7, r8, r9, r10, r11, r12]) rfl ?_
    have hnx' : ((((nx + 1) % 65536 : Nat)) : Int) = ((nx : Int) + 1) % 65536 := by omega
    have hke : keep32 (q ++ [(nx, clp tk)]) = (q ++ [(nx, clp tk)]).drop k := by unfold keep32; rw [← HK.out]; simp
    have hkl2 : (keep32 (q ++ [(nx, clp tk)])).length = q.length + 1 - k := by rw [hke]; simp
    refine ⟨lst, v, _, .slice wa7 (q.length + 1 - k) wc7, rfl, ?_, ?_, HBz.out, ⟨?_, HWIN.out.out HO8.out (by omega), HM.out.out HO8.out (.inr (by omega))⟩, HO8.out.wider (Nat.le_refl _) (by omega), ?_, HFe.out⟩
    · intro h; cases h
    · exact fun _ => ⟨rfl, HBT.out⟩
    · rw [hnx']; exact HS8.out
    · rw [hkl2, hke, pr_drop]; exact HOz.out
end Go.Proofs.Ytkjjikjilmngdaa.Lk
