/- chapter 24: the reference's Fates. -/
import Derived.Test.YtkjjikjilmngdaaNtS
namespace Go.Proofs.Ytkjjikjilmngdaa.Nt
open Go.RowKit Dt Go.Proofs.Ytkjjikjilmngdaa.Hd
set_option linter.unusedVariables false
set_option linter.unusedSimpArgs false

theorem infFaR : (Try.prog.info? 98).map (fun i => (i.zero, i.size, i.bytes)) = some (some (.agg #[.bool false, .int .i64 0, .int .i64 0]), 3, 24) := by kernel_rfl
theorem srcFr0 {w w' : World} {sv : Value} {sz m : Nat} {xs : List Value} (h : Src w sv sz m xs) (hF : Fr [] w w') : Src w' sv sz m xs := by
  obtain ⟨⟨a, c, e, h1, h2⟩, h3, h4⟩ := h
  exact ⟨⟨a, c, e, h1, fun ad had j u hu => by have := h2 ad had j u hu; rw [hF.cell (World.block_lt_of_cell? _ _ this) (by simp)]; exact this⟩, h3, h4⟩
theorem FaS.weaken {w : World} {base base' : Nat} {v : Value} {l : List Fa} (h : FaS w base v l) (hb : base' ≤ base) : FaS w base' v l := by
  obtain ⟨a, c, e, h1, h2, h3, h4⟩ := h
  exact ⟨a, c, e, h1, h2, h3, fun ad had => by obtain ⟨g, o, cur, k1, k2, k3⟩ := h4 ad had; exact ⟨g, o, cur, k1, by omega, k3⟩⟩
def RNP (W : World) (K : List Nat) (w : World) (b : Nat) (s' : NetV) (no : Nat) (e : Ending) (w' : World) : Prop := e = .returned (.tuple #[]) ∧ HasR W K w' b s' no ∧ Kp K w w'
set_option maxRecDepth 100000 in
set_option maxHeartbeats 6400000 in
theorem rfates {W w : World} {K : List Nat} {b no : Nat} {s : NetV} {la : Option Addr} {ln lc : Nat} {l : List Fa} (h : HasR W K w b s no) (hs : Src w (.slice la ln lc) 3 ln (faC l)) (hll : l.length = ln) (hln : ln ≤ 1000) (hlm : lc ≤ maxLen) :
    Calls Try.prog 36 #[.pointer (some ⟨b, 0, none⟩), .slice la ln lc] w (RNP W K w b (fatesS s l) no) := by
  obtain ⟨⟨vs, fv, dv, h1, h2, h3, h4⟩, hb, hb2, hK, hf⟩ := h
  obtain ⟨fa, fc, rfl, hf1, hf2⟩ := h2.fo.val
  have hfb := h2.fb
  obtain rfl := h2.hd
  obtain ⟨n, hn⟩ : ∃ n, s.fa.length = n := ⟨_, rfl⟩
  have hsF := h2.fo.src
  rw [hn] at hsF h1 h2 hfb h3 hf1
  have hWw := hf.size
  have hbl := h1.lt
  have HH := Lib.hid h1; have H2 := Lib.hid h2; have HS := Lib.hid hs; have HSF := Lib.hid hsF; have HN := Lib.hid hn
  clear h1 h2 hs hsF hn
  obtain ⟨i0, hi0, hz0, hz1, hz2⟩ := info_parts infFaR
  go_enter Try.func36, Try.ntmps36
  go_upto_region 0 with (fail)
  apply wp_region_lit
  iterate 2 (refine wpList_plain rfl (fun K hK => ?_); go_simp; refine hK _ _ ?_; clear hK K)
  have hblk := Blk.new w #[] 98
  have hF1 := (Fr.refl [] w).alloc (.cells #[] 98)
  have hs1 := hF1.size
  obtain ⟨G, hG⟩ : ∃ G, w.heap.size = G := ⟨_, rfl⟩
  rw [hG] at hblk hs1 hbl hWw ⊢
  generalize w.alloc (.cells #[] 98) = w1 at *
  have c1 := Blk.cell (i := 0) (hF1.blk HH.out (by simp)) rfl
  simp only [List.getElem_toArray, List.getElem_cons_zero] at c1
  iterate 4 (refine wpList_plain rfl (fun K hK => ?_); go_simp; refine hK _ _ ?_; clear hK K)
  refine wpList_append_src _ rfl (Operand.tmp 5) (Operand.tmp 9) 90 rfl G 98 i0 _ 3 24 Try.underlying90 hi0 hz0 hz1 hz2 rfl (by decide) _ _ 0 n [] (faC s.fa) rfl rfl (own_empty hblk (Nat.le_refl _)) (srcFr0 HSF.out hF1) (by unfold maxLen; omega) (by omega) hs1 ?_
  intro v2 w2 ho2 hg2 _
  have hF2 := fr_own hF1 (own_empty (sz := 3) (base := G) hblk (Nat.le_refl _)) hg2 (by omega)
  simp only [Nat.zero_add, List.nil_append] at ho2
  have hs2 := hg2.size
  clear hg2 hblk
  iterate 1 (refine wpList_plain rfl (fun K hK => ?_); go_simp; refine hK _ _ ?_; clear hK K)
  refine wpList_append_src _ rfl (Operand.tmp 10) (Operand.tmp 11) 90 rfl G 98 i0 _ 3 24 Try.underlying90 hi0 hz0 hz1 hz2 rfl (by decide) _ _ n ln (faC s.fa) (faC l) rfl rfl ho2 (srcFr0 HS.out hF2) (by unfold maxLen; omega) (by omega) (by omega) ?_
  intro v3 w3 ho3 hg3 _
  have hF3 := fr_own hF2 ho2 hg3 (by omega)
  have hs3 := hg3.size
  rw [← faC_app] at ho3
  obtain ⟨N, hN⟩ : ∃ N, n + ln = N := ⟨_, rfl⟩
  rw [hN] at ho3
  have HLL := Lib.hid hll
  have hll3 : (s.fa ++ l).length = N := by rw [List.length_append, HN.out, hll, hN]
  obtain ⟨k, hk⟩ : ∃ k, min N 1000 = k := ⟨_, rfl⟩
  obtain ⟨a3, c3, rfl, hc1, hc2, hfs⟩ := FaS.of_take (k := k) ho3 hll3 (by omega)
  have hkc : (k : Int) ≤ (c3 : Int) := by omega
  have HB3 := Lib.hid (hF3.blk HH.out (by simp))
  have HFS := Lib.hid hfs; have HF3 := Lib.hid hF3
  have e3 : (s.fa ++ l).take k = s.fa ++ l.take (1000 - s.fa.length) := by
    rw [List.take_append, HN.out]
    rcases Nat.lt_or_ge N 1000 with c | c
    · rw [List.take_of_length_le (by have := HN.out; omega), List.take_of_length_le (by omega), List.take_of_length_le (by omega)]
    · rw [List.take_of_length_le (by have := HN.out; omega), show k = 1000 by omega]
  have HE3 := Lib.hid e3
  have c3' := Blk.cell (i := 0) HB3.out rfl
  have f3 := Blk.free HB3.out 0
  simp only [List.getElem_toArray, List.getElem_cons_zero] at c3'
  clear ho2 ho3 hg3 hF3 hF2 hF1 hfs e3 c1 hs1 hi0 hz0 hz1 hz2 hll3
  have HNN := Lib.hid hN
  clear hN
  go_upto_region 1 with (fail)
  have hB4 := HB3.out.set 0 (.slice a3 N c3)
  have hF4 := (Fr.refl [b] w3).setCell (p := ⟨b, 0, none⟩) (.inl (by simp)) (.slice a3 N c3)
  have hFS4 := HFS.out.fr hF4 (fun g hg hx => by simp at hx; have := (HFS.out.blk hg).1; omega)
  have hs4 := hF4.size
  have hu4 : NoU8 w3 [b] := NoU8.cons HB3.out (by decide) (NoU8.nil _)
  have hFF4 := (HF3.out.mono (S' := [b]) (by simp)).trans hF4 (fun x hx => .inl hx)
  clear c3' f3
  generalize w3.setCell ⟨b, 0, none⟩ (.slice a3 N c3) = w4 at *
  have c4 := Blk.cell (i := 0) hB4 rfl
  have f4 := Blk.free hB4 0
  have e1 : w4.drew.cell? ⟨b, 0, none⟩ = some (.slice a3 N c3) := by simpa using c4
  have f5 : w4.drew.frozen? ⟨b, 0, none⟩ = false := f4
  have HB4 := Lib.hid hB4; have HFS4 := Lib.hid hFS4; have HFF4 := Lib.hid hFF4
  have hsl : ∀ w, (Instr.sliceAt 90 (.slice a3 N c3) none (some (.int .i64 (k : Int))) none).run Try.prog w = .ok (sliced a3 0 k c3 3) w := fun w => by go_simp
  have HSL := Lib.hid hsl
  obtain ⟨sv, hsv⟩ : ∃ sv, sliced a3 0 k c3 3 = sv := ⟨_, rfl⟩
  rw [hsv] at HSL HFS4
  have hlk : ((s.fa ++ l).take k).length = k := by rw [List.length_take, List.length_append, HN.out, hll, HNN.out]; omega
  obtain ⟨a5, c5, he5, -, -⟩ := HFS4.out.val
  rw [hlk] at he5
  subst he5
  clear hB4 hF4 hFS4 hFF4 hsl hu4 HFS c4
  rcases Nat.lt_trichotomy N 1000 with hc | hc | hc
  all_goals
    first
    | (have q1 : (N : Int) < 1000 := by omega
       have hkk : ((k : Nat) : Int) = (N : Int) := by omega)
    | (have q1 : (1000 : Int) < N := by omega
       have hkk : ((k : Nat) : Int) = 1000 := by omega)
    | (have q1 : (N : Int) = 1000 := by omega
       have hkk : ((k : Nat) : Int) = (N : Int) := by omega)
    have HKK := Lib.hid hkk
    clear hkk hc hk
    refine wp_region_M 12 (fun w' => w'.cell? ⟨b, 0, none⟩ = some (.slice a3 N c3)) (by kernel_rfl) (e1) (fun hS => ?_)
    try simp only [List.getElem_toArray, List.getElem_cons_succ, List.getElem_cons_zero, Act.put, List.setIfInBounds_toArray, List.set_cons_zero, List.set_cons_succ]
    refine wpAnyM_take (i := 0) (v := ?_) rfl (by kernel_rfl) (by kernel_rfl) (by kernel_rfl) (by kernel_rfl) (fun _ _ _ h => h) (Or.inl ⟨by kernel_rfl, ?_⟩) hS ?_; rotate_left; (intro w hSw; obtain hS1 := hSw; go_simp; try with_reducible rfl)
    try simp only [List.getElem_toArray, List.getElem_cons_succ, List.getElem_cons_zero, Act.put, List.setIfInBounds_toArray, List.set_cons_zero, List.set_cons_succ]
    refine wpAnyM_take (i := 1) (v := ?_) rfl (by kernel_rfl) (by kernel_rfl) (by kernel_rfl) (by kernel_rfl) (fun _ _ _ h => h) (Or.inl ⟨by kernel_rfl, ?_⟩) hS ?_; rotate_left; (intro w hSw; obtain hS1 := hSw; go_simp; try with_reducible rfl)
    try simp only [List.getElem_toArray, List.getElem_cons_succ, List.getElem_cons_zero, Act.put, List.setIfInBounds_toArray, List.set_cons_zero, List.set_cons_succ]
    refine wpAnyM_take (i := 2) (v := ?_) rfl (by kernel_rfl) (by kernel_rfl) (by kernel_rfl) (by kernel_rfl) (fun _ _ _ h => h) (Or.inl ⟨by kernel_rfl, ?_⟩) hS ?_; rotate_left; (intro w hSw; obtain hS1 := hSw; go_simp; try with_reducible rfl)
    try simp only [List.getElem_toArray, List.getElem_cons_succ, List.getElem_cons_zero, Act.put, List.setIfInBounds_toArray, List.set_cons_zero, List.set_cons_succ]
    refine wpAnyM_take (i := 3) (v := ?_) rfl (by kernel_rfl) (by kernel_rfl) (by kernel_rfl) (by kernel_rfl) (fun _ _ _ h => h) (Or.inl ⟨by kernel_rfl, ?_⟩) hS ?_; rotate_left; (intro w hSw; obtain hS1 := hSw; go_simp; try with_reducible rfl)
    try simp only [List.getElem_toArray, List.getElem_cons_succ, List.getElem_cons_zero, Act.put, List.setIfInBounds_toArray, List.set_cons_zero, List.set_cons_succ]
    refine wpAnyM_take (i := 4) (v := ?_) rfl (by kernel_rfl) (by kernel_rfl) (by kernel_rfl) (by kernel_rfl) (fun _ _ _ h => h) (Or.inl ⟨by kernel_rfl, ?_⟩) hS ?_; rotate_left; (intro w hSw; obtain hS1 := hSw; go_simp; try with_reducible rfl)
    try simp only [List.getElem_toArray, List.getElem_cons_succ, List.getElem_cons_zero, Act.put, List.setIfInBounds_toArray, List.set_cons_zero, List.set_cons_succ]
    refine wpAnyM_take (i := 5) (v := ?_) rfl (by kernel_rfl) (by kernel_rfl) (by kernel_rfl) (by kernel_rfl) (fun _ _ _ h => h) (Or.inl ⟨by kernel_rfl, ?_⟩) hS ?_; rotate_left; (intro w hSw; obtain hS1 := hSw; go_simp; try with_reducible rfl)
    try simp only [List.getElem_toArray, List.getElem_cons_succ, List.getElem_cons_zero, Act.put, List.setIfInBounds_toArray, List.set_cons_zero, List.set_cons_succ]
    refine wpAnyM_take (i := 6) (v := ?_) rfl (by kernel_rfl) (by kernel_rfl) (by kernel_rfl) (by kernel_rfl) (fun _ _ _ h => h) (Or.inl ⟨by kernel_rfl, ?_⟩) hS ?_; rotate_left; (intro w hSw; obtain hS1 := hSw; go_simp; try with_reducible rfl)
    try simp only [List.getElem_toArray, List.getElem_cons_succ, List.getElem_cons_zero, Act.put, List.setIfInBounds_toArray, List.set_cons_zero, List.set_cons_succ]
    refine wpAnyM_take (i := 7) (v := ?_) rfl (by kernel_rfl) (by kernel_rfl) (by kernel_rfl) (by kernel_rfl) (fun _ _ _ h => h) (Or.inl ⟨by kernel_rfl, ?_⟩) hS ?_; rotate_left; (intro w hSw; obtain hS1 := hSw; go_simp; try with_reducible rfl)
    try simp only [List.getElem_toArray, List.getElem_cons_succ, List.getElem_cons_zero, Act.put, List.setIfInBounds_toArray, List.set_cons_zero, List.set_cons_succ]
    refine wpAnyM_take (i := 8) (v := ?_) rfl (by kernel_rfl) (by kernel_rfl) (by kernel_rfl) (by kernel_rfl) (fun _ _ _ h => h) (Or.inl ⟨by kernel_rfl, ?_⟩) hS ?_; rotate_left; (intro w hSw; obtain hS1 := hSw; go_simp; try with_reducible rfl)
    try simp only [List.getElem_toArray, List.getElem_cons_succ, List.getElem_cons_zero, Act.put, List.setIfInBounds_toArray, List.set_cons_zero, List.set_cons_succ]
    refine wpAnyM_take (i := 9) (v := ?_) rfl (by kernel_rfl) (by kernel_rfl) (by kernel_rfl) (by kernel_rfl) (fun _ _ _ h => h) (Or.inl ⟨by kernel_rfl, ?_⟩) hS ?_; rotate_left; (intro w hSw; obtain hS1 := hSw; go_simp; try with_reducible rfl)
    try simp only [List.getElem_toArray, List.getElem_cons_succ, List.getElem_cons_zero, Act.put, List.setIfInBounds_toArray, List.set_cons_zero, List.set_cons_succ]
    refine wpAnyM_take (i := 10) (v := (.int .i64 (k : Int))) rfl (by kernel_rfl) (by kernel_rfl) (by kernel_rfl) (by kernel_rfl) (fun _ _ _ h => h) (Or.inl ⟨by kernel_rfl, ?_⟩) hS ?_; (intro w hSw; (focus (rw [HKK.out]; go_simp; first | done | (intros; omega))))
    try simp only [List.getElem_toArray, List.getElem_cons_succ, List.getElem_cons_zero, Act.put, List.setIfInBounds_toArray, List.set_cons_zero, List.set_cons_succ]
    refine wpAnyM_take (i := 11) (v := (.slice a5 k c5)) rfl (by kernel_rfl) (by kernel_rfl) (by kernel_rfl) (by kernel_rfl) (fun _ _ _ h => h) (Or.inl ⟨by kernel_rfl, ?_⟩) hS ?_; (intro w hSw; exact exec_slc (x' := .slice a3 N c3) (lo' := none) (hi' := some (.int .i64 (k : Int))) rfl (by kernel_rfl) (by kernel_rfl) (by kernel_rfl) HSL.out _)
    try simp only [List.getElem_toArray, List.getElem_cons_succ, List.getElem_cons_zero, Act.put, List.setIfInBounds_toArray, List.set_cons_zero, List.set_cons_succ]
    refine wpAnyM_one (i := 12) (by kernel_rfl) rfl (fun KK hK => ?_)
    go_simp
    refine hK.out _ _ (fun h => absurd h (by decide)) (fun _ => ?_); clear hK KK
    try simp only [List.getElem_toArray, List.getElem_cons_succ, List.getElem_cons_zero, Act.put, List.setIfInBounds_toArray, List.set_cons_zero, List.set_cons_succ]
    refine wpAnyM_one (i := 13) (by kernel_rfl) rfl (fun KK hK => ?_)
    go_simp
    refine hK.out _ _ (fun h => absurd h (by decide)) (fun _ => ?_); clear hK KK
    try simp only [List.getElem_toArray, List.getElem_cons_succ, List.getElem_cons_zero, Act.put, List.setIfInBounds_toArray, List.set_cons_zero, List.set_cons_succ]
    refine wpAnyM_one (i := 14) (by kernel_rfl) rfl (fun KK hK => ?_)
    go_simp
    refine hK.out _ _ (fun h => absurd h (by decide)) (fun _ => ?_); clear hK KK
    try simp only [List.getElem_toArray, List.getElem_cons_succ, List.getElem_cons_zero, Act.put, List.setIfInBounds_toArray, List.set_cons_zero, List.set_cons_succ]
    refine wpAnyM_done (by kernel_rfl) ?_ _
    try simp only [List.getElem_toArray, List.getElem_cons_succ, List.getElem_cons_zero, Act.put, List.setIfInBounds_toArray, List.set_cons_zero, List.set_cons_succ]
    clear hS
    have hB5 := HB4.out.set 0 (.slice a5 k c5)
    have hF5 := (Fr.refl [b] w4).setCell (p := ⟨b, 0, none⟩) (.inl (by simp)) (.slice a5 k c5)
    have hu5 : NoU8 w4 [b] := NoU8.cons HB4.out (by decide) (NoU8.nil _)
    have hFS5 := HFS4.out.fr hF5 (fun g hg hx => by simp at hx; have := (HFS4.out.blk hg).1; omega)
    have hF := HFF4.out.trans hF5 (fun x hx => .inl hx)
    have huw : NoU8 w [b] := NoU8.cons HH.out (by decide) (NoU8.nil _)
    obtain ⟨V, hV, hfl, hno⟩ := H2.out.do'
    have hdb : ∀ g, dv.ownBlock = some g → g ∉ [b] := fun g hg hx => by simp at hx; exact own_blk (g := 0) hV HH.out (by decide) g hg hx
    rw [HE3.out] at hFS5
    have hR : HasR W K (w4.setCell ⟨b, 0, none⟩ (.slice a5 k c5)) b (fatesS s l) no := by
      refine ⟨⟨_, _, dv, hB5, ⟨?_, hFS5.weaken (by omega), ⟨V, own_keep hV hF hdb, hfl.fr hF huw, hno⟩, ?_, H2.out.xb, H2.out.lb⟩, fun g hg hx => ?_, h4⟩, hb, hb2, fun g hg => Nat.lt_of_lt_of_le (hK g hg) hF.size, hf.trans hF (fun x hx => .inr (by simp at hx; omega))⟩
      · rfl
      · show (s.fa ++ l.take (1000 - s.fa.length)).length ≤ 1000
        rw [← HE3.out, hlk]; have := HKK.out; omega
      · have := (hFS5.blk hg).1; have := hK g hx; omega
    have hKp : Kp K w (w4.setCell ⟨b, 0, none⟩ (.slice a5 k c5)) := Kp.of_fr hF hK (fun g hg hx => by simp at hx; subst hx; exact hb hg) huw
    go_wp2_with fail
    go_end0
    have hd := hR.fr0 ((Fr.refl [] _).drew)
    exact ⟨rfl, hd.1, hKp.trans hd.2⟩
end Go.Proofs.Ytkjjikjilmngdaa.Nt
