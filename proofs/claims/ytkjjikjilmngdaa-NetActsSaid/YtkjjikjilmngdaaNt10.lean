/- chapter 24: Fates. -/
import Derived.Test.YtkjjikjilmngdaaNt9
namespace Go.Proofs.Ytkjjikjilmngdaa.Nt
open Go.RowKit Dt Go.Proofs.Ytkjjikjilmngdaa.Hd
set_option linter.unusedVariables false
set_option linter.unusedSimpArgs false

theorem src_take {w : World} {a : Option Addr} {n c j sz : Nat} {xs : List Value} (h : Src w (.slice a n c) sz n xs) (hj : j ≤ n) : Src w (sliced a 0 j c sz) sz j (xs.take (j * sz)) := by
  obtain ⟨⟨a', c', e, h2, h3⟩, hl, h1⟩ := h
  cases e
  have hjn : j * sz ≤ n * sz := Nat.mul_le_mul_right _ hj
  refine ⟨?_, by rw [List.length_take, hl]; omega, fun u hu => h1 u (List.mem_of_mem_take hu)⟩
  cases a with
  | none =>
    obtain ⟨rfl, rfl⟩ := h2 rfl
    exact ⟨none, _, rfl, fun _ => ⟨by omega, by simp⟩, fun ad h => by cases h⟩
  | some ad =>
    have hget : ∀ k u, (xs.take (j * sz))[k]? = some u → w.cell? (ad.add k) = some u := fun k u hu => by
      rw [List.getElem?_take] at hu
      split at hu
      · exact h3 ad rfl k u hu
      · cases hu
    unfold sliced
    split
    · exact ⟨_, _, rfl, (fun h => by cases h), fun ad' e k u hu => by cases e; exact hget k u hu⟩
    · refine ⟨_, _, rfl, (fun h => by cases h), fun ad' e k u hu => ?_⟩
      have hz : ad.add (0 * sz) = ad := by rw [Nat.zero_mul]; unfold Addr.add; split <;> simp_all
      simp only [Option.map_some, hz] at e
      cases e
      exact hget k u hu
theorem infFa : (Try.prog.info? 86).map (fun i => (i.zero, i.size, i.bytes)) = some (some (.agg #[.bool false, .int .i64 0, .int .i64 0]), 3, 24) := by kernel_rfl
theorem faC_take (l : List Fa) (k : Nat) : (faC l).take (k * 3) = faC (l.take k) := by
  induction l generalizing k with
  | nil => simp [faC]
  | cons f l ih =>
    cases k with
    | zero => simp [faC]
    | succ k =>
      rw [List.take_succ_cons, faC_cons, faC_cons, ← ih, show (k + 1) * 3 = [Value.bool f.drop, .int .i64 f.copies, .int .i64 f.delay].length + k * 3 by simp; omega, List.take_length_add_append]
set_option maxRecDepth 100000 in
set_option maxHeartbeats 6400000 in
theorem fates_any {w : World} {b o base : Nat} {T : TypeId} {vs : Array Value} {fv xv : Value} {s : NetV} {la : Option Addr} {ln lc : Nat} {l : List Fa} (h : Blk w b vs T) (H : NetS w vs o base fv xv s) (hT : T ≠ 86) (hT2 : T ≠ 115) (hT3 : T ≠ 5) (hbase : base ≤ w.heap.size) (hs : Src w (.slice la ln lc) 3 ln (faC l)) (hln : l.length = ln) (hlc : ln ≤ lc) (hlm : lc ≤ maxLen) (hlt : ∀ g, (Value.slice la ln lc).ownBlock = some g → g < w.heap.size) :
    Calls Try.prog 33 #[.pointer (some ⟨b, o, none⟩), .slice la ln lc] w (NetP w b o base T vs fv xv (.tuple #[]) (fatesS s l) (b :: fv.ownBlock.toList)) := by
  obtain ⟨xa, xc, rfl, hx1, hx2⟩ := own_val H.fo
  have hfb := H.fb
  obtain ⟨n, hn⟩ : ∃ n, s.fa.length = n := ⟨_, rfl⟩
  have hlm2 : lc ≤ 9223372036854775807 := by unfold maxLen at hlm; omega
  have c0 := Blk.cell h (H.hd.at (i := 0) rfl)
  rw [Nat.add_zero] at c0
  have hblt := h.lt
  rw [hn] at c0 hfb ⊢
  obtain ⟨r, hr⟩ : ∃ r, 1000 - n = r := ⟨_, rfl⟩
  have er : (1000 : Int) - n = (r : Int) := by omega
  have ew : IntKind.i64.wrap (r : Int) = (r : Int) := IntWalk.i64_in _ (by omega)
  obtain ⟨k, hk⟩ : ∃ k, min ln r = k := ⟨_, rfl⟩
  have hkl : k ≤ ln := by omega
  have hkc : (k : Int) ≤ (lc : Int) := by omega
  have hsl : ∀ w, (Instr.sliceAt 68 (.slice la ln lc) none (some (.int .i64 (k : Int))) none).run Try.prog w = .ok (sliced la 0 k lc 3) w := fun w => by go_simp
  have hsrc := src_take hs hkl
  rw [faC_take] at hsrc
  obtain ⟨sv, hsv⟩ : ∃ sv, sliced la 0 k lc 3 = sv := ⟨_, rfl⟩
  rw [hsv] at hsl hsrc
  have hslt : ∀ g, sv.ownBlock = some g → 0 < (faC (l.take k)).length → g < w.heap.size := fun g hg _ => hlt g (by rw [← hsv] at hg; exact sliced_block hg)
  have hsln : (l.take k).length = k := by rw [List.length_take]; omega
  have HSL := Lib.hid hsl; have HSRC := Lib.hid hsrc; have HSLT := Lib.hid hslt
  have HH := Lib.hid h; have HN := Lib.hid H; have HNN := Lib.hid hn; have HK := Lib.hid hk; have HR := Lib.hid hr
  have hfo := H.fo
  rw [hn] at hfo HN
  have HFO := Lib.hid hfo
  have hkr : k ≤ r := by omega
  clear h H hs hlt hlm hsl hsrc hslt hsv hfo hlc
  obtain ⟨i0, hi0, hz0, hz1, hz2⟩ := info_parts infFa
  rcases Nat.lt_or_ge ln r with hc | hc
  all_goals
    have hkk : ((k : Nat) : Int) = (if (ln : Int) < (r : Int) then (ln : Int) else (r : Int)) := by split <;> omega
    first
    | (have q1 : (ln : Int) < (r : Int) := by omega
       rw [if_pos q1] at hkk)
    | (have q1 : ¬ (ln : Int) < (r : Int) := by omega
       rw [if_neg q1] at hkk)
    have hkv := congrArg (Value.int .i64) hkk
    have HKV := Lib.hid hkv
    clear hkk hkv hk hr
    have e1 : w.drew.cell? ⟨b, o, none⟩ = some (.slice xa n xc) := c0
    go_enter Try.func33, Try.ntmps33
    go_upto_region 0 with (fail)
    refine wp_region_M 17 (fun w' => w'.cell? ⟨b, o, none⟩ = some (.slice xa n xc)) (by kernel_rfl) (e1) (fun hS => ?_)
    try simp only [List.getElem_toArray, List.getElem_cons_succ, List.getElem_cons_zero, Act.put, List.setIfInBounds_toArray, List.set_cons_zero, List.set_cons_succ]
    refine wpAnyM_take (i := 0) (v := ?_) rfl (by kernel_rfl) (by kernel_rfl) (by kernel_rfl) (by kernel_rfl) (fun _ _ _ h => h) (Or.inl ⟨by kernel_rfl, ?_⟩) hS ?_; rotate_left; (intro w hSw; obtain hS1 := hSw; go_simp; try with_reducible rfl)
    try simp only [List.getElem_toArray, List.getElem_cons_succ, List.getElem_cons_zero, Act.put, List.setIfInBounds_toArray, List.set_cons_zero, List.set_cons_succ]
    refine wpAnyM_take (i := 1) (v := ?_) rfl (by kernel_rfl) (by kernel_rfl) (by kernel_rfl) (by kernel_rfl) (fun _ _ _ h => h) (Or.inl ⟨by kernel_rfl, ?_⟩) hS ?_; rotate_left; (intro w hSw; obtain hS1 := hSw; go_simp; try with_reducible rfl)
    try simp only [List.getElem_toArray, List.getElem_cons_succ, List.getElem_cons_zero, Act.put, List.setIfInBounds_toArray, List.set_cons_zero, List.set_cons_succ]
    refine wpAnyM_take (i := 2) (v := ?_) rfl (by kernel_rfl) (by kernel_rfl) (by kernel_rfl) (by kernel_rfl) (fun _ _ _ h => h) (Or.inl ⟨by kernel_rfl, ?_⟩) hS ?_; rotate_left; (intro w hSw; obtain hS1 := hSw; go_simp; try with_reducible rfl)
    try simp only [List.getElem_toArray, List.getElem_cons_succ, List.getElem_cons_zero, Act.put, List.setIfInBounds_toArray, List.set_cons_zero, List.set_cons_succ]
    refine wpAnyM_take (i := 3) (v := ?_) rfl (by kernel_rfl) (by kernel_rfl) (by kernel_rfl) (by kernel_rfl) (fun _ _ _ h => h) (Or.inl ⟨by kernel_rfl, ?_⟩) hS ?_; rotate_left; (intro w hSw; obtain hS1 := hSw; go_simp; try with_reducible rfl)
    try simp only [List.getElem_toArray, List.getElem_cons_succ, List.getElem_cons_zero, Act.put, List.setIfInBounds_toArray, List.set_cons_zero, List.set_cons_succ]
    refine wpAnyM_take (i := 4) (v := ?_) rfl (by kernel_rfl) (by kernel_rfl) (by kernel_rfl) (by kernel_rfl) (fun _ _ _ h => h) (Or.inl ⟨by kernel_rfl, ?_⟩) hS ?_; rotate_left; (intro w hSw; obtain hS1 := hSw; go_simp; try with_reducible rfl)
    try simp only [List.getElem_toArray, List.getElem_cons_succ, List.getElem_cons_zero, Act.put, List.setIfInBounds_toArray, List.set_cons_zero, List.set_cons_succ]
    refine wpAnyM_take (i := 5) (v := ?_) rfl (by kernel_rfl) (by kernel_rfl) (by kernel_rfl) (by kernel_rfl) (fun _ _ _ h => h) (Or.inl ⟨by kernel_rfl, ?_⟩) hS ?_; rotate_left; (intro w hSw; obtain hS1 := hSw; go_simp; try with_reducible rfl)
    try simp only [List.getElem_toArray, List.getElem_cons_succ, List.getElem_cons_zero, Act.put, List.setIfInBounds_toArray, List.set_cons_zero, List.set_cons_succ]
    refine wpAnyM_take (i := 6) (v := ?_) rfl (by kernel_rfl) (by kernel_rfl) (by kernel_rfl) (by kernel_rfl) (fun _ _ _ h => h) (Or.inl ⟨by kernel_rfl, ?_⟩) hS ?_; rotate_left; (intro w hSw; obtain hS1 := hSw; go_simp; try with_reducible rfl)
    try simp only [List.getElem_toArray, List.getElem_cons_succ, List.getElem_cons_zero, Act.put, List.setIfInBounds_toArray, List.set_cons_zero, List.set_cons_succ]
    refine wpAnyM_take (i := 7) (v := ?_) rfl (by kernel_rfl) (by kernel_rfl) (by kernel_rfl) (by kernel_rfl) (fun _ _ _ h => h) (Or.inl ⟨by kernel_rfl, ?_⟩) hS ?_; rotate_left; (intro w hSw; obtain hS1 := hSw; go_simp; try with_reducible rfl)
    try simp only [List.getElem_toArray, List.getElem_cons_succ, List.getElem_cons_zero, Act.put, List.setIfInBounds_toArray, List.set_cons_zero, List.set_cons_succ]
    refine wpAnyM_take (i := 8) (v := ?_) rfl (by kernel_rfl) (by kernel_rfl) (by kernel_rfl) (by kernel_rfl) (fun _ _ _ h => h) (Or.inl ⟨by kernel_rfl, ?_⟩) hS ?_; rotate_left; (intro w hSw; obtain hS1 := hSw; go_simp; try with_reducible rfl)
    try simp only [List.getElem_toArray, List.getElem_cons_succ, List.getElem_cons_zero, Act.put, List.setIfInBounds_toArray, List.set_cons_zero, List.set_cons_succ]
    refine wpAnyM_take (i := 9) (v := ?_) rfl (by kernel_rfl) (by kernel_rfl) (by kernel_rfl) (by kernel_rfl) (fun _ _ _ h => h) (Or.inl ⟨by kernel_rfl, ?_⟩) hS ?_; rotate_left; (intro w hSw; obtain hS1 := hSw; go_simp; try with_reducible rfl)
    try simp only [List.getElem_toArray, List.getElem_cons_succ, List.getElem_cons_zero, Act.put, List.setIfInBounds_toArray, List.set_cons_zero, List.set_cons_succ]
    refine wpAnyM_take (i := 10) (v := ?_) rfl (by kernel_rfl) (by kernel_rfl) (by kernel_rfl) (by kernel_rfl) (fun _ _ _ h => h) (Or.inl ⟨by kernel_rfl, ?_⟩) hS ?_; rotate_left; (intro w hSw; obtain hS1 := hSw; go_simp; try with_reducible rfl)
    try simp only [List.getElem_toArray, List.getElem_cons_succ, List.getElem_cons_zero, Act.put, List.setIfInBounds_toArray, List.set_cons_zero, List.set_cons_succ]
    refine wpAnyM_take (i := 11) (v := ?_) rfl (by kernel_rfl) (by kernel_rfl) (by kernel_rfl) (by kernel_rfl) (fun _ _ _ h => h) (Or.inl ⟨by kernel_rfl, ?_⟩) hS ?_; rotate_left; (intro w hSw; obtain hS1 := hSw; go_simp; try with_reducible rfl)
    try simp only [List.getElem_toArray, List.getElem_cons_succ, List.getElem_cons_zero, Act.put, List.setIfInBounds_toArray, List.set_cons_zero, List.set_cons_succ]
    refine wpAnyM_take (i := 12) (v := ?_) rfl (by kernel_rfl) (by kernel_rfl) (by kernel_rfl) (by kernel_rfl) (fun _ _ _ h => h) (Or.inl ⟨by kernel_rfl, ?_⟩) hS ?_; rotate_left; (intro w hSw; obtain hS1 := hSw; go_simp; try with_reducible rfl)
    try simp only [List.getElem_toArray, List.getElem_cons_succ, List.getElem_cons_zero, Act.put, List.setIfInBounds_toArray, List.set_cons_zero, List.set_cons_succ]
    refine wpAnyM_take (i := 13) (v := ?_) rfl (by kernel_rfl) (by kernel_rfl) (by kernel_rfl) (by kernel_rfl) (fun _ _ _ h => h) (Or.inl ⟨by kernel_rfl, ?_⟩) hS ?_; rotate_left; (intro w hSw; obtain hS1 := hSw; go_simp; try with_reducible rfl)
    try simp only [List.getElem_toArray, List.getElem_cons_succ, List.getElem_cons_zero, Act.put, List.setIfInBounds_toArray, List.set_cons_zero, List.set_cons_succ]
    refine wpAnyM_take (i := 14) (v := (.int .i64 (k : Int))) rfl (by kernel_rfl) (by kernel_rfl) (by kernel_rfl) (by kernel_rfl) (fun _ _ _ h => h) (Or.inl ⟨by kernel_rfl, ?_⟩) hS ?_; (intro w hSw; (focus (rw [HKV.out]; go_simp; first | done | (intros; omega))))
    try simp only [List.getElem_toArray, List.getElem_cons_succ, List.getElem_cons_zero, Act.put, List.setIfInBounds_toArray, List.set_cons_zero, List.set_cons_succ]
    refine wpAnyM_take (i := 15) (v := sv) rfl (by kernel_rfl) (by kernel_rfl) (by kernel_rfl) (by kernel_rfl) (fun _ _ _ h => h) (Or.inl ⟨by kernel_rfl, ?_⟩) hS ?_; (intro w hSw; exact exec_slc (x' := .slice la ln lc) (lo' := none) (hi' := some (.int .i64 (k : Int))) rfl (by kernel_rfl) (by kernel_rfl) (by kernel_rfl) HSL.out _)
    try simp only [List.getElem_toArray, List.getElem_cons_succ, List.getElem_cons_zero, Act.put, List.setIfInBounds_toArray, List.set_cons_zero, List.set_cons_succ]
    refine wpAnyM_one (i := 16) (by kernel_rfl) rfl (fun KK hK => ?_)
    refine step_append_src _ rfl (Operand.tmp 8) (Operand.tmp 19) 68 rfl base 86 i0 _ 3 24 Try.underlying68 hi0 hz0 hz1 hz2 rfl (by decide) (.slice xa n xc) sv n k (faC s.fa) (faC (l.take k)) rfl (by kernel_rfl) (own_fr HFO.out (Fr.refl [] w).drew (by simp)) (HSRC.out.fr (Fr.refl [] w).drew HSLT.out (by simp)) (by unfold maxLen; omega) (by omega) (by simpa using hbase) ?_
    intro v9 w9 ho9 hg9 hat9
    have hnob := own_notin HFO.out HH.out hT
    have hfg := fr_grown hg9
    have hun : NoU8 w.drew (Value.slice xa n xc).ownBlock.toList := NoU8.own HFO.out (by decide)
    have hdr : Fr [] w w.drew := (Fr.refl [] w).drew
    obtain ⟨V, hV, hfl⟩ := HN.out.xo
    have hVk := own_keep (own_fr hV hdr (by simp)) hfg (fun y hy hx => by simp only [Option.mem_toList] at hx; exact own_own hV HFO.out (by decide) y hy hx)
    have HB9 := Lib.hid (hfg.blk (hdr.blk HH.out (by simp)) hnob); have HV9 := Lib.hid hVk; have HFL9 := Lib.hid ((hfl.fr hdr (NoU8.nil _)).fr hfg hun)
    have HF9 := Lib.hid ((hdr.mono (S' := b :: (Value.slice xa n xc).ownBlock.toList) (by simp)).trans hfg (fun x hx => .inl (by simp only [List.mem_cons]; exact .inr hx)))
    rw [← faC_app] at ho9
    obtain ⟨xa9, xc9, rfl, hx91, hx92⟩ := own_val ho9
    have HO9 := Lib.hid ho9
    have HAT9 := Lib.hid (show ∀ g, (Value.slice xa9 (n + k) xc9).ownBlock = some g → (Value.slice xa n xc).ownBlock = some g ∨ w.heap.size ≤ g from fun g hg => by
      rcases hat9 with e | e
      · rw [hg] at e; exact .inl e.symm
      · rw [hg] at e; simp at e; exact .inr (by omega))
    have e2 : w9.cell? ⟨b, o, none⟩ = some (.slice xa n xc) := by have := Blk.cell HB9.out (HN.out.hd.at (i := 0) rfl); rwa [Nat.add_zero] at this
    clear hnob hfg hun ho9 hat9 hg9 e1 hV hfl hVk
    (try dsimp only); refine hK.out _ _ (fun _ => e2) (fun _ => ?_); clear hK KK hS; have hS := e2
    have f1 := Blk.free HB9.out o
    
    try simp only [List.getElem_toArray, List.getElem_cons_succ, List.getElem_cons_zero, Act.put, List.setIfInBounds_toArray, List.set_cons_zero, List.set_cons_succ]
    refine wpAnyM_one (i := 17) (by kernel_rfl) rfl (fun KK hK => ?_)
    go_simp
    refine hK.out _ _ (fun h => absurd h (by decide)) (fun _ => ?_); clear hK KK
    try simp only [List.getElem_toArray, List.getElem_cons_succ, List.getElem_cons_zero, Act.put, List.setIfInBounds_toArray, List.set_cons_zero, List.set_cons_succ]
    refine wpAnyM_one (i := 18) (by kernel_rfl) rfl (fun KK hK => ?_)
    go_simp
    refine hK.out _ _ (fun h => absurd h (by decide)) (fun _ => ?_); clear hK KK
    try simp only [List.getElem_toArray, List.getElem_cons_succ, List.getElem_cons_zero, Act.put, List.setIfInBounds_toArray, List.set_cons_zero, List.set_cons_succ]
    refine wpAnyM_one (i := 19) (by kernel_rfl) rfl (fun KK hK => ?_)
    go_simp
    refine hK.out _ _ (fun h => absurd h (by decide)) (fun _ => ?_); clear hK KK
    try simp only [List.getElem_toArray, List.getElem_cons_succ, List.getElem_cons_zero, Act.put, List.setIfInBounds_toArray, List.set_cons_zero, List.set_cons_succ]
    refine wpAnyM_done (by kernel_rfl) ?_ _
    try simp only [List.getElem_toArray, List.getElem_cons_succ, List.getElem_cons_zero, Act.put, List.setIfInBounds_toArray, List.set_cons_zero, List.set_cons_succ]
    clear hS
    clear e2
    have HF5b := (Fr.refl [b] w9).setCell (p := ⟨b, o, none⟩) (.inl (by simp)) (.slice xa9 (n + k) xc9)
    have hun9 : NoU8 w9 [b] := NoU8.cons HB9.out hT3 (NoU8.nil _)
    have hB5 := HB9.out.set o (.slice xa9 (n + k) xc9)
    have hO5 := (Out.refl vs o 3).set (i := 0) (by decide) (.slice xa9 (n + k) xc9)
    have hS5 := HN.out.hd.set (i := 0) (by simp) (.slice xa9 (n + k) xc9)
    rw [Nat.add_zero] at hO5 hS5
    have hF5 := HF9.out.trans HF5b (fun x hx => .inl (by simp at hx; simp [hx]))
    have hfn := own_blk (g := 0) HO9.out HB9.out hT.symm
    have hxn := own_blk (g := 0) HV9.out HB9.out hT2.symm
    have e : s.fa ++ l.take (1000 - s.fa.length) = s.fa ++ l.take k := by
      have h1 := HK.out; have h2 := HR.out; have h3 := HNN.out
      rw [h3, h2, ← h1]
      congr 1
      rcases Nat.lt_or_ge ln r with c | c
      · rw [Nat.min_eq_left (by omega), List.take_of_length_le (by omega), List.take_of_length_le (by omega)]
      · rw [Nat.min_eq_right c]
    have el : (s.fa ++ l.take k).length = n + k := by rw [List.length_append, HNN.out, hsln]
    have hN5 : NetS (w9.setCell ⟨b, o, none⟩ (.slice xa9 (n + k) xc9)) (vs.setIfInBounds o (.slice xa9 (n + k) xc9)) o base (.slice xa9 (n + k) xc9) xv (fatesS s l) := by
      unfold fatesS
      rw [e]
      refine ⟨hS5, ?_, ⟨V, own_keep HV9.out HF5b (fun y hy hx => by simp at hx; exact hxn y hy hx), HFL9.out.fr HF5b hun9⟩, ?_, HN.out.xb, HN.out.lb⟩
      · have := own_keep HO9.out HF5b (fun y hy hx => by simp at hx; exact hfn y hy hx)
        show World.ownsRow _ _ _ _ _ (s.fa ++ l.take k).length _
        rw [el]; exact this
      · show (s.fa ++ l.take k).length ≤ 1000
        rw [el]
        have h2 := HR.out
        omega
    go_wp2_with fail
    go_end0
    exact ⟨rfl, ⟨_, _, _, hB5, hN5, hO5, .inr HAT9.out, .inl rfl⟩, hF5⟩
end Go.Proofs.Ytkjjikjilmngdaa.Nt
