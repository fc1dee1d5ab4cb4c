/- chapter 24: both nets in one world. -/
import Derived.Test.YtkjjikjilmngdaaNtV
import Derived.Test.YtkjjikjilmngdaaNtW
namespace Go.Proofs.Ytkjjikjilmngdaa.Nt
open Go.RowKit Dt Go.Proofs.Ytkjjikjilmngdaa.Hd
set_option linter.unusedVariables false
set_option linter.unusedSimpArgs false

/-- the blocks of a net: its own, that of its fates, that of what is under way -/
def NB (b : Nat) (fv xv : Value) : List Nat := b :: (fv.ownBlock.toList ++ xv.ownBlock.toList)
theorem mem_NB {b x : Nat} {fv xv : Value} : x ∈ NB b fv xv ↔ x = b ∨ fv.ownBlock = some x ∨ xv.ownBlock = some x := by unfold NB; simp
/-- block bn holds a net, block br one of the reference's -/
structure Two (W w : World) (bn br : Nat) (s t : NetV) (no : Nat) : Prop where
  ex : ∃ vs fv xv us gv dv, Blk w bn vs 71 ∧ NetS w vs 0 W.heap.size fv xv s ∧ Blk w br us 93 ∧ RNS w us W.heap.size gv dv t no ∧ ∀ x ∈ NB bn fv xv, x ∉ NB br gv dv
  b1 : W.heap.size ≤ bn
  b2 : W.heap.size ≤ br
  fr : Fr [] W w
theorem net_lt {W w : World} {bn : Nat} {vs : Array Value} {fv xv : Value} {s : NetV} (h : Blk w bn vs 71) (k : NetS w vs 0 W.heap.size fv xv s) : ∀ x ∈ NB bn fv xv, x < w.heap.size := fun x hx => by
  obtain ⟨V, hV, -⟩ := k.xo
  rcases mem_NB.1 hx with rfl | hx | hx
  · exact h.lt
  · exact own_lt k.fo hx
  · exact own_lt hV hx
theorem ref_lt {W w : World} {br no : Nat} {us : Array Value} {gv dv : Value} {t : NetV} (h : Blk w br us 93) (k : RNS w us W.heap.size gv dv t no) : ∀ x ∈ NB br gv dv, x < w.heap.size := fun x hx => by
  obtain ⟨V, hV, -⟩ := k.do'
  rcases mem_NB.1 hx with rfl | hx | hx
  · exact h.lt
  · obtain ⟨-, cur, hB⟩ := k.fo.blk hx; exact hB.lt
  · exact own_lt hV hx
theorem FaS.kp {w w' : World} {K : List Nat} {base : Nat} {v : Value} {l : List Fa} (h : FaS w base v l) (k : Kp K w w') (hg : ∀ g, v.ownBlock = some g → g ∈ K) : FaS w' base v l := by
  obtain ⟨a, c, rfl, h1, h2, h3, h4⟩ := h
  refine ⟨a, c, rfl, h1, h2, h3, fun ad had => ?_⟩
  obtain ⟨g, o, cur, rfl, hb, hB, hc⟩ := h4 ad had
  exact ⟨g, o, cur, rfl, hb, k.blk (hg g (by rw [had]; rfl)) hB, hc⟩
theorem FlOk.kp {w w' : World} {K : List Nat} {V : List FgV} {l : List Fg} (h : FlOk w V l) (k : Kp K w w') : FlOk w' V l :=
  ⟨h.1, fun t v x h1 h2 => by obtain ⟨a, b, c, d⟩ := h.2 t v x h1 h2; exact ⟨a, b, c, k.bv d⟩⟩
/-- the net's side of it; what else is not to be touched: E -/
theorem Two.n {W w0 w : World} {bn br no : Nat} {s t : NetV} (h : Two W w0 bn br s t no) (hF : Fr [] w0 w) (E : List Nat) (hE : ∀ g ∈ E, g < w.heap.size ∧ (w0.heap.size ≤ g ∨ ∃ cur T, Blk w0 g cur T ∧ T ≠ 71 ∧ T ≠ 86 ∧ T ≠ 115)) : ∃ K, (∀ g ∈ E, g ∈ K) ∧ HasN W K w bn s ∧ ∀ w' s', HasN W K w' bn s' → Kp K w w' → Two W w' bn br s' t no := by
  obtain ⟨⟨vs, fv, xv, us, gv, dv, h1, h2, h3, h4, h5⟩, hb1, hb2, hf⟩ := h
  have hlt := net_lt h1 h2
  have hlr := ref_lt h3 h4
  obtain ⟨U, hU, -⟩ := h2.xo
  have hne : ∀ g ∈ E, g ∉ NB bn fv xv := fun g hg hx => by
    obtain ⟨-, c | ⟨cur, T, hB, t1, t2, t3⟩⟩ := hE g hg
    · have := hlt g hx; omega
    · rcases mem_NB.1 hx with rfl | hx | hx
      · exact blk_blk hB h1 t1 rfl
      · exact own_blk (g := 0) h2.fo hB (Ne.symm t2) g hx rfl
      · exact own_blk (g := 0) hU hB (Ne.symm t3) g hx rfl
  obtain ⟨V, x1, x2, x3⟩ := h4.do'
  refine ⟨E ++ NB br gv dv, fun g hg => List.mem_append_left _ hg, ⟨⟨vs, fv, xv, hF.blk h1 (by simp), h2.fr0 hF, fun g hg hx => ?_, fun g hg hx => ?_⟩, fun hx => ?_, hb1, fun g hg => ?_, hf.trans hF (by simp)⟩, fun w' s' hN hk => ?_⟩
  · rcases List.mem_append.1 hx with hx | hx
    · exact hne g hx (mem_NB.2 (.inr (.inl hg)))
    · exact h5 g (mem_NB.2 (.inr (.inl hg))) hx
  · rcases List.mem_append.1 hx with hx | hx
    · exact hne g hx (mem_NB.2 (.inr (.inr hg)))
    · exact h5 g (mem_NB.2 (.inr (.inr hg))) hx
  · rcases List.mem_append.1 hx with hx | hx
    · exact hne bn hx (mem_NB.2 (.inl rfl))
    · exact h5 bn (mem_NB.2 (.inl rfl)) hx
  · rcases List.mem_append.1 hg with hx | hx
    · exact (hE g hx).1
    · exact Nat.lt_of_lt_of_le (hlr g hx) hF.size
  · obtain ⟨⟨vs', fv', xv', k1, k2, k3, k4⟩, kb, kb2, kK, kf⟩ := hN
    have hm : ∀ x ∈ NB br gv dv, x ∈ E ++ NB br gv dv := fun x hx => List.mem_append_right _ hx
    refine ⟨⟨vs', fv', xv', us, gv, dv, k1, k2, hk.blk (hm _ (mem_NB.2 (.inl rfl))) (hF.blk h3 (by simp)), ⟨h4.hd, (h4.fo.fr hF (by simp)).kp hk (fun g hg => hm _ (mem_NB.2 (.inr (.inl hg)))), ⟨V, hk.own (own_keep x1 hF (by simp)) (fun g hg => hm _ (mem_NB.2 (.inr (.inr hg)))), (x2.fr hF (NoU8.nil _)).kp hk, x3⟩, h4.fb, h4.xb, h4.lb⟩, fun x hx hx' => ?_⟩, hb1, hb2, kf⟩
    rcases mem_NB.1 hx with rfl | hx | hx
    · exact kb (hm _ hx')
    · exact k3 x hx (hm _ hx')
    · exact k4 x hx (hm _ hx')
/-- the reference's side; E: blocks of others -/
theorem Two.r {W w0 w : World} {bn br no : Nat} {s t : NetV} (h : Two W w0 bn br s t no) (hF : Fr [] w0 w) (E : List Nat) (hE : ∀ g ∈ E, g < w.heap.size ∧ (w0.heap.size ≤ g ∨ ∃ cur T, Blk w0 g cur T ∧ T ≠ 93 ∧ T ≠ 98 ∧ T ≠ 96)) : ∃ K, (∀ g ∈ E, g ∈ K) ∧ HasR W K w br t no ∧ ∀ w' t' no', HasR W K w' br t' no' → Kp K w w' → Two W w' bn br s t' no' := by
  obtain ⟨⟨vs, fv, xv, us, gv, dv, h1, h2, h3, h4, h5⟩, hb1, hb2, hf⟩ := h
  have hlt := net_lt h1 h2
  have hlr := ref_lt h3 h4
  obtain ⟨V, x1, x2, x3⟩ := h4.do'
  have hne : ∀ g ∈ E, g ∉ NB br gv dv := fun g hg hx => by
    obtain ⟨-, c | ⟨cur, T, hB, t1, t2, t3⟩⟩ := hE g hg
    · have := hlr g hx; omega
    · rcases mem_NB.1 hx with rfl | hx | hx
      · exact blk_blk hB h3 t1 rfl
      · obtain ⟨-, cur', hB'⟩ := h4.fo.blk hx
        exact blk_blk hB hB' t2 rfl
      · exact own_blk (g := 0) x1 hB (Ne.symm t3) g hx rfl
  refine ⟨E ++ NB bn fv xv, fun g hg => List.mem_append_left _ hg, ⟨⟨us, gv, dv, hF.blk h3 (by simp), ⟨h4.hd, h4.fo.fr hF (by simp), ⟨V, own_keep x1 hF (by simp), x2.fr hF (NoU8.nil _), x3⟩, h4.fb, h4.xb, h4.lb⟩, fun g hg hx => ?_, fun g hg hx => ?_⟩, fun hx => ?_, hb2, fun g hg => ?_, hf.trans hF (by simp)⟩, fun w' t' no' hR hk => ?_⟩
  · rcases List.mem_append.1 hx with hx | hx
    · exact hne g hx (mem_NB.2 (.inr (.inl hg)))
    · exact h5 g hx (mem_NB.2 (.inr (.inl hg)))
  · rcases List.mem_append.1 hx with hx | hx
    · exact hne g hx (mem_NB.2 (.inr (.inr hg)))
    · exact h5 g hx (mem_NB.2 (.inr (.inr hg)))
  · rcases List.mem_append.1 hx with hx | hx
    · exact hne br hx (mem_NB.2 (.inl rfl))
    · exact h5 br hx (mem_NB.2 (.inl rfl))
  · rcases List.mem_append.1 hg with hx | hx
    · exact (hE g hx).1
    · exact Nat.lt_of_lt_of_le (hlt g hx) hF.size
  · obtain ⟨⟨us', gv', dv', k1, k2, k3, k4⟩, kb, kb2, kK, kf⟩ := hR
    obtain ⟨U, y1, y2⟩ := h2.xo
    have hm : ∀ x ∈ NB bn fv xv, x ∈ E ++ NB bn fv xv := fun x hx => List.mem_append_right _ hx
    refine ⟨⟨vs, fv, xv, us', gv', dv', hk.blk (hm _ (mem_NB.2 (.inl rfl))) (hF.blk h1 (by simp)), ⟨h2.hd, hk.own (own_keep h2.fo hF (by simp)) (fun g hg => hm _ (mem_NB.2 (.inr (.inl hg)))), ⟨U, hk.own (own_keep y1 hF (by simp)) (fun g hg => hm _ (mem_NB.2 (.inr (.inr hg)))), (y2.fr hF (NoU8.nil _)).kp hk⟩, h2.fb, h2.xb, h2.lb⟩, k1, k2, fun x hx hx' => ?_⟩, hb1, hb2, kf⟩
    rcases mem_NB.1 hx' with rfl | h | h
    · exact kb (hm _ hx)
    · exact k3 x h (hm _ hx)
    · exact k4 x h (hm _ hx)
theorem Two.fr0 {W w w' : World} {bn br no : Nat} {s t : NetV} (h : Two W w bn br s t no) (hF : Fr [] w w') : Two W w' bn br s t no := by
  obtain ⟨K, -, hN, hm⟩ := h.n hF [] (by simp)
  exact hm _ _ hN (Kp.refl _ _)
theorem DgQ.fr {w w' : World} {base : Nat} {v : Value} {l : List Fg} (h : DgQ w base v l) (hF : Fr [] w w') : DgQ w' base v l := by
  obtain ⟨V, a, b⟩ := h; exact ⟨V, own_keep a hF (by simp), b.fr hF (NoU8.nil _)⟩
theorem DgQ.val {w : World} {base : Nat} {v : Value} {l : List Fg} (h : DgQ w base v l) : ∃ a cap, v = .slice a l.length cap := by
  obtain ⟨V, ho, hf⟩ := h; obtain ⟨a, c, e, -⟩ := own_val ho; exact ⟨a, c, e⟩
theorem DgQ.at {w : World} {base : Nat} {v : Value} {l : List Fg} (h : DgQ w base v l) {t : Nat} {x : Fg} (hx : l[t]? = some x) : ∃ g cap a c, v = .slice (some ⟨g, 0, none⟩) l.length cap ∧ l.length ≤ cap ∧ cap ≤ maxLen ∧ w.cell? ⟨g, t * 5, none⟩ = some (.int .i64 x.src) ∧ w.cell? ⟨g, t * 5 + 1, none⟩ = some (.int .i64 x.dst) ∧ w.cell? ⟨g, t * 5 + 2, none⟩ = some (.slice a x.bs.length c) ∧ BV w a x.bs.length c x.bs := by
  obtain ⟨V, ho, hf⟩ := h
  have ht := (List.getElem?_eq_some_iff.1 hx).1
  obtain ⟨g, cap, rfl, hg, h1, h2⟩ := own_form ho (by omega)
  have hVl : V.length = l.length := by have := hf.1; rwa [List.length_map] at this
  obtain ⟨u, hv⟩ : ∃ u, V[t]? = some u := ⟨_, List.getElem?_eq_getElem (by omega)⟩
  obtain ⟨k1, k2, k3, k4⟩ := hf.2 t u.v x (by rw [List.getElem?_map, hv]; rfl) hx
  have hl := k4.len
  refine ⟨g, cap, _, _, rfl, h1, h2, ?_, ?_, ?_, by rw [hl] at k4; exact k4⟩
  · rw [ho.cellAt _ (by omega)]; have := rgC_get hv (j := 0) (by decide); rw [Nat.add_zero] at this; rw [this, ← k2]; rfl
  · rw [ho.cellAt _ (by omega), rgC_get hv (j := 1) (by decide), ← k3]; rfl
  · rw [ho.cellAt _ (by omega), rgC_get hv (j := 2) (by decide), ← hl]; rfl
theorem own_isblk {w : World} {base n e sz g : Nat} {v : Value} {xs : List Value} (h : w.ownsRow base e sz v n xs) (hg : v.ownBlock = some g) : ∃ cur, Blk w g cur e := by
  rcases h.2 with ⟨rfl, _⟩ | ⟨g', cap, cur, rfl, hb', hh, _⟩
  · simp [Value.ownBlock] at hg
  · simp [Value.ownBlock] at hg; subst hg; exact ⟨cur, hh⟩
theorem slice_inj {a a' : Option Addr} {n n' c c' : Nat} (h : Value.slice a n c = .slice a' n' c') : a = a' ∧ n = n' ∧ c = c' := by cases h; exact ⟨rfl, rfl, rfl⟩
theorem bs_fate (zd : Bool) (p q zl : Int) (w : World) : (Instr.buildSlice 68 2 #[(0, .agg #[.bool zd, .int .i64 p, .int .i64 q]), (1, .agg #[.bool false, .int .i64 0, .int .i64 zl])]).run Try.prog w = .ok (.slice (some ⟨w.heap.size, 0, none⟩) 2 2) (w.alloc (.cells #[.bool zd, .int .i64 p, .int .i64 q, .bool false, .int .i64 0, .int .i64 zl] 86)) := by
  go_simp
theorem bs_fateR (zd : Bool) (p q zl : Int) (w : World) : (Instr.buildSlice 90 2 #[(0, .agg #[.bool zd, .int .i64 p, .int .i64 q]), (1, .agg #[.bool false, .int .i64 0, .int .i64 zl])]).run Try.prog w = .ok (.slice (some ⟨w.heap.size, 0, none⟩) 2 2) (w.alloc (.cells #[.bool zd, .int .i64 p, .int .i64 q, .bool false, .int .i64 0, .int .i64 zl] 98)) := by
  go_simp
theorem HasR.lenF {W w : World} {K : List Nat} {b no : Nat} {s : NetV} (h : HasR W K w b s no) : ∃ fa fc da dc, w.cell? ⟨b, 0, none⟩ = some (.slice fa s.fa.length fc) ∧ w.cell? ⟨b, 1, none⟩ = some (.slice da s.fl.length dc) ∧ w.cell? ⟨b, 2, none⟩ = some (.int .i64 (s.lost : Int)) := by
  obtain ⟨⟨vs, fv, dv, h1, h2, h3, h4⟩, -⟩ := h
  obtain rfl := h2.hd
  obtain ⟨fa, fc, rfl, -⟩ := h2.fo.val
  obtain ⟨V, hV, -⟩ := h2.do'
  obtain ⟨da, dc, rfl, -⟩ := own_val hV
  exact ⟨fa, fc, da, dc, Blk.cell (i := 0) h1 rfl, Blk.cell (i := 1) h1 rfl, Blk.cell (i := 2) h1 rfl⟩
end Go.Proofs.Ytkjjikjilmngdaa.Nt
