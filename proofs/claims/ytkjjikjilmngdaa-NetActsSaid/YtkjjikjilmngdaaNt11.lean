/- chapter 24: Deliver. -/
import Derived.Test.YtkjjikjilmngdaaNt10
namespace Go.Proofs.Ytkjjikjilmngdaa.Nt
open Go.RowKit Dt Go.Proofs.Ytkjjikjilmngdaa.Hd
set_option linter.unusedVariables false
set_option linter.unusedSimpArgs false

theorem take_snoc {α : Type} {q : List α} {k : Nat} {x : α} (h : q[k]? = some x) : q.take (k + 1) = q.take k ++ [x] := by
  rw [List.take_add_one, h]; rfl
instance : Inhabited FgV := ⟨⟨0, 0, 0, none, 0, 0⟩⟩
/-- the cells of what goes out -/
def dgsC (V : List FgV) : List Value := V.flatMap fun x => [.int .i64 x.src, .int .i64 x.dst, .slice x.a x.l x.c]
theorem dgsC_len : ∀ V : List FgV, (dgsC V).length = V.length * 3
  | [] => rfl
  | x :: V => by simp [dgsC] at *; have := dgsC_len V; simp [dgsC] at this; omega
theorem dgsC_app (V U : List FgV) : dgsC (V ++ U) = dgsC V ++ dgsC U := by simp [dgsC]
theorem dgsC_one (V : List FgV) : ∀ u ∈ dgsC V, u.oneCell' = true := fun u hu => by
  unfold dgsC at hu
  obtain ⟨x, -, h⟩ := List.mem_flatMap.1 hu
  simp at h
  rcases h with rfl | rfl | rfl <;> rfl
theorem dgsC_get : ∀ {V : List FgV} {t j : Nat} {x : FgV}, V[t]? = some x → j < 3 → (dgsC V)[t * 3 + j]? = [Value.int .i64 x.src, .int .i64 x.dst, .slice x.a x.l x.c][j]?
  | [], t, j, x, h, _ => by simp at h
  | y :: V, 0, j, x, h, hj => by
    simp at h; subst h
    have e : dgsC (y :: V) = [.int .i64 y.src, .int .i64 y.dst, .slice y.a y.l y.c] ++ dgsC V := by simp [dgsC]
    rw [e, List.getElem?_append_left (by simp; omega)]; congr 1; omega
  | y :: V, t + 1, j, x, h, hj => by
    have := dgsC_get (V := V) (t := t) (x := x) (by simpa using h) hj
    have e : dgsC (y :: V) = [.int .i64 y.src, .int .i64 y.dst, .slice y.a y.l y.c] ++ dgsC V := by simp [dgsC]
    rw [e, List.getElem?_append_right (by simp; omega), ← this]
    congr 1; simp; omega
/-- a slice of datagrams that says these flights -/
def DgR (w : World) (base : Nat) (v : Value) (l : List Fg) : Prop := ∃ V, w.ownsRow base 75 3 v l.length (dgsC V) ∧ FlOk w V l
theorem DgR.fr {S : List Nat} {w w' : World} {base : Nat} {v : Value} {l : List Fg} (h : DgR w base v l) (hF : Fr S w w') (h1 : ∀ g, v.ownBlock = some g → g ∉ S) (hS : NoU8 w S) : DgR w' base v l := by
  obtain ⟨V, a, b⟩ := h; exact ⟨V, own_keep a hF h1, b.fr hF hS⟩
theorem infDg : (Try.prog.info? 75).map (fun i => (i.zero, i.size, i.bytes)) = some (some (.agg #[.int .i64 0, .int .i64 0, .slice none 0 0]), 3, 40) := by kernel_rfl
/-- what Deliver leaves -/
def DelP (w : World) (b o base : Nat) (T : TypeId) (vs : Array Value) (fv : Value) (s' : NetV) (l : List Fg) (e : Ending) (w' : World) : Prop :=
  ∃ us xv' ov, e = .returned ov ∧ Blk w' b us T ∧ NetS w' us o base fv xv' s' ∧ Out vs us o 3 ∧ (∀ g, xv'.ownBlock = some g → w.heap.size ≤ g) ∧ DgR w' w.heap.size ov l ∧ Fr [b] w w'
/-- an owned row of flights is a row -/
theorem FR.of_own {w : World} {base n cap g : Nat} {V : List FgV} (h : w.ownsRow base 115 4 (.slice (some ⟨g, 0, none⟩) n cap) n (flC V)) (hV : V.length = n) (hn : 0 < n) : FR w g (fun t => V.getD t default) n := by
  rcases h.2 with ⟨hv, _⟩ | ⟨g', cap', cur, hv, hb, hh, h1, h2, h3, h4⟩
  · cases hv
  · simp at hv
    obtain ⟨rfl, rfl⟩ := hv
    refine ⟨cur, hh, by omega, fun t j ht hj => ?_⟩
    have hc := h.cellAt (t * 4 + j) (by omega)
    simp only [World.cell?, hh] at hc
    have hg : V[t]? = some (V.getD t default) := by simp [List.getD, List.getElem?_eq_getElem (show t < V.length by omega)]
    rw [← flC_get hg hj, ← hc]
    simp
/-- what lies at a slice's address reads as these flights -/
def RdFl (w : World) (ca : Option Addr) (SV : List FgV) : Prop := ∀ (t : Nat) (x : FgV), SV[t]? = some x → ∃ g, ca = some ⟨g, 0, none⟩ ∧ g < w.heap.size ∧ ∀ (j : Nat) (v : Value), x.cs[j]? = some v → w.cell? ⟨g, t * 4 + j, none⟩ = some v
theorem sort_list {w : World} {base cc : Nat} {ca : Option Addr} {CV : List FgV} {cl : List Fg} (h : w.ownsRow base 115 4 (.slice ca cl.length cc) cl.length (flC CV)) (hf : FlOk w CV cl) (hn : cl.length ≤ 1000000) :
    Calls Try.prog 62 #[.slice ca cl.length cc, cmpF] w (fun e w' => e = .returned (.tuple #[]) ∧ (∃ SV : List FgV, SV.length = cl.length ∧ RdFl w' ca SV ∧ FlOk w' SV (sortG cl)) ∧ Fr (Value.slice ca cl.length cc).ownBlock.toList w w') := by
  rcases Nat.eq_zero_or_pos cl.length with h0 | h0
  · have hcl : cl = [] := List.eq_nil_of_length_eq_zero h0
    subst hcl
    refine (sort0_any (a := ca) (c := cc)).mono ?_; rintro e w' ⟨rfl, rfl⟩
    exact ⟨rfl, ⟨[], rfl, fun t x hx => by simp at hx, FlOk.nil _⟩, Fr.refl _ _⟩
  · obtain ⟨g, cap, hv, hgb, -, -⟩ := own_form h h0
    cases hv
    have hl := hf.1
    have hR := FR.of_own h hl h0
    have hun : NoU8 w [g] := by have := NoU8.own h (by decide); simpa [Value.ownBlock] using this
    have hgl := own_lt h rfl
    refine (sort_any hR h0 hn).mono ?_; rintro e w' ⟨rfl, ⟨Q, hQ, hs, ht⟩, hF⟩
    have hO := OrdB.of_shf hs ht
    have hdue : ∀ t, t < cl.length → dueAt cl t = ((CV.getD t default).due) := fun t ht => by
      have h1 : CV[t]? = some (CV.getD t default) := by simp [List.getD, List.getElem?_eq_getElem (show t < CV.length by omega)]
      have h2 : cl[t]? = some (cl.getD t default) := by simp [List.getD, List.getElem?_eq_getElem ht]
      exact (hf.2 t _ _ h1 h2).due.symm
    have e := sortG_eq (hO.congr hdue)
    refine ⟨rfl, ⟨(List.range cl.length).map fun t => CV.getD (Q t) default, by simp, fun t x hx => ?_, ?_⟩, by simpa [Value.ownBlock] using hF⟩
    · rw [List.getElem?_map] at hx
      have ht : t < cl.length := by
        rcases Nat.lt_or_ge t cl.length with c | c
        · exact c
        · rw [List.getElem?_eq_none (by simpa using c)] at hx; cases hx
      rw [List.getElem?_range ht] at hx
      simp only [Option.map_some, Option.some.injEq] at hx
      exact ⟨g, rfl, Nat.lt_of_lt_of_le hgl hF.size, fun j v hv => hQ.cell ht (by rw [← hx] at hv; exact hv)⟩
    · rw [e]
      refine ⟨by simp [byOrd_len], fun t v x hv hx => ?_⟩
      rw [List.getElem?_map] at hv
      have ht : t < cl.length := by have := (List.getElem?_eq_some_iff.1 hx).1; rwa [byOrd_len] at this
      rw [List.getElem?_range ht] at hv
      simp only [Option.map_some, Option.some.injEq] at hv
      rw [byOrd_get ht (hO.lt t ht)] at hx
      have h1 : CV[Q t]? = some (CV.getD (Q t) default) := by simp [List.getD, List.getElem?_eq_getElem (show Q t < CV.length by have := hO.lt t ht; omega)]
      have := (hf.fr hF hun).2 (Q t) _ _ h1 hx
      rw [← hv]; exact this
set_option maxRecDepth 100000 in
set_option maxHeartbeats 12800000 in
theorem deliver_any {w : World} {b o base : Nat} {T : TypeId} {vs : Array Value} {fv xv : Value} {s : NetV} {tick : Int} (h : Blk w b vs T) (H : NetS w vs o base fv xv s) (hT : T ≠ 86) (hT2 : T ≠ 115) (hT3 : T ≠ 5) (hbase : base ≤ w.heap.size) :
    Calls Try.prog 29 #[.pointer (some ⟨b, o, none⟩), .int .i64 tick] w (DelP w b o base T vs fv (deliverS s tick).2 (deliverS s tick).1) := by
  obtain ⟨V, hV, hfl⟩ := H.xo
  obtain ⟨xa, xc, rfl, hx1, hx2⟩ := own_val hV
  have hxb := H.xb
  have c1 := Blk.cell h (H.hd.at (i := 1) rfl)
  have hlt := h.lt
  obtain ⟨fl, hfl2⟩ : ∃ fl, s.fl = fl := ⟨_, rfl⟩
  obtain ⟨ct, hct⟩ : ∃ ct, clpI tick = ct := ⟨_, rfl⟩
  have hclp := clip_any tick
  rw [hct] at hclp
  rw [hfl2] at hV hfl hxb c1 hx1
  have hVl : V.length = fl.length := hfl.1
  have HH := Lib.hid h; have HN := Lib.hid H; have HV := Lib.hid hV; have HFL := Lib.hid hfl; have HCLP := Lib.hid hclp; have HCT := Lib.hid hct; have HSF := Lib.hid hfl2
  clear h H hV hfl hclp hct
  rw [hfl2] at HN
  clear hfl2
  obtain ⟨i0, hi0, hz0, hz1, hz2⟩ := info_parts infFl
  have HI := Lib.hid (And.intro hi0 (And.intro hz0 (And.intro hz1 hz2)))
  clear hi0 hz0 hz1 hz2
  go_enter Try.func29, Try.ntmps29
  go_wp2_with fail
  clear c1
  go_loopw [5, 6, 17] (fun cv lv kv wr => ∃ (k : Nat) (CV LV : List FgV), k ≤ fl.length ∧ kv = .int .i64 k ∧ wr.ownsRow w.heap.size 115 4 cv ((fl.take k).filter fun x => decide (x.due ≤ ct)).length (flC CV) ∧ FlOk wr CV ((fl.take k).filter fun x => decide (x.due ≤ ct)) ∧ wr.ownsRow w.heap.size 115 4 lv ((fl.take k).filter fun x => !decide (x.due ≤ ct)).length (flC LV) ∧ FlOk wr LV ((fl.take k).filter fun x => !decide (x.due ≤ ct)) ∧ (∀ g, cv.ownBlock = some g → lv.ownBlock ≠ some g) ∧ Fr [] w wr) (fun _ _ kv _ => fl.length - (intOf kv).toNat)
  case atStart => exact ⟨0, [], [], by omega, rfl, own_nil _ _ _ _, FlOk.nil _, own_nil _ _ _ _, FlOk.nil _, fun g h => by simp [Value.ownBlock] at h, Fr.refl _ _⟩
  case round =>
    obtain ⟨k, CV, LV, hk, rfl, hco, hcf, hlo, hlf, hne, hF⟩ := hrel
    by_cases hlt2 : k < fl.length
    · have q1 : (k : Int) < fl.length := by omega
      have hk1 : fl[k]? = some fl[k] := List.getElem?_eq_getElem hlt2
      have hv1 : V[k]? = some (V[k]'(by omega)) := List.getElem?_eq_getElem (by omega)
      obtain ⟨x, hx⟩ : ∃ x, fl[k] = x := ⟨_, rfl⟩
      obtain ⟨v, hv⟩ : ∃ v, V[k]'(by omega) = v := ⟨_, rfl⟩
      rw [hx] at hk1
      rw [hv] at hv1
      have hok := (HFL.out.fr hF (NoU8.nil _)).2 k v x hv1 hk1
      have hown := own_fr (S := []) HV.out hF (by simp)
      obtain ⟨gx, cap0, hv0, -⟩ := own_form hown (by omega)
      cases hv0
      have d0 : wr.cell? ⟨gx, k * 4, none⟩ = some (.int .i64 v.due) := by rw [hown.cellAt _ (by omega)]; have := flC_get hv1 (j := 0) (by decide); rw [Nat.add_zero] at this; exact this
      have d1 : wr.cell? ⟨gx, k * 4 + 1, none⟩ = some (.int .i64 v.src) := by rw [hown.cellAt _ (by omega)]; exact flC_get hv1 (j := 1) (by decide)
      have d2 : wr.cell? ⟨gx, k * 4 + 2, none⟩ = some (.int .i64 v.dst) := by rw [hown.cellAt _ (by omega)]; exact flC_get hv1 (j := 2) (by decide)
      have d3 : wr.cell? ⟨gx, k * 4 + 3, none⟩ = some (.slice v.a v.l v.c) := by rw [hown.cellAt _ (by omega)]; exact flC_get hv1 (j := 3) (by decide)
      have hts := take_snoc hk1
      have hlk : (fl.take k).length ≤ k := List.length_take_le _ _
      have hcl := List.length_filter_le (fun x : Fg => decide (x.due ≤ ct)) (fl.take k)
      have hll := List.length_filter_le (fun x : Fg => !decide (x.due ≤ ct)) (fl.take k)
      have hwsz := hF.size
      have HTS := Lib.hid hts; have HOK := Lib.hid hok; have HCO := Lib.hid hco; have HCF := Lib.hid hcf; have HLO := Lib.hid hlo; have HLF := Lib.hid hlf; have HNE := Lib.hid hne; have HF := Lib.hid hF
      clear hk1 hv1 hx hv hown hts hok hco hcf hlo hlf hne hF
      obtain ⟨cl, hcl2⟩ : ∃ cl, (fl.take k).filter (fun x => decide (x.due ≤ ct)) = cl := ⟨_, rfl⟩
      obtain ⟨ll, hll2⟩ : ∃ ll, (fl.take k).filter (fun x => !decide (x.due ≤ ct)) = ll := ⟨_, rfl⟩
      rw [hcl2] at hcl HCO HCF
      rw [hll2] at hll HLO HLF
      have HCL := Lib.hid hcl2; have HLL := Lib.hid hll2
      clear hcl2 hll2
      have hdc : decide (v.due ≤ (ct : Int)) = decide (x.due ≤ ct) := by rw [HOK.out.due]; simp
      by_cases hdue : x.due ≤ ct
      · rw [decide_eq_true hdue] at hdc
        have hdc2 : v.due ≤ (ct : Int) := of_decide_eq_true hdc
        go_upto_region 5 with (fail)
        have hX := Blk.new wr #[.int .i64 v.due, .int .i64 v.src, .int .i64 v.dst, .slice v.a v.l v.c] 115
        have hF2 := (Fr.refl [] wr).alloc (.cells #[.int .i64 v.due, .int .i64 v.src, .int .i64 v.dst, .slice v.a v.l v.c] 115)
        obtain ⟨B, hB⟩ : ∃ B, wr.heap.size = B := ⟨_, rfl⟩
        rw [hB] at hX ⊢
        generalize wr.alloc (.cells #[.int .i64 v.due, .int .i64 v.src, .int .i64 v.dst, .slice v.a v.l v.c] 115) = w2 at *
        have x0 := Blk.cell (i := 0) hX rfl
        simp only [List.getElem_toArray, List.getElem_cons_zero, List.getElem_cons_succ] at x0
        have HX := Lib.hid hX; have HF2 := Lib.hid hF2
        clear hX hF2 d0 d1 d2 d3
        go_quiet ((go_at_call 60; exact Calls.quiet_of_same ((HCLP.out _).mono fun e w' h => ⟨h.1, h.2.symm⟩)))
        have hX3 := HX.out.drewN nq
        have hF3 : Fr [] wr (w2.drewN nq) := HF2.out.drewN nq
        have hsz3 : wr.heap.size ≤ (w2.drewN nq).heap.size := hF3.size
        clear x0 HX HF2
        generalize w2.drewN nq = w3 at *
        have x0 := Blk.cell (i := 0) hX3 rfl
        have x1 := Blk.cell (i := 1) hX3 rfl
        have x2 := Blk.cell (i := 2) hX3 rfl
        have x3 := Blk.cell (i := 3) hX3 rfl
        simp only [List.getElem_toArray, List.getElem_cons_zero, List.getElem_cons_succ] at x0 x1 x2 x3
        have HF3 := Lib.hid hF3
        clear hX3 hF3
        go_upto_region 6 with (fail)
        apply wp_region_lit
        iterate 3 (refine wpList_plain rfl (fun K hK => ?_); go_simp; refine hK _ _ ?_; clear hK K)
        have hnb := Blk.new w3 #[.int .i64 v.due, .int .i64 v.src, .int .i64 v.dst, .slice v.a v.l v.c] 115
        have hF4 := HF3.out.alloc (.cells #[.int .i64 v.due, .int .i64 v.src, .int .i64 v.dst, .slice v.a v.l v.c] 115)
        obtain ⟨gn, hgn⟩ : ∃ gn, w3.heap.size = gn := ⟨_, rfl⟩
        rw [hgn] at hnb ⊢
        clear x0 x1 x2 x3 HF3
        generalize w3.alloc (.cells #[.int .i64 v.due, .int .i64 v.src, .int .i64 v.dst, .slice v.a v.l v.c] 115) = w4 at *
        obtain ⟨hi0, hz0, hz1, hz2⟩ := HI.out
        have hco4 := own_fr (S := []) HCO.out hF4 (by simp)
        have hlo4 := own_fr (S := []) HLO.out hF4 (by simp)
        have hsz4 := hF4.size
        obtain ⟨ca, cc, rfl, -⟩ := own_val hco4
        refine wpList_append_src _ rfl (Operand.tmp 26) (Operand.tmp 28) 69 rfl w.heap.size 115 i0 _ 4 48 Try.underlying69 hi0 hz0 hz1 hz2 rfl (by decide) (.slice ca cl.length cc) (.slice (some ⟨gn, 0, none⟩) 1 1) cl.length 1 (flC CV) (flC [v]) rfl (by kernel_rfl) hco4 (src_blk hnb (by simp) (by simp [Value.oneCell']) 1) (by unfold maxLen; omega) (by omega) (by omega) ?_
        intro v9 w9 ho9 hg9 hat9
        have hfg := fr_grown hg9
        have hun : NoU8 w4 (Value.slice ca cl.length cc).ownBlock.toList := NoU8.own hco4 (by decide)
        have hother := own_keep hlo4 hfg (fun y hy hx => by simp only [Option.mem_toList] at hx; exact HNE.out y hx hy)
        have HF9 := Lib.hid ((HF.out.trans hF4 (by simp)).trans hfg (fun x hx => .inr (by simp only [Option.mem_toList] at hx; exact own_base hco4 hx)))
        have HCF9 := Lib.hid ((HCF.out.fr hF4 (NoU8.nil _)).fr hfg hun); have HLF9 := Lib.hid ((HLF.out.fr hF4 (NoU8.nil _)).fr hfg hun)
        have hok9 := HOK.out
        have hok9' : FgOk w9 v x := ⟨hok9.due, hok9.src, hok9.dst, (hok9.bs.fr hF4 (NoU8.nil _)).fr hfg hun⟩
        have HOK9 := Lib.hid hok9'
        rw [← flC_app] at ho9
        have HO9 := Lib.hid ho9; have HOT9 := Lib.hid hother
        have HNE9 := Lib.hid (show ∀ g, v9.ownBlock = some g → u6.ownBlock ≠ some g from fun g hg hl => by
          rcases hat9 with e | e
          · rw [e] at hg; exact HNE.out g hg hl
          · rw [e] at hg; simp at hg; have := own_lt HLO.out hl; omega)
        clear hnb hF4 hco4 hlo4 hfg hun hother hok9 hok9' ho9 hg9 hat9 hi0 hz0 hz1 hz2
        go_wp2_with fail
        go_roundw
        case rel =>
          have e1 : (fl.take (k + 1)).filter (fun x => decide (x.due ≤ ct)) = cl ++ [x] := by rw [HTS.out, List.filter_append, HCL.out]; simp [hdue]
          have e2 : (fl.take (k + 1)).filter (fun x => !decide (x.due ≤ ct)) = ll := by rw [HTS.out, List.filter_append, HLL.out]; simp [hdue]
          refine ⟨k + 1, CV ++ [v], LV, by omega, by go_num, ?_, ?_, ?_, ?_, HNE9.out, HF9.out⟩
          · rw [e1, List.length_append]; exact HO9.out
          · rw [e1]; exact HCF9.out.snoc HOK9.out
          · rw [e2]; exact HOT9.out
          · rw [e2]; exact HLF9.out
        case measure => simp [intOf]; omega
      · rw [decide_eq_false hdue] at hdc
        have hdc2 : ¬ v.due ≤ (ct : Int) := of_decide_eq_false hdc
        go_upto_region 5 with (fail)
        have hX := Blk.new wr #[.int .i64 v.due, .int .i64 v.src, .int .i64 v.dst, .slice v.a v.l v.c] 115
        have hF2 := (Fr.refl [] wr).alloc (.cells #[.int .i64 v.due, .int .i64 v.src, .int .i64 v.dst, .slice v.a v.l v.c] 115)
        obtain ⟨B, hB⟩ : ∃ B, wr.heap.size = B := ⟨_, rfl⟩
        rw [hB] at hX ⊢
        generalize wr.alloc (.cells #[.int .i64 v.due, .int .i64 v.src, .int .i64 v.dst, .slice v.a v.l v.c] 115) = w2 at *
        have x0 := Blk.cell (i := 0) hX rfl
        simp only [List.getElem_toArray, List.getElem_cons_zero, List.getElem_cons_succ] at x0
        have HX := Lib.hid hX; have HF2 := Lib.hid hF2
        clear hX hF2 d0 d1 d2 d3
        go_quiet ((go_at_call 60; exact Calls.quiet_of_same ((HCLP.out _).mono fun e w' h => ⟨h.1, h.2.symm⟩)))
        have hX3 := HX.out.drewN nq
        have hF3 : Fr [] wr (w2.drewN nq) := HF2.out.drewN nq
        have hsz3 : wr.heap.size ≤ (w2.drewN nq).heap.size := hF3.size
        clear x0 HX HF2
        generalize w2.drewN nq = w3 at *
        have x0 := Blk.cell (i := 0) hX3 rfl
        have x1 := Blk.cell (i := 1) hX3 rfl
        have x2 := Blk.cell (i := 2) hX3 rfl
        have x3 := Blk.cell (i := 3) hX3 rfl
        simp only [List.getElem_toArray, List.getElem_cons_zero, List.getElem_cons_succ] at x0 x1 x2 x3
        have HF3 := Lib.hid hF3
        clear hX3 hF3
        go_upto_region 7 with (fail)
        apply wp_region_lit
        iterate 3 (refine wpList_plain rfl (fun K hK => ?_); go_simp; refine hK _ _ ?_; clear hK K)
        have hnb := Blk.new w3 #[.int .i64 v.due, .int .i64 v.src, .int .i64 v.dst, .slice v.a v.l v.c] 115
        have hF4 := HF3.out.alloc (.cells #[.int .i64 v.due, .int .i64 v.src, .int .i64 v.dst, .slice v.a v.l v.c] 115)
        obtain ⟨gn, hgn⟩ : ∃ gn, w3.heap.size = gn := ⟨_, rfl⟩
        rw [hgn] at hnb ⊢
        clear x0 x1 x2 x3 HF3
        generalize w3.alloc (.cells #[.int .i64 v.due, .int .i64 v.src, .int .i64 v.dst, .slice v.a v.l v.c] 115) = w4 at *
        obtain ⟨hi0, hz0, hz1, hz2⟩ := HI.out
        have hco4 := own_fr (S := []) HCO.out hF4 (by simp)
        have hlo4 := own_fr (S := []) HLO.out hF4 (by simp)
        have hsz4 := hF4.size
        obtain ⟨ca, cc, rfl, -⟩ := own_val hlo4
        refine wpList_append_src _ rfl (Operand.tmp 30) (Operand.tmp 32) 69 rfl w.heap.size 115 i0 _ 4 48 Try.underlying69 hi0 hz0 hz1 hz2 rfl (by decide) (.slice ca ll.length cc) (.slice (some ⟨gn, 0, none⟩) 1 1) ll.length 1 (flC LV) (flC [v]) rfl (by kernel_rfl) hlo4 (src_blk hnb (by simp) (by simp [Value.oneCell']) 1) (by unfold maxLen; omega) (by omega) (by omega) ?_
        intro v9 w9 ho9 hg9 hat9
        have hfg := fr_grown hg9
        have hun : NoU8 w4 (Value.slice ca ll.length cc).ownBlock.toList := NoU8.own hlo4 (by decide)
        have hother := own_keep hco4 hfg (fun y hy hx => by simp only [Option.mem_toList] at hx; exact HNE.out y hy hx)
        have HF9 := Lib.hid ((HF.out.trans hF4 (by simp)).trans hfg (fun x hx => .inr (by simp only [Option.mem_toList] at hx; exact own_base hlo4 hx)))
        have HCF9 := Lib.hid ((HCF.out.fr hF4 (NoU8.nil _)).fr hfg hun); have HLF9 := Lib.hid ((HLF.out.fr hF4 (NoU8.nil _)).fr hfg hun)
        have hok9 := HOK.out
        have hok9' : FgOk w9 v x := ⟨hok9.due, hok9.src, hok9.dst, (hok9.bs.fr hF4 (NoU8.nil _)).fr hfg hun⟩
        have HOK9 := Lib.hid hok9'
        rw [← flC_app] at ho9
        have HO9 := Lib.hid ho9; have HOT9 := Lib.hid hother
        have HNE9 := Lib.hid (show ∀ g, u5.ownBlock = some g → v9.ownBlock ≠ some g from fun g hg hl => by
          rcases hat9 with e | e
          · rw [e] at hl; exact HNE.out g hg hl
          · rw [e] at hl; simp at hl; have := own_lt HCO.out hg; omega)
        clear hnb hF4 hco4 hlo4 hfg hun hother hok9 hok9' ho9 hg9 hat9 hi0 hz0 hz1 hz2
        go_wp2_with fail
        go_roundw
        case rel =>
          have e1 : (fl.take (k + 1)).filter (fun x => decide (x.due ≤ ct)) = cl := by rw [HTS.out, List.filter_append, HCL.out]; simp [hdue]
          have e2 : (fl.take (k + 1)).filter (fun x => !decide (x.due ≤ ct)) = ll ++ [x] := by rw [HTS.out, List.filter_append, HLL.out]; simp [hdue]
          refine ⟨k + 1, CV, LV ++ [v], by omega, by go_num, ?_, ?_, ?_, ?_, HNE9.out, HF9.out⟩
          · rw [e1]; exact HOT9.out
          · rw [e1]; exact HCF9.out
          · rw [e2, List.length_append]; exact HO9.out
          · rw [e2]; exact HLF9.out.snoc HOK9.out
        case measure => simp [intOf]; omega
    · have hkn : k = fl.length := by omega
      subst hkn
      have q1 : decide ((fl.length : Int) < (fl.length : Int)) = false := by simp
      rw [List.take_length] at hco hcf hlo hlf
      obtain ⟨cl, hcl2⟩ : ∃ cl, fl.filter (fun x => decide (x.due ≤ ct)) = cl := ⟨_, rfl⟩
      obtain ⟨ll, hll2⟩ : ∃ ll, fl.filter (fun x => !decide (x.due ≤ ct)) = ll := ⟨_, rfl⟩
      have hcl := List.length_filter_le (fun x : Fg => decide (x.due ≤ ct)) fl
      have hll := List.length_filter_le (fun x : Fg => !decide (x.due ≤ ct)) fl
      rw [hcl2] at hcl hco hcf
      rw [hll2] at hll hlo hlf
      have hdn : dueNow s tick = cl := by unfold dueNow; rw [HSF.out, HCT.out]; exact hcl2
      have hdl : dueLater s tick = ll := by unfold dueLater; rw [HSF.out, HCT.out]; exact hll2
      have HDN := Lib.hid hdn; have HDL := Lib.hid hdl
      have hCVl := hcf.1
      obtain ⟨la, lc, rfl, -⟩ := own_val hlo
      obtain ⟨ca, cc, rfl, hcc1, hcc2⟩ := own_val hco
      have hB2 := hF.blk HH.out (by simp)
      have f1 := Blk.free hB2 (o + 1)
      have c1 := Blk.cell hB2 (HN.out.hd.at (i := 1) rfl)
      have hNf := HN.out.fr0 hF
      have HB2 := Lib.hid hB2; have HNF := Lib.hid hNf; have HCO := Lib.hid hco; have HCF := Lib.hid hcf; have HLO := Lib.hid hlo; have HLF := Lib.hid hlf; have HNE := Lib.hid hne; have HF := Lib.hid hF
      clear hcl2 hll2 hdn hdl hco hcf hlo hlf hne hF hB2 hNf
      go_upto_region 10 with (fail)
      clear c1 f1
      have hF3' := (Fr.refl [b] wr).setCell (p := ⟨b, o + 1, none⟩) (.inl (by simp)) (.slice la ll.length lc)
      have hun : NoU8 wr [b] := NoU8.cons HB2.out hT3 (NoU8.nil _)
      have hB3 := HB2.out.set (o + 1) (.slice la ll.length lc)
      have hO3 := (Out.refl vs o 3).set (i := 1) (by decide) (.slice la ll.length lc)
      have hS3 := HN.out.hd.set (i := 1) (by simp) (.slice la ll.length lc)
      have hF3 := (HF.out.mono (S' := [b]) (by simp)).trans hF3' (fun x hx => .inl hx)
      have hco3 := own_keep HCO.out hF3' (fun y hy hx => by simp at hx; have := own_base HCO.out hy; omega)
      have hlo3 := own_keep HLO.out hF3' (fun y hy hx => by simp at hx; have := own_base HLO.out hy; omega)
      have hcf3 := HCF.out.fr hF3' hun
      have hlf3 := HLF.out.fr hF3' hun
      have hfo3 := own_keep HNF.out.fo hF3' (fun y hy hx => by simp at hx; exact own_blk (g := 0) HNF.out.fo HB2.out hT.symm y hy hx)
      have hszw := hF3.size
      have HB3 := Lib.hid hB3; have HO3 := Lib.hid hO3; have HS3 := Lib.hid hS3; have HF3 := Lib.hid hF3; have HCO3 := Lib.hid hco3; have HLO3 := Lib.hid hlo3; have HCF3 := Lib.hid hcf3; have HLF3 := Lib.hid hlf3; have HFO3 := Lib.hid hfo3
      clear hB3 hO3 hS3 hF3 hF3' hun hco3 hlo3 hcf3 hlf3 hfo3 HB2 HNF HCO HCF HLO HLF HF
      generalize wr.setCell ⟨b, o + 1, none⟩ (.slice la ll.length lc) = w3 at *
      have hsort := sort_list HCO3.out HCF3.out (by omega)
      have HSORT := Lib.hid hsort
      clear hsort
      go_upto_region 10 with (fail)
      go_wp2_with fail
      refine HSORT.out.mono ?_; rintro e w4 ⟨rfl, ⟨SV, hsl, hrd, hsf⟩, hF4⟩
      have hun4 : NoU8 w3 (Value.slice ca cl.length cc).ownBlock.toList := NoU8.own HCO3.out (by decide)
      have hbc : b ∉ (Value.slice ca cl.length cc).ownBlock.toList := fun hx => by simp only [Option.mem_toList] at hx; have := own_base HCO3.out hx; omega
      have hB4 := hF4.blk HB3.out hbc
      have hlo4 := own_keep HLO3.out hF4 (fun y hy hx => by simp only [Option.mem_toList] at hx; exact HNE.out y hx hy)
      have hlf4 := HLF3.out.fr hF4 hun4
      have hfo4 := own_keep HFO3.out hF4 (fun y hy hx => by simp only [Option.mem_toList] at hx; exact own_own HFO3.out HCO3.out (by decide) y hy hx)
      have hF4' := HF3.out.trans hF4 (fun x hx => .inr (by simp only [Option.mem_toList] at hx; exact own_base HCO3.out hx))
      have hszw4 := hF4'.size
      have HB4 := Lib.hid hB4; have HLO4 := Lib.hid hlo4; have HLF4 := Lib.hid hlf4; have HFO4 := Lib.hid hfo4; have HF4 := Lib.hid hF4'; have HRD := Lib.hid hrd; have HSF := Lib.hid hsf
      have hsgl := sortG_len cl
      clear hun4 hbc hB4 hlo4 hlf4 hfo4 hF4' hF4 hrd hsf HSORT HB3 HLO3 HLF3 HFO3 HF3 HCO3 HCF3 HNE
      obtain ⟨i1, hi0, hz0, hz1, hz2⟩ := info_parts infDg
      have HI1 := Lib.hid (And.intro hi0 (And.intro hz0 (And.intro hz1 hz2)))
      clear hi0 hz0 hz1 hz2
      go_wp2_with fail
      go_loopw [9, 43] (fun ov kv wr => ∃ (k : Nat), k ≤ cl.length ∧ kv = .int .i64 k ∧ wr.ownsRow w4.heap.size 75 3 ov k (dgsC (SV.take k)) ∧ Fr [] w4 wr) (fun _ kv _ => cl.length - (intOf kv).toNat)
      case atStart => exact ⟨0, by omega, rfl, own_nil _ _ _ _, Fr.refl _ _⟩
      case round =>
        obtain ⟨k, hk, rfl, ho, hF⟩ := hrel
        by_cases hlt2 : k < cl.length
        · have q1 : (k : Int) < cl.length := by omega
          have hv1 : SV[k]? = some (SV[k]'(by omega)) := List.getElem?_eq_getElem (by omega)
          obtain ⟨v, hv⟩ : ∃ v, SV[k]'(by omega) = v := ⟨_, rfl⟩
          rw [hv] at hv1
          obtain ⟨gx, rfl, hgx, hcx⟩ := HRD.out k v hv1
          have d0 := (hF.cell (p := ⟨gx, k * 4 + 0, none⟩) hgx (by simp)).trans (hcx 0 _ rfl)
          have d1 := (hF.cell (p := ⟨gx, k * 4 + 1, none⟩) hgx (by simp)).trans (hcx 1 _ rfl)
          have d2 := (hF.cell (p := ⟨gx, k * 4 + 2, none⟩) hgx (by simp)).trans (hcx 2 _ rfl)
          have d3 := (hF.cell (p := ⟨gx, k * 4 + 3, none⟩) hgx (by simp)).trans (hcx 3 _ rfl)
          rw [Nat.add_zero] at d0
          have hts := take_snoc hv1
          have HTS := Lib.hid hts; have HO := Lib.hid ho; have HF := Lib.hid hF
          have hwsz := hF.size
          clear hts ho hF hv1 hv hcx
          go_upto_region 15 with (fail)
          have hX := Blk.new wr #[.int .i64 v.due, .int .i64 v.src, .int .i64 v.dst, .slice v.a v.l v.c] 115
          have hF2 := (Fr.refl [] wr).alloc (.cells #[.int .i64 v.due, .int .i64 v.src, .int .i64 v.dst, .slice v.a v.l v.c] 115)
          obtain ⟨B, hB⟩ : ∃ B, wr.heap.size = B := ⟨_, rfl⟩
          rw [hB] at hX ⊢
          clear d0 d1 d2 d3
          generalize wr.alloc (.cells #[.int .i64 v.due, .int .i64 v.src, .int .i64 v.dst, .slice v.a v.l v.c] 115) = w5 at *
          have x1 := Blk.cell (i := 1) hX rfl
          have x2 := Blk.cell (i := 2) hX rfl
          have x3 := Blk.cell (i := 3) hX rfl
          simp only [List.getElem_toArray, List.getElem_cons_zero, List.getElem_cons_succ] at x1 x2 x3
          have hsz5 := hF2.size
          have HF2 := Lib.hid hF2
          clear hX hF2
          apply wp_region_lit
          iterate 4 (refine wpList_plain rfl (fun K hK => ?_); go_simp; refine hK _ _ ?_; clear hK K)
          have hnb := Blk.new w5 #[.int .i64 v.src, .int .i64 v.dst, .slice v.a v.l v.c] 75
          have hF4 := HF2.out.alloc (.cells #[.int .i64 v.src, .int .i64 v.dst, .slice v.a v.l v.c] 75)
          obtain ⟨gn, hgn⟩ : ∃ gn, w5.heap.size = gn := ⟨_, rfl⟩
          rw [hgn] at hnb ⊢
          clear x1 x2 x3 HF2
          generalize w5.alloc (.cells #[.int .i64 v.src, .int .i64 v.dst, .slice v.a v.l v.c] 75) = w6 at *
          obtain ⟨hi0, hz0, hz1, hz2⟩ := HI1.out
          have ho4 := own_fr (S := []) HO.out hF4 (by simp)
          have hsz4 := hF4.size
          obtain ⟨oa, oc, rfl, -⟩ := own_val ho4
          refine wpList_append_src _ rfl (Operand.tmp 47) (Operand.tmp 50) 77 rfl w4.heap.size 75 i1 _ 3 40 Try.underlying77 hi0 hz0 hz1 hz2 rfl (by decide) (.slice oa k oc) (.slice (some ⟨gn, 0, none⟩) 1 1) k 1 (dgsC (SV.take k)) (dgsC [v]) rfl (by kernel_rfl) ho4 (src_blk hnb (by simp) (by simp [Value.oneCell']) 1) (by unfold maxLen; omega) (by omega) (by omega) ?_
          intro v9 w9 ho9 hg9 hat9
          have HF9 := Lib.hid (fr_own (HF.out.trans hF4 (by simp)) ho4 hg9 (Nat.le_refl _))
          rw [← dgsC_app, ← HTS.out] at ho9
          have HO9 := Lib.hid ho9
          clear hnb hF4 ho4 ho9 hg9 hat9 hi0 hz0 hz1 hz2
          go_wp2_with fail
          go_roundw
          case rel => exact ⟨k + 1, by omega, by go_num, HO9.out, HF9.out⟩
          case measure => simp [intOf]; omega
        · have hkn : k = cl.length := by omega
          subst hkn
          have q1 : decide ((cl.length : Int) < (cl.length : Int)) = false := by simp
          have HO := Lib.hid ho; have HF := Lib.hid hF
          clear ho hF
          go_wp2_with fail
          go_ret
          refine ⟨_, _, u9, rfl, HF.out.blk HB4.out (by simp), ?_, HO3.out, fun g hg => own_base HLO4.out hg, ?_, HF4.out.trans HF.out (by simp)⟩
          · show NetS wr _ o base fv (.slice la ll.length lc) { s with fl := dueLater s tick }
            rw [HDL.out]
            refine ⟨HS3.out, own_fr HFO4.out HF.out (by simp), ⟨LV, own_weaken (own_fr HLO4.out HF.out (by simp)) hbase, HLF4.out.fr HF.out (NoU8.nil _)⟩, HN.out.fb, by simp only; omega, HN.out.lb⟩
          · show DgR wr w.heap.size u9 (sortG (dueNow s tick))
            rw [HDN.out]
            refine ⟨SV, ?_, HSF.out.fr HF.out (NoU8.nil _)⟩
            have := own_weaken HO.out hszw4
            rw [List.take_of_length_le (by omega)] at this
            rw [hsgl]; exact this
end Go.Proofs.Ytkjjikjilmngdaa.Nt
