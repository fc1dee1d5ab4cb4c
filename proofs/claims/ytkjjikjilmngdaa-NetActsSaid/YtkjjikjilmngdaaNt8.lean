/- chapter 24: the net's parts: fates, clipped ticks, copies of bytes. -/
import Derived.Test.YtkjjikjilmngdaaNtP
import Derived.Test.YtkjjikjilmngdaaNt7
import Derived.Test.YtkjjikjilmngdaaOwn
import Derived.Test.YtkjjikjilmngdaaLs
import Derived.Test.YtkjjikjilmngdaaSub
import Derived.Test.YtkjjikjilmngdaaCloneFate
import Derived.Test.YtkjjikjilmngdaaCloneU8
import Derived.Test.YtkjjikjilmngdaaRg2
namespace Go.Proofs.Ytkjjikjilmngdaa.Nt
open Go.RowKit Dt Go.Proofs.Ytkjjikjilmngdaa.Hd
set_option linter.unusedVariables false
set_option linter.unusedSimpArgs false

/-- a slice that reads as these bytes, in a block of bytes -/
structure BV (w : World) (a : Option Addr) (n c : Nat) (bs : List Nat) : Prop where
  ls : LS w (.slice a n c) (u8s bs)
  lt : ∀ x ∈ bs, x < 256
  ty : 0 < bs.length → ∀ g, (Value.slice a n c).ownBlock = some g → ∃ cur fr, w.heap[g]? = some (.cells cur 5 fr)
/-- a block of another type than bytes, or a new one -/
def NoU8 (w : World) (S : List Nat) : Prop := ∀ x ∈ S, ∀ cur fr, w.heap[x]? ≠ some (.cells cur 5 fr)
theorem NoU8.nil (w : World) : NoU8 w [] := fun x hx => by simp at hx
theorem NoU8.cons {w : World} {x : Nat} {S : List Nat} {vs : Array Value} {T : TypeId} (h : Blk w x vs T) (hT : T ≠ 5) (hS : NoU8 w S) : NoU8 w (x :: S) := fun y hy cur fr => by
  rcases List.mem_cons.1 hy with rfl | hy
  · unfold Blk at h; rw [h]; intro e; simp at e; exact hT e.2.1
  · exact hS y hy cur fr
theorem NoU8.own {w : World} {base n e sz : Nat} {v : Value} {xs : List Value} (h : w.ownsRow base e sz v n xs) (he : e ≠ 5) : NoU8 w v.ownBlock.toList := fun x hx cur fr hh => by
  simp only [Option.mem_toList] at hx
  rcases h.2 with ⟨rfl, _⟩ | ⟨g', cap, cur', rfl, hb', hh', _⟩
  · simp [Value.ownBlock] at hx
  · simp [Value.ownBlock] at hx
    subst hx
    rw [hh'] at hh; simp at hh; exact he hh.2.1
theorem NoU8.app {w : World} {S T : List Nat} (h : NoU8 w S) (k : NoU8 w T) : NoU8 w (S ++ T) := fun x hx => by
  rcases List.mem_append.1 hx with hx | hx
  · exact h x hx
  · exact k x hx
theorem BV.fr {S : List Nat} {w w' : World} {a : Option Addr} {n c : Nat} {bs : List Nat} (h : BV w a n c bs) (hF : Fr S w w') (hS : NoU8 w S) : BV w' a n c bs := by
  rcases Nat.eq_zero_or_pos bs.length with h0 | h0
  · refine ⟨?_, h.lt, fun h => by omega⟩
    have : bs = [] := List.eq_nil_of_length_eq_zero h0
    subst this
    obtain ⟨a', cap, e, hl, hm, hn, hc⟩ := h.ls.ex
    exact ⟨a', cap, e, hl, hm, hn, fun h => by simp [u8s] at h⟩
  · have hb : ∀ g, (Value.slice a n c).ownBlock = some g → g ∉ S := fun g hg hx => by
      obtain ⟨cur, fr, hh⟩ := h.ty h0 g hg
      exact hS g hx cur fr hh
    refine ⟨h.ls.fr hF hb, h.lt, fun _ g hg => ?_⟩
    obtain ⟨cur, fr, hh⟩ := h.ty h0 g hg
    exact ⟨cur, fr, (hF.block g (lt_of_block hh) (hb g hg)).trans hh⟩
theorem BV.len {w : World} {a : Option Addr} {n c : Nat} {bs : List Nat} (h : BV w a n c bs) : n = bs.length := by have := h.ls.len; rwa [u8s_len] at this
theorem BV.of_own {w : World} {base n : Nat} {v : Value} {bs : List Nat} (h : w.ownsRow base 5 1 v n (u8s bs)) (hb : ∀ x ∈ bs, x < 256) : ∃ a c, v = .slice a bs.length c ∧ BV w a bs.length c bs := by
  have hls := LS.of_own' h
  obtain ⟨a, c, e, -⟩ := hls.ex
  rw [u8s_len] at e
  refine ⟨a, c, e, by rw [← e]; exact hls, hb, fun h0 g hg => ?_⟩
  rw [← e] at hg
  rcases h.2 with ⟨rfl, _⟩ | ⟨g', cap, cur, rfl, hb', hh, _⟩
  · simp [Value.ownBlock] at hg
  · simp [Value.ownBlock] at hg; subst hg; exact ⟨cur, _, hh⟩
/-- fates as cells -/
def faC (l : List Fa) : List Value := l.flatMap fun f => [.bool f.drop, .int .i64 f.copies, .int .i64 f.delay]
theorem faC_len : ∀ l : List Fa, (faC l).length = l.length * 3
  | [] => rfl
  | x :: l => by simp [faC] at *; have := faC_len l; simp [faC] at this; omega
theorem faC_one (l : List Fa) : ∀ u ∈ faC l, u.oneCell' = true := fun u hu => by
  simp [faC] at hu
  obtain ⟨a, -, rfl | rfl | rfl⟩ := hu <;> rfl
theorem faC_cons (f : Fa) (l : List Fa) : faC (f :: l) = [.bool f.drop, .int .i64 f.copies, .int .i64 f.delay] ++ faC l := by simp [faC]
theorem faC_app (k l : List Fa) : faC (k ++ l) = faC k ++ faC l := by simp [faC]
/-- flights as cells -/
def flC (V : List FgV) : List Value := V.flatMap FgV.cs
theorem flC_len : ∀ V : List FgV, (flC V).length = V.length * 4
  | [] => rfl
  | x :: V => by simp [flC, FgV.cs] at *; have := flC_len V; simp [flC, FgV.cs] at this; omega
theorem flC_one (V : List FgV) : ∀ u ∈ flC V, u.oneCell' = true := fun u hu => by
  unfold flC at hu
  obtain ⟨x, -, h⟩ := List.mem_flatMap.1 hu
  exact x.one u h
theorem flC_app (V U : List FgV) : flC (V ++ U) = flC V ++ flC U := by simp [flC]
theorem flC_get : ∀ {V : List FgV} {t j : Nat} {x : FgV}, V[t]? = some x → j < 4 → (flC V)[t * 4 + j]? = x.cs[j]?
  | [], t, j, x, h, _ => by simp at h
  | y :: V, 0, j, x, h, hj => by
    simp at h; subst h
    have e : flC (y :: V) = y.cs ++ flC V := by simp [flC]
    rw [e, List.getElem?_append_left (by simp [FgV.cs]; omega)]; congr 1; omega
  | y :: V, t + 1, j, x, h, hj => by
    have := flC_get (V := V) (t := t) (x := x) (by simpa using h) hj
    have e : flC (y :: V) = y.cs ++ flC V := by simp [flC]
    rw [e, List.getElem?_append_right (by simp [FgV.cs]; omega), ← this]
    congr 1; simp [FgV.cs]; omega
/-- a flight's cells say that flight -/
structure FgOk (w : World) (v : FgV) (x : Fg) : Prop where
  due : v.due = (x.due : Int)
  src : v.src = x.src
  dst : v.dst = x.dst
  bs : BV w v.a v.l v.c x.bs
/-- row by row -/
def FlOk (w : World) (V : List FgV) (l : List Fg) : Prop := V.length = l.length ∧ ∀ (t : Nat) (v : FgV) (x : Fg), V[t]? = some v → l[t]? = some x → FgOk w v x
theorem FlOk.fr {S : List Nat} {w w' : World} {V : List FgV} {l : List Fg} (h : FlOk w V l) (hF : Fr S w w') (hS : NoU8 w S) : FlOk w' V l :=
  ⟨h.1, fun t v x h1 h2 => by obtain ⟨a, b, c, d⟩ := h.2 t v x h1 h2; exact ⟨a, b, c, d.fr hF hS⟩⟩
theorem FlOk.nil (w : World) : FlOk w [] [] := ⟨rfl, fun t v x h => by simp at h⟩
theorem FlOk.snoc {w : World} {V : List FgV} {l : List Fg} {v : FgV} {x : Fg} (h : FlOk w V l) (hx : FgOk w v x) : FlOk w (V ++ [v]) (l ++ [x]) := by
  refine ⟨by simp [h.1], fun t u y h1 h2 => ?_⟩
  rcases Nat.lt_or_ge t V.length with ht | ht
  · rw [List.getElem?_append_left ht] at h1
    rw [List.getElem?_append_left (by rw [← h.1]; exact ht)] at h2
    exact h.2 t u y h1 h2
  · rw [List.getElem?_append_right ht] at h1
    rw [List.getElem?_append_right (by rw [← h.1]; exact ht), ← h.1] at h2
    rcases Nat.eq_zero_or_pos (t - V.length) with h0 | h0
    · rw [h0] at h1 h2; simp at h1 h2; subst h1 h2; exact hx
    · rw [List.getElem?_eq_none (by simp; omega)] at h1; cases h1
/-- a net from o on -/
structure NetS (w : World) (vs : Array Value) (o base : Nat) (fv xv : Value) (s : NetV) : Prop where
  hd : Sub vs o [fv, xv, .int .i64 (s.lost : Int)]
  fo : w.ownsRow base 86 3 fv s.fa.length (faC s.fa)
  xo : ∃ V, w.ownsRow base 115 4 xv s.fl.length (flC V) ∧ FlOk w V s.fl
  fb : s.fa.length ≤ 1000
  xb : s.fl.length ≤ 256
  lb : s.lost ≤ 4000000000000000000
/-- it stays where nothing of it is touched -/
theorem NetS.fr {S : List Nat} {w w' : World} {vs : Array Value} {o base : Nat} {fv xv : Value} {s : NetV} (h : NetS w vs o base fv xv s) (hF : Fr S w w') (h1 : ∀ g, fv.ownBlock = some g → g ∉ S) (h2 : ∀ g, xv.ownBlock = some g → g ∉ S) (hS : NoU8 w S) : NetS w' vs o base fv xv s := by
  obtain ⟨a, b, ⟨V, c, d⟩, e1, e2, e3⟩ := h
  exact ⟨a, own_keep b hF h1, ⟨V, own_keep c hF h2, d.fr hF hS⟩, e1, e2, e3⟩
theorem NetS.fr0 {w w' : World} {vs : Array Value} {o base : Nat} {fv xv : Value} {s : NetV} (h : NetS w vs o base fv xv s) (hF : Fr [] w w') : NetS w' vs o base fv xv s := h.fr hF (by simp) (by simp) (NoU8.nil w)

theorem clip_any (t : Int) (w : World) : Calls Try.prog 60 #[.int .i64 t] w fun e w' => e = .returned (.int .i64 (clpI t)) ∧ w = w' := by
  obtain ⟨k, hk⟩ : ∃ k, clpI t = k := ⟨_, rfl⟩
  rw [hk]
  have HT := Lib.hid (show (k : Int) = max 0 (min t 1000000) by rw [← hk]; unfold clpI; omega)
  clear hk
  rcases Int.lt_trichotomy t 0 with h | h | h
  · go_enter Try.func60, Try.ntmps60
    go_wp2_with fail
    have := HT.out
    go_ret; exact ⟨Hd.ret_i (by omega), rfl⟩
  · subst h
    go_enter Try.func60, Try.ntmps60
    go_wp2_with fail
    have := HT.out
    go_ret; exact ⟨Hd.ret_i (by omega), rfl⟩
  · rcases Int.lt_or_le 1000000 t with h2 | h2
    all_goals
      go_enter Try.func60, Try.ntmps60
      go_wp2_with fail
      have := HT.out
      go_ret; exact ⟨Hd.ret_i (by omega), rfl⟩
section
variable {w : World} {b o base : Nat} {T : TypeId} {vs : Array Value} {fv xv : Value} {s : NetV}
theorem left_any (h : Blk w b vs T) (H : NetS w vs o base fv xv s) : Calls Try.prog 34 #[.pointer (some ⟨b, o, none⟩)] w fun e w' => e = .returned (.int .i64 (s.fa.length : Int)) ∧ w = w' := by
  have c0 := Blk.cell h (H.hd.at (i := 0) rfl)
  obtain ⟨a, c, rfl, -⟩ := own_val H.fo
  rw [Nat.add_zero] at c0
  clear H
  go_enter Try.func34, Try.ntmps34
  go_wp2_with fail
  go_ret
  exact ⟨rfl, rfl⟩
theorem flight_any (h : Blk w b vs T) (H : NetS w vs o base fv xv s) : Calls Try.prog 31 #[.pointer (some ⟨b, o, none⟩)] w fun e w' => e = .returned (.int .i64 (s.fl.length : Int)) ∧ w = w' := by
  have c0 := Blk.cell h (H.hd.at (i := 1) rfl)
  obtain ⟨V, hV, -⟩ := H.xo
  obtain ⟨a, c, rfl, -⟩ := own_val hV
  clear H hV
  go_enter Try.func31, Try.ntmps31
  go_wp2_with fail
  go_ret
  exact ⟨rfl, rfl⟩
theorem lost_any (h : Blk w b vs T) (H : NetS w vs o base fv xv s) : Calls Try.prog 32 #[.pointer (some ⟨b, o, none⟩)] w fun e w' => e = .returned (.int .i64 (s.lost : Int)) ∧ w = w' := by
  have c0 := Blk.cell h (H.hd.at (i := 2) rfl)
  clear H
  go_enter Try.func32, Try.ntmps32
  go_wp2_with fail
  go_ret
  exact ⟨rfl, rfl⟩
end
/-- a fate as a value -/
def Fa.v (f : Fa) : Value := .agg #[.bool f.drop, .int .i64 f.copies, .int .i64 f.delay]
/-- what a call on a net leaves: another state of it, at the same place -/
def NetP (w : World) (b o base : Nat) (T : TypeId) (vs : Array Value) (fv xv : Value) (r : Value) (s' : NetV) (S : List Nat) (e : Ending) (w' : World) : Prop :=
  e = .returned r ∧ (∃ us fv' xv', Blk w' b us T ∧ NetS w' us o base fv' xv' s' ∧ Out vs us o 3 ∧ (fv' = fv ∨ ∀ g, fv'.ownBlock = some g → fv.ownBlock = some g ∨ w.heap.size ≤ g) ∧ (xv' = xv ∨ ∀ g, xv'.ownBlock = some g → xv.ownBlock = some g ∨ w.heap.size ≤ g)) ∧ Fr S w w'
set_option maxRecDepth 100000 in
set_option maxHeartbeats 3200000 in
theorem fate_any {w : World} {b o base : Nat} {T : TypeId} {vs : Array Value} {fv xv : Value} {s : NetV} (h : Blk w b vs T) (H : NetS w vs o base fv xv s) (hT : T ≠ 86) (hT2 : T ≠ 115) (hT3 : T ≠ 5) (hbase : base ≤ w.heap.size) :
    Calls Try.prog 59 #[.pointer (some ⟨b, o, none⟩)] w (NetP w b o base T vs fv xv (Fa.v (s.fa.headD fa0)) { s with fa := s.fa.tail } [b]) := by
  obtain ⟨fa, fl, lost⟩ := s
  have c0 := Blk.cell h (H.hd.at (i := 0) rfl)
  have f0 := Blk.free h o
  rw [Nat.add_zero] at c0
  have hlt := h.lt
  cases fa with
  | nil =>
    obtain ⟨a, c, rfl, -⟩ := own_val H.fo
    have HH := Lib.hid h; have HN := Lib.hid H
    clear h H
    go_enter Try.func59, Try.ntmps59
    go_wp2_with fail
    have hR := Blk.new w #[.bool false, .int .i64 0, .int .i64 0] 86
    have hF := (Fr.refl [] w).alloc (.cells #[.bool false, .int .i64 0, .int .i64 0] 86)
    generalize w.alloc (.cells #[.bool false, .int .i64 0, .int .i64 0] 86) = w1 at *
    have r0 := Blk.cell (i := 0) hR rfl
    have r1 := Blk.cell (i := 1) hR rfl
    have r2 := Blk.cell (i := 2) hR rfl
    simp only [List.getElem_toArray, List.getElem_cons_zero, List.getElem_cons_succ] at r0 r1 r2
    refine bodyPost_ret (v := Fa.v fa0) (by simp [results, Try.results59, go_sem, r0, r1, r2, Fa.v, fa0]) rfl ?_
    exact ⟨rfl, ⟨vs, _, _, hF.blk HH.out (by simp), HN.out.fr0 hF, Out.refl _ _ _, .inl rfl, .inl rfl⟩, hF.mono (by simp)⟩
  | cons f fa =>
    obtain ⟨g, cap, rfl, hgb, hcap, hcap2⟩ := own_form H.fo (by simp)
    obtain ⟨drop, copies, delay⟩ := f
    have hown := H.fo
    simp only at hown
    have a0 : w.cell? ⟨g, 0, none⟩ = some (.bool drop) := by rw [hown.cellAt 0 (by simp)]; rfl
    have a1 : w.cell? ⟨g, 1, none⟩ = some (.int .i64 copies) := by rw [hown.cellAt 1 (by simp; omega)]; rfl
    have a2 : w.cell? ⟨g, 2, none⟩ = some (.int .i64 delay) := by rw [hown.cellAt 2 (by simp; omega)]; rfl
    have hg := own_lt hown rfl
    obtain ⟨n, hn⟩ : ∃ n, fa.length = n := ⟨_, rfl⟩
    rw [List.length_cons, hn] at hcap c0
    have hsrc := own_from (j := 1) hown (faC_one _) (by simp) (by decide)
    rw [List.length_cons, hn, Nat.add_sub_cancel] at hsrc
    rw [faC_cons, show (1 : Nat) * 3 = [Value.bool drop, .int .i64 copies, .int .i64 delay].length from rfl, List.drop_left] at hsrc
    have HSRC := Lib.hid hsrc
    have hgb' : g ≠ b := own_blk (g := 0) hown h hT.symm g rfl
    have HH := Lib.hid h; have HN := Lib.hid H; have HO := Lib.hid hown; have HLN := Lib.hid hn; have HGB := Lib.hid hgb'
    clear h H hown hn hsrc hgb'
    by_cases hc1 : cap = 1
    all_goals
      go_enter Try.func59, Try.ntmps59
      go_wp2_with fail
      first
      | (subst hc1; have hs := HSRC.out; unfold sliced at hs; rw [if_pos rfl] at hs; have HS := Lib.hid hs; clear hs)
      | (have hs := HSRC.out; unfold sliced at hs; rw [if_neg (by omega)] at hs; have HS := Lib.hid hs; clear hs)
      have hR := Blk.new w #[.bool false, .int .i64 0, .int .i64 0] 86
      have hR2 := hR.alloc (.cells #[.bool drop, .int .i64 copies, .int .i64 delay] 86)
      have hD := Blk.new (w.alloc (.cells #[.bool false, .int .i64 0, .int .i64 0] 86)) #[.bool drop, .int .i64 copies, .int .i64 delay] 86
      rw [show (w.alloc (.cells #[.bool false, .int .i64 0, .int .i64 0] 86)).heap.size = w.heap.size + 1 by simp] at hD
      have hF := ((Fr.refl [] w).alloc (.cells #[.bool false, .int .i64 0, .int .i64 0] 86)).alloc (.cells #[.bool drop, .int .i64 copies, .int .i64 delay] 86)
      clear hR
      generalize (w.alloc (.cells #[.bool false, .int .i64 0, .int .i64 0] 86)).alloc (.cells #[.bool drop, .int .i64 copies, .int .i64 delay] 86) = w1 at *
      simp only [Option.map_some, Dt.Addr.add_mid', Nat.add_sub_cancel, Nat.sub_self, Nat.zero_add, Nat.one_mul] at HS
      refine (clone_Fate (n := n) (xs := faC fa) (HS.out.fr hF (by simp [Value.ownBlock]; intro _; exact hg) (by simp)) (by simp [Value.ownBlock]; intro _; exact Nat.lt_of_lt_of_le hg hF.size) (by have := HN.out.fb; rw [← HLN.out]; simp at this; omega)).mono ?_; rintro e w2 ⟨fv2, rfl, hown2, hF2⟩
      obtain ⟨va, vc, rfl, -⟩ := own_val hown2
      have hB2 := hF2.blk (hF.blk HH.out (by simp)) (by simp)
      have hR3 := hF2.blk hR2 (by simp)
      have hD3 := hF2.blk hD (by simp)
      have hF3 := hF.trans hF2 (by simp)
      have hN3 := HN.out.fr0 hF3
      have hb1 : w.heap.size ≤ w1.heap.size := hF.size
      have HHD := Lib.hid hD.lt
      clear hR2 hD hF hF2 a0 a1 a2 c0 f0
      have HB2 := Lib.hid hB2; have HR3 := Lib.hid hR3; have HD3 := Lib.hid hD3; have HF3 := Lib.hid hF3; have HN3 := Lib.hid hN3; have HO2 := Lib.hid hown2
      have c0 := Blk.cell hB2 (HN.out.hd.at (i := 0) rfl)
      have f0 := Blk.free hB2 o
      have d0 := Blk.cell (i := 0) hD3 rfl
      have d1 := Blk.cell (i := 1) hD3 rfl
      have d2 := Blk.cell (i := 2) hD3 rfl
      have r0 := Blk.cell (i := 0) hR3 rfl
      have r1 := Blk.cell (i := 1) hR3 rfl
      have r2 := Blk.cell (i := 2) hR3 rfl
      have g0 := Blk.free hR3 0
      have g1 := Blk.free hR3 1
      have g2 := Blk.free hR3 2
      rw [Nat.add_zero] at c0
      simp only [List.getElem_toArray, List.getElem_cons_zero, List.getElem_cons_succ] at d0 d1 d2 r0 r1 r2
      clear hB2 hR3 hD3 hF3 hN3 hown2
      go_upto_region 5 with (fail)
      have hbw : w.heap.size ≠ b := by omega
      have hbw1 : w.heap.size + 1 ≠ b := by omega
      have hB4 := HB2.out.set o (.slice va n vc)
      have hS4 := HN.out.hd.set (i := 0) (by simp) (.slice va n vc)
      have hO4 := (Out.refl vs o 3).set (i := 0) (by decide) (.slice va n vc)
      rw [Nat.add_zero] at hS4 hO4
      have hR4 := HR3.out.other (a := ⟨b, o, none⟩) hbw (.slice va n vc)
      have hD4 := HD3.out.other (a := ⟨b, o, none⟩) hbw1 (.slice va n vc)
      have hF4' := (Fr.refl [b] w2).setCell (p := ⟨b, o, none⟩) (.inl (by simp)) (.slice va n vc)
      have hF4 := (HF3.out.mono (S' := [b]) (by simp)).trans hF4' (fun x hx => .inl hx)
      have hun : NoU8 w2 [b] := NoU8.cons HB2.out hT3 (NoU8.nil _)
      obtain ⟨-, -, ⟨V, hV, hfl⟩, -, hxb, hlb⟩ := HN3.out
      have hxn := own_blk (g := 0) hV HB2.out hT2.symm
      have hV4 := own_keep hV hF4' (fun y hy hx => by simp at hx; exact hxn y hy hx)
      have hfl4 := hfl.fr hF4' hun
      have hfn := own_blk (g := 0) HO2.out HB2.out hT.symm
      have hO5 := own_keep HO2.out hF4' (fun y hy hx => by simp at hx; exact hfn y hy hx)
      have hN4 : NetS (w2.setCell ⟨b, o, none⟩ (.slice va n vc)) (vs.setIfInBounds o (.slice va n vc)) o base (.slice va n vc) xv ⟨fa, fl, lost⟩ := by
        refine ⟨hS4, ?_, ⟨V, hV4, hfl4⟩, ?_, hxb, hlb⟩
        · have e := HLN.out
          rw [← e] at hO5 ⊢
          exact own_weaken hO5 (by omega)
        · have := HN.out.fb; simp at this; show fa.length ≤ 1000; omega
      have HB4 := Lib.hid hB4; have HN4 := Lib.hid hN4; have HO4 := Lib.hid hO4; have HR4 := Lib.hid hR4; have HF4 := Lib.hid hF4; have HO5 := Lib.hid hO5
      clear hB4 hS4 hO4 hR4 hF4' hF4 hun hV hfl hV4 hfl4 hO5 hN4 c0 f0 d0 d1 d2 r0 r1 r2 g0 g1 g2 hxn hfn
      generalize w2.setCell ⟨b, o, none⟩ (.slice va n vc) = w3 at *
      have d0 := Blk.cell (i := 0) hD4 rfl
      have d1 := Blk.cell (i := 1) hD4 rfl
      have d2 := Blk.cell (i := 2) hD4 rfl
      have r0 := Blk.cell (i := 0) HR4.out rfl
      have r1 := Blk.cell (i := 1) HR4.out rfl
      have r2 := Blk.cell (i := 2) HR4.out rfl
      have g0 := Blk.free HR4.out 0
      have g1 := Blk.free HR4.out 1
      have g2 := Blk.free HR4.out 2
      simp only [List.getElem_toArray, List.getElem_cons_zero, List.getElem_cons_succ] at d0 d1 d2 r0 r1 r2
      clear hD4
      go_wp2_with fail
      have hR5 : Blk (((w3.setCell ⟨w.heap.size, 0, none⟩ (.bool drop)).setCell ⟨w.heap.size, 1, none⟩ (.int .i64 copies)).setCell ⟨w.heap.size, 2, none⟩ (.int .i64 delay)) w.heap.size #[.bool drop, .int .i64 copies, .int .i64 delay] 86 := (((HR4.out.set 0 (.bool drop)).set 1 (.int .i64 copies)).set 2 (.int .i64 delay)).eq (by simp)
      have hF5 : Fr [w.heap.size] w3 (((w3.setCell ⟨w.heap.size, 0, none⟩ (.bool drop)).setCell ⟨w.heap.size, 1, none⟩ (.int .i64 copies)).setCell ⟨w.heap.size, 2, none⟩ (.int .i64 delay)) := (((Fr.refl [w.heap.size] w3).setCell (p := ⟨w.heap.size, 0, none⟩) (.inl (by simp)) _).setCell (p := ⟨w.heap.size, 1, none⟩) (.inl (by simp)) _).setCell (p := ⟨w.heap.size, 2, none⟩) (.inl (by simp)) _
      clear d0 d1 d2 r0 r1 r2 g0 g1 g2
      generalize ((w3.setCell ⟨w.heap.size, 0, none⟩ (.bool drop)).setCell ⟨w.heap.size, 1, none⟩ (.int .i64 copies)).setCell ⟨w.heap.size, 2, none⟩ (.int .i64 delay) = w5 at *
      have r0 := Blk.cell (i := 0) hR5 rfl
      have r1 := Blk.cell (i := 1) hR5 rfl
      have r2 := Blk.cell (i := 2) hR5 rfl
      simp only [List.getElem_toArray, List.getElem_cons_zero, List.getElem_cons_succ] at r0 r1 r2
      refine bodyPost_ret (v := Fa.v ⟨drop, copies, delay⟩) (by simp [results, Try.results59, go_sem, r0, r1, r2, Fa.v]) rfl ?_
      obtain ⟨V, hV, -⟩ := HN.out.xo
      refine ⟨rfl, ⟨_, _, _, hF5.blk HB4.out (by simp; omega), HN4.out.fr hF5 (fun y hy hx => ?_) (fun y hy hx => ?_) (NoU8.cons HR4.out (by decide) (NoU8.nil _)), HO4.out, .inr (fun y hy => .inr (by have := own_base HO5.out hy; omega)), .inl rfl⟩, HF4.out.trans hF5 (fun x hx => .inr (by simp at hx; omega))⟩
      · have := own_base HO5.out hy
        have h2 := HHD.out
        simp at hx; omega
      · have := own_lt hV hy
        simp at hx; omega
end Go.Proofs.Ytkjjikjilmngdaa.Nt
