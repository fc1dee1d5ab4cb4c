/- chapter 24: the statements' helpers; a net that the call itself has laid. -/
import Derived.Test.YtkjjikjilmngdaaNt11
namespace Go.Proofs.Ytkjjikjilmngdaa.Nt
open Go.RowKit Dt Go.Proofs.Ytkjjikjilmngdaa.Hd
set_option linter.unusedVariables false
set_option linter.unusedSimpArgs false

/-- a byte of a number -/
def byt (n : Int) : Nat := (n % 256).toNat
theorem byt_lt (n : Int) : byt n < 256 := by unfold byt; omega
def OneP (w : World) (n : Int) (e : Ending) (w' : World) : Prop := ∃ a, e = .returned (.agg (dgC n (wrap64 (n + 1)) a 1 1)) ∧ BV w' a 1 1 [byt n] ∧ Fr [] w w'
set_option maxRecDepth 100000 in
theorem one_any (n : Int) (w : World) : Calls Try.prog 28 #[.int .i64 n] w (OneP w n) := by
  have eb : (IntKind.u8.wrap n : Int) = (byt n : Nat) := by unfold byt; rw [Int.toNat_of_nonneg (Int.emod_nonneg _ (by decide))]; rfl
  go_enter Try.func28, Try.ntmps28
  go_wp2_with fail
  have hb := Blk.new (w.alloc (.cells #[.int .i64 n, .int .i64 (wrap64 (n + 1)), .slice (some ⟨w.heap.size + 1, 0, none⟩) 1 1] 75)) #[.int .u8 (byt n : Nat)] 5
  rw [show (w.alloc (.cells #[.int .i64 n, .int .i64 (wrap64 (n + 1)), .slice (some ⟨w.heap.size + 1, 0, none⟩) 1 1] 75)).heap.size = w.heap.size + 1 by simp] at hb
  have hd := (Blk.new w #[.int .i64 n, .int .i64 (wrap64 (n + 1)), .slice (some ⟨w.heap.size + 1, 0, none⟩) 1 1] 75).alloc (.cells #[.int .u8 (byt n : Nat)] 5)
  have hF := ((Fr.refl [] w).alloc (.cells #[.int .i64 n, .int .i64 (wrap64 (n + 1)), .slice (some ⟨w.heap.size + 1, 0, none⟩) 1 1] 75)).alloc (.cells #[.int .u8 (byt n : Nat)] 5)
  generalize (w.alloc (.cells #[.int .i64 n, .int .i64 (wrap64 (n + 1)), .slice (some ⟨w.heap.size + 1, 0, none⟩) 1 1] 75)).alloc (.cells #[.int .u8 (byt n : Nat)] 5) = w2 at *
  have r0 := Blk.cell (i := 0) hd rfl
  have r1 := Blk.cell (i := 1) hd rfl
  have r2 := Blk.cell (i := 2) hd rfl
  simp only [List.getElem_toArray, List.getElem_cons_zero, List.getElem_cons_succ] at r0 r1 r2
  refine bodyPost_ret (v := .agg (dgC n (wrap64 (n + 1)) (some ⟨w.heap.size + 1, 0, none⟩) 1 1)) (by simp [results, Try.results28, go_sem, r0, r1, r2, dgC]) rfl ?_
  refine ⟨_, rfl, ⟨?_, fun x hx => by simp at hx; subst hx; exact byt_lt n, fun _ g hg => ?_⟩, hF⟩
  · have := LS.of_blk (cap := 1) hb (by simp) (by decide)
    exact this
  · simp [Value.ownBlock] at hg; subst hg; exact ⟨_, _, hb⟩
def IsP (w : World) (r : Bool) (e : Ending) (w' : World) : Prop := e = .returned (.bool r) ∧ Fr [] w w'
set_option maxRecDepth 100000 in
theorem is_yes {w : World} {n m : Int} {a : Option Addr} {l c : Nat} (hm : m = n + 1) (h : BV w a l c [byt n]) (hn : -9223372036854775808 ≤ n) (hn2 : n ≤ 9223372036854775806) : Calls Try.prog 30 #[.agg (dgC n m a l c), .int .i64 n] w (IsP w true) := by
  subst hm
  have eb : (IntKind.u8.wrap n : Int) = (byt n : Nat) := by unfold byt; rw [Int.toNat_of_nonneg (Int.emod_nonneg _ (by decide))]; rfl
  obtain rfl := h.len
  obtain ⟨a', cap, e, hl, hm, hnn, hc⟩ := h.ls.ex
  cases e
  obtain ⟨g, off, rfl, hg, hcc⟩ := hc (by simp [u8s])
  have c0 := hcc 0 _ rfl
  rw [Nat.add_zero] at c0
  unfold dgC
  go_enter Try.func30, Try.ntmps30
  go_wp2_with fail
  go_ret
  exact ⟨rfl, (Fr.refl [] w).alloc _⟩
/-- block b holds a net of the call's own; the blocks in K are others' -/
structure HasN (W : World) (K : List Nat) (w : World) (b : Nat) (s : NetV) : Prop where
  ex : ∃ vs fv xv, Blk w b vs 71 ∧ NetS w vs 0 W.heap.size fv xv s ∧ (∀ g, fv.ownBlock = some g → g ∉ K) ∧ (∀ g, xv.ownBlock = some g → g ∉ K)
  hb : b ∉ K
  hb2 : W.heap.size ≤ b
  hK : ∀ g ∈ K, g < w.heap.size
  fr : Fr [] W w
/-- the blocks in K are as they were, and all bytes -/
structure Kp (K : List Nat) (w w' : World) : Prop where
  at' : ∀ g ∈ K, w'.heap[g]? = w.heap[g]?
  u8 : ∀ (g : Nat) (cur : Array Value) (fr : Nat × Nat), w.heap[g]? = some (.cells cur 5 fr) → w'.heap[g]? = some (.cells cur 5 fr)
  size : w.heap.size ≤ w'.heap.size
theorem Kp.refl (K : List Nat) (w : World) : Kp K w w := ⟨fun _ _ => rfl, fun _ _ _ h => h, Nat.le_refl _⟩
theorem Kp.trans {K : List Nat} {w w' w'' : World} (h : Kp K w w') (k : Kp K w' w'') : Kp K w w'' := ⟨fun g hg => (k.at' g hg).trans (h.at' g hg), fun g c f hh => k.u8 g c f (h.u8 g c f hh), Nat.le_trans h.size k.size⟩
theorem Kp.of_fr {K S : List Nat} {w w' : World} (h : Fr S w w') (hK : ∀ g ∈ K, g < w.heap.size) (hS : ∀ g ∈ K, g ∉ S) (hu : NoU8 w S) : Kp K w w' :=
  ⟨fun g hg => h.block g (hK g hg) (hS g hg), fun g c f hh => (h.block g (lt_of_block hh) (fun hx => hu g hx c f hh)).trans hh, h.size⟩
theorem Kp.mono {K K' : List Nat} {w w' : World} (h : Kp K w w') (hs : ∀ x ∈ K', x ∈ K) : Kp K' w w' := ⟨fun g hg => h.at' g (hs g hg), h.u8, h.size⟩
theorem Kp.blk {K : List Nat} {w w' : World} (h : Kp K w w') {g : Nat} (hg : g ∈ K) {cs : Array Value} {T : TypeId} (hb : Blk w g cs T) : Blk w' g cs T := by unfold Blk; rw [h.at' g hg]; exact hb
theorem Kp.own {K : List Nat} {w w' : World} (h : Kp K w w') {base n e sz : Nat} {v : Value} {xs : List Value} (ho : w.ownsRow base e sz v n xs) (hg : ∀ g, v.ownBlock = some g → g ∈ K) : w'.ownsRow base e sz v n xs := by
  refine ⟨ho.1, ?_⟩
  rcases ho.2 with h2 | ⟨g, cap, cur, hv, hb, hh, r⟩
  · exact .inl h2
  · exact .inr ⟨g, cap, cur, hv, hb, by rw [h.at' g (hg g (by rw [hv]; rfl))]; exact hh, r⟩
theorem Kp.bv {K : List Nat} {w w' : World} (h : Kp K w w') {a : Option Addr} {n c : Nat} {bs : List Nat} (hb : BV w a n c bs) : BV w' a n c bs := by
  obtain ⟨⟨a', cap, e, hl, hm, hn, hc⟩, hlt, ht⟩ := hb
  refine ⟨⟨a', cap, e, hl, hm, hn, fun hp => ?_⟩, hlt, fun hp g hg => ?_⟩
  · obtain ⟨b, off, e2, hb2, hcc⟩ := hc hp
    obtain ⟨cur, fr, hh⟩ := ht (by rwa [u8s_len] at hp) b (by cases e; rw [e2]; rfl)
    refine ⟨b, off, e2, Nat.lt_of_lt_of_le hb2 h.size, fun i x hx => ?_⟩
    rw [World.cell?_of_block (w := w) ((h.u8 b cur fr hh).trans hh.symm)]
    exact hcc i x hx
  · obtain ⟨cur, fr, hh⟩ := ht hp g hg
    exact ⟨cur, fr, h.u8 g cur fr hh⟩
theorem Kp.dg {K : List Nat} {w w' : World} (h : Kp K w w') {base : Nat} {v : Value} {l : List Fg} (hD : DgR w base v l) (hg : ∀ g, v.ownBlock = some g → g ∈ K) : DgR w' base v l := by
  obtain ⟨V, ho, hl, hf⟩ := hD
  exact ⟨V, h.own ho hg, hl, fun t u x h1 h2 => by obtain ⟨a, b, c, d⟩ := hf t u x h1 h2; exact ⟨a, b, c, h.bv d⟩⟩
/-- what a call on a net does, as a caller sees it -/
def StP (W : World) (K : List Nat) (w : World) (b : Nat) (r : Value) (s' : NetV) (e : Ending) (w' : World) : Prop := e = .returned r ∧ HasN W K w' b s' ∧ Kp K w w'
section
variable {W w w' : World} {K : List Nat} {b : Nat} {s : NetV}
theorem HasN.fr0 (h : HasN W K w b s) (hF : Fr [] w w') : HasN W K w' b s ∧ Kp K w w' := by
  obtain ⟨⟨vs, fv, xv, h1, h2, h3, h4⟩, hb, hb2, hK, hf⟩ := h
  exact ⟨⟨⟨vs, fv, xv, hF.blk h1 (by simp), h2.fr0 hF, h3, h4⟩, hb, hb2, fun g hg => Nat.lt_of_lt_of_le (hK g hg) hF.size, hf.trans hF (by simp)⟩, Kp.of_fr hF hK (by simp) (NoU8.nil _)⟩
/-- others' blocks may change -/
theorem HasN.frK (h : HasN W K w b s) {S : List Nat} (hF : Fr S w w') (hS : ∀ x ∈ S, x ∈ K) (hW : ∀ x ∈ S, W.heap.size ≤ x) (hu : NoU8 w S) : HasN W K w' b s := by
  obtain ⟨⟨vs, fv, xv, h1, h2, h3, h4⟩, hb, hb2, hK, hf⟩ := h
  exact ⟨⟨vs, fv, xv, hF.blk h1 (fun hx => hb (hS b hx)), h2.fr hF (fun g hg hx => h3 g hg (hS g hx)) (fun g hg hx => h4 g hg (hS g hx)) hu, h3, h4⟩, hb, hb2, fun g hg => Nat.lt_of_lt_of_le (hK g hg) hF.size, hf.trans hF (fun x hx => .inr (hW x hx))⟩
/-- what came belongs to others, too -/
theorem HasN.addDg (h : HasN W K w b s) {base : Nat} {v : Value} {l : List Fg} (hD : DgR w base v l) : HasN W (v.ownBlock.toList ++ K) w b s := by
  obtain ⟨⟨vs, fv, xv, h1, h2, h3, h4⟩, hb, hb2, hK, hf⟩ := h
  obtain ⟨V, ho, -⟩ := hD
  obtain ⟨U, hU, -⟩ := h2.xo
  refine ⟨⟨vs, fv, xv, h1, h2, fun g hg hx => ?_, fun g hg hx => ?_⟩, fun hx => ?_, hb2, fun g hg => ?_, hf⟩
  · rcases List.mem_append.1 hx with hx | hx
    · simp only [Option.mem_toList] at hx; exact own_own h2.fo ho (by decide) g hg hx
    · exact h3 g hg hx
  · rcases List.mem_append.1 hx with hx | hx
    · simp only [Option.mem_toList] at hx; exact own_own hU ho (by decide) g hg hx
    · exact h4 g hg hx
  · rcases List.mem_append.1 hx with hx | hx
    · simp only [Option.mem_toList] at hx; exact own_blk (g := 0) ho h1 (by decide) b hx rfl
    · exact hb hx
  · rcases List.mem_append.1 hg with hx | hx
    · simp only [Option.mem_toList] at hx; exact own_lt ho hx
    · exact hK g hx
theorem HasN.empty (W : World) {K : List Nat} {w : World} {b : Nat} (hb : Blk w b #[.slice none 0 0, .slice none 0 0, .int .i64 0] 71) (hbK : b ∉ K) (hb2 : W.heap.size ≤ b) (hK : ∀ g ∈ K, g < w.heap.size) (hf : Fr [] W w) : HasN W K w b ⟨[], [], 0⟩ :=
  ⟨⟨_, .slice none 0 0, .slice none 0 0, hb, ⟨Sub.whole _, own_nil _ _ _ _, ⟨[], own_nil _ _ _ _, FlOk.nil _⟩, by simp, by simp, by simp⟩, fun g hg => by simp [Value.ownBlock] at hg, fun g hg => by simp [Value.ownBlock] at hg⟩, hbK, hb2, hK, hf⟩
theorem HasN.new (W : World) {K : List Nat} (w : World) (hK : ∀ g ∈ K, g < w.heap.size) (hf : Fr [] W w) : HasN W K (w.alloc (.cells #[.slice none 0 0, .slice none 0 0, .int .i64 0] 71)) w.heap.size ⟨[], [], 0⟩ := by
  have hF := (Fr.refl [] w).alloc (.cells #[.slice none 0 0, .slice none 0 0, .int .i64 0] 71)
  refine ⟨⟨_, .slice none 0 0, .slice none 0 0, Blk.new w _ _, ⟨Sub.whole _, own_nil _ _ _ _, ⟨[], own_nil _ _ _ _, FlOk.nil _⟩, by simp, by simp, by simp⟩, fun g hg => by simp [Value.ownBlock] at hg, fun g hg => by simp [Value.ownBlock] at hg⟩, fun hx => by have := hK _ hx; omega, hf.size, fun g hg => Nat.lt_of_lt_of_le (hK g hg) hF.size, hf.trans hF (by simp)⟩
theorem HasN.of_netp {T : TypeId} {vs : Array Value} {fv xv r : Value} {s' : NetV} {S : List Nat} {e : Ending} (hN : NetP w b 0 W.heap.size 71 vs fv xv r s' S e w') (hb : b ∉ K) (hb2 : W.heap.size ≤ b) (hK : ∀ g ∈ K, g < w.heap.size) (hf : Fr [] W w) (h3 : ∀ g, fv.ownBlock = some g → g ∉ K) (h4 : ∀ g, xv.ownBlock = some g → g ∉ K) (hS : ∀ x ∈ S, x ∉ K ∧ W.heap.size ≤ x) (hu : NoU8 w S) : StP W K w b r s' e w' := by
  obtain ⟨he, ⟨us, fv', xv', k1, k2, k3, k4, k5⟩, hF⟩ := hN
  refine ⟨he, ⟨⟨us, fv', xv', k1, k2, fun g hg hx => ?_, fun g hg hx => ?_⟩, hb, hb2, fun g hg => Nat.lt_of_lt_of_le (hK g hg) hF.size, hf.trans hF (fun x hx => .inr (hS x hx).2)⟩, Kp.of_fr hF hK (fun g hg hx => (hS g hx).1 hg) hu⟩
  · rcases k4 with e | e
    · rw [e] at hg; exact h3 g hg hx
    · rcases e g hg with e | e
      · exact h3 g e hx
      · have := hK g hx; omega
  · rcases k5 with e | e
    · rw [e] at hg; exact h4 g hg hx
    · rcases e g hg with e | e
      · exact h4 g e hx
      · have := hK g hx; omega
theorem AV.of_bv {vs : Array Value} {T : TypeId} {base n : Nat} {xv : Value} {xs : List Value} {a : Option Addr} {l c : Nat} {bs : List Nat} (h : BV w a l c bs) (h1 : Blk w b vs T) (hT : T ≠ 5) (hV : w.ownsRow base 115 4 xv n xs) : AV w (b :: xv.ownBlock.toList) w.heap.size a l c bs :=
  ⟨h.ls, h.lt, fun h0 g hg => by
    obtain ⟨cur, fr, hh⟩ := h.ty h0 g hg
    exact ⟨fun hx => NoU8.cons h1 hT (NoU8.own hV (by decide)) g hx cur fr hh, lt_of_block hh⟩⟩
theorem hsendV (h : HasN W K w b s) {src dst tick : Int} {a : Option Addr} {l c : Nat} {bs : List Nat} (hb : ∀ vs xv n xs, Blk w b vs 71 → w.ownsRow W.heap.size 115 4 xv n xs → AV w (b :: xv.ownBlock.toList) w.heap.size a l c bs) (hn : bs.length ≤ 140737488351232) (hl : s.lost ≤ 3000000000000000000) :
    Calls Try.prog 27 #[.pointer (some ⟨b, 0, none⟩), .agg (dgC src dst a l c), .int .i64 tick] w (StP W K w b (.tuple #[]) (sendS s src dst bs tick)) := by
  obtain ⟨⟨vs, fv, xv, h1, h2, h3, h4⟩, hb1, hb2, hK, hf⟩ := h
  obtain ⟨V, hV, -⟩ := h2.xo
  refine (send_any h1 h2 (by decide) (by decide) (by decide) hf.size (hb _ _ _ _ h1 hV) hn hl).mono fun e w' hN => HasN.of_netp (T := 71) hN hb1 hb2 hK hf h3 h4 (fun x hx => ?_) (NoU8.cons h1 (by decide) (NoU8.own hV (by decide)))
  rcases List.mem_cons.1 hx with rfl | hx
  · exact ⟨hb1, hb2⟩
  · simp only [Option.mem_toList] at hx
    exact ⟨h4 x hx, own_base hV hx⟩
theorem hsend (h : HasN W K w b s) {src dst tick : Int} {a : Option Addr} {l c : Nat} {bs : List Nat} (hb : BV w a l c bs) (hn : bs.length ≤ 140737488351232) (hl : s.lost ≤ 3000000000000000000) :
    Calls Try.prog 27 #[.pointer (some ⟨b, 0, none⟩), .agg (dgC src dst a l c), .int .i64 tick] w (StP W K w b (.tuple #[]) (sendS s src dst bs tick)) :=
  hsendV h (fun _ _ _ _ h1 hV => AV.of_bv hb h1 (by decide) hV) hn hl
/-- of bytes that came in -/
theorem hsendA (h : HasN W K w b s) {src dst tick : Int} {a : Option Addr} {l c : Nat} {bs : List Nat} (hb : LS w (.slice a l c) (u8s bs)) (hlt : ∀ x ∈ bs, x < 256) (hap : 0 < bs.length → ∀ g, (Value.slice a l c).ownBlock = some g → g < W.heap.size) (hn : bs.length ≤ 140737488351232) (hl : s.lost ≤ 3000000000000000000) :
    Calls Try.prog 27 #[.pointer (some ⟨b, 0, none⟩), .agg (dgC src dst a l c), .int .i64 tick] w (StP W K w b (.tuple #[]) (sendS s src dst bs tick)) := by
  have hb2 := h.hb2
  have hsz := h.fr.size
  refine hsendV h (fun vs xv n xs h1 hV => ⟨hb, hlt, fun h0 g hg => ⟨fun hx => ?_, Nat.lt_of_lt_of_le (hap h0 g hg) hsz⟩⟩) hn hl
  have hg2 := hap h0 g hg
  rcases List.mem_cons.1 hx with rfl | hx
  · omega
  · simp only [Option.mem_toList] at hx; have := own_base hV hx; omega
theorem hfates (h : HasN W K w b s) {la : Option Addr} {ln lc : Nat} {l : List Fa} (hs : Src w (.slice la ln lc) 3 ln (faC l)) (hln : l.length = ln) (hlc : ln ≤ lc) (hlm : lc ≤ maxLen) (hlt : ∀ g, (Value.slice la ln lc).ownBlock = some g → g < w.heap.size) :
    Calls Try.prog 33 #[.pointer (some ⟨b, 0, none⟩), .slice la ln lc] w (StP W K w b (.tuple #[]) (fatesS s l)) := by
  obtain ⟨⟨vs, fv, xv, h1, h2, h3, h4⟩, hb1, hb2, hK, hf⟩ := h
  refine (fates_any h1 h2 (by decide) (by decide) (by decide) hf.size hs hln hlc hlm hlt).mono fun e w' hN => HasN.of_netp (T := 71) hN hb1 hb2 hK hf h3 h4 (fun x hx => ?_) (NoU8.cons h1 (by decide) (NoU8.own h2.fo (by decide)))
  rcases List.mem_cons.1 hx with rfl | hx
  · exact ⟨hb1, hb2⟩
  · simp only [Option.mem_toList] at hx
    exact ⟨h3 x hx, own_base h2.fo hx⟩
def HDel (W : World) (K : List Nat) (w : World) (b : Nat) (s' : NetV) (l : List Fg) (e : Ending) (w' : World) : Prop := ∃ ov, e = .returned ov ∧ HasN W K w' b s' ∧ DgR w' w.heap.size ov l ∧ Kp K w w'
theorem hdeliver (h : HasN W K w b s) (tick : Int) :
    Calls Try.prog 29 #[.pointer (some ⟨b, 0, none⟩), .int .i64 tick] w (HDel W K w b (deliverS s tick).2 (deliverS s tick).1) := by
  obtain ⟨⟨vs, fv, xv, h1, h2, h3, h4⟩, hb1, hb2, hK, hf⟩ := h
  refine (deliver_any h1 h2 (by decide) (by decide) (by decide) hf.size).mono ?_
  rintro e w' ⟨us, xv', ov, he, k1, k2, k3, k4, k5, hF⟩
  exact ⟨ov, he, ⟨⟨us, fv, xv', k1, k2, h3, fun g hg hx => by have := k4 g hg; have := hK g hx; omega⟩, hb1, hb2, fun g hg => Nat.lt_of_lt_of_le (hK g hg) hF.size, hf.trans hF (fun x hx => .inr (by simp at hx; omega))⟩, k5, Kp.of_fr hF hK (fun g hg hx => by simp at hx; subst hx; exact hb1 hg) (NoU8.cons h1 (by decide) (NoU8.nil _))⟩
theorem hleft (h : HasN W K w b s) : Calls Try.prog 34 #[.pointer (some ⟨b, 0, none⟩)] w fun e w' => e = .returned (.int .i64 (s.fa.length : Int)) ∧ w = w' := by
  obtain ⟨⟨vs, fv, xv, h1, h2, h3, h4⟩, _⟩ := h; exact left_any h1 h2
theorem hflight (h : HasN W K w b s) : Calls Try.prog 31 #[.pointer (some ⟨b, 0, none⟩)] w fun e w' => e = .returned (.int .i64 (s.fl.length : Int)) ∧ w = w' := by
  obtain ⟨⟨vs, fv, xv, h1, h2, h3, h4⟩, _⟩ := h; exact flight_any h1 h2
theorem hlost (h : HasN W K w b s) : Calls Try.prog 32 #[.pointer (some ⟨b, 0, none⟩)] w fun e w' => e = .returned (.int .i64 (s.lost : Int)) ∧ w = w' := by
  obtain ⟨⟨vs, fv, xv, h1, h2, h3, h4⟩, _⟩ := h; exact lost_any h1 h2
/-- a datagram of what came -/
theorem DgR.at {base : Nat} {v : Value} {l : List Fg} (h : DgR w base v l) {t : Nat} {x : Fg} (hx : l[t]? = some x) : ∃ g cap a c, v = .slice (some ⟨g, 0, none⟩) l.length cap ∧ l.length ≤ cap ∧ cap ≤ maxLen ∧ w.cell? ⟨g, t * 3, none⟩ = some (.int .i64 x.src) ∧ w.cell? ⟨g, t * 3 + 1, none⟩ = some (.int .i64 x.dst) ∧ w.cell? ⟨g, t * 3 + 2, none⟩ = some (.slice a x.bs.length c) ∧ BV w a x.bs.length c x.bs := by
  obtain ⟨V, ho, hf⟩ := h
  have ht := (List.getElem?_eq_some_iff.1 hx).1
  obtain ⟨g, cap, rfl, hg, h1, h2⟩ := own_form ho (by omega)
  have hv : V[t]? = some (V[t]'(by rw [hf.1]; exact ht)) := List.getElem?_eq_getElem (by rw [hf.1]; exact ht)
  obtain ⟨k1, k2, k3, k4⟩ := hf.2 t _ x hv hx
  have hl := k4.len
  refine ⟨g, cap, _, _, rfl, h1, h2, ?_, ?_, ?_, by rw [hl] at k4; exact k4⟩
  · rw [ho.cellAt _ (by omega)]; have := dgsC_get hv (j := 0) (by decide); rw [Nat.add_zero] at this; rw [this, ← k2]; rfl
  · rw [ho.cellAt _ (by omega), dgsC_get hv (j := 1) (by decide), ← k3]; rfl
  · rw [ho.cellAt _ (by omega), dgsC_get hv (j := 2) (by decide), ← hl]; rfl
theorem DgR.val {base : Nat} {v : Value} {l : List Fg} (h : DgR w base v l) : ∃ a cap, v = .slice a l.length cap := by
  obtain ⟨V, ho, hf⟩ := h; obtain ⟨a, c, e, -⟩ := own_val ho; exact ⟨a, c, e⟩
end
end Go.Proofs.Ytkjjikjilmngdaa.Nt
