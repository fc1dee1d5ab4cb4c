/- chapter 18: the log and the reference's, side by side. -/
import Derived.Test.YtckodnogjedmnaaRl5
namespace Go.Proofs.Ytckodnogjedmnaa.Lo
open Go.RowKit Dt Go.Proofs.Ytckodnogjedmnaa.Hd Go.Proofs.Ytckodnogjedmnaa.Cfg Go.Proofs.Ytckodnogjedmnaa.Jt
set_option linter.unusedVariables false
set_option linter.unusedSimpArgs false
/-- the reference's log, its rows told as a function -/
structure RefS (w : World) (P : Nat → Prop) (B M : Nat) (c : CfV) (rows : List (Nat × Row)) (n : Nat) (R : Int → Row) : Prop where
  ex : ∃ tk cnt, HasRL w P B M c rows tk cnt ∧ cnt ≤ n ∧ rowOf tk = R
section
variable {w w' : World} {P Q : Nat → Prop} {B M n : Nat} {c : CfV} {rows : List (Nat × Row)} {R : Int → Row}
theorem RefS.fr {S : List Nat} (h : RefS w P B M c rows n R) (hF : Fr S w w') (hS : ∀ x ∈ S, ¬ P x) : RefS w' P B M c rows n R := by
  obtain ⟨tk, cnt, h1, h2⟩ := h.ex
  exact ⟨tk, cnt, h1.fr hF hS, h2⟩
theorem RefS.wider (h : RefS w P B M c rows n R) (hPQ : ∀ x, P x → Q x) : RefS w Q B M c rows n R := by
  obtain ⟨tk, cnt, h1, h2⟩ := h.ex
  exact ⟨tk, cnt, h1.wider hPQ, h2⟩
theorem RefS.there (h : RefS w P B M c rows n R) : RefS w (fun x => P x ∧ x < w.heap.size) B M c rows n R := by
  obtain ⟨tk, cnt, h1, h2⟩ := h.ex
  exact ⟨tk, cnt, h1.there, h2⟩
theorem LogS.more {n' : Nat} (h : LogS w P B M c rows n R) (hn : n ≤ n') : LogS w P B M c rows n' R := by
  obtain ⟨tk, cnt, h1, h2, h3⟩ := h.ex
  exact ⟨tk, cnt, h1, by omega, h3⟩
theorem RefS.more {n' : Nat} (h : RefS w P B M c rows n R) (hn : n ≤ n') : RefS w P B M c rows n' R := by
  obtain ⟨tk, cnt, h1, h2, h3⟩ := h.ex
  exact ⟨tk, cnt, h1, by omega, h3⟩
end
/-- both logs; the blocks that K tells are others' -/
structure Ac (W w : World) (K : Nat → Prop) (c : CfV) (B M BR MR : Nat) (rows rowsR : List (Nat × Row)) (n : Nat) (R RI : Int → Row) : Prop where
  ex : ∃ PL PR : Nat → Prop, LogS w PL B M c rows n R ∧ RefS w PR BR MR c rowsR n RI ∧ (∀ x, PL x → ¬ PR x) ∧ (∀ x, PL x → W.heap.size ≤ x ∧ ¬ K x ∧ x < w.heap.size) ∧ (∀ x, PR x → W.heap.size ≤ x ∧ ¬ K x ∧ x < w.heap.size)
  fr : Fr [] W w
  kK : ∀ x, K x → x < w.heap.size
/-- what K tells is as it was -/
def Kp (K : Nat → Prop) (w w' : World) : Prop := ∃ S, (∀ x ∈ S, ¬ K x) ∧ Fr S w w'
theorem Kp.blk {K : Nat → Prop} {w w' : World} {b : Nat} {vs : Array Value} {T : TypeId} (h : Kp K w w') (k : Blk w b vs T) (hK : K b) : Blk w' b vs T := by
  obtain ⟨S, h1, h2⟩ := h
  exact h2.blk k (fun hx => h1 b hx hK)
section
variable {W w w' : World} {K K' : Nat → Prop} {c : CfV} {B M BR MR n : Nat} {rows rowsR : List (Nat × Row)} {R RI : Int → Row}
theorem Ac.fr0 (h : Ac W w K c B M BR MR rows rowsR n R RI) (hF : Fr [] w w') : Ac W w' K c B M BR MR rows rowsR n R RI := by
  obtain ⟨PL, PR, h1, h2, h3, h4, h5⟩ := h.ex
  exact ⟨⟨PL, PR, h1.fr hF (by simp), h2.fr hF (by simp), h3, fun x hx => by have q := h4 x hx; have := hF.size; exact ⟨q.1, q.2.1, by omega⟩, fun x hx => by have q := h5 x hx; have := hF.size; exact ⟨q.1, q.2.1, by omega⟩⟩, h.fr.trans hF (by simp), fun x hx => Nat.lt_of_lt_of_le (h.kK x hx) hF.size⟩
theorem Ac.less (h : Ac W w K c B M BR MR rows rowsR n R RI) (hK : ∀ x, K' x → K x) : Ac W w K' c B M BR MR rows rowsR n R RI := by
  obtain ⟨PL, PR, h1, h2, h3, h4, h5⟩ := h.ex
  exact ⟨⟨PL, PR, h1, h2, h3, fun x hx => ⟨(h4 x hx).1, fun hk => (h4 x hx).2.1 (hK x hk), (h4 x hx).2.2⟩, fun x hx => ⟨(h5 x hx).1, fun hk => (h5 x hx).2.1 (hK x hk), (h5 x hx).2.2⟩⟩, h.fr, fun x hx => h.kK x (hK x hx)⟩
theorem Ac.new (h : Ac W w K c B M BR MR rows rowsR n R RI) (o : Obj) : Ac W (w.alloc o) (fun x => K x ∨ x = w.heap.size) c B M BR MR rows rowsR n R RI := by
  obtain ⟨PL, PR, h1, h2, h3, h4, h5⟩ := h.ex
  have hF := (Fr.refl [] w).alloc o
  have hs : (w.alloc o).heap.size = w.heap.size + 1 := by show (w.heap.push _).size = _; simp
  refine ⟨⟨PL, PR, h1.fr hF (by simp), h2.fr hF (by simp), h3, fun x hx => ?_, fun x hx => ?_⟩, h.fr.trans hF (by simp), fun x hx => ?_⟩
  · have := h4 x hx
    exact ⟨this.1, fun hk => hk.elim this.2.1 (by omega), by omega⟩
  · have := h5 x hx
    exact ⟨this.1, fun hk => hk.elim this.2.1 (by omega), by omega⟩
  · rcases hx with e | e
    · have := h.kK x e; omega
    · omega
theorem Ac.frK {S : List Nat} (h : Ac W w K c B M BR MR rows rowsR n R RI) (hF : Fr S w w') (hS : ∀ x ∈ S, K x ∧ W.heap.size ≤ x) : Ac W w' K c B M BR MR rows rowsR n R RI := by
  obtain ⟨PL, PR, h1, h2, h3, h4, h5⟩ := h.ex
  exact ⟨⟨PL, PR, h1.fr hF (fun x hx hp => (h4 x hp).2.1 (hS x hx).1), h2.fr hF (fun x hx hp => (h5 x hp).2.1 (hS x hx).1), h3, fun x hx => by have q := h4 x hx; have := hF.size; exact ⟨q.1, q.2.1, by omega⟩, fun x hx => by have q := h5 x hx; have := hF.size; exact ⟨q.1, q.2.1, by omega⟩⟩, h.fr.trans hF (fun x hx => .inr (hS x hx).2), fun x hx => Nat.lt_of_lt_of_le (h.kK x hx) hF.size⟩
theorem Ac.more {n' : Nat} (h : Ac W w K c B M BR MR rows rowsR n R RI) (hn : n ≤ n') : Ac W w K c B M BR MR rows rowsR n' R RI := by
  obtain ⟨PL, PR, h1, h2, h3⟩ := h.ex
  exact ⟨⟨PL, PR, h1.more hn, h2.more hn, h3⟩, h.fr, h.kK⟩
/-- a call upon the log: what stands behind it -/
theorem Ac.left {PL PR : Nat → Prop} {rows' : List (Nat × Row)} {n' : Nat} {R' : Int → Row} (hn : n ≤ n') (hW0 : W.heap.size ≤ w.heap.size) (h2 : RefS w PR BR MR c rowsR n RI) (h3 : ∀ x, PL x → ¬ PR x) (h4 : ∀ x, PL x → W.heap.size ≤ x ∧ ¬ K x ∧ x < w.heap.size) (h5 : ∀ x, PR x → W.heap.size ≤ x ∧ ¬ K x ∧ x < w.heap.size) (hf : Fr [] W w) (hk : ∀ x, K x → x < w.heap.size)
    (hl : LogS w' (fun x => PL x ∨ w.heap.size ≤ x) B M c rows' n' R') (hW : Wr (fun x => PL x ∨ w.heap.size ≤ x) w w') : Ac W w' K c B M BR MR rows' rowsR n' R' RI ∧ Kp K w w' := by
  have hsz := hW.size
  have hF' := Wr.fr (B := W.heap.size) (by obtain ⟨S, h8, h9⟩ := hW; exact ⟨S, fun x hx => (h8 x hx).elim (fun e => (h4 x e).1) (fun e => by omega), h9⟩) hf (Nat.le_refl _)
  obtain ⟨S, h8, h9⟩ := hW
  refine ⟨⟨⟨_, PR, hl.there, (h2.fr h9 (fun x hx hp => (h8 x hx).elim (fun e => h3 x e hp) (fun e => by have := (h5 x hp).2.2; omega))).more hn, fun x hx hp => hx.1.elim (fun e => h3 x e hp) (fun e => by have := (h5 x hp).2.2; omega), fun x hx => ?_, fun x hx => ⟨(h5 x hx).1, (h5 x hx).2.1, by have := (h5 x hx).2.2; omega⟩⟩, hF', fun x hx => by have := hk x hx; omega⟩, S, fun x hx hkx => (h8 x hx).elim (fun e => (h4 x e).2.1 hkx) (fun e => by have := hk x hkx; omega), h9⟩
  rcases hx.1 with e | e
  · exact ⟨(h4 x e).1, (h4 x e).2.1, hx.2⟩
  · exact ⟨by omega, fun hkx => by have := hk x hkx; omega, hx.2⟩
/-- a call upon the reference's log -/
theorem Ac.right {PL PR : Nat → Prop} {rows' : List (Nat × Row)} {n' : Nat} {RI' : Int → Row} (hn : n ≤ n') (hW0 : W.heap.size ≤ w.heap.size) (h2 : LogS w PL B M c rows n R) (h3 : ∀ x, PL x → ¬ PR x) (h4 : ∀ x, PL x → W.heap.size ≤ x ∧ ¬ K x ∧ x < w.heap.size) (h5 : ∀ x, PR x → W.heap.size ≤ x ∧ ¬ K x ∧ x < w.heap.size) (hf : Fr [] W w) (hk : ∀ x, K x → x < w.heap.size)
    (hl : RefS w' (fun x => PR x ∨ w.heap.size ≤ x) BR MR c rows' n' RI') (hW : Wr (fun x => PR x ∨ w.heap.size ≤ x) w w') : Ac W w' K c B M BR MR rows rows' n' R RI' ∧ Kp K w w' := by
  have hsz := hW.size
  have hF' := Wr.fr (B := W.heap.size) (by obtain ⟨S, h8, h9⟩ := hW; exact ⟨S, fun x hx => (h8 x hx).elim (fun e => (h5 x e).1) (fun e => by omega), h9⟩) hf (Nat.le_refl _)
  obtain ⟨S, h8, h9⟩ := hW
  refine ⟨⟨⟨PL, _, (h2.fr h9 (fun x hx hp => (h8 x hx).elim (fun e => h3 x hp e) (fun e => by have := (h4 x hp).2.2; omega))).more hn, hl.there, fun x hp hx => hx.1.elim (fun e => h3 x hp e) (fun e => by have := (h4 x hp).2.2; omega), fun x hx => ⟨(h4 x hx).1, (h4 x hx).2.1, by have := (h4 x hx).2.2; omega⟩, fun x hx => ?_⟩, hF', fun x hx => by have := hk x hx; omega⟩, S, fun x hx hkx => (h8 x hx).elim (fun e => (h5 x e).2.1 hkx) (fun e => by have := hk x hkx; omega), h9⟩
  rcases hx.1 with e | e
  · exact ⟨(h5 x e).1, (h5 x e).2.1, hx.2⟩
  · exact ⟨by omega, fun hkx => by have := hk x hkx; omega, hx.2⟩
theorem Ac.off1 (h : Ac W w K c B M BR MR rows rowsR n R RI) (hn : n ≤ 1000000) (s f b x y : Int) : Calls Try.prog 27 #[.pointer (some ⟨B, 0, none⟩), .int .i64 s, .int .i64 f, .agg #[.int .i64 b, .int .i64 x, .int .i64 y]] w fun e w' => e = .returned (.int .i64 (offerK c.pl c.fr rows.length R s f b x y)) ∧ Ac W w' K c B M BR MR rows rowsR (n + 1) (offerR c.pl c.fr rows.length R s f b x y) RI ∧ Kp K w w' := by
  obtain ⟨PL, PR, h1, h2, h3, h4, h5⟩ := h.ex
  refine (off_s (h1.wider (Q := fun x => PL x ∨ w.heap.size ≤ x) (fun x hx => .inl hx)) hn (fun x hx => .inr hx) s f b x y).mono ?_
  rintro e w' ⟨rfl, hl, hW⟩
  exact ⟨rfl, Ac.left (Nat.le_succ _) h.fr.size h2 h3 h4 h5 h.fr h.kK hl hW⟩
theorem Ac.off2 (h : Ac W w K c B M BR MR rows rowsR n R RI) (hn : n ≤ 1000000) (s f b x y : Int) : Calls Try.prog 34 #[.pointer (some ⟨BR, 0, none⟩), .int .i64 s, .int .i64 f, .agg #[.int .i64 b, .int .i64 x, .int .i64 y]] w fun e w' => e = .returned (.int .i64 (offerK c.pl c.fr rowsR.length RI s f b x y)) ∧ Ac W w' K c B M BR MR rows rowsR (n + 1) R (offerR c.pl c.fr rowsR.length RI s f b x y) ∧ Kp K w w' := by
  obtain ⟨PL, PR, h1, h2, h3, h4, h5⟩ := h.ex
  obtain ⟨tk, cnt, h6, h7, rfl⟩ := (h2.wider (Q := fun x => PR x ∨ w.heap.size ≤ x) (fun x hx => .inl hx)).ex
  refine (roffer_any h6 (by omega) (fun x hx => .inr hx) s f b x y).mono ?_
  rintro e w' ⟨tk', cnt', rfl, hl, hW, hc, hR⟩
  exact ⟨rfl, Ac.right (Nat.le_succ _) h.fr.size h1 h3 h4 h5 h.fr h.kK ⟨tk', cnt', hl, by omega, hR⟩ hW⟩
theorem Ac.tick1 (h : Ac W w K c B M BR MR rows rowsR n R RI) (t : Int) : Calls Try.prog 23 #[.pointer (some ⟨B, 0, none⟩), .int .i64 t] w fun e w' => ∃ rows', e = .returned (.int .i64 rows'.length) ∧ (Ac W w' K c B M BR MR (rows ++ rows') rowsR n (tickR R (rows.length + rows'.length)) RI ∧ Kp K w w') ∧ (∀ i r, rows'[i]? = some r → r.2 = R (rows.length + i : Nat)) ∧ (∀ i : Nat, i < rows'.length → dl c (rows.length + i : Nat) ≤ t) ∧ (rows.length + rows'.length = c.fr ∨ t < dl c (rows.length + rows'.length : Nat)) ∧ rows.length + rows'.length ≤ c.fr := by
  obtain ⟨PL, PR, h1, h2, h3, h4, h5⟩ := h.ex
  refine (tick_s (h1.wider (Q := fun x => PL x ∨ w.heap.size ≤ x) (fun x hx => .inl hx)) (fun x hx => .inr hx) t).mono ?_
  rintro e w' ⟨rows', rfl, hl, hW, k1, k2, k3⟩
  exact ⟨rows', rfl, Ac.left (Nat.le_refl _) h.fr.size h2 h3 h4 h5 h.fr h.kK hl hW, k1, k2, k3, by have := hl.len; rwa [List.length_append] at this⟩
theorem Ac.tick2 (h : Ac W w K c B M BR MR rows rowsR n R RI) (t : Int) : Calls Try.prog 33 #[.pointer (some ⟨BR, 0, none⟩), .int .i64 t] w fun e w' => ∃ rows', e = .returned (.int .i64 rows'.length) ∧ (Ac W w' K c B M BR MR rows (rowsR ++ rows') n R RI ∧ Kp K w w') ∧ (∀ i r, rows'[i]? = some r → r.2 = RI (rowsR.length + i : Nat)) ∧ (∀ i : Nat, i < rows'.length → dl c (rowsR.length + i : Nat) ≤ t) ∧ (rowsR.length + rows'.length = c.fr ∨ t < dl c (rowsR.length + rows'.length : Nat)) ∧ rowsR.length + rows'.length ≤ c.fr := by
  obtain ⟨PL, PR, h1, h2, h3, h4, h5⟩ := h.ex
  obtain ⟨tk, cnt, h6, h7, rfl⟩ := (h2.wider (Q := fun x => PR x ∨ w.heap.size ≤ x) (fun x hx => .inl hx)).ex
  refine (rtick_any h6 (fun x hx => .inr hx) t).mono ?_
  rintro e w' ⟨rows', rfl, hl, hW, k1, k2, k3⟩
  exact ⟨rows', rfl, Ac.right (Nat.le_refl _) h.fr.size h1 h3 h4 h5 h.fr h.kK ⟨tk, cnt, hl, h7, rfl⟩ hW, k1, k2, k3, by have := hl.len; rwa [List.length_append] at this⟩
theorem Ac.log (h : Ac W w K c B M BR MR rows rowsR n R RI) : ∃ PL, LogS w PL B M c rows n R := by
  obtain ⟨PL, PR, h1, h2, h3, h4, h5⟩ := h.ex
  exact ⟨PL, h1⟩
theorem Ac.ref (h : Ac W w K c B M BR MR rows rowsR n R RI) : ∃ PR tk cnt, HasRL w PR BR MR c rowsR tk cnt ∧ rowOf tk = RI := by
  obtain ⟨PL, PR, h1, h2, h3, h4, h5⟩ := h.ex
  obtain ⟨tk, cnt, h6, h7, h8⟩ := h2.ex
  exact ⟨PR, tk, cnt, h6, h8⟩
end
/-- both tell the same -/
structure Eqv (rows rowsR : List (Nat × Row)) (R RI : Int → Row) : Prop where
  same : rows.map (·.2) = rowsR.map (·.2)
  rest : ∀ x : Int, (rows.length : Int) ≤ x → R x = RI x
section
variable {rows rowsR : List (Nat × Row)} {R RI : Int → Row} {pl fr : Nat} {s f b x y : Int} {c : CfV}
theorem Eqv.len (h : Eqv rows rowsR R RI) : rows.length = rowsR.length := by have := congrArg List.length h.same; simpa using this
theorem Eqv.at (h : Eqv rows rowsR R RI) (k : Nat) : rowAt rows k = rowAt rowsR k := by
  have h1 : (rows.map (·.2))[k]? = (rowsR.map (·.2))[k]? := by rw [h.same]
  unfold rowAt
  rw [List.getD_eq_getElem?_getD, List.getD_eq_getElem?_getD]
  rw [List.getElem?_map, List.getElem?_map] at h1
  cases e1 : rows[k]? <;> cases e2 : rowsR[k]? <;> rw [e1, e2] at h1 <;> simp at h1 ⊢
  exact h1
theorem Eqv.offK (h : Eqv rows rowsR R RI) : offerK pl fr rows.length R s f b x y = offerK pl fr rowsR.length RI s f b x y := by
  unfold offerK
  rw [← h.len]
  by_cases h1 : 0 ≤ s ∧ s < pl ∧ 0 ≤ f ∧ f < fr ∧ inB b x y = true
  · by_cases h2 : f < rows.length
    · rw [if_neg (by simpa using h1), if_pos h2, if_neg (by simpa using h1), if_pos h2]
    · rw [h.rest f (by omega)]
  · rw [if_pos h1, if_pos h1]
theorem offK_one {L : Nat} (h : offerK pl fr L R s f b x y = 1) : (L : Int) ≤ f := by
  unfold offerK at h
  by_cases h1 : ¬ (0 ≤ s ∧ s < pl ∧ 0 ≤ f ∧ f < fr ∧ inB b x y = true)
  · rw [if_pos h1] at h; exact absurd h (by decide)
  · rw [if_neg h1] at h
    by_cases h2 : f < L
    · rw [if_pos h2] at h; exact absurd h (by decide)
    · omega
theorem Eqv.off (h : Eqv rows rowsR R RI) : Eqv rows rowsR (offerR pl fr rows.length R s f b x y) (offerR pl fr rowsR.length RI s f b x y) := by
  refine ⟨h.same, fun z hz => ?_⟩
  by_cases hk : offerK pl fr rows.length R s f b x y = 1
  · rw [offerR_put hk, offerR_put (h.offK ▸ hk)]
    dsimp only
    rw [h.rest f (offK_one hk), h.rest z hz]
  · rw [offerR_same hk, offerR_same (h.offK ▸ hk)]
    exact h.rest z hz
theorem due_one {L n1 n2 : Nat} {t : Int} (d1 : ∀ i : Nat, i < n1 → dl c (L + i : Nat) ≤ t) (d2 : ∀ i : Nat, i < n2 → dl c (L + i : Nat) ≤ t) (e1 : L + n1 = c.fr ∨ t < dl c (L + n1 : Nat)) (e2 : L + n2 = c.fr ∨ t < dl c (L + n2 : Nat)) (l1 : L + n1 ≤ c.fr) (l2 : L + n2 ≤ c.fr) : n1 = n2 := by
  rcases Nat.lt_trichotomy n1 n2 with h | h | h
  · have := d2 n1 h; omega
  · exact h
  · have := d1 n2 h; omega
theorem Eqv.tick (h : Eqv rows rowsR R RI) {r1 r2 : List (Nat × Row)} {t : Int} (g1 : ∀ i r, r1[i]? = some r → r.2 = R (rows.length + i : Nat)) (g2 : ∀ i r, r2[i]? = some r → r.2 = RI (rowsR.length + i : Nat))
    (d1 : ∀ i : Nat, i < r1.length → dl c (rows.length + i : Nat) ≤ t) (d2 : ∀ i : Nat, i < r2.length → dl c (rowsR.length + i : Nat) ≤ t) (e1 : rows.length + r1.length = c.fr ∨ t < dl c (rows.length + r1.length : Nat)) (e2 : rowsR.length + r2.length = c.fr ∨ t < dl c (rowsR.length + r2.length : Nat)) (l1 : rows.length + r1.length ≤ c.fr) (l2 : rowsR.length + r2.length ≤ c.fr) :
    r1.length = r2.length ∧ Eqv (rows ++ r1) (rowsR ++ r2) (tickR R (rows.length + r1.length)) RI := by
  rw [← h.len] at g2 d2 e2 l2
  have hn := due_one d1 d2 e1 e2 l1 l2
  refine ⟨hn, ⟨?_, fun z hz => ?_⟩⟩
  · rw [List.map_append, List.map_append, h.same]
    congr 1
    apply List.ext_getElem?
    intro i
    rw [List.getElem?_map, List.getElem?_map]
    by_cases hi : i < r1.length
    · have q1 := g1 i _ (List.getElem?_eq_getElem hi)
      have q2 := g2 i _ (List.getElem?_eq_getElem (show i < r2.length by omega))
      rw [List.getElem?_eq_getElem hi, List.getElem?_eq_getElem (show i < r2.length by omega)]
      simp only [Option.map_some, q1, q2]
      rw [h.rest _ (by omega)]
    · rw [List.getElem?_eq_none (by omega), List.getElem?_eq_none (by omega)]
  · rw [List.length_append] at hz
    unfold tickR
    rw [if_neg (by omega)]
    exact h.rest z (by omega)
theorem Eqv.wait (h : Eqv rows rowsR R RI) : waitR R rows.length pl = waitR RI rowsR.length pl := by
  unfold waitR
  rw [← h.len]
  congr 1
  exact List.map_congr_left fun i _ => by rw [h.rest _ (by omega)]
end
end Go.Proofs.Ytckodnogjedmnaa.Lo
