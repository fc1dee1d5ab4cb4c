/- chapter 18: two logs, side by side, apart from what K tells. -/
import Derived.Test.YtckodnogjedmnaaOrP
import Derived.Test.YtckodnogjedmnaaSo
namespace Dt
open Go Go.RowKit
set_option linter.unusedVariables false
/-- the elements of what is owned, up to j -/
theorem own_upto {w : World} {base n cap j sz : Nat} {e : TypeId} {a : Option Addr} {xs : List Value} (h : w.ownsRow base e sz (.slice a n cap) n xs) (h3 : ∀ u ∈ xs, u.oneCell' = true) (hj : j ≤ n) : Src w (sliced a 0 j cap sz) sz j (xs.take (j * sz)) := by
  rcases h.2 with ⟨hv, h0⟩ | ⟨g, cap', cur, hv, hb, hg, hc, hm, hs, ht⟩
  · have : a = none ∧ n = 0 ∧ cap = 0 := by simpa using hv
    obtain ⟨rfl, rfl, rfl⟩ := this
    have : j = 0 := by omega
    subst this
    rw [Nat.zero_mul, List.take_zero]
    exact Src.nil w sz none 0 (fun _ => rfl)
  · have : a = some ⟨g, 0, none⟩ ∧ cap = cap' := by simpa using hv
    obtain ⟨rfl, rfl⟩ := this
    have h4 := own_piece (lo := 0) (hi := j) h (Nat.zero_le _) hj h3 (if cap = 0 then ⟨g, 0, none⟩ else ⟨g, 0 * sz, none⟩) (fun _ => by rw [Nat.zero_mul]; split <;> rfl) cap
    have e1 : sliced (some ⟨g, 0, none⟩) 0 j cap sz = .slice (some (if cap = 0 then ⟨g, 0, none⟩ else ⟨g, 0 * sz, none⟩)) (j - 0) cap := by
      unfold sliced
      by_cases c : cap = 0
      · rw [if_pos c, if_pos c]; rfl
      · rw [if_neg c, if_neg c]; simp [Addr.add_mid']
    rw [e1]
    simpa using h4
end Dt
namespace Go.Proofs.Ytckodnogjedmnaa.Lo
open Go.RowKit Dt Go.Proofs.Ytckodnogjedmnaa.Hd Go.Proofs.Ytckodnogjedmnaa.Cfg Go.Proofs.Ytckodnogjedmnaa.Jt
set_option linter.unusedVariables false
set_option linter.unusedSimpArgs false
structure Ad (W w : World) (K : Nat → Prop) (c : CfV) (A MA B MB : Nat) (rA rB : List (Nat × Row)) (n : Nat) (RA RB : Int → Row) : Prop where
  ex : ∃ PL PR : Nat → Prop, LogS w PL A MA c rA n RA ∧ LogS w PR B MB c rB n RB ∧ (∀ x, PL x → ¬ PR x) ∧ (∀ x, PL x → W.heap.size ≤ x ∧ ¬ K x ∧ x < w.heap.size) ∧ (∀ x, PR x → W.heap.size ≤ x ∧ ¬ K x ∧ x < w.heap.size)
  fr : Fr [] W w
  kK : ∀ x, K x → x < w.heap.size
def Kd (K : Nat → Prop) (w w' : World) : Prop := ∃ S, (∀ x ∈ S, ¬ K x) ∧ Fr S w w'
theorem Kd.blk {K : Nat → Prop} {w w' : World} {b : Nat} {vs : Array Value} {T : TypeId} (h : Kd K w w') (k : Blk w b vs T) (hK : K b) : Blk w' b vs T := by
  obtain ⟨S, h1, h2⟩ := h
  exact h2.blk k (fun hx => h1 b hx hK)
theorem Kd.own {K : Nat → Prop} {w w' : World} {base e sz n : Nat} {v : Value} {xs : List Value} (h : Kd K w w') (k : w.ownsRow base e sz v n xs) (hK : ∀ b, v.ownBlock = some b → K b) : w'.ownsRow base e sz v n xs := by
  obtain ⟨S, h1, h2⟩ := h
  exact own_keep k h2 (fun b hb hx => h1 b hx (hK b hb))
section
variable {W w w' : World} {K K' : Nat → Prop} {c : CfV} {A MA B MB n : Nat} {rA rB : List (Nat × Row)} {RA RB : Int → Row}
theorem Ad.swap (h : Ad W w K c A MA B MB rA rB n RA RB) : Ad W w K c B MB A MA rB rA n RB RA := by
  obtain ⟨PL, PR, h1, h2, h3, h4, h5⟩ := h.ex
  exact ⟨⟨PR, PL, h2, h1, fun x hx hp => h3 x hp hx, h5, h4⟩, h.fr, h.kK⟩
theorem Ad.frK {S : List Nat} (h : Ad W w K c A MA B MB rA rB n RA RB) (hF : Fr S w w') (hS : ∀ x ∈ S, K x ∧ W.heap.size ≤ x) : Ad W w' K c A MA B MB rA rB n RA RB := by
  obtain ⟨PL, PR, h1, h2, h3, h4, h5⟩ := h.ex
  exact ⟨⟨PL, PR, h1.fr hF (fun x hx hp => (h4 x hp).2.1 (hS x hx).1), h2.fr hF (fun x hx hp => (h5 x hp).2.1 (hS x hx).1), h3, fun x hx => by have q := h4 x hx; have := hF.size; exact ⟨q.1, q.2.1, by omega⟩, fun x hx => by have q := h5 x hx; have := hF.size; exact ⟨q.1, q.2.1, by omega⟩⟩, h.fr.trans hF (fun x hx => .inr (hS x hx).2), fun x hx => Nat.lt_of_lt_of_le (h.kK x hx) hF.size⟩
theorem Ad.fr0 (h : Ad W w K c A MA B MB rA rB n RA RB) (hF : Fr [] w w') : Ad W w' K c A MA B MB rA rB n RA RB := h.frK hF (by simp)
/-- new blocks are others' -/
theorem Ad.addK {S : List Nat} (h : Ad W w K c A MA B MB rA rB n RA RB) (hF : Fr S w w') (hS : ∀ x ∈ S, K x ∧ W.heap.size ≤ x) : Ad W w' (fun x => K x ∨ (w.heap.size ≤ x ∧ x < w'.heap.size)) c A MA B MB rA rB n RA RB := by
  have h' := h.frK hF hS
  obtain ⟨PL, PR, -, -, -, h4, h5⟩ := h.ex
  obtain ⟨PL, PR, h1, h2, h3, h4, h5⟩ := h.ex
  exact ⟨⟨PL, PR, h1.fr hF (fun x hx hp => (h4 x hp).2.1 (hS x hx).1), h2.fr hF (fun x hx hp => (h5 x hp).2.1 (hS x hx).1), h3, fun x hx => by have q := h4 x hx; have := hF.size; exact ⟨q.1, fun hk => hk.elim q.2.1 (fun hk => by omega), by omega⟩, fun x hx => by have q := h5 x hx; have := hF.size; exact ⟨q.1, fun hk => hk.elim q.2.1 (fun hk => by omega), by omega⟩⟩, h'.fr, fun x hx => hx.elim (fun hk => Nat.lt_of_lt_of_le (h.kK x hk) hF.size) (fun hk => hk.2)⟩
theorem Ad.less (h : Ad W w K c A MA B MB rA rB n RA RB) (hK : ∀ x, K' x → K x) : Ad W w K' c A MA B MB rA rB n RA RB := by
  obtain ⟨PL, PR, h1, h2, h3, h4, h5⟩ := h.ex
  exact ⟨⟨PL, PR, h1, h2, h3, fun x hx => ⟨(h4 x hx).1, fun hk => (h4 x hx).2.1 (hK x hk), (h4 x hx).2.2⟩, fun x hx => ⟨(h5 x hx).1, fun hk => (h5 x hx).2.1 (hK x hk), (h5 x hx).2.2⟩⟩, h.fr, fun x hx => h.kK x (hK x hx)⟩
theorem LogS.upto {w : World} {P : Nat → Prop} {B M n n' : Nat} {c : CfV} {rows : List (Nat × Row)} {R : Int → Row} (h : LogS w P B M c rows n R) (hn : n ≤ n') : LogS w P B M c rows n' R := by
  obtain ⟨tk, cnt, h1, h2, h3⟩ := h.ex
  exact ⟨tk, cnt, h1, by omega, h3⟩
/-- a call upon the one log -/
theorem Ad.left {PL PR : Nat → Prop} {rA' : List (Nat × Row)} {n' : Nat} {R' : Int → Row} (hn : n ≤ n') (hW0 : W.heap.size ≤ w.heap.size) (h2 : LogS w PR B MB c rB n RB) (h3 : ∀ x, PL x → ¬ PR x) (h4 : ∀ x, PL x → W.heap.size ≤ x ∧ ¬ K x ∧ x < w.heap.size) (h5 : ∀ x, PR x → W.heap.size ≤ x ∧ ¬ K x ∧ x < w.heap.size) (hf : Fr [] W w) (hk : ∀ x, K x → x < w.heap.size)
    (hl : LogS w' (fun x => PL x ∨ w.heap.size ≤ x) A MA c rA' n' R') (hW : Wr (fun x => PL x ∨ w.heap.size ≤ x) w w') : Ad W w' K c A MA B MB rA' rB n' R' RB ∧ Kd K w w' := by
  have hsz := hW.size
  have hF' := Wr.fr (B := W.heap.size) (by obtain ⟨S, h8, h9⟩ := hW; exact ⟨S, fun x hx => (h8 x hx).elim (fun e => (h4 x e).1) (fun e => by omega), h9⟩) hf (Nat.le_refl _)
  obtain ⟨S, h8, h9⟩ := hW
  refine ⟨⟨⟨_, PR, hl.there, (h2.fr h9 (fun x hx hp => (h8 x hx).elim (fun e => h3 x e hp) (fun e => by have := (h5 x hp).2.2; omega))).upto hn, fun x hx hp => hx.1.elim (fun e => h3 x e hp) (fun e => by have := (h5 x hp).2.2; omega), fun x hx => ?_, fun x hx => ⟨(h5 x hx).1, (h5 x hx).2.1, by have := (h5 x hx).2.2; omega⟩⟩, hF', fun x hx => by have := hk x hx; omega⟩, S, fun x hx hkx => (h8 x hx).elim (fun e => (h4 x e).2.1 hkx) (fun e => by have := hk x hkx; omega), h9⟩
  rcases hx.1 with e | e
  · exact ⟨(h4 x e).1, (h4 x e).2.1, hx.2⟩
  · exact ⟨by omega, fun hkx => by have := hk x hkx; omega, hx.2⟩
theorem Ad.off (h : Ad W w K c A MA B MB rA rB n RA RB) (hn : n ≤ 1000000) (s f b x y : Int) : Calls Try.prog 27 #[.pointer (some ⟨A, 0, none⟩), .int .i64 s, .int .i64 f, .agg #[.int .i64 b, .int .i64 x, .int .i64 y]] w fun e w' => e = .returned (.int .i64 (offerK c.pl c.fr rA.length RA s f b x y)) ∧ Ad W w' K c A MA B MB rA rB (n + 1) (offerR c.pl c.fr rA.length RA s f b x y) RB ∧ Kd K w w' := by
  obtain ⟨PL, PR, h1, h2, h3, h4, h5⟩ := h.ex
  refine (off_s (h1.wider (Q := fun x => PL x ∨ w.heap.size ≤ x) (fun x hx => .inl hx)) hn (fun x hx => .inr hx) s f b x y).mono ?_
  rintro e w' ⟨rfl, hl, hW⟩
  exact ⟨rfl, Ad.left (Nat.le_succ _) h.fr.size h2 h3 h4 h5 h.fr h.kK hl hW⟩
theorem Ad.tick (h : Ad W w K c A MA B MB rA rB n RA RB) (t : Int) : Calls Try.prog 23 #[.pointer (some ⟨A, 0, none⟩), .int .i64 t] w fun e w' => ∃ rows', e = .returned (.int .i64 rows'.length) ∧ (Ad W w' K c A MA B MB (rA ++ rows') rB n (tickR RA (rA.length + rows'.length)) RB ∧ Kd K w w') ∧ (∀ i r, rows'[i]? = some r → r.2 = RA (rA.length + i : Nat)) ∧ (rA.length + rows'.length = c.fr ∨ t < dl c (rA.length + rows'.length : Nat)) ∧ rA.length + rows'.length ≤ c.fr := by
  obtain ⟨PL, PR, h1, h2, h3, h4, h5⟩ := h.ex
  refine (tick_s (h1.wider (Q := fun x => PL x ∨ w.heap.size ≤ x) (fun x hx => .inl hx)) (fun x hx => .inr hx) t).mono ?_
  rintro e w' ⟨rows', rfl, hl, hW, k1, k2, k3⟩
  exact ⟨rows', rfl, Ad.left (Nat.le_refl _) h.fr.size h2 h3 h4 h5 h.fr h.kK hl hW, k1, k3, by have := hl.len; rwa [List.length_append] at this⟩
theorem Ad.log (h : Ad W w K c A MA B MB rA rB n RA RB) : ∃ PL, LogS w PL A MA c rA n RA := by
  obtain ⟨PL, PR, h1, h2, h3, h4, h5⟩ := h.ex
  exact ⟨PL, h1⟩
/-- a tick that is late enough seals all -/
theorem Ad.all (h : Ad W w K c A MA B MB [] rB n RA RB) : Calls Try.prog 23 #[.pointer (some ⟨A, 0, none⟩), .int .i64 1000000] w fun e w' => e = .returned (.int .i64 c.fr) ∧ ∃ rows', (Ad W w' K c A MA B MB rows' rB n (tickR RA c.fr) RB ∧ Kd K w w') ∧ (∀ i r, rows'[i]? = some r → r.2 = RA (i : Nat)) ∧ rows'.length = c.fr := by
  have hN : CfN c := by obtain ⟨PL, hl⟩ := h.log; exact hl.cf
  refine (h.tick 1000000).mono ?_
  rintro e w' ⟨rows', rfl, hA, h1, h2, h3⟩
  simp only [List.length_nil, Nat.zero_add, List.nil_append] at hA h1 h2 h3
  have hl : rows'.length = c.fr := by
    rcases h2 with h2 | h2
    · exact h2
    · have g1 := hN.gr; have g2 := hN.st; have g3 := hN.per8; have g4 := hN.fr6
      unfold dl at h2
      have g5 : (rows'.length : Int) * (c.per : Int) ≤ 600 * 8 := Int.mul_le_mul (by omega) (by omega) (by omega) (by omega)
      omega
  rw [hl] at hA
  exact ⟨by rw [hl], rows', hA, h1, hl⟩
end
end Go.Proofs.Ytckodnogjedmnaa.Lo
