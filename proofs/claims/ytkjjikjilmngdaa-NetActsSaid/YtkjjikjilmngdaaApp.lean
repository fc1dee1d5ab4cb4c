/- append onto a slice of the call's own, whatever the source; the source told by its cells. -/
import Derived.Test.YtkjjikjilmngdaaFr
import Derived.Deep.AppendLies
import Derived.Laws.OwnMore
import Derived.OwnWalk
namespace Dt
open Go Go.RowKit
set_option linter.unusedVariables false

theorem Addr.add_mid' (b o j : Nat) : (⟨b, o, none⟩ : Addr).add j = ⟨b, o + j, none⟩ := by unfold Addr.add; split <;> simp_all
/-- a slice value of 'm' elements of 'sz' cells: its cells -/
structure Src (w : World) (sv : Value) (sz m : Nat) (news : List Value) : Prop where
  ex : ∃ a c, sv = .slice a m c ∧ (a = none → m = 0 ∧ c = 0) ∧ (∀ ad, a = some ad → ∀ j u, news[j]? = some u → w.cell? (ad.add j) = some u)
  len : news.length = m * sz
  one : ∀ u ∈ news, u.oneCell' = true

section
variable {P : Program} (w : World)
theorem run_append_src (t ty : TypeId) (base : Nat) (e : TypeId) (i : TypeInfo) (z : Value) (size bytes : Nat) (ht : P.underlying t = some (.slice e)) (hi : P.info? e = some i) (hz : i.zero = some z)
    (hsize : i.size = size) (hby : i.bytes = bytes) (hzs : z.cells.size = size) (hsz : 0 < size)
    (v sv : Value) (n m : Nat) (xs news : List Value) (hown : w.ownsRow base e size v n xs) (hsrc : Src w sv size m news)
    (h63 : n + m ≤ maxLen) (hbytes : (n + m) * bytes ≤ 140737488355328) (hbase : base ≤ w.heap.size) :
    ∃ v' w', (Builtin.append_ #[t, t] ty #[v, sv]).run P w = .ok v' w' ∧
      w'.ownsRow base e size v' (n + m) (xs ++ news) ∧ w.grownBy w' v.ownBlock ∧ (v'.ownBlock = v.ownBlock ∨ v'.ownBlock = some w.heap.size) := by
  obtain ⟨⟨a, c, rfl, hn, hc⟩, hl, h1⟩ := hsrc
  cases a with
  | none =>
    obtain ⟨rfl, rfl⟩ := hn rfl
    have hnil : news = [] := List.eq_nil_of_length_eq_zero (by simpa using hl)
    subst hnil
    refine ⟨v, w, run_append_owned_none (P := P) w base t ty e i size ht hi v n xs hown, by simpa using hown, World.grownBy.refl _ _, .inl rfl⟩
  | some ad =>
    obtain ⟨v', w', hr, h2, h3, _, h5⟩ := run_append_own_at (P := P) w base t ty e i z size bytes ht hi hz hsize hby hzs hsz v n xs hown ad m c news hl (hc ad rfl) h1 h63 hbytes hbase
    exact ⟨v', w', hr, h2, h3, h5⟩
theorem wp_append_src {o : Oper} {a : Act} {K : Act → World → Prop} {Q : Exit → Act → World → Prop} (s x : Operand) (t : TypeId)
    (ho : o.op = .call { callee := .builtin .append, args := #[s, x], argTypes := #[t, t] })
    (base : Nat) (e : TypeId) (i : TypeInfo) (z : Value) (size bytes : Nat) (ht : P.underlying t = some (.slice e)) (hi : P.info? e = some i) (hz : i.zero = some z)
    (hsize : i.size = size) (hby : i.bytes = bytes) (hzs : z.cells.size = size) (hsz : 0 < size)
    (v sv : Value) (n m : Nat) (xs news : List Value) (hs : a.eval s = v) (hx : a.eval x = sv) (hown : w.ownsRow base e size v n xs) (hsrc : Src w sv size m news)
    (h63 : n + m ≤ maxLen) (hbytes : (n + m) * bytes ≤ 140737488355328) (hbase : base ≤ w.heap.size)
    (h : ∀ v' w', w'.ownsRow base e size v' (n + m) (xs ++ news) → w.grownBy w' v.ownBlock → (v'.ownBlock = v.ownBlock ∨ v'.ownBlock = some w.heap.size) → K (a.put o.dst v') w') : o.wp P a w K Q := by
  obtain ⟨v', w', hr, h2, h3, h4⟩ := run_append_src (P := P) w t o.type base e i z size bytes ht hi hz hsize hby hzs hsz v sv n m xs news hown hsrc h63 hbytes hbase
  unfold Oper.wp execOp
  simp only [ho, resolve, invoke, builtin, Sem.run_bind, Sem.run_pure, Result.andThen_ok, List.map_toArray, List.map_cons, List.map_nil, hs, hx, hr]
  exact h v' w' h2 h3 h4
theorem wpList_append_src {ops : Array Oper} {rest : List Oper} {o : Oper} {a : Act} {Q : Exit → Act → World → Prop} (hgd : o.guard = none) (s x : Operand) (t : TypeId)
    (ho : o.op = .call { callee := .builtin .append, args := #[s, x], argTypes := #[t, t] })
    (base : Nat) (e : TypeId) (i : TypeInfo) (z : Value) (size bytes : Nat) (ht : P.underlying t = some (.slice e)) (hi : P.info? e = some i) (hz : i.zero = some z)
    (hsize : i.size = size) (hby : i.bytes = bytes) (hzs : z.cells.size = size) (hsz : 0 < size)
    (v sv : Value) (n m : Nat) (xs news : List Value) (hs : a.eval s = v) (hx : a.eval x = sv) (hown : w.ownsRow base e size v n xs) (hsrc : Src w sv size m news)
    (h63 : n + m ≤ maxLen) (hbytes : (n + m) * bytes ≤ 140737488355328) (hbase : base ≤ w.heap.size)
    (h : ∀ v' w', w'.ownsRow base e size v' (n + m) (xs ++ news) → w.grownBy w' v.ownBlock → (v'.ownBlock = v.ownBlock ∨ v'.ownBlock = some w.heap.size) → wpList P ops Q rest (a.put o.dst v') w') : wpList P ops Q (o :: rest) a w :=
  wpList_plain hgd fun _ hK => wp_append_src w s x t ho base e i z size bytes ht hi hz hsize hby hzs hsz v sv n m xs news hs hx hown hsrc h63 hbytes hbase fun v' w' h2 h3 h4 => hK _ _ (h v' w' h2 h3 h4)
theorem step_append_src {ops : Array Oper} {o : Oper} {a : Act} {K : Act → World → Prop} {Q : Exit → Act → World → Prop} {E : Prop} (hgd : o.guard = none) (s x : Operand) (t : TypeId)
    (ho : o.op = .call { callee := .builtin .append, args := #[s, x], argTypes := #[t, t] })
    (base : Nat) (e : TypeId) (i : TypeInfo) (z : Value) (size bytes : Nat) (ht : P.underlying t = some (.slice e)) (hi : P.info? e = some i) (hz : i.zero = some z)
    (hsize : i.size = size) (hby : i.bytes = bytes) (hzs : z.cells.size = size) (hsz : 0 < size)
    (v sv : Value) (n m : Nat) (xs news : List Value) (hs : a.eval s = v) (hx : a.eval x = sv) (hown : w.ownsRow base e size v n xs) (hsrc : Src w sv size m news)
    (h63 : n + m ≤ maxLen) (hbytes : (n + m) * bytes ≤ 140737488355328) (hbase : base ≤ w.heap.size)
    (h : ∀ v' w', w'.ownsRow base e size v' (n + m) (xs ++ news) → w.grownBy w' v.ownBlock → (v'.ownBlock = v.ownBlock ∨ v'.ownBlock = some w.heap.size) → K (a.put o.dst v') w') :
    if Region.wanted o (yielded ops a.tmps) = true then Oper.wp P o a w K Q else E := by
  have hw : Region.wanted o (yielded ops a.tmps) = true := by simp [Region.wanted, hgd]
  rw [if_pos hw]
  exact wp_append_src w s x t ho base e i z size bytes ht hi hz hsize hby hzs hsz v sv n m xs news hs hx hown hsrc h63 hbytes hbase h
end

section
variable {w : World} {base : Nat} {e : TypeId} {sz n : Nat} {v : Value} {xs : List Value}
theorem Src.nil (w : World) (sz : Nat) (a : Option Addr) (c : Nat) (h : a = none → c = 0) : Src w (.slice a 0 c) sz 0 [] :=
  ⟨⟨a, c, rfl, fun e => ⟨rfl, h e⟩, fun ad _ j u hu => by simp at hu⟩, by simp, fun u hu => by simp at hu⟩
/-- a piece of an owned slice, from element lo to hi -/
theorem own_piece {g cap lo hi : Nat} (h : w.ownsRow base e sz (.slice (some ⟨g, 0, none⟩) n cap) n xs) (h1 : lo ≤ hi) (h2 : hi ≤ n) (h3 : ∀ u ∈ xs, u.oneCell' = true) (A : Addr) (hA : lo < hi → A = ⟨g, lo * sz, none⟩) (c : Nat) :
    Src w (.slice (some A) (hi - lo) c) sz (hi - lo) ((xs.drop (lo * sz)).take ((hi - lo) * sz)) := by
  have hlen : xs.length = n * sz := h.1
  have e1 : lo * sz ≤ n * sz := Nat.mul_le_mul_right _ (by omega)
  have e2 : (hi - lo) * sz = hi * sz - lo * sz := Nat.sub_mul _ _ _
  have e3 : hi * sz ≤ n * sz := Nat.mul_le_mul_right _ h2
  have e4 : lo * sz ≤ hi * sz := Nat.mul_le_mul_right _ h1
  refine ⟨⟨some A, c, rfl, (fun h => by cases h), fun ad had j u hu => ?_⟩, ?_, fun u hu => h3 u (List.mem_of_mem_drop (List.mem_of_mem_take hu))⟩
  · cases had
    have hj : j < (hi - lo) * sz := by
      have := (List.getElem?_eq_some_iff.1 hu).1
      simp at this; omega
    have hlt : lo < hi := by
      rcases Nat.lt_or_ge lo hi with h | h
      · exact h
      · have : hi - lo = 0 := by omega
        rw [this] at hj; omega
    rw [hA hlt, Dt.Addr.add_mid', h.cellAt _ (by omega)]
    rw [List.getElem?_take_of_lt hj, List.getElem?_drop] at hu
    exact hu
  · simp; omega
theorem own_base {g : Nat} (h : w.ownsRow base e sz v n xs) (hg : v.ownBlock = some g) : base ≤ g := by
  rcases h.2 with ⟨rfl, _⟩ | ⟨g', cap, cur, rfl, hb, _⟩
  · simp [Value.ownBlock] at hg
  · simp [Value.ownBlock] at hg; omega
theorem notin_row {g o n c b : Nat} (h : g ≠ b) : b ∉ (Value.slice (some ⟨g, o, none⟩) n c).ownBlock.toList := by
  simp only [Value.ownBlock, Option.mem_toList, Option.some.injEq]; exact h
theorem notin_own {b : Nat} (h : w.ownsRow base e sz v n xs) (hb : b < base) : b ∉ v.ownBlock.toList := fun hx => by
  simp only [Option.mem_toList] at hx
  have := own_base h hx; omega
theorem own_weaken {base' : Nat} (h : w.ownsRow base e sz v n xs) (hb : base' ≤ base) : w.ownsRow base' e sz v n xs := by
  refine ⟨h.1, ?_⟩
  rcases h.2 with h2 | ⟨g, cap, cur, hv, hb', r⟩
  · exact .inl h2
  · exact .inr ⟨g, cap, cur, hv, Nat.le_trans hb hb', r⟩
theorem own_lt {g : Nat} (h : w.ownsRow base e sz v n xs) (hg : v.ownBlock = some g) : g < w.heap.size := by
  rcases h.2 with ⟨rfl, _⟩ | ⟨g', cap, cur, rfl, hb, hh, _⟩
  · simp [Value.ownBlock] at hg
  · simp [Value.ownBlock] at hg; subst hg; exact lt_of_block hh
/-- what is owned stays owned where its own block is left alone -/
theorem own_keep {S : List Nat} {w' : World} (h : w.ownsRow base e sz v n xs) (hf : Fr S w w') (hS : ∀ g, v.ownBlock = some g → g ∉ S) : w'.ownsRow base e sz v n xs := by
  refine ⟨h.1, ?_⟩
  rcases h.2 with h2 | ⟨g, cap, cur, hv, hb, hg, r⟩
  · exact .inl h2
  · refine .inr ⟨g, cap, cur, hv, hb, ?_, r⟩
    have hlt : g < w.heap.size := lt_of_block hg
    rw [hf.block g hlt (hS g (by rw [hv]; rfl))]; exact hg
theorem own_form (h : w.ownsRow base e sz v n xs) (hn : 0 < n) : ∃ g cap, v = .slice (some ⟨g, 0, none⟩) n cap ∧ base ≤ g ∧ n ≤ cap ∧ cap ≤ maxLen := by
  rcases h.2 with ⟨_, h0⟩ | ⟨g, cap, cur, hv, hb, _, h1, h2, _⟩
  · omega
  · exact ⟨g, cap, hv, hb, h1, h2⟩
/-- any owned slice is a slice of n elements -/
theorem own_any (h : w.ownsRow base e sz v n xs) : ∃ a cap, v = .slice a n cap ∧ n ≤ cap ∧ cap ≤ maxLen ∧ (a = none → cap = 0) ∧ (0 < n → ∃ g, a = some ⟨g, 0, none⟩ ∧ base ≤ g) := by
  rcases h.2 with ⟨rfl, rfl⟩ | ⟨g, cap, cur, hv, hb, _, h1, h2, _⟩
  · exact ⟨none, 0, rfl, Nat.le_refl _, by decide, fun _ => rfl, fun h => absurd h (by decide)⟩
  · exact ⟨some ⟨g, 0, none⟩, cap, hv, h1, h2, (fun h => by cases h), fun _ => ⟨g, rfl, hb⟩⟩
theorem own_src (h : w.ownsRow base e sz v n xs) (h3 : ∀ u ∈ xs, u.oneCell' = true) : Src w v sz n xs := by
  rcases h.2 with ⟨rfl, rfl⟩ | ⟨g, cap, cur, rfl, hb, hc⟩
  · have hl := h.1
    have : xs = [] := List.eq_nil_of_length_eq_zero (by simpa using hl)
    subst this; exact Src.nil w sz none 0 (fun _ => rfl)
  · have := own_piece (lo := 0) (hi := n) h (Nat.zero_le _) (Nat.le_refl _) h3 ⟨g, 0, none⟩ (fun _ => by simp) cap
    have hl := h.1
    simp only [Nat.sub_zero, Nat.zero_mul, List.drop_zero] at this
    rwa [List.take_of_length_le (by omega)] at this
theorem own_nil (w : World) (base : Nat) (e : TypeId) (sz : Nat) : w.ownsRow base e sz (.slice none 0 0) 0 [] := ⟨by simp, .inl ⟨rfl, rfl⟩⟩
theorem own_empty {g : Nat} (h : Blk w g #[] e) (hb : base ≤ g) : w.ownsRow base e sz (.slice (some ⟨g, 0, none⟩) 0 0) 0 [] :=
  ⟨by simp, .inr ⟨g, 0, #[], rfl, hb, h, Nat.le_refl _, by decide, by simp, by simp⟩⟩
/-- the cells of a block known whole -/
theorem src_blk {b : Nat} {vs : Array Value} {m : Nat} (h : Blk w b vs e) (hm : vs.size = m * sz) (h1 : ∀ u ∈ vs, u.oneCell' = true) (c : Nat) : Src w (.slice (some ⟨b, 0, none⟩) m c) sz m vs.toList :=
  ⟨⟨_, c, rfl, (fun h => by cases h), fun ad had j u hu => by
    cases had
    rw [Dt.Addr.add_mid']
    exact (by simpa using h.cell (i := j) (v := u) (by simpa using hu))⟩, by simpa using hm, fun u hu => h1 u (by simpa using hu)⟩
theorem own_fr {S : List Nat} {w' : World} (h : w.ownsRow base e sz v n xs) (hf : Fr S w w') (hS : ∀ x ∈ S, x < base) : w'.ownsRow base e sz v n xs := by
  refine ⟨h.1, ?_⟩
  rcases h.2 with h2 | ⟨g, cap, cur, hv, hb, hg, r⟩
  · exact .inl h2
  · refine .inr ⟨g, cap, cur, hv, hb, ?_, r⟩
    have hlt : g < w.heap.size := lt_of_block hg
    rw [hf.block g hlt (fun hx => by have := hS g hx; omega)]; exact hg
theorem fr_grown {w' : World} {row : Option Nat} (h : w.grownBy w' row) : Fr row.toList w w' :=
  ⟨h.os, h.tape, h.output, h.size, fun k hk hn => h.block k hk (fun hx => hn (by subst hx; simp))⟩
/-- behind an append onto what is owned from 'base' on, all below is as it was -/
theorem fr_own {w' : World} {S : List Nat} {a : World} (hf : Fr S a w) (h : w.ownsRow base e sz v n xs) (hg : w.grownBy w' v.ownBlock) (hb : a.heap.size ≤ base) : Fr S a w' :=
  hf.trans (fr_grown hg) (fun x hx => by
    simp only [Option.mem_toList] at hx
    exact .inr (Nat.le_trans hb (own_base h hx)))
theorem blk_own {w' : World} {b : Nat} {vs : Array Value} {T : TypeId} (hk : Blk w b vs T) (h : w.ownsRow base e sz v n xs) (hg : w.grownBy w' v.ownBlock) (hb : b < base) : Blk w' b vs T :=
  (fr_grown hg).blk hk (fun hx => by
    simp only [Option.mem_toList] at hx
    have := own_base h hx; omega)
end
end Dt
