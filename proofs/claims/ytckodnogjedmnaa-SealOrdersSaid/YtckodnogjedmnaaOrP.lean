/- chapter 18: offers in any order: the plain law. -/
import Derived.Test.YtckodnogjedmnaaOb
namespace Go.Proofs.Ytckodnogjedmnaa.Lo
open Go.RowKit Dt Go.Proofs.Ytckodnogjedmnaa.Jt
set_option linter.unusedVariables false
set_option linter.unusedSimpArgs false
/-- an offer: slot, frame, the input -/
abbrev O5 := Nat × Nat × Int × Int × Int
def o8 (o : O5) : List Value := [.int .i64 0, .int .i64 o.1, .int .i64 o.2.1, .int .i64 0, .int .i64 0, .int .i64 o.2.2.1, .int .i64 o.2.2.2.1, .int .i64 o.2.2.2.2]
def os (l : List O5) : List Value := l.flatMap o8
theorem os_app (l m : List O5) : os (l ++ m) = os l ++ os m := by unfold os; rw [List.flatMap_append]
theorem os_len : ∀ l : List O5, (os l).length = l.length * 8
  | [] => rfl
  | o :: l => by
    have e : os (o :: l) = o8 o ++ os l := by simp [os]
    rw [e, List.length_append, os_len l]; simp [o8]; omega
theorem os_get {j : Nat} (hj : j < 8) : ∀ {l : List O5} {i : Nat} {o : O5}, l[i]? = some o → (os l)[i * 8 + j]? = (o8 o)[j]?
  | [], _, _, h => by simp at h
  | a :: l, 0, o, h => by
    have e : os (a :: l) = o8 a ++ os l := by simp [os]
    have : a = o := by simpa using h
    subst this
    rw [e, List.getElem?_append_left (by simp [o8]; omega)]; congr 1; omega
  | a :: l, i + 1, o, h => by
    have e : os (a :: l) = o8 a ++ os l := by simp [os]
    rw [e, List.getElem?_append_right (by simp [o8]; omega)]
    have := os_get hj (l := l) (i := i) (o := o) (by simpa using h)
    rw [← this]; congr 1; simp [o8]; omega
theorem os_one (l : List O5) : ∀ u ∈ os l, u.oneCell' = true := fun u hu => by
  unfold os at hu
  obtain ⟨o, -, h⟩ := List.mem_flatMap.1 hu
  unfold o8 at h
  simp at h
  rcases h with rfl | rfl | rfl | rfl | rfl | rfl | rfl <;> rfl
theorem os_take (l : List O5) (k : Nat) (hk : k ≤ l.length) : (os l).take (k * 8) = os (l.take k) := by
  have e : os l = os (l.take k) ++ os (l.drop k) := by rw [← os_app, List.take_append_drop]
  have h : (os (l.take k)).length = k * 8 := by rw [os_len, List.length_take]; congr 1; omega
  rw [e, ← h, List.take_left]
theorem os_drop (l : List O5) (k : Nat) (hk : k ≤ l.length) : (os l).drop (k * 8) = os (l.drop k) := by
  have e : os l = os (l.take k) ++ os (l.drop k) := by rw [← os_app, List.take_append_drop]
  have h : (os (l.take k)).length = k * 8 := by rw [os_len, List.length_take]; congr 1; omega
  rw [e, ← h, List.drop_left]
theorem os_erase (l : List O5) (k : Nat) (hk : k < l.length) : (os l).take (k * 8) ++ (os l).drop ((k + 1) * 8) = os (l.eraseIdx k) := by
  rw [os_take l k (by omega), os_drop l (k + 1) (by omega), ← os_app, List.eraseIdx_eq_take_drop_succ]
/-- two offers for one cell -/
def ky (o : O5) : Nat × Nat := (o.1, o.2.1)
def val (o : O5) : C4 := (true, o.2.2.1, o.2.2.2.1, o.2.2.2.2)
/-- the rows behind such offers, the last one first -/
def RO : List O5 → Int → Row
  | [] => fun _ _ => c0
  | o :: d => fun z => if z = (o.2.1 : Int) then put1 (RO d o.2.1) o.1 (val o) else RO d z
theorem RO_none : ∀ {d : List O5} {k s : Nat}, (∀ o ∈ d, ky o ≠ (s, k)) → RO d k s = c0
  | [], _, _, _ => rfl
  | o :: d, k, s, h => by
    have h1 := h o (by simp)
    have h2 := RO_none (d := d) (k := k) (s := s) (fun q hq => h q (by simp [hq]))
    show (if (k : Int) = (o.2.1 : Int) then put1 (RO d o.2.1) o.1 (val o) else RO d k) s = c0
    by_cases e : (k : Int) = (o.2.1 : Int)
    · have e' : k = o.2.1 := by omega
      rw [if_pos e]
      unfold put1
      rw [if_neg (fun e2 => h1 (by unfold ky; rw [e2, e'])), ← e']
      exact h2
    · rw [if_neg e]; exact h2
theorem RO_some : ∀ {d : List O5} {o : O5}, (d.map ky).Nodup → o ∈ d → RO d o.2.1 o.1 = val o
  | [], _, _, h => by simp at h
  | a :: d, o, hn, h => by
    rw [List.map_cons, List.nodup_cons] at hn
    show (if (o.2.1 : Int) = (a.2.1 : Int) then put1 (RO d a.2.1) a.1 (val a) else RO d o.2.1) o.1 = val o
    by_cases e : ky o = ky a
    · have ha : o = a := by
        rcases List.mem_cons.1 h with h1 | h1
        · exact h1
        · exact absurd (e ▸ List.mem_map_of_mem h1) hn.1
      subst ha
      rw [if_pos rfl]; unfold put1; rw [if_pos rfl]
    · have hd : o ∈ d := by
        rcases List.mem_cons.1 h with h1 | h1
        · exact absurd (by rw [h1]) e
        · exact h1
      have ih := RO_some hn.2 hd
      by_cases e2 : (o.2.1 : Int) = (a.2.1 : Int)
      · have e3 : o.2.1 = a.2.1 := by omega
        rw [if_pos e2]; unfold put1
        rw [if_neg (fun e4 => e (by unfold ky; rw [e4, e3])), ← e3]
        exact ih
      · rw [if_neg e2]; exact ih
/-- the same offers, in whatever order -/
theorem RO_same {d e : List O5} (h : ∀ o, o ∈ d ↔ o ∈ e) (h1 : (d.map ky).Nodup) (h2 : (e.map ky).Nodup) (k s : Nat) : RO d k s = RO e k s := by
  by_cases q : ∃ o ∈ d, ky o = (s, k)
  · obtain ⟨o, ho, hk⟩ := q
    have e1 := RO_some h1 ho
    have e2 := RO_some h2 ((h o).1 ho)
    unfold ky at hk
    injection hk with k1 k2
    rw [k1, k2] at e1 e2
    rw [e1, e2]
  · rw [RO_none (fun o ho hk => q ⟨o, ho, hk⟩), RO_none (fun o ho hk => q ⟨o, (h o).2 ho, hk⟩)]
theorem RO_cons (o : O5) (d : List O5) : RO (o :: d) = fun z => if z = (o.2.1 : Int) then put1 (RO d o.2.1) o.1 (val o) else RO d z := rfl
theorem sum_bump {f f' : Nat → Nat} {a : Nat} (ha : f' a = f a + 1) (ho : ∀ x, x ≠ a → f' x = f x) : ∀ {l : List Nat}, l.Nodup → a ∈ l → (l.map f').sum = (l.map f).sum + 1
  | [], _, h => by simp at h
  | b :: l, hn, h => by
    rw [List.nodup_cons] at hn
    rw [List.map_cons, List.map_cons, List.sum_cons, List.sum_cons]
    by_cases e : b = a
    · subst e
      have : l.map f' = l.map f := List.map_congr_left fun x hx => ho x (fun e => hn.1 (e ▸ hx))
      rw [this, ha]; omega
    · have h3 : a ∈ l := by
        rcases List.mem_cons.1 h with h4 | h4
        · exact absurd h4.symm e
        · exact h4
      rw [sum_bump ha ho hn.2 h3, ho b e]; omega
theorem reals_put {R : Row} {s : Nat} {v : C4} (hv : v.1 = true) (hr : (R s).1 = false) : ∀ {p : Nat}, (p ≤ s → realsN (put1 R s v) p = realsN R p) ∧ (s < p → realsN (put1 R s v) p = realsN R p + 1)
  | 0 => ⟨fun _ => by simp [realsN], fun h => by omega⟩
  | p + 1 => by
    have ih := reals_put (R := R) (s := s) (v := v) hv hr (p := p)
    rw [realsN_succ, realsN_succ]
    refine ⟨fun h => ?_, fun h => ?_⟩
    · rw [ih.1 (by omega)]
      have e : put1 R s v p = R p := by unfold put1; rw [if_neg (by omega)]
      rw [e]
    · by_cases e : p = s
      · subst e
        rw [ih.1 (Nat.le_refl _)]
        have e1 : put1 R p v p = v := by unfold put1; rw [if_pos rfl]
        rw [e1, hv, hr]; simp
      · rw [ih.2 (by omega)]
        have e1 : put1 R s v p = R p := by unfold put1; rw [if_neg e]
        rw [e1]; omega
theorem wait_put {R : Int → Row} {k s p : Nat} {v : C4} (hk : k < 64) (hs : s < p) (hv : v.1 = true) (hr : (R k s).1 = false) : waitR (fun z => if z = (k : Int) then put1 (R k) s v else R z) 0 p = waitR R 0 p + 1 := by
  unfold waitR
  refine sum_bump (a := k) ?_ (fun x hx => ?_) List.nodup_range (List.mem_range.2 hk)
  · have e : ((0 : Nat) : Int) + (k : Int) = (k : Int) := by omega
    dsimp only
    rw [e, if_pos rfl]
    exact (reals_put hv hr).2 hs
  · have e : ¬ ((0 : Nat) : Int) + (x : Int) = (k : Int) := by omega
    dsimp only
    rw [if_neg e]
/-- offers that may all be taken -/
structure Okl (pl fr : Nat) (d : List O5) : Prop where
  nd : (d.map ky).Nodup
  ok : ∀ o ∈ d, o.1 < pl ∧ o.2.1 < fr ∧ o.2.1 < 64 ∧ inB o.2.2.1 o.2.2.2.1 o.2.2.2.2 = true
theorem waitO {pl fr : Nat} : ∀ {d : List O5}, Okl pl fr d → waitR (RO d) 0 pl = d.length
  | [], _ => by
    unfold waitR
    have e : ((List.range 64).map fun (i : Nat) => realsN (RO [] (((0 : Nat) : Int) + (i : Int))) pl) = (List.range 64).map fun _ => 0 := List.map_congr_left fun i _ => realsN_c0 pl
    rw [e, sum_zero]; rfl
  | o :: d, h => by
    have hn := h.nd
    rw [List.map_cons, List.nodup_cons] at hn
    have hd : Okl pl fr d := ⟨hn.2, fun q hq => h.ok q (by simp [hq])⟩
    obtain ⟨h1, h2, h3, h4⟩ := h.ok o (by simp)
    rw [RO_cons, wait_put h3 h1 rfl (by rw [RO_none (fun q hq e => hn.1 (by rw [show ky o = ky q from e.symm ▸ rfl]; exact List.mem_map_of_mem hq))]; rfl), waitO hd, List.length_cons]
/-- the next offer is taken -/
theorem off_ok {pl fr : Nat} {o : O5} {d : List O5} (h : Okl pl fr (o :: d)) : offerK pl fr 0 (RO d) o.1 o.2.1 o.2.2.1 o.2.2.2.1 o.2.2.2.2 = 1 ∧ offerR pl fr 0 (RO d) o.1 o.2.1 o.2.2.1 o.2.2.2.1 o.2.2.2.2 = RO (o :: d) := by
  have hn := h.nd
  rw [List.map_cons, List.nodup_cons] at hn
  obtain ⟨h1, h2, h3, h4⟩ := h.ok o (by simp)
  have hr : (RO d o.2.1 o.1).1 = false := by
    rw [RO_none (fun q hq e => hn.1 (by rw [show ky o = ky q from e.symm ▸ rfl]; exact List.mem_map_of_mem hq))]; rfl
  have hk : offerK pl fr 0 (RO d) o.1 o.2.1 o.2.2.1 o.2.2.2.1 o.2.2.2.2 = 1 := by
    unfold offerK
    rw [if_neg (fun hq => hq ⟨by omega, by omega, by omega, by omega, h4⟩), if_neg (by omega), if_neg (by omega), Int.toNat_natCast, hr]
    rfl
  refine ⟨hk, ?_⟩
  rw [offerR_put hk, Int.toNat_natCast]
  rfl
/-- one is taken out of those that are left -/
theorem ok_move {pl fr : Nat} {l d r : List O5} {k : Nat} (hl : Okl pl fr l) (hm : ∀ o, o ∈ l ↔ o ∈ d ∨ o ∈ r) (hn : ((d ++ r).map ky).Nodup) (hk : k < r.length) : Okl pl fr (r[k] :: d) ∧ (∀ o, o ∈ l ↔ o ∈ r[k] :: d ∨ o ∈ r.eraseIdx k) ∧ ((r[k] :: d ++ r.eraseIdx k).map ky).Nodup := by
  have e1 : r = r.take k ++ r[k] :: r.drop (k + 1) := by rw [← List.drop_eq_getElem_cons hk, List.take_append_drop]
  have e2 : r.eraseIdx k = r.take k ++ r.drop (k + 1) := List.eraseIdx_eq_take_drop_succ r k
  have hp : (d ++ r).Perm (r[k] :: d ++ r.eraseIdx k) := by
    rw [e2]
    conv => lhs; rw [e1]
    rw [List.cons_append]
    exact (List.Perm.append_left d List.perm_middle).trans List.perm_middle
  have hnd := (hp.map ky).nodup_iff.1 hn
  refine ⟨⟨?_, fun o ho => hl.ok o ((hm o).2 ?_)⟩, fun o => ?_, hnd⟩
  · rw [List.map_append] at hnd
    exact (List.nodup_append.1 hnd).1
  · rcases List.mem_cons.1 ho with h | h
    · rw [h]; exact .inr (List.getElem_mem _)
    · exact .inl h
  · rw [hm o, ← List.mem_append, hp.mem_iff, List.mem_append]
end Go.Proofs.Ytckodnogjedmnaa.Lo
