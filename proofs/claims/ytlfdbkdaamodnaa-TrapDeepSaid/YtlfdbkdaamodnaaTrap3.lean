import Derived.Test.YtlfdbkdaamodnaaTrap2
import Derived.Deep.QuietTactic
import Derived.BigQuiet
import Derived.IntWalk
namespace Go.Proofs.Ytlfdbkdaamodnaa.Tr
open Go.RowKit Dt Go.Proofs.Ytlfdbkdaamodnaa.Hd
set_option linter.unusedVariables false

/-- the variables of TrapDeep: n, at, code, told, ended, go1 -/
structure DS (w : World) (bn ba bc bt be bg : Nat) (n a c t e : Int) : Prop where
  n : Blk w bn #[.int .i64 n] 3
  a : Blk w ba #[.int .i64 a] 3
  c : Blk w bc #[.int .i64 c] 3
  t : Blk w bt #[.int .i64 t] 3
  e : Blk w be #[.int .i64 e] 3
  g : Blk w bg #[.func (.func 15) #[] #[.pointer (some ⟨bn, 0, none⟩), .pointer (some ⟨bg, 0, none⟩), .pointer (some ⟨ba, 0, none⟩), .pointer (some ⟨bc, 0, none⟩), .pointer (some ⟨be, 0, none⟩), .pointer (some ⟨bt, 0, none⟩)]] 24
  q : (bn ≠ bt ∧ bn ≠ be) ∧ (ba ≠ bt ∧ ba ≠ be) ∧ (bc ≠ bt ∧ bc ≠ be) ∧ bt ≠ be ∧ (bg ≠ bt ∧ bg ≠ be)
section
variable {w w' : World} {bn ba bc bt be bg : Nat} {n a c t e : Int}
theorem DS.fr (h : DS w bn ba bc bt be bg n a c t e) {S : List Nat} (hF : Fr S w w') (hS : ∀ x ∈ S, w.heap.size ≤ x) : DS w' bn ba bc bt be bg n a c t e :=
  have f : ∀ {b vs T}, Blk w b vs T → Blk w' b vs T := fun k => hF.blk k (fun hx => by have := k.lt; have := hS _ hx; omega)
  ⟨f h.n, f h.a, f h.c, f h.t, f h.e, f h.g, h.q⟩
theorem DS.setE (h : DS w bn ba bc bt be bg n a c t e) (x : Int) : DS (w.setCell ⟨be, 0, none⟩ (.int .i64 x)) bn ba bc bt be bg n a c t x := by
  obtain ⟨q1, q2, q3, q4, q5⟩ := h.q
  exact ⟨h.n.other q1.2 _, h.a.other q2.2 _, h.c.other q3.2 _, h.t.other q4 _, h.e.set 0 _, h.g.other q5.2 _, h.q⟩
theorem DS.setT (h : DS w bn ba bc bt be bg n a c t e) (x : Int) : DS (w.setCell ⟨bt, 0, none⟩ (.int .i64 x)) bn ba bc bt be bg n a c x e := by
  obtain ⟨q1, q2, q3, q4, q5⟩ := h.q
  exact ⟨h.n.other q1.1 _, h.a.other q2.1 _, h.c.other q3.1 _, h.t.set 0 _, h.e.other (Ne.symm q4) _, h.g.other q5.1 _, h.q⟩
end
/-- what go1 at k adds to 'told' -/
def tl (k a : Int) : Int := if k ≤ a then 1 else 0

/-- how go1's inner function ends -/
def outK (k a c : Int) : Out := if k = a then .thrown c k [] else .done
theorem outK_eq (k c : Int) : outK k k c = .thrown c k [] := by unfold outK; rw [if_pos rfl]
theorem outK_ne {k a : Int} (h : ¬ k = a) (c : Int) : outK k a c = .done := by unfold outK; rw [if_neg h]
set_option maxHeartbeats 1600000 in
theorem body_any {w : World} {bn ba bc bt be bg bk : Nat} {k : Nat} {n a c t e : Int} (h : DS w bn ba bc bt be bg n a c t e) (hk : Blk w bk #[.int .i64 k] 3) (hq : bk ∉ [bt, be]) (hn : n ≤ 20) (hkn : k < n) (he : 0 ≤ e) (he2 : e + (n - k) ≤ 100) 
    (ih : (k : Int) + 1 < n → ∀ w' e, DS w' bn ba bc bt be bg n a c t e → 0 ≤ e → e + (n - (k + 1)) ≤ 100 → Calls Try.prog 15 #[.int .i64 ((k : Int) + 1), .pointer (some ⟨bn, 0, none⟩), .pointer (some ⟨bg, 0, none⟩), .pointer (some ⟨ba, 0, none⟩), .pointer (some ⟨bc, 0, none⟩), .pointer (some ⟨be, 0, none⟩), .pointer (some ⟨bt, 0, none⟩)] w'
      fun x w'' => x = .returned (.tuple #[]) ∧ Fr [bt, be] w' w'' ∧ DS w'' bn ba bc bt be bg n a c (t + tl (k + 1) a) (e + (n - (k + 1)) - tl (k + 1) a)) (ha : a < n) :
    Calls Try.prog 17 #[.pointer (some ⟨bk, 0, none⟩), .pointer (some ⟨bn, 0, none⟩), .pointer (some ⟨bg, 0, none⟩), .pointer (some ⟨ba, 0, none⟩), .pointer (some ⟨bc, 0, none⟩), .pointer (some ⟨be, 0, none⟩)] w
      fun x w1 => ∃ o : Out, o.ok ∧ x = o.asBody ∧ Fr [bt, be] w w1 ∧ (o = outK k a c ∧ DS w1 bn ba bc bt be bg n a c (t + tl (k + 1) a) (e + (n - k) - tl k a)) := by
  have c1 := hk.cell (i := 0) rfl
  have c2 := h.n.cell (i := 0) rfl
  have c3 := h.g.cell (i := 0) rfl
  simp at c1 c2 c3
  have hkk : (k : Int) < 100 := by omega
  obtain ⟨u, hu⟩ : ∃ u, u = t + tl (k + 1) a := ⟨_, rfl⟩
  obtain ⟨v, hv⟩ : ∃ v, v = e + (n - k) - tl k a := ⟨_, rfl⟩
  obtain ⟨v', hv'⟩ : ∃ v', v' = if (k : Int) = a then v else v - 1 := ⟨_, rfl⟩
  have hts : tl k a = tl (k + 1) a + if (k : Int) = a then 1 else 0 := by unfold tl; split <;> split <;> split <;> omega
  have ht01 : 0 ≤ tl (k + 1) a ∧ tl (k + 1) a ≤ 1 := by unfold tl; split <;> omega
  have hv2 : v' = e + (n - (k + 1)) - tl (k + 1) a := by rw [hv', hv, hts]; split <;> omega
  have hv3 : -100 ≤ v' ∧ v' ≤ 200 := by omega
  rw [← hu, ← hv]
  have HU := Lib.hid hu; have HV := Lib.hid hv; have HV' := Lib.hid hv'; have HV2 := Lib.hid hv2
  have HT := Lib.hid hts
  clear hu hv hv' hv2 hts
  have IH := Lib.hid ih; clear ih
  by_cases hlt : (k : Int) + 1 < n
  · go_enter Try.func17, Try.ntmps17
    go_wp2_with fail
    refine (IH.out hlt w e h he (by omega)).mono ?_
    rintro x w1 ⟨rfl, hF, h1⟩
    rw [← HU.out, ← HV2.out] at h1
    have hk1 := hF.blk hk hq
    clear c1 c2 c3

    by_cases hka : (k : Int) = a
    · have e5 : tl k a = tl (k + 1) a + 1 := by have := HT.out; rw [if_pos hka] at this; exact this
      have hv4 : v' = v := by have := HV'.out; rw [if_pos hka] at this; exact this
      subst hka
      have d1 := hk1.cell (i := 0) rfl
      have d2 := h1.a.cell (i := 0) rfl
      have d3 := h1.c.cell (i := 0) rfl
      simp at d1 d2 d3
      go_wp2_with fail
      refine (throw_any _ _ _).mono ?_; rintro x w2 ⟨rfl, rfl⟩
      refine ⟨rfl, .thrown c k [], rfl, rfl, hF, (outK_eq k c).symm, ?_⟩
      rw [← hv4]; exact h1
    · have hv4 : v' = v - 1 := by have := HV'.out; rw [if_neg hka] at this; exact this
      have hkb : ((k : Int) == a) = false := by simpa using hka
      have hka' := Lib.hid hka; clear hka
      have d1 := hk1.cell (i := 0) rfl
      have d2 := h1.a.cell (i := 0) rfl
      have d3 := h1.e.cell (i := 0) rfl
      have f3 := h1.e.free 0
      simp at d1 d2 d3
      have HV4 := Lib.hid hv4; clear hv4
      go_wp2_with fail
      refine bodyPost_end (results_none rfl _ _ _) rfl ?_
      have e7 : v' + 1 = v := by have := HV4.out; omega
      refine ⟨.done, trivial, rfl, hF.setCell (.inl (by simp)) _, (outK_ne hka'.out c).symm, ?_⟩
      have := h1.setE (v' + 1)
      rw [e7] at this ⊢
      exact this

  · have hge : n ≤ (k : Int) + 1 := by omega
    have h0 : tl (k + 1) a = 0 := by unfold tl; rw [if_neg (by omega)]
    have e1 : u = t := by have := HU.out; omega
    have e2 : v' = e := by have := HV2.out; omega
    have h1 : DS w bn ba bc bt be bg n a c u v' := by rw [e1, e2]; exact h
    have hk1 := hk
    have hF := Fr.refl [bt, be] w
    clear h hk e1 e2 hlt h0

    by_cases hka : (k : Int) = a
    · have e5 : tl k a = tl (k + 1) a + 1 := by have := HT.out; rw [if_pos hka] at this; exact this
      have hv4 : v' = v := by have := HV'.out; rw [if_pos hka] at this; exact this
      subst hka
      go_enter Try.func17, Try.ntmps17
      have d1 := hk1.cell (i := 0) rfl
      have d2 := h1.a.cell (i := 0) rfl
      have d3 := h1.c.cell (i := 0) rfl
      simp at d1 d2 d3
      go_wp2_with fail
      refine (throw_any _ _ _).mono ?_; rintro x w2 ⟨rfl, rfl⟩
      refine ⟨rfl, .thrown c k [], rfl, rfl, hF, (outK_eq k c).symm, ?_⟩
      rw [← hv4]; exact h1
    · have hv4 : v' = v - 1 := by have := HV'.out; rw [if_neg hka] at this; exact this
      have hkb : ((k : Int) == a) = false := by simpa using hka
      have hka' := Lib.hid hka; clear hka
      go_enter Try.func17, Try.ntmps17
      have d1 := hk1.cell (i := 0) rfl
      have d2 := h1.a.cell (i := 0) rfl
      have d3 := h1.e.cell (i := 0) rfl
      have f3 := h1.e.free 0
      simp at d1 d2 d3
      have HV4 := Lib.hid hv4; clear hv4
      go_wp2_with fail
      refine bodyPost_end (results_none rfl _ _ _) rfl ?_
      have e7 : v' + 1 = v := by have := HV4.out; omega
      refine ⟨.done, trivial, rfl, hF.setCell (.inl (by simp)) _, (outK_ne hka'.out c).symm, ?_⟩
      have := h1.setE (v' + 1)
      rw [e7] at this ⊢
      exact this

end Go.Proofs.Ytlfdbkdaamodnaa.Tr
