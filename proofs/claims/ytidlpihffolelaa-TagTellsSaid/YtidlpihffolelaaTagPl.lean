import Derived.Test.YtidlpihffolelaaTag4
namespace Go.Proofs.Ytidlpihffolelaa.Tg
open Go.RowKit Dt Go.Proofs.Ytidlpihffolelaa.Hd
set_option linter.unusedVariables false

theorem step_inj {h h' : Int} {c : Nat} (e : sumStep h c % 2147483647 = sumStep h' c % 2147483647) : h % 2147483647 = h' % 2147483647 := by
  unfold sumStep at e
  have e1 : (h * 257 + c + 1) % 2147483647 = (h' * 257 + c + 1) % 2147483647 := by omega
  have e2 : (h * 257) % 2147483647 = (h' * 257) % 2147483647 := by omega
  have key : ∀ x : Int, ((x * 257) % 2147483647 * 16711935) % 2147483647 = x % 2147483647 := by
    intro x
    have h1 : ((x * 257) % 2147483647 * 16711935) % 2147483647 = (x * 257 * 16711935) % 2147483647 := by
      rw [Int.mul_emod ((x * 257) % 2147483647), Int.emod_emod, ← Int.mul_emod]
    rw [h1, Int.mul_assoc]
    omega
  rw [← key h, ← key h', e2]
theorem fold_ne : ∀ (v : List Nat) {h h' : Int}, h % 2147483647 ≠ h' % 2147483647 → v.foldl sumStep h % 2147483647 ≠ v.foldl sumStep h' % 2147483647
  | [], _, _, hn => hn
  | c :: v, h, h', hn => fold_ne v (fun e => hn (step_inj e))
theorem sumS_ne {key key' : Int} {a b : List Nat} (hl : a.length = b.length) (h : sumH key a % 2147483647 ≠ sumH key' b % 2147483647) : sumS key a ≠ sumS key' b := by
  unfold sumS; rw [hl]; omega
/-- one byte turned: another sum -/
theorem sum_turned (key : Int) {bs : List Nat} {i y : Nat} (hi : i < bs.length) (hx : bs[i] < 256) (hy : y < 256) (hne : y ≠ bs[i]) : sumS key (bs.set i y) ≠ sumS key bs := by
  refine sumS_ne (by simp) ?_
  have e1 : bs = bs.take i ++ bs[i] :: bs.drop (i + 1) := by rw [← List.drop_eq_getElem_cons hi, List.take_append_drop]
  have e2 : bs.set i y = bs.take i ++ y :: bs.drop (i + 1) := List.set_eq_take_append_cons_drop .. |>.trans (by rw [if_pos hi])
  rw [e2]
  generalize hx' : bs[i] = x at *
  have e3 : sumH key bs = sumH key (bs.take i ++ x :: bs.drop (i + 1)) := congrArg (sumH key) e1
  rw [e3]
  unfold sumH
  rw [List.foldl_append, List.foldl_append, List.foldl_cons, List.foldl_cons]
  apply fold_ne
  unfold sumStep
  omega
/-- another key: another sum -/
theorem sum_key (key key' : Int) (bs : List Nat) : sumS key bs = sumS key' bs ↔ key % 2147483647 = key' % 2147483647 := by
  constructor
  · intro h
    rcases Int.decEq (key % 2147483647) (key' % 2147483647) with hn | he
    · exact absurd h (sumS_ne rfl (by unfold sumH; exact fold_ne bs (by omega)))
    · exact he
  · intro h; unfold sumS sumH; rw [h]
theorem four_inj {n m : Nat} (hn : n < 4294967296) (hm : m < 4294967296) (h : four n = four m) : n = m := by
  simp only [four, List.cons.injEq, and_true] at h; omega
theorem close_inj {key key' : Int} {a b : List Nat} (hl : a.length = b.length) : closeS key a = closeS key' b ↔ a = b ∧ sumS key a = sumS key' b := by
  have b1 := sumS_bd key a
  have b2 := sumS_bd key' b
  constructor
  · intro h
    obtain ⟨h1, h2⟩ := List.append_inj h hl
    have := four_inj (by omega) (by omega) h2
    exact ⟨h1, by omega⟩
  · rintro ⟨h1, h2⟩; subst h1; unfold closeS; rw [h2]
theorem close_take (key : Int) (bs : List Nat) : (closeS key bs).take bs.length = bs := by simp [closeS]
/-- what is closed, one byte turned, does not open -/
theorem turned_no (key : Int) {bs : List Nat} (hb : ∀ x ∈ bs, x < 256) {i y : Nat} (hi : i < bs.length + 4) (hy : y < 256) (hne : ∀ h : i < (closeS key bs).length, y ≠ (closeS key bs)[i]) :
    ¬ closeS key (((closeS key bs).set i y).take bs.length) = (closeS key bs).set i y := by
  intro h
  have hil : i < (closeS key bs).length := by rw [closeS_len]; exact hi
  have hset : (closeS key bs).set i y ≠ closeS key bs := by
    intro e
    have : ((closeS key bs).set i y)[i]'(by simpa using hil) = (closeS key bs)[i] := by simp only [e]
    rw [List.getElem_set_self] at this
    exact hne hil this
  by_cases c : i < bs.length
  · have e1 : (closeS key bs).set i y = bs.set i y ++ four (sumS key bs).toNat := by unfold closeS; rw [List.set_append_left _ _ c]
    have e2 : ((closeS key bs).set i y).take bs.length = bs.set i y := by rw [e1, List.take_append_of_le_length (by simp)]; exact List.take_of_length_le (by simp)
    rw [e2, e1] at h
    have hx : (closeS key bs)[i] = bs[i] := by simp only [closeS]; rw [List.getElem_append_left c]
    have hn := sum_turned key c (hb _ (List.getElem_mem c)) hy (hx ▸ hne hil)
    have h2 := (List.append_inj h rfl).2
    have b1 := sumS_bd key (bs.set i y)
    have b2 := sumS_bd key bs
    have := four_inj (by omega) (by omega) h2
    omega
  · have e2 : ((closeS key bs).set i y).take bs.length = bs := by
      rw [List.take_set_of_le (by omega), close_take]
    rw [e2] at h
    exact hset h.symm
end Go.Proofs.Ytidlpihffolelaa.Tg
