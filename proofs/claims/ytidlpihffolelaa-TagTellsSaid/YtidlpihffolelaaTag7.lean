import Derived.Test.YtidlpihffolelaaTag6
import Derived.Deep.RegionWith
namespace Go.Proofs.Ytidlpihffolelaa.Tg
open Go.RowKit Dt Go.Proofs.Ytidlpihffolelaa.Hd
set_option linter.unusedVariables false

theorem bytes_of {w : World} {a : Option Addr} {len cap : Nat} {z : Nat → Int} (h : SlI .u8 w a len cap z) : ∃ bs : List Nat, LS w (.slice a len cap) (u8s bs) ∧ Bs bs ∧ bs.length = len := by
  refine ⟨(List.range len).map fun i => (z i).toNat, ?_, ⟨?_, ?_⟩, by simp⟩
  · have hl : (u8s ((List.range len).map fun i => (z i).toNat)).length = len := by simp [u8s]
    refine ⟨a, cap, by rw [hl], by rw [hl]; exact h.1.le, by have := h.1.reach; unfold maxLen; omega, h.1.nil, fun hp => ?_⟩
    rw [hl] at hp
    obtain ⟨b, off, e, hlt, hc⟩ := h.1.cells hp
    refine ⟨b, off, e, hlt, fun i x hx => ?_⟩
    have hi : i < len := by have := (List.getElem?_eq_some_iff.1 hx).1; rwa [hl] at this
    have h2 := h.2 i hi
    have l1 := u8_lo h2
    rw [hc i hi]
    have : (u8s ((List.range len).map fun i => (z i).toNat))[i]? = some (.int .u8 ((z i).toNat : Nat)) := by simp [u8s, hi]
    rw [this] at hx
    have e2 : (((z i).toNat : Nat) : Int) = z i := by omega
    rw [e2] at hx; exact hx
  · intro x hx
    simp only [List.mem_map, List.mem_range] at hx
    obtain ⟨i, hi, rfl⟩ := hx
    have := u8_hi (h.2 i hi); have := u8_lo (h.2 i hi); omega
  · have := h.1.le; have := h.1.reach; simp; omega

theorem set_own {w : World} {base : Nat} {e : TypeId} {g cap n : Nat} {bs : List Nat} (h : w.ownsRow base e 1 (.slice (some ⟨g, 0, none⟩) n cap) n (u8s bs)) (j x : Nat) (hj : j < n) :
    (w.setCell ⟨g, j, none⟩ (.int .u8 x)).ownsRow base e 1 (.slice (some ⟨g, 0, none⟩) n cap) n (u8s (bs.set j x)) := by
  have := h.stored j (.int .u8 x)
  have e1 : (u8s bs).set j (.int .u8 (x : Nat)) = u8s (bs.set j x) := by simp [u8s, List.map_set]
  rw [e1] at this
  exact this.1

theorem of_if {c : Prop} [Decidable c] {A B : Prop} (h : c) (a : A) : if c then A else B := by rw [if_pos h]; exact a
theorem xor_ne (a b : Nat) (hb : b ≠ 0) : a ^^^ b ≠ a := by
  intro h
  apply hb
  have := congrArg (a ^^^ ·) h
  simpa [← Nat.xor_assoc] using this
theorem xor_lt (a b : Nat) (ha : a < 256) (hb : b < 256) : a ^^^ b < 256 := Nat.xor_lt_two_pow (n := 8) ha hb

def opensV (key : Int) (bs : List Nat) : List Nat := if opens key bs then bs.take (bs.length - 4) else []
theorem open_any (w : World) (key : Int) (sv : Value) (bs : List Nat) (h : LS w sv (u8s bs)) (hB : Bs bs) :
    Calls Try.prog 35 #[.int .i64 key, sv] w fun e w' => ∃ v, e = .returned (.tuple #[v, .bool (opens key bs)]) ∧ LS w' v (u8s (opensV key bs)) ∧ Fr [] w w' := by
  by_cases h4 : bs.length < 4
  · have e1 : opens key bs = false := by unfold opens; exact decide_eq_false (by omega)
    have e2 : opensV key bs = [] := by unfold opensV; rw [e1]; rfl
    refine (open_short _ _ _ _ h h4).mono ?_; rintro e w' ⟨rfl, rfl⟩
    rw [e1, e2]
    exact ⟨_, rfl, LS.nil _, Fr.refl _ _⟩
  · obtain ⟨n, hn⟩ : ∃ n, bs.length = n + 4 := ⟨bs.length - 4, by omega⟩
    have hn4 : bs.length - 4 = n := by omega
    by_cases hc : closeS key (bs.take n) = bs
    · have e1 : opens key bs = true := by unfold opens; rw [hn4]; exact decide_eq_true ⟨by omega, hc⟩
      have e2 : opensV key bs = bs.take n := by unfold opensV; rw [e1, hn4]; rfl
      refine (open_yes _ _ _ _ n h hB hn hc).mono ?_; rintro e w' ⟨v, rfl, ho, hf⟩
      rw [e1, e2]
      exact ⟨_, rfl, LS.of_own' ho, hf⟩
    · have e1 : opens key bs = false := by unfold opens; rw [hn4]; exact decide_eq_false (fun x => hc x.2)
      have e2 : opensV key bs = [] := by unfold opensV; rw [e1]; rfl
      refine (open_no _ _ _ _ n h hB hn hc).mono ?_; rintro e w' ⟨rfl, hf⟩
      rw [e1, e2]
      exact ⟨_, rfl, LS.nil _, hf⟩
theorem opens_close (key : Int) (bs : List Nat) : opens key (closeS key bs) = true := by
  unfold opens; rw [closeS_len, Nat.add_sub_cancel, close_take]; simp
theorem opens_other (k key : Int) (bs : List Nat) : opens (k % 2147483647) (closeS key bs) = decide (k % 2147483647 = key % 2147483647) := by
  unfold opens; rw [closeS_len, Nat.add_sub_cancel, close_take]
  rw [decide_eq_decide]
  rw [close_inj rfl, sum_key]
  constructor
  · rintro ⟨_, _, h⟩; omega
  · intro h; exact ⟨by omega, rfl, by omega⟩
theorem opens_turned (key : Int) {bs : List Nat} (hb : ∀ x ∈ bs, x < 256) {i y x : Nat} (hi : i < bs.length + 4) (hy : y < 256) (hx : (closeS key bs)[i]? = some x) : opens key ((closeS key bs).set i (x ^^^ y)) = decide (y = 0) := by
  have hil : i < (closeS key bs).length := by rw [closeS_len]; exact hi
  have hxe : (closeS key bs)[i] = x := by rw [List.getElem?_eq_getElem hil] at hx; exact Option.some.inj hx
  have hx256 : x < 256 := hxe ▸ closeS_lt key bs hb _ (List.getElem_mem hil)
  by_cases h0 : y = 0
  · subst h0
    rw [Nat.xor_zero, ← hxe, List.set_getElem_self, opens_close]; rfl
  · rw [decide_eq_false h0]
    unfold opens
    rw [List.length_set, closeS_len, Nat.add_sub_cancel]
    exact decide_eq_false fun hh => turned_no key hb hi (xor_lt _ _ hx256 hy) (fun _ => by rw [hxe]; exact xor_ne x y h0) hh.2
theorem opensV_no {key : Int} {bs : List Nat} (h : opens key bs = false) : opensV key bs = [] := by unfold opensV; rw [h]; rfl

end Go.Proofs.Ytidlpihffolelaa.Tg
