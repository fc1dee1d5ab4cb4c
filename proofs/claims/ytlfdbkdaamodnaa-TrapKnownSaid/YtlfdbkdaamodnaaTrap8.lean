import Derived.Test.YtlfdbkdaamodnaaTrap6
import Derived.Laws.EntriesVeiled
namespace Go.Proofs.Ytlfdbkdaamodnaa.Tr
open Go.RowKit Dt Go.Proofs.Ytlfdbkdaamodnaa.Hd
set_option linter.unusedVariables false
set_option linter.unusedSimpArgs false

/-- TrapStays' first function: it throws at i = n -/
theorem stays_body {w : World} {bn bm bd n : Nat} {m : Int} (k1 : Blk w bn #[.int .i64 n] 3) (k2 : Blk w bm #[.int .i64 m] 3) (kd : Blk w bd #[.int .i64 0] 3) (hn : n < 12) (hd1 : bn ≠ bd) (hd2 : bm ≠ bd) :
    Calls Try.prog 32 #[.pointer (some ⟨bn, 0, none⟩), .pointer (some ⟨bm, 0, none⟩), .pointer (some ⟨bd, 0, none⟩)] w
      fun e w1 => ∃ o : Out, o.ok ∧ e = o.asBody ∧ Fr [bd] w w1 ∧ (o = .thrown n m [] ∧ Blk w1 bd #[.int .i64 n] 3) := by
  go_enter Try.func32, Try.ntmps32
  go_wp2_with fail
  go_loopw [3] (fun i wr => ∃ j : Nat, j ≤ n ∧ i = .int .i64 j ∧ Blk wr bd #[.int .i64 j] 3 ∧ Fr [bd] w wr) (fun i _ => 30 - (intOf i).toNat)
  case atStart => exact ⟨0, by omega, rfl, kd, Fr.refl _ _⟩
  case round =>
    obtain ⟨j, hj, rfl, hD, hF⟩ := hrel
    have m1 := hF.blk k1 (by simpa using hd1)
    have m2 := hF.blk k2 (by simpa using hd2)
    have c1 := m1.cell (i := 0) rfl
    have c2 := m2.cell (i := 0) rfl
    have c3 := hD.cell (i := 0) rfl
    have f3 := hD.free 0
    simp at c1 c2 c3
    have hj12 : (j : Int) < 12 := by omega
    by_cases hjn : j = n
    · subst hjn
      go_wp2_with fail
      refine (must_no _ _ _).mono ?_; rintro e w' ⟨rfl, rfl⟩
      exact ⟨rfl, .thrown j m [], rfl, rfl, hF, rfl, hD⟩
    · have hne : ((j : Int) != (n : Int)) = true := by simp; omega
      have hne2 : ((j : Int) == (n : Int)) = false := by simp; omega
      have HJ := Lib.hid hjn; clear hjn
      go_wp2_with fail
      refine (must_yes _ _ _).mono ?_; rintro e w' ⟨rfl, rfl⟩
      go_wp2_with fail
      go_roundw
      case rel =>
        have hjn := HJ.out
        refine ⟨j + 1, by omega, by go_num, ?_, hF.setCell (.inl (by simp)) _⟩
        have := hD.set 0 (.int .i64 ((j : Int) + 1))
        have e : ((j : Int) + 1) = ((j + 1 : Nat) : Int) := by omega
        rw [e] at this
        exact this
      case measure => simp [intOf]; omega

/-- a function that counts, then panics with a text of its own -/
theorem cry_any {w : World} {bc bt : Nat} {s : ByteArray} (kc : Blk w bc #[.int .i64 0] 3) (kt : Blk w bt #[.string s] 9) :
    Calls Try.prog 35 #[.pointer (some ⟨bc, 0, none⟩), .pointer (some ⟨bt, 0, none⟩)] w
      fun e w1 => ∃ o : Out, o.ok ∧ e = o.asBody ∧ Fr [bc] w w1 ∧ ((∃ older, o = .other 9 (.string s) older) ∧ Blk w1 bc #[.int .i64 1] 3) := by
  have hne : bt ≠ bc := by rintro rfl; unfold Blk at kc kt; rw [kc] at kt; simp at kt
  have c1 := kc.cell (i := 0) rfl
  have f1 := kc.free 0
  have c2 := kt.cell (i := 0) rfl
  simp at c1 c2
  go_enter Try.func35, Try.ntmps35
  go_wp2_with fail
  refine ⟨rfl, .other 9 (.string s) [], ⟨by decide, rfl⟩, rfl, (Fr.refl _ w).setCell (.inl (by simp)) _, ⟨_, rfl⟩, kc.set 0 _⟩

theorem deeper_any {bc bt : Nat} {s : ByteArray} : ∀ (n : Nat) (w : World), n ≤ 100 → Blk w bc #[.int .i64 0] 3 → Blk w bt #[.string s] 9 →
    Calls Try.prog 34 #[.int .i64 n, .func (.func 35) #[] #[.pointer (some ⟨bc, 0, none⟩), .pointer (some ⟨bt, 0, none⟩)]] w
      fun e w1 => ∃ o : Out, o.ok ∧ e = o.asBody ∧ Fr [bc] w w1 ∧ ((∃ older, o = .other 9 (.string s) older) ∧ Blk w1 bc #[.int .i64 1] 3) := by
  intro n
  induction n with
  | zero =>
    intro w hn kc kt
    have hF1 := ((Fr.refl [] w).alloc (.cells #[.int .i64 0] 3)).alloc (.cells #[.func (.func 35) #[] #[.pointer (some ⟨bc, 0, none⟩), .pointer (some ⟨bt, 0, none⟩)]] 1)
    go_enter Try.func34, Try.ntmps34
    go_wp2_with fail
    refine (cry_any (hF1.blk kc (by simp)) (hF1.blk kt (by simp))).mono ?_
    rintro e w1 ⟨o, hok, rfl, hF, ⟨older, rfl⟩, hB⟩
    exact ⟨rfl, .other 9 (.string s) older, hok, rfl, (hF1.mono (by simp)).trans hF (fun x hx => .inl hx), ⟨_, rfl⟩, hB⟩
  | succ n ih =>
    intro w hn kc kt
    have hmf : ∀ (fn : Fn) (first cap : Array Value) (w : World), (Instr.makeFunc fn first cap).run Try.prog w = .ok (.func fn first cap) w := fun _ _ _ _ => rfl
    rw [show ((n + 1 : Nat) : Int) = (n : Int) + 1 by omega]
    have h0 : ((n : Int) + 1 == 0) = false := by simp; omega
    have hF1 := ((Fr.refl [] w).alloc (.cells #[.int .i64 ((n : Int) + 1)] 3)).alloc (.cells #[.func (.func 35) #[] #[.pointer (some ⟨bc, 0, none⟩), .pointer (some ⟨bt, 0, none⟩)]] 1)
    have b0 := (Blk.new w #[.int .i64 ((n : Int) + 1)] 3).alloc (.cells #[.func (.func 35) #[] #[.pointer (some ⟨bc, 0, none⟩), .pointer (some ⟨bt, 0, none⟩)]] 1)
    have b1 := Blk.new (w.alloc (.cells #[.int .i64 ((n : Int) + 1)] 3)) #[.func (.func 35) #[] #[.pointer (some ⟨bc, 0, none⟩), .pointer (some ⟨bt, 0, none⟩)]] 1
    rw [World.size_alloc] at b1
    have kc1 := hF1.blk kc (by simp)
    have kt1 := hF1.blk kt (by simp)
    have hlc := kc.lt
    have IH := Lib.hid ih; clear ih
    go_enter Try.func34, Try.ntmps34
    go_wp2_with fail
    generalize w.heap.size = K at *
    generalize (w.alloc (.cells #[.int .i64 ((n : Int) + 1)] 3)).alloc (.cells #[.func (.func 35) #[] #[.pointer (some ⟨bc, 0, none⟩), .pointer (some ⟨bt, 0, none⟩)]] 1) = w1 at *
    have hl1 := kc1.lt
    have hb : ∀ w0, Fr [] w1 w0 → Calls Try.prog 63 #[.pointer (some ⟨K, 0, none⟩), .pointer (some ⟨K + 1, 0, none⟩)] w0
        fun e w2 => ∃ o : Out, o.ok ∧ e = o.asBody ∧ Fr [bc] w0 w2 ∧ ((∃ older, o = .other 9 (.string s) older) ∧ Blk w2 bc #[.int .i64 1] 3) := by
      intro w0 hF0
      have c0 := (hF0.blk b0 (by simp)).cell (i := 0) rfl
      have c1 := (hF0.blk b1 (by simp)).cell (i := 0) rfl
      simp only [List.getElem_toArray, List.getElem_cons_zero] at c0 c1
      clear h0
      have es : IntKind.i64.wrap ((n : Int) + 1 - 1) = (n : Int) := by
        have : (n : Int) + 1 - 1 = (n : Int) := by omega
        rw [this]; exact IntWalk.i64_in _ (by omega)
      go_enter Try.func63, Try.ntmps63
      go_wp2_with fail
      refine (IH.out w0 (by omega) (hF0.blk kc1 (by simp)) (hF0.blk kt1 (by simp))).mono ?_
      rintro e w2 ⟨o, hok, rfl, hF, ⟨older, rfl⟩, hB⟩
      exact ⟨rfl, .other 9 (.string s) older, hok, rfl, hF, ⟨_, rfl⟩, hB⟩
    refine (catch_any (S := [bc]) (by simpa using hl1) (fun _ => by kernel_rfl) hb).mono ?_
    rintro e w3 ⟨o, w2, hok, rfl, hF3, ⟨⟨older, rfl⟩, hB⟩, hF4⟩
    refine ⟨rfl, .other 9 (.string s) ({ v := .iface 9 (.string s), recovered := true } :: older), ⟨by decide, ?_⟩, rfl, (hF1.mono (by simp)).trans hF3 (fun x hx => .inl hx), ⟨_, rfl⟩, hF4.blk hB (by simp; omega)⟩
    have h : Plain older := hok.2
    unfold Plain at h ⊢
    simpa [List.dropWhile] using h
end Go.Proofs.Ytlfdbkdaamodnaa.Tr
