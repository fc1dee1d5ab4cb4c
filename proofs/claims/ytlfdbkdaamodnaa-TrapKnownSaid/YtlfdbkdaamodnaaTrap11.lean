import Derived.Test.YtlfdbkdaamodnaaTrap9
namespace Go.Proofs.Ytlfdbkdaamodnaa.Tr
open Go.RowKit Dt Go.Proofs.Ytlfdbkdaamodnaa.Hd
set_option linter.unusedVariables false
set_option linter.unusedSimpArgs false

theorem bump20 (b : Nat) (u : FrameMode) (w : World) (n : Int) (hn : 0 ≤ n) (hn2 : n ≤ 100) (h : Blk w b #[.int .i64 n] 3) : CallsD Try.prog 20 #[.pointer (some ⟨b, 0, none⟩)] u w fun e u' w' => u' = u ∧ (e = .returned (.tuple #[]) ∧ Fr [b] w w' ∧ Blk w' b #[.int .i64 (n + 1)] 3) := by
  have c1 := h.cell (i := 0) rfl
  have f1 := h.free 0
  simp only [List.getElem_toArray, List.getElem_cons_zero] at c1
  go_enter_d Try.func20, Try.ntmps20
  go_wp2_with fail
  refine bodyPost_end (results_none rfl _ _ _) rfl ?_
  exact ⟨rfl, (Fr.refl _ w).setCell (.inl (by simp)) _, h.set 0 _⟩
theorem bump22 (b : Nat) (u : FrameMode) (w : World) (n : Int) (hn : 0 ≤ n) (hn2 : n ≤ 100) (h : Blk w b #[.int .i64 n] 3) : CallsD Try.prog 22 #[.pointer (some ⟨b, 0, none⟩)] u w fun e u' w' => u' = u ∧ (e = .returned (.tuple #[]) ∧ Fr [b] w w' ∧ Blk w' b #[.int .i64 (n + 1)] 3) := by
  have c1 := h.cell (i := 0) rfl
  have f1 := h.free 0
  simp only [List.getElem_toArray, List.getElem_cons_zero] at c1
  go_enter_d Try.func22, Try.ntmps22
  go_wp2_with fail
  refine bodyPost_end (results_none rfl _ _ _) rfl ?_
  exact ⟨rfl, (Fr.refl _ w).setCell (.inl (by simp)) _, h.set 0 _⟩
theorem inner_any {w : World} {bc bb : Nat} (h : Blk w bc #[.int .i64 0] 3) :
    Calls Try.prog 21 #[.pointer (some ⟨bc, 0, none⟩), .pointer (some ⟨bb, 0, none⟩)] w fun e w1 => ∃ o : Out, o.ok ∧ e = o.asBody ∧ Fr [bc] w w1 ∧ (o = .thrown 3 4 [] ∧ Blk w1 bc #[.int .i64 1] 3) := by
  have hmf : ∀ (fn : Fn) (first cap : Array Value) (w : World), (Instr.makeFunc fn first cap).run Try.prog w = .ok (.func fn first cap) w := fun _ _ _ _ => rfl
  go_enter_defers Try.func21, Try.ntmps21
  go_wp2_with fail
  refine (must_yes _ _ _).mono ?_; rintro e w' ⟨rfl, rfl⟩
  go_wp2_with fail
  refine (must_no _ _ _).mono ?_; rintro e w' ⟨rfl, rfl⟩
  refine leaves_cons (f := 22) (args := #[.pointer (some ⟨bc, 0, none⟩)]) (by simp) (by simp [go_sem]) ?_
  refine (bump22 bc _ w 0 (by decide) (by decide) h).mono ?_
  rintro e u' w1 ⟨rfl, rfl, hF, hB⟩
  exact ⟨.thrown 3 4 [], rfl, rfl, hF, rfl, hB⟩
set_option maxHeartbeats 800000 in
theorem outer19_any {w : World} {bc bb : Nat} (h : Blk w bc #[.int .i64 0] 3) :
    Calls Try.prog 19 #[.pointer (some ⟨bc, 0, none⟩), .pointer (some ⟨bb, 0, none⟩)] w fun e w1 => ∃ o : Out, o.ok ∧ e = o.asBody ∧ Fr [bc] w w1 ∧ (o = .thrown 4 7 [] ∧ Blk w1 bc #[.int .i64 2] 3) := by
  have hmf : ∀ (fn : Fn) (first cap : Array Value) (w : World), (Instr.makeFunc fn first cap).run Try.prog w = .ok (.func fn first cap) w := fun _ _ _ _ => rfl
  have hlt := h.lt
  go_enter_defers Try.func19, Try.ntmps19
  go_wp2_with fail
  refine (catch_any (S := [bc]) (by simpa using hlt) (fun _ => by kernel_rfl) (fun w0 hF => inner_any (hF.blk h (by simp)))).mono ?_
  rintro e w2 ⟨o, w1, hok, rfl, hF, ⟨rfl, hB⟩, hF2⟩
  simp only [Out.asCatch]
  have hB2 := (hF2.blk hB (by simp; omega)).alloc (.cells #[.int .i64 3, .int .i64 4] 26)
  have hF3 := hF.alloc (.cells #[.int .i64 3, .int .i64 4] 26)
  have c0 := (Blk.new w2 #[.int .i64 3, .int .i64 4] 26).cell (i := 0) rfl
  have c1 := (Blk.new w2 #[.int .i64 3, .int .i64 4] 26).cell (i := 1) rfl
  simp only [List.getElem_toArray, List.getElem_cons_zero, List.getElem_cons_succ] at c0 c1
  clear hF hB hF2 hok
  go_wp2_with fail
  refine (throw_any _ _ _).mono ?_; rintro e w' ⟨rfl, rfl⟩
  refine leaves_cons (f := 20) (args := #[.pointer (some ⟨bc, 0, none⟩)]) (by simp) (by simp [go_sem]) ?_
  refine (bump20 bc _ _ 1 (by decide) (by decide) hB2).mono ?_
  rintro e u' w3 ⟨rfl, rfl, hF4, hB4⟩
  exact ⟨.thrown 4 7 [], rfl, rfl, hF3.trans hF4 (fun x hx => .inl hx), rfl, hB4⟩
theorem catch_nil (w : World) : Calls Try.prog 16 #[.nilFunc] w fun e w2 => e = .returned (.tuple #[.agg #[.int .i64 0, .int .i64 0], .bool false]) ∧ Fr [] w w2 := by
  have hnil : ∀ w : World, (binOp BinOp.eql 1 .nilFunc .nilFunc).run Try.prog w = .ok (.bool true) w := fun _ => by kernel_rfl
  go_enter_defers Try.func16, Try.ntmps16
  go_wp2_with fail
  refine ⟨.tuple #[.agg #[.int .i64 0, .int .i64 0], .bool false], ?_, rfl, ((Fr.refl _ w).alloc _).alloc _⟩
  simp [results, Try.results16, go_sem]
theorem cry26 (w : World) : Calls Try.prog 26 #[] w fun e w1 => ∃ o : Out, o.ok ∧ e = o.asBody ∧ Fr [] w w1 ∧ ((∃ older, o = .other 9 (.string ⟨#[111, 116, 104, 101, 114]⟩) older) ∧ True) := by
  go_enter Try.func26, Try.ntmps26
  go_wp2_with fail
  exact ⟨rfl, .other 9 (.string ⟨#[111, 116, 104, 101, 114]⟩) [], ⟨by decide, rfl⟩, rfl, Fr.refl _ _, ⟨_, rfl⟩, trivial⟩
theorem cry25 (w : World) : Calls Try.prog 25 #[] w fun e w1 => ∃ o : Out, o.ok ∧ e = o.asBody ∧ Fr [] w w1 ∧ ((∃ older, o = .other 9 (.string ⟨#[111, 116, 104, 101, 114]⟩) older) ∧ True) := by
  go_enter Try.func25, Try.ntmps25
  go_wp2_with fail
  refine (catch_any (S := []) (by simp) (fun _ => by kernel_rfl) (fun w0 _ => cry26 w0)).mono ?_
  rintro e w3 ⟨o, w2, hok, rfl, hF3, ⟨⟨older, rfl⟩, hB⟩, hF4⟩
  refine ⟨rfl, .other 9 (.string ⟨#[111, 116, 104, 101, 114]⟩) ({ v := .iface 9 (.string ⟨#[111, 116, 104, 101, 114]⟩), recovered := true } :: older), ⟨by decide, ?_⟩, rfl, hF3, ⟨_, rfl⟩, trivial⟩
  have h : Plain older := hok.2
  unfold Plain at h ⊢
  simpa [List.dropWhile] using h
theorem cry29 (w : World) : Calls Try.prog 29 #[] w fun e w1 => ∃ o : Out, o.ok ∧ e = o.asBody ∧ Fr [] w w1 ∧ ((∃ older, o = .other 9 (.string ⟨#[100, 101, 101, 112]⟩) older) ∧ True) := by
  go_enter Try.func29, Try.ntmps29
  go_wp2_with fail
  exact ⟨rfl, .other 9 (.string ⟨#[100, 101, 101, 112]⟩) [], ⟨by decide, rfl⟩, rfl, Fr.refl _ _, ⟨_, rfl⟩, trivial⟩
theorem cry28 (w : World) : Calls Try.prog 28 #[] w fun e w1 => ∃ o : Out, o.ok ∧ e = o.asBody ∧ Fr [] w w1 ∧ ((∃ older, o = .other 9 (.string ⟨#[100, 101, 101, 112]⟩) older) ∧ True) := by
  go_enter Try.func28, Try.ntmps28
  go_wp2_with fail
  refine (catch_any (S := []) (by simp) (fun _ => by kernel_rfl) (fun w0 _ => cry29 w0)).mono ?_
  rintro e w3 ⟨o, w2, hok, rfl, hF3, ⟨⟨older, rfl⟩, hB⟩, hF4⟩
  refine ⟨rfl, .other 9 (.string ⟨#[100, 101, 101, 112]⟩) ({ v := .iface 9 (.string ⟨#[100, 101, 101, 112]⟩), recovered := true } :: older), ⟨by decide, ?_⟩, rfl, hF3, ⟨_, rfl⟩, trivial⟩
  have h : Plain older := hok.2
  unfold Plain at h ⊢
  simpa [List.dropWhile] using h
theorem cry27 (w : World) : Calls Try.prog 27 #[] w fun e w1 => ∃ o : Out, o.ok ∧ e = o.asBody ∧ Fr [] w w1 ∧ ((∃ older, o = .other 9 (.string ⟨#[100, 101, 101, 112]⟩) older) ∧ True) := by
  go_enter Try.func27, Try.ntmps27
  go_wp2_with fail
  refine (catch_any (S := []) (by simp) (fun _ => by kernel_rfl) (fun w0 _ => cry28 w0)).mono ?_
  rintro e w3 ⟨o, w2, hok, rfl, hF3, ⟨⟨older, rfl⟩, hB⟩, hF4⟩
  refine ⟨rfl, .other 9 (.string ⟨#[100, 101, 101, 112]⟩) ({ v := .iface 9 (.string ⟨#[100, 101, 101, 112]⟩), recovered := true } :: older), ⟨by decide, ?_⟩, rfl, hF3, ⟨_, rfl⟩, trivial⟩
  have h : Plain older := hok.2
  unfold Plain at h ⊢
  simpa [List.dropWhile] using h
theorem thrown1 (b : Nat) (c a : Int) (w : World) (x : Value) (h : Blk w b #[x] 4) :
    CallsD Try.prog 61 #[.pointer (some ⟨b, 0, none⟩)] (.panicking [{ v := thrownV c a, recovered := false }]) w fun e u' w' => e = .returned (.tuple #[]) ∧ u' = .panicking [{ v := thrownV c a, recovered := true }] ∧ Fr [b] w w' ∧ Blk w' b #[.bool true] 4 := by
  have c1 := h.cell (i := 0) rfl
  have f1 := h.free 0
  have hne : ∀ w : World, (binOp BinOp.neq 20 (.iface 72 (.agg #[.int .i64 c, .int .i64 a])) .nilIface).run Try.prog w = .ok (.bool true) w := fun _ => by kernel_rfl
  refine callsD_of_wpS Try.func61 rfl fun c₀ cs hu => ?_
  simp only [Try.ntmps61, List.size_toArray, List.length_cons, List.length_nil, Nat.reduceAdd, Nat.reduceSub, Array.replicate_succ, Array.replicate_zero, List.push_toArray, List.append_toArray, List.nil_append, List.cons_append]
  apply wpS_region
  unfold thrownV at hu
  simp [wpOpsS, go_sem, recoverD, hu, hne, c1, f1, bodyPostS, results, Try.results61, thrownV]
  exact ⟨(Fr.refl _ w).setCell (.inl (by simp)) _, h.set 0 _⟩
theorem thrown_yes (w : World) : Calls Try.prog 30 #[] w fun e w2 => e = .returned (.bool true) ∧ Fr [] w w2 := by
  have hmf : ∀ (fn : Fn) (first cap : Array Value) (w : World), (Instr.makeFunc fn first cap).run Try.prog w = .ok (.func fn first cap) w := fun _ _ _ _ => rfl
  have k1 := Blk.new w #[.bool false] 4
  go_enter_defers Try.func30, Try.ntmps30
  go_wp2_with fail
  refine (throw_any _ _ _).mono ?_; rintro e w' ⟨rfl, rfl⟩
  refine leaves_cons (f := 61) (args := #[.pointer (some ⟨w.heap.size, 0, none⟩)]) (by simp) (by simp [go_sem]) ?_
  refine (thrown1 w.heap.size 1 1 _ _ k1).mono ?_
  rintro e u' w2 ⟨rfl, rfl, hF3, n1⟩
  have d1 := n1.cell (i := 0) rfl
  simp at d1
  simp only [settle, List.dropWhile]
  refine ⟨.bool true, ?_, rfl, ((Fr.refl [] w).alloc _).trans hF3 (by simp)⟩
  simp [results, Try.results30, go_sem, d1]
end Go.Proofs.Ytlfdbkdaamodnaa.Tr
