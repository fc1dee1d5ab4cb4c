import Derived.Test.YtlfdbkdaamodnaaTrap8
namespace Go.Proofs.Ytlfdbkdaamodnaa.Tr
open Go.RowKit Dt Go.Proofs.Ytlfdbkdaamodnaa.Hd
set_option linter.unusedVariables false
set_option linter.unusedSimpArgs false

theorem ta_str (s : ByteArray) (w : World) : (Instr.typeAssert (.iface 9 (.string s)) 20 9 true).run Try.prog w = .ok (.tuple #[.string s, .bool true]) w := by
  simp [Instr.typeAssert, run_underlying Try.underlying9]
theorem other1_str (b : Nat) (s : ByteArray) (older : List PanicEntry) (w : World) (x : Value) (h : Blk w b #[x] 9) :
    CallsD Try.prog 60 #[.pointer (some ⟨b, 0, none⟩)] (.panicking ({ v := .iface 9 (.string s), recovered := false } :: older)) w fun e u' w' => e = .returned (.tuple #[]) ∧ u' = .panicking ({ v := .iface 9 (.string s), recovered := true } :: older) ∧ Fr [b] w w' ∧ Blk w' b #[.string s] 9 := by
  have hta := ta_str s
  have c1 := h.cell (i := 0) rfl
  have f1 := h.free 0
  refine callsD_of_wpS Try.func60 rfl fun c₀ cs hu => ?_
  simp only [Try.ntmps60, List.size_toArray, List.length_cons, List.length_nil, Nat.reduceAdd, Nat.reduceSub, Array.replicate_succ, Array.replicate_zero, List.push_toArray, List.append_toArray, List.nil_append, List.cons_append]
  apply wpS_seq
  apply wpS_region
  simp [wpOpsS, go_sem, recoverD, hu, Exit.thenS]
  refine wpS_of_wp ?_
  go_wp2_with fail
  refine ⟨rfl, _, rfl, _, results_none rfl _ _ _, rfl, rfl, ?_, ?_⟩
  · exact (Fr.refl _ w).setCell (.inl (by simp)) _
  · exact h.set 0 (.string s)

/-- 'other': a text of a panic that is none of ours comes through -/
theorem other_any {G : FuncId} {cap : Array Value} {w : World} {S : List Nat} {s : ByteArray} {R : World → Prop} (hS : ∀ x ∈ S, x < w.heap.size)
    (hcf : ∀ w, (callFunc G cap).run Try.prog w = .ok (.enter G cap) w)
    (hb : ∀ w0, Fr [] w w0 → Calls Try.prog G cap w0 fun e w1 => ∃ o : Out, o.ok ∧ e = o.asBody ∧ Fr S w0 w1 ∧ ((∃ older, o = .other 9 (.string s) older) ∧ R w1)) :
    Calls Try.prog 24 #[.func (.func G) #[] cap] w fun e w2 => ∃ w1 : World, e = .returned (.string s) ∧ Fr S w w2 ∧ R w1 ∧ Fr [w.heap.size] w1 w2 := by
  have hmf : ∀ (fn : Fn) (first cap : Array Value) (w : World), (Instr.makeFunc fn first cap).run Try.prog w = .ok (.func fn first cap) w := fun _ _ _ _ => rfl
  go_enter_defers Try.func24, Try.ntmps24
  go_wp2_with fail
  have hF0 : Fr [] w (w.alloc (.cells #[.string ByteArray.empty] 9)) := (Fr.refl _ w).alloc _
  have k1 := Blk.new w #[.string ByteArray.empty] 9

  refine (hb _ hF0).mono ?_
  rintro e w1 ⟨o, hok, rfl, hF1, ⟨older, rfl⟩, hR⟩
  have m1 := hF1.blk k1 (fun h => by have := hS _ h; omega)
  have hFS : Fr S w w1 := (hF0.mono (by simp)).trans hF1 (fun x hx => .inl hx)
  simp only [Out.asBody]
  refine leaves_cons (f := 60) (args := #[.pointer (some ⟨w.heap.size, 0, none⟩)]) (by simp) (by simp [go_sem]) ?_
  refine (other1_str w.heap.size s older w1 _ m1).mono ?_
  rintro e u' w2 ⟨rfl, rfl, hF3, n1⟩
  have d1 := n1.cell (i := 0) rfl
  have hF4 := hFS.trans hF3 (by simp)
  have hpl : older.dropWhile (!·.goexit) = [] := hok.2
  simp only [settle, hpl]
  refine ⟨.string s, ?_, w1, rfl, hF4, hR, hF3⟩
  simp at d1
  simp [results, Try.results24, go_sem, d1]
end Go.Proofs.Ytlfdbkdaamodnaa.Tr
