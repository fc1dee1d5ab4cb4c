/- Catch, whatever is handed to it: three contracts of its deferred closure, and its own. -/
import Derived.Test.YtlfdbkdaamodnaaHand
import Derived.Recover
namespace Go.Proofs.Ytlfdbkdaamodnaa.Tr
open Go.RowKit Dt Go.Proofs.Ytlfdbkdaamodnaa.Hd
set_option linter.unusedVariables false
set_option linter.unusedSimpArgs false

def thrownV (c a : Int) : Value := .iface 72 (.agg #[.int .i64 c, .int .i64 a])
theorem throw_any (c a : Int) (w : World) : Calls Try.prog 18 #[.int .i64 c, .int .i64 a] w fun e w' => e = .panicked [{ v := thrownV c a, recovered := false }] ∧ w = w' := by
  go_enter Try.func18, Try.ntmps18
  go_wp2_with fail
  exact ⟨rfl, rfl, rfl⟩
theorem ta_hit (X : Value) (w : World) : (Instr.typeAssert (.iface 72 X) 20 72 true).run Try.prog w = .ok (.tuple #[X, .bool true]) w := by
  simp [Instr.typeAssert, run_underlying Try.underlying72]
theorem ta_miss (T : TypeId) (hT : T ≠ 72) (X : Value) (w : World) : (Instr.typeAssert (.iface T X) 20 72 true).run Try.prog w = .ok (.tuple #[.agg #[.int .i64 0, .int .i64 0], .bool false]) w := by
  have hz : (zeroValue 72).run Try.prog w = .ok (.agg #[.int .i64 0, .int .i64 0]) w := by kernel_rfl
  simp [Instr.typeAssert, run_underlying Try.underlying72, hT, hz]
theorem catch1_idle (p q : Addr) (w : World) :
    CallsD Try.prog 59 #[.pointer (some p), .pointer (some q)] .returning w fun e u' w' => e = .returned (.tuple #[]) ∧ u' = .returning ∧ w = w' := by
  refine callsD_of_wpS Try.func59 rfl fun c₀ cs hu => ?_
  simp only [Try.ntmps59, List.size_toArray, List.length_cons, List.length_nil, Nat.reduceAdd, Nat.reduceSub, Array.replicate_succ, Array.replicate_zero, List.push_toArray, List.append_toArray, List.nil_append, List.cons_append]
  apply wpS_seq
  apply wpS_region
  simp [wpOpsS, go_sem, recoverD, hu, Exit.thenS]
  refine wpS_of_wp ?_
  go_wp2_with fail
  cases c₀
  simp_all [bodyPostS, results, Try.results59]
theorem catch1_thrown (b1 b2 : Nat) (c a : Int) (older : List PanicEntry) (w : World) (x y z : Value) (h1 : Blk w b1 #[x, y] 26) (h2 : Blk w b2 #[z] 4) :
    CallsD Try.prog 59 #[.pointer (some ⟨b1, 0, none⟩), .pointer (some ⟨b2, 0, none⟩)] (.panicking ({ v := thrownV c a, recovered := false } :: older)) w fun e u' w' => e = .returned (.tuple #[]) ∧ u' = .panicking ({ v := thrownV c a, recovered := true } :: older) ∧ Fr [b1, b2] w w' ∧ Blk w' b1 #[.int .i64 c, .int .i64 a] 26 ∧ Blk w' b2 #[.bool true] 4 := by
  have hta := ta_hit (.agg #[.int .i64 c, .int .i64 a])
  have c1 := h1.cell (i := 0) rfl
  have c2 := h1.cell (i := 1) rfl
  have c3 := h2.cell (i := 0) rfl
  have f1 := h1.free 0
  have f2 := h1.free 1
  have f3 := h2.free 0
  have l1 := h1.lt
  have l2 := h2.lt
  have hne : b1 ≠ b2 := by rintro rfl; unfold Blk at h1 h2; rw [h1] at h2; simp at h2
  refine callsD_of_wpS Try.func59 rfl fun c₀ cs hu => ?_
  simp only [Try.ntmps59, List.size_toArray, List.length_cons, List.length_nil, Nat.reduceAdd, Nat.reduceSub, Array.replicate_succ, Array.replicate_zero, List.push_toArray, List.append_toArray, List.nil_append, List.cons_append]
  apply wpS_seq
  apply wpS_region
  simp [wpOpsS, go_sem, recoverD, hu, Exit.thenS]
  refine wpS_of_wp ?_
  unfold thrownV
  go_wp2_with fail
  refine ⟨rfl, _, rfl, _, results_none rfl _ _ _, rfl, rfl, ?_, ?_, ?_⟩
  · exact ((((Fr.refl _ w).setCell (.inl (by simp)) _).setCell (.inl (by simp)) _).setCell (.inl (by simp)) _).alloc _
  · exact (((h1.set 0 (.int .i64 c)).set 1 (.int .i64 a)).other (a := ⟨b2, 0, none⟩) hne _).alloc _
  · exact (((h2.other (a := ⟨b1, 0, none⟩) (Ne.symm hne) _).other (a := ⟨b1, 1, none⟩) (Ne.symm hne) _).set 0 (.bool true)).alloc _
theorem catch1_other (p q : Addr) (T : TypeId) (hT : T ≠ 72) (v : Value) (older : List PanicEntry) (w : World)  :
    CallsD Try.prog 59 #[.pointer (some p), .pointer (some q)] (.panicking ({ v := .iface T v, recovered := false } :: older)) w fun e u' w' => e = .panicked [{ v := .iface T v, recovered := false }] ∧ u' = .panicking ({ v := .iface T v, recovered := true } :: older) ∧ w = w' := by
  have hta := ta_miss T hT v
  refine callsD_of_wpS Try.func59 rfl fun c₀ cs hu => ?_
  simp only [Try.ntmps59, List.size_toArray, List.length_cons, List.length_nil, Nat.reduceAdd, Nat.reduceSub, Array.replicate_succ, Array.replicate_zero, List.push_toArray, List.append_toArray, List.nil_append, List.cons_append]
  apply wpS_seq
  apply wpS_region
  simp [wpOpsS, go_sem, recoverD, hu, Exit.thenS]
  refine wpS_of_wp ?_
  go_wp2_with fail
  cases c₀
  simp_all [bodyPostS]

/-- what a function that is handed to Catch comes to -/
inductive Out where
  | done
  | thrown (c a : Int) (older : List PanicEntry)
  | other (T : TypeId) (v : Value) (older : List PanicEntry)
def Out.asBody : Out → Ending
  | .done => .returned (.tuple #[])
  | .thrown c a older => .panicked ({ v := thrownV c a, recovered := false } :: older)
  | .other T v older => .panicked ({ v := .iface T v, recovered := false } :: older)
def Out.asCatch : Out → Ending
  | .done => .returned (.tuple #[.agg #[.int .i64 0, .int .i64 0], .bool false])
  | .thrown c a _ => .returned (.tuple #[.agg #[.int .i64 c, .int .i64 a], .bool true])
  | .other T v older => .panicked ({ v := .iface T v, recovered := false } :: { v := .iface T v, recovered := true } :: older)
def Plain (l : List PanicEntry) : Prop := l.dropWhile (!·.goexit) = []
def Out.ok : Out → Prop
  | .done => True
  | .thrown _ _ older => Plain older
  | .other T _ older => T ≠ 72 ∧ Plain older

theorem catch_any2 {G : FuncId} {cap : Array Value} {w : World} {S : List Nat} {R : Out → World → Prop} (hS : ∀ x ∈ S, x < w.heap.size)
    (hcf : ∀ w, (callFunc G cap).run Try.prog w = .ok (.enter G cap) w)
    (hb : ∀ w0, Fr [] w w0 → w.heap.size + 2 ≤ w0.heap.size → Calls Try.prog G cap w0 fun e w1 => ∃ o : Out, o.ok ∧ e = o.asBody ∧ Fr S w0 w1 ∧ R o w1) :
    Calls Try.prog 16 #[.func (.func G) #[] cap] w fun e w2 => ∃ (o : Out) (w1 : World), o.ok ∧ e = o.asCatch ∧ Fr S w w2 ∧ R o w1 ∧ Fr [w.heap.size, w.heap.size + 1] w1 w2 := by
  have hmf : ∀ (fn : Fn) (first cap : Array Value) (w : World), (Instr.makeFunc fn first cap).run Try.prog w = .ok (.func fn first cap) w := fun _ _ _ _ => rfl
  have hnil : ∀ w : World, (binOp BinOp.eql 1 (.func (.func G) #[] cap) .nilFunc).run Try.prog w = .ok (.bool false) w := fun _ => by kernel_rfl
  go_enter_defers Try.func16, Try.ntmps16
  go_wp2_with fail
  have hF0 : Fr [] w ((w.alloc (.cells #[.int .i64 0, .int .i64 0] 26)).alloc (.cells #[.bool false] 4)) := ((Fr.refl _ w).alloc _).alloc _
  have k1 := (Blk.new w #[.int .i64 0, .int .i64 0] 26).alloc (.cells #[.bool false] 4)
  have k2 := Blk.new (w.alloc (.cells #[.int .i64 0, .int .i64 0] 26)) #[.bool false] 4
  have hsz : (w.alloc (.cells #[.int .i64 0, .int .i64 0] 26)).heap.size = w.heap.size + 1 := by simp
  rw [hsz] at k2
  refine (hb _ hF0 (by simp)).mono ?_
  rintro e w1 ⟨o, hok, rfl, hF1, hR⟩
  have m1 := hF1.blk k1 (fun h => by have := hS _ h; omega)
  have m2 := hF1.blk k2 (fun h => by have := hS _ h; omega)
  have hFS : Fr S w w1 := (hF0.mono (by simp)).trans hF1 (fun x hx => .inl hx)
  have hS2 : ∀ x ∈ [w.heap.size, w.heap.size + 1], x ∈ S ∨ w.heap.size ≤ x := by simp
  generalize hB : w.heap.size = B at *
  clear hF0 k1 k2 hsz hF1 hb hcf
  cases o with
  | done =>
    have c1 := m1.cell (i := 0) rfl
    have c2 := m1.cell (i := 1) rfl
    have c3 := m2.cell (i := 0) rfl
    have f1 := m1.free 0
    have f2 := m1.free 1
    have f3 := m2.free 0
    have HB := Lib.hid hB; clear hB
    simp only [Out.asBody]
    go_wp2_with fail
    have n1 := ((m1.set 0 (.int .i64 0)).set 1 (.int .i64 0)).other (a := ⟨B + 1, 0, none⟩) (by simp) (.bool false)
    have n2 := ((m2.other (a := ⟨B, 0, none⟩) (by simp) (.int .i64 0)).other (a := ⟨B, 1, none⟩) (by simp) (.int .i64 0)).set 0 (.bool false)
    have hF3 : Fr [B, B + 1] w1 (((w1.setCell ⟨B, 0, none⟩ (.int .i64 0)).setCell ⟨B, 1, none⟩ (.int .i64 0)).setCell ⟨B + 1, 0, none⟩ (.bool false)) := (((Fr.refl _ w1).setCell (.inl (by simp)) _).setCell (.inl (by simp)) _).setCell (.inl (by simp)) _
    have d1 := n1.cell (i := 0) rfl
    have d2 := n1.cell (i := 1) rfl
    have d3 := n2.cell (i := 0) rfl
    have hF4 := hFS.trans hF3 (by rw [HB.out]; exact hS2)
    clear n1 n2
    generalize ((w1.setCell ⟨B, 0, none⟩ (.int .i64 0)).setCell ⟨B, 1, none⟩ (.int .i64 0)).setCell ⟨B + 1, 0, none⟩ (.bool false) = w2 at *
    refine leaves_cons (f := 59) (args := #[.pointer (some ⟨B, 0, none⟩), .pointer (some ⟨B + 1, 0, none⟩)]) (by simp) (by simp [go_sem]) ?_
    refine (catch1_idle ⟨B, 0, none⟩ ⟨B + 1, 0, none⟩ _).mono ?_
    rintro e u' w'' ⟨rfl, rfl, rfl⟩
    refine ⟨.tuple #[.agg #[.int .i64 0, .int .i64 0], .bool false], ?_, .done, w1, hok, rfl, hF4, hR, by rw [HB.out]; exact hF3⟩
    simp at d1 d2 d3
    simp [results, Try.results16, go_sem, d1, d2, d3]
  | thrown c a older =>
    simp only [Out.asBody]
    refine leaves_cons (f := 59) (args := #[.pointer (some ⟨B, 0, none⟩), .pointer (some ⟨B + 1, 0, none⟩)]) (by simp) (by simp [go_sem]) ?_
    refine (catch1_thrown B (B + 1) c a older w1 _ _ _ m1 m2).mono ?_
    rintro e u' w2 ⟨rfl, rfl, hF3, n1, n2⟩
    have d1 := n1.cell (i := 0) rfl
    have d2 := n1.cell (i := 1) rfl
    have d3 := n2.cell (i := 0) rfl
    have hF4 := hFS.trans hF3 (by rw [hB]; exact hS2)
    have hpl : older.dropWhile (!·.goexit) = [] := hok
    simp only [settle, hpl]
    refine ⟨.tuple #[.agg #[.int .i64 c, .int .i64 a], .bool true], ?_, .thrown c a older, w1, hok, rfl, hF4, hR, by rw [hB]; exact hF3⟩
    simp at d1 d2 d3
    simp [results, Try.results16, go_sem, d1, d2, d3]
  | other T v older =>
    simp only [Out.asBody]
    refine leaves_cons (f := 59) (args := #[.pointer (some ⟨B, 0, none⟩), .pointer (some ⟨B + 1, 0, none⟩)]) (by simp) (by simp [go_sem]) ?_
    refine (catch1_other ⟨B, 0, none⟩ ⟨B + 1, 0, none⟩ T hok.1 v older w1).mono ?_
    rintro e u' w2 ⟨rfl, rfl, rfl⟩
    exact ⟨.other T v older, w1, hok, rfl, hFS, hR, Fr.refl _ _⟩
theorem catch_any {G : FuncId} {cap : Array Value} {w : World} {S : List Nat} {R : Out → World → Prop} (hS : ∀ x ∈ S, x < w.heap.size)
    (hcf : ∀ w, (callFunc G cap).run Try.prog w = .ok (.enter G cap) w)
    (hb : ∀ w0, Fr [] w w0 → Calls Try.prog G cap w0 fun e w1 => ∃ o : Out, o.ok ∧ e = o.asBody ∧ Fr S w0 w1 ∧ R o w1) :
    Calls Try.prog 16 #[.func (.func G) #[] cap] w fun e w2 => ∃ (o : Out) (w1 : World), o.ok ∧ e = o.asCatch ∧ Fr S w w2 ∧ R o w1 ∧ Fr [w.heap.size, w.heap.size + 1] w1 w2 :=
  catch_any2 hS hcf (fun w0 h _ => hb w0 h)
end Go.Proofs.Ytlfdbkdaamodnaa.Tr
