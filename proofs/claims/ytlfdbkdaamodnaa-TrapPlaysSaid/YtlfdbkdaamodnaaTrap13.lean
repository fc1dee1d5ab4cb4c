/- TrapPlays: the acts, what comes of them, the player in memory. -/
import Derived.Test.YtlfdbkdaamodnaaTrap6
import Derived.Test.YtlfdbkdaamodnaaSlS
import Derived.Test.YtlfdbkdaamodnaaApp
import Derived.Deep.RegionHeld3
import Derived.Deep.AppendLies
namespace Go.Proofs.Ytlfdbkdaamodnaa.Tr
open Go.RowKit Dt Go.Proofs.Ytlfdbkdaamodnaa.Hd Go.ChangeShapes Go.WideShapes
set_option linter.unusedVariables false

abbrev Act3 := Int × Int × Int
/-- the law's acts -/
def SlAct (w : World) (a : Option Addr) (len cap : Nat) (z : Nat → Act3) : Prop :=
  SlG w a len cap (fun b off => ∀ i, i < len → w.cell? ⟨b, off + i * 3, none⟩ = some (.int .i64 (z i).1) ∧ w.cell? ⟨b, off + (i * 3 + 1), none⟩ = some (.int .i64 (z i).2.1) ∧ w.cell? ⟨b, off + (i * 3 + 2), none⟩ = some (.int .i64 (z i).2.2))
theorem flat_act {fs : Array Field} (h : Try.prog.underlying 39 = some (.struct fs)) : Flat Try.prog fs ∧ fs.size = 3 ∧ (fs[0]?).map (·.type) = some 3 ∧ (fs[1]?).map (·.type) = some 3 ∧ (fs[2]?).map (·.type) = some 3 := by
  rw [Try.underlying39] at h
  simp only [Option.some.injEq, TypeDesc.struct.injEq] at h
  subst h
  refine ⟨fun j f hf => ?_, rfl, rfl, rfl, rfl⟩
  match j, hf with
  | 0, hf => simp at hf; subst hf; exact ⟨rfl, by kernel_rfl⟩
  | 1, hf => simp at hf; subst hf; exact ⟨rfl, by kernel_rfl⟩
  | 2, hf => simp at hf; subst hf; exact ⟨rfl, by kernel_rfl⟩
  | j + 3, hf => simp at hf
theorem slAct_of {H : Type} {enc : TypeId × Value → H} {w : World} {base : Nat} {held : Bool} {ts : List TypeId} {ds : List (DataW H)} {ps : List MemPlace} (hs : (DataW.weightsEach Try.prog ts ds).all (· ≤ reachBytes) = true) {j : Nat} {a : Option Addr} {len cap : Nat} {d : DataW H}
    (ht : ts[j]? = some 33) (hd : ds[j]? = some d) (h : DataW.Trod enc Try.prog w base (fun _ => true) held 33 (.slice a len cap) d ps) : ∃ z, SlAct w a len cap z := by
  obtain ⟨hfl, hsz, t0, t1, t2⟩ := flat_act Try.underlying39
  obtain ⟨V, hV, hx⟩ := rows_of hs (of_decide_eq_true (by kernel_rfl)) ht hd Try.underlying33 Try.underlying39 (by kernel_rfl) hfl (by rw [hsz]; decide) h
  have each : ∀ i, ∃ z : Act3, i < len → V i 0 = .int .i64 z.1 ∧ V i 1 = .int .i64 z.2.1 ∧ V i 2 = .int .i64 z.2.2 := fun i => by
    by_cases hi : i < len
    · obtain ⟨n0, y0, g0⟩ := hx i hi 0 _ rfl
      obtain ⟨n1, y1, g1⟩ := hx i hi 1 _ rfl
      obtain ⟨n2, y2, g2⟩ := hx i hi 2 _ rfl
      obtain ⟨a0, e0, _, f0⟩ := DataW.trod_int Try.underlying3 g0
      obtain ⟨a1, e1, _, f1⟩ := DataW.trod_int Try.underlying3 g1
      obtain ⟨a2, e2, _, f2⟩ := DataW.trod_int Try.underlying3 g2
      exact ⟨(a0, a1, a2), fun _ => ⟨by simpa using e0, by simpa using e1, by simpa using e2⟩⟩
    · exact ⟨(0, 0, 0), fun h => absurd h hi⟩
  refine ⟨fun i => Classical.choose (each i), ⟨hV.le, hV.nil, hV.reach, fun hp => ?_⟩⟩
  obtain ⟨b, off, e, hlt, hc⟩ := hV.cells hp
  refine ⟨b, off, e, hlt, fun i hi => ?_⟩
  obtain ⟨e0, e1, e2⟩ := Classical.choose_spec (each i) hi
  have c0 := hc i hi 0 (by decide)
  have c1 := hc i hi 1 (by decide)
  have c2 := hc i hi 2 (by decide)
  rw [e0] at c0; rw [e1] at c1; rw [e2] at c2
  exact ⟨c0, c1, c2⟩

/-- what becomes of depth, count and faults -/
def stepF (x : Act3) (d c : Nat) (fs : List (Int × Int)) : Nat × Nat × List (Int × Int) :=
  if x.1 % 8 = 0 then (min 6 (d + 1), c, fs)
  else if x.1 % 8 = 1 then (d - 1, c, fs)
  else if x.1 % 8 = 2 ∨ (x.1 % 8 < 5 ∧ x.2.1.tmod 2 ≠ 0) then (d - 1, c, fs ++ [(x.2.1, x.2.2)])
  else if 5 ≤ x.1 % 8 then (d, c + 1, fs)
  else (d, c, fs)
def finN (A : Nat → Act3) : Nat → Nat → Nat → Nat → List (Int × Int) → Nat × List (Int × Int)
  | 0, _, _, c, fs => (c, fs)
  | n + 1, i, d, c, fs => finN A n (i + 1) (stepF (A i) d c fs).1 (stepF (A i) d c fs).2.1 (stepF (A i) d c fs).2.2
/-- what comes of the acts from i on -/
def Fin (A : Nat → Act3) (N i d c : Nat) (fs : List (Int × Int)) : Nat × List (Int × Int) := finN A (N - i) i d c fs
section
variable {A : Nat → Act3} {N i d c : Nat} {fs : List (Int × Int)}
theorem Fin_end (d c : Nat) (fs : List (Int × Int)) : Fin A N N d c fs = (c, fs) := by unfold Fin; rw [Nat.sub_self]; rfl
theorem Fin_step (h : i < N) : Fin A N i d c fs = Fin A N (i + 1) (stepF (A i) d c fs).1 (stepF (A i) d c fs).2.1 (stepF (A i) d c fs).2.2 := by
  unfold Fin
  obtain ⟨n, hn⟩ : ∃ n, N - i = n + 1 := ⟨N - i - 1, by omega⟩
  have : N - (i + 1) = n := by omega
  rw [hn, this]; rfl
theorem Fin_in (h : i < N) (hk : (A i).1 % 8 = 0) : Fin A N i d c fs = Fin A N (i + 1) (min 6 (d + 1)) c fs := by
  rw [Fin_step h]; unfold stepF; rw [if_pos hk]
theorem Fin_out (h : i < N) (hk : (A i).1 % 8 = 1) : Fin A N i d c fs = Fin A N (i + 1) (d - 1) c fs := by
  rw [Fin_step h]; unfold stepF; rw [if_neg (by omega), if_pos hk]
theorem Fin_throw (h : i < N) (hk : (A i).1 % 8 = 2 ∨ ((A i).1 % 8 = 3 ∨ (A i).1 % 8 = 4) ∧ (A i).2.1.tmod 2 ≠ 0) : Fin A N i d c fs = Fin A N (i + 1) (d - 1) c (fs ++ [((A i).2.1, (A i).2.2)]) := by
  rw [Fin_step h]; unfold stepF; rw [if_neg (by omega), if_neg (by omega), if_pos (by rcases hk with h | ⟨h, h'⟩; exact .inl h; exact .inr ⟨by omega, h'⟩)]
theorem Fin_must (h : i < N) (hk : (A i).1 % 8 = 3 ∨ (A i).1 % 8 = 4) (ht : (A i).2.1.tmod 2 = 0) : Fin A N i d c fs = Fin A N (i + 1) d c fs := by
  rw [Fin_step h]; unfold stepF; rw [if_neg (by omega), if_neg (by omega), if_neg (by rintro (h | ⟨_, h⟩); omega; exact h ht), if_neg (by omega)]
theorem Fin_count (h : i < N) (hk : 5 ≤ (A i).1 % 8) : Fin A N i d c fs = Fin A N (i + 1) d (c + 1) fs := by
  rw [Fin_step h]; unfold stepF; rw [if_neg (by omega), if_neg (by omega), if_neg (by omega), if_pos hk]
end

def cellsF (fs : List (Int × Int)) : List Value := fs.flatMap fun f => [.int .i64 f.1, .int .i64 f.2]
theorem cellsF_snoc (fs : List (Int × Int)) (a b : Int) : cellsF (fs ++ [(a, b)]) = cellsF fs ++ [.int .i64 a, .int .i64 b] := by simp [cellsF]
/-- the player at block bp: where it is, how many were counted, the faults -/
structure PS (w : World) (bp base : Nat) (sl : Value) (i c : Nat) (fs : List (Int × Int)) (fv : Value) : Prop where
  blk : Blk w bp #[sl, .int .i64 i, .int .i64 c, fv] 37
  own : w.ownsRow base 26 2 fv fs.length (cellsF fs)
  lt : bp < base
  room : base ≤ w.heap.size
theorem PS.fr {w w' : World} {bp base : Nat} {sl : Value} {i c : Nat} {fs : List (Int × Int)} {fv : Value} (h : PS w bp base sl i c fs fv) {S : List Nat} (hF : Fr S w w') (hb : bp ∉ S) (hS : ∀ g, fv.ownBlock = some g → g ∉ S) : PS w' bp base sl i c fs fv :=
  ⟨hF.blk h.blk hb, own_keep h.own hF hS, h.lt, Nat.le_trans h.room hF.size⟩
theorem info26 : (Try.prog.info? 26).map (fun i => (i.zero, i.size, i.bytes)) = some (some (.agg #[.int .i64 0, .int .i64 0]), 2, 16) := by kernel_rfl
end Go.Proofs.Ytlfdbkdaamodnaa.Tr
