import Derived.Test.YtlfdbkdaamodnaaBit17
import Derived.Deep.CutBlock
import Derived.Deep.RegionHeld3
namespace Go.Proofs.Ytlfdbkdaamodnaa.Bt
open Go.RowKit Dt Go.Proofs.Ytlfdbkdaamodnaa.Hd
set_option linter.unusedVariables false
set_option linter.unusedSimpArgs false

/-- the reference's reader that this call has made -/
def RF (W w : World) (A : Nat) (bs : List Nat) (p : Nat) (s : Bool) : Prop := ∃ B bv, HasRR w B A bv bs p s ∧ W.heap.size ≤ A ∧ W.heap.size ≤ B ∧ Fr [] W w
theorem RF.F {W w : World} {A : Nat} {bs : List Nat} {p : Nat} {s : Bool} (h : RF W w A bs p s) : Fr [] W w := by obtain ⟨B, bv, h1, h2, h3, h4⟩ := h; exact h4
theorem RF.ge {W w : World} {A : Nat} {bs : List Nat} {p : Nat} {s : Bool} (h : RF W w A bs p s) : W.heap.size ≤ A := by obtain ⟨B, bv, h1, h2, h3, h4⟩ := h; exact h2
theorem RF.lt {W w : World} {A : Nat} {bs : List Nat} {p : Nat} {s : Bool} (h : RF W w A bs p s) : A < w.heap.size := by obtain ⟨B, bv, h1, h2, h3, h4⟩ := h; exact h1.blk.lt
theorem RF.fr0 {W w w' : World} {A : Nat} {bs : List Nat} {p : Nat} {s : Bool} (h : RF W w A bs p s) (hF : Fr [] w w') : RF W w' A bs p s := by
  obtain ⟨B, bv, h1, h2, h3, h4⟩ := h
  exact ⟨B, bv, ⟨hF.blk h1.blk (by simp), own_keep h1.own hF (by simp), h1.lt, h1.small, h1.fit⟩, h2, h3, h4.trans hF (by simp)⟩
theorem RF.other {W w w' : World} {A : Nat} {bs : List Nat} {p x : Nat} {s : Bool} {cs : Array Value} {T : TypeId} (h : RF W w A bs p s) (hx : Blk w x cs T) (h1 : T ≠ 5) (h2 : T ≠ 69) (hW : W.heap.size ≤ x) (hF : Fr [x] w w') : RF W w' A bs p s := by
  obtain ⟨B, bv, k, k2, k3, k4⟩ := h
  have hA : A ≠ x := blk_blk k.blk hx (Ne.symm h2)
  exact ⟨B, bv, ⟨hF.blk k.blk (by simpa using hA), own_keep k.own hF (fun g hg => by simpa using own_blk (g := 0) k.own hx (Ne.symm h1) g hg), k.lt, k.small, k.fit⟩, k2, k3, k4.trans hF (by simpa using hW)⟩
theorem RF.two {W w w' : World} {A : Nat} {bs : List Nat} {p x y : Nat} {s : Bool} {cs ds : Array Value} {T U : TypeId} (h : RF W w A bs p s) (hx : Blk w x cs T) (hy : Blk w y ds U) (h1 : T ≠ 5) (h2 : T ≠ 69) (h3 : U ≠ 5) (h4 : U ≠ 69) (hW : W.heap.size ≤ x) (hW2 : W.heap.size ≤ y) (hF : Fr [x, y] w w') : RF W w' A bs p s := by
  obtain ⟨B, bv, k, k2, k3, k4⟩ := h
  have hA : A ≠ x := blk_blk k.blk hx (Ne.symm h2)
  have hA2 : A ≠ y := blk_blk k.blk hy (Ne.symm h4)
  exact ⟨B, bv, ⟨hF.blk k.blk (by simp [hA, hA2]), own_keep k.own hF (fun g hg => by simp [own_blk (g := 0) k.own hx (Ne.symm h1) g hg, own_blk (g := 0) k.own hy (Ne.symm h3) g hg]), k.lt, k.small, k.fit⟩, k2, k3, k4.trans hF (by simp [hW, hW2])⟩
theorem RX.by_rf {W w w' : World} {A B R : Nat} {bv : Value} {bs cs : List Nat} {p q : Nat} {s : Bool} (k : RX W w R B bv cs q) (h : RF W w A bs p s) (hF : Fr [A] w w') : RX W w' R B bv cs q := by
  obtain ⟨B, bv, k1, k2, k3, k4⟩ := h
  exact k.other k1.blk (by decide) (by decide) k2 hF
theorem RF.by_rd {W w w' : World} {A R : Nat} {bs cs : List Nat} {p q : Nat} {s : Bool} (h : RF W w A bs p s) (k : RS W w R cs q) (hF : Fr [R] w w') : RF W w' A bs p s := by
  obtain ⟨B, bv, k1, k2, k3, k4⟩ := k
  exact h.other k1.blk (by decide) (by decide) k2 hF
theorem RF.blk {W w : World} {A : Nat} {bs : List Nat} {p : Nat} {s : Bool} (h : RF W w A bs p s) : ∃ a cap, Blk w A #[.slice a bs.length cap, .int .i64 p, .bool s] 69 ∧ bs.length ≤ cap ∧ cap ≤ maxLen := by
  obtain ⟨B, bv, h1, h2, h3, h4⟩ := h
  obtain ⟨ad, cap, rfl, hcap1, hcap2, -, hadd⟩ := own_any h1.own
  exact ⟨ad, cap, h1.blk, hcap1, hcap2⟩
theorem RF.fit {W w : World} {A : Nat} {bs : List Nat} {p : Nat} {s : Bool} (h : RF W w A bs p s) : p ≤ 8 * bs.length := by
  obtain ⟨B, bv, h1, h2, h3, h4⟩ := h; exact h1.fit
theorem RF.setS {W w : World} {A : Nat} {bs : List Nat} {p : Nat} {s : Bool} (h : RF W w A bs p s) (t : Bool) : RF W (w.setCell ⟨A, 2, none⟩ (.bool t)) A bs p t := by
  obtain ⟨B, bv, h1, h2, h3, h4⟩ := h
  exact ⟨B, bv, h1.setS t, h2, h3, h4.trans ((Fr.refl [A] w).setCell (.inl (by simp)) _) (by simpa using h2)⟩
theorem RF.drewN {W w : World} {A : Nat} {bs : List Nat} {p : Nat} {s : Bool} (h : RF W w A bs p s) (n : Nat) : RF W (w.drewN n) A bs p s := h.fr0 ((Fr.refl [] w).drewN n)
theorem rf_get {W w : World} {A : Nat} {bs : List Nat} {p : Nat} (h : RF W w A bs p false) {n : Int} {k : Nat} (hk : (k : Int) = max 0 (min 64 n)) (hle : p + k ≤ 8 * bs.length) :
    Calls Try.prog 54 #[.pointer (some ⟨A, 0, none⟩), .int .i64 n] w fun e w' => e = .returned (.int .u64 (getN bs p k)) ∧ RF W w' A bs (p + k) false ∧ Fr [A] w w' := by
  obtain ⟨B, bv, h1, h2, h3, h4⟩ := h
  refine (rget_yes h1 hk hle).mono ?_
  rintro e w' ⟨rfl, h', hF⟩
  exact ⟨rfl, ⟨B, bv, h', h2, h3, h4.trans hF (by simpa using h2)⟩, hF⟩
theorem rf_get_no {W w : World} {A : Nat} {bs : List Nat} {p : Nat} (h : RF W w A bs p false) {n : Int} {k : Nat} (hk : (k : Int) = max 0 (min 64 n)) (hle : 8 * bs.length < p + k) :
    Calls Try.prog 54 #[.pointer (some ⟨A, 0, none⟩), .int .i64 n] w fun e w' => e = .returned (.int .u64 0) ∧ RF W w' A bs p true ∧ Fr [A] w w' := by
  obtain ⟨B, bv, h1, h2, h3, h4⟩ := h
  refine (rget_no h1 hk hle).mono ?_
  rintro e w' ⟨rfl, h', hF⟩
  exact ⟨rfl, ⟨B, bv, h', h2, h3, h4.trans hF (by simpa using h2)⟩, hF⟩
theorem rf_sgn {W w : World} {A : Nat} {bs : List Nat} {p : Nat} (h : RF W w A bs p false) {n : Int} {k : Nat} (hk : (k : Int) = max 0 (min 64 n)) (hle : p + k ≤ 8 * bs.length) :
    Calls Try.prog 53 #[.pointer (some ⟨A, 0, none⟩), .int .i64 n] w fun e w' => e = .returned (.int .i64 (sgn (getN bs p k) k)) ∧ RF W w' A bs (p + k) false ∧ Fr [A] w w' := by
  obtain ⟨B, bv, h1, h2, h3, h4⟩ := h
  refine (rsgn_yes h1 hk hle).mono ?_
  rintro e w' ⟨rfl, h', hF⟩
  exact ⟨rfl, ⟨B, bv, h', h2, h3, h4.trans hF (by simpa using h2)⟩, hF⟩
theorem rf_sgn_no {W w : World} {A : Nat} {bs : List Nat} {p : Nat} (h : RF W w A bs p false) {n : Int} {k : Nat} (hk : (k : Int) = max 0 (min 64 n)) (hle : 8 * bs.length < p + k) :
    Calls Try.prog 53 #[.pointer (some ⟨A, 0, none⟩), .int .i64 n] w fun e w' => e = .returned (.int .i64 0) ∧ RF W w' A bs p true ∧ Fr [A] w w' := by
  obtain ⟨B, bv, h1, h2, h3, h4⟩ := h
  refine (rsgn_no h1 hk hle).mono ?_
  rintro e w' ⟨rfl, h', hF⟩
  exact ⟨rfl, ⟨B, bv, h', h2, h3, h4.trans hF (by simpa using h2)⟩, hF⟩
end Go.Proofs.Ytlfdbkdaamodnaa.Bt
