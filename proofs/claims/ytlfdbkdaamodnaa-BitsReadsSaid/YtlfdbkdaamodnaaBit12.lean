import Derived.Test.YtlfdbkdaamodnaaBit11
import Derived.Test.YtlfdbkdaamodnaaBit8
namespace Go.Proofs.Ytlfdbkdaamodnaa.Bt
open Go.RowKit Dt Go.Proofs.Ytlfdbkdaamodnaa.Hd
set_option linter.unusedVariables false
set_option linter.unusedSimpArgs false

/-- a writer that this call has made -/
def WS (W w : World) (A : Nat) (L : List Nat) : Prop := ∃ B bv, HasWr w B A bv (pk L) L.length ∧ From bv W.heap.size ∧ Fr [] W w ∧ W.heap.size ≤ A
theorem WS.fr0 {W w w' : World} {A : Nat} {L : List Nat} (h : WS W w A L) (hF : Fr [] w w') : WS W w' A L := by
  obtain ⟨B, bv, h1, h2, h3, h4⟩ := h
  exact ⟨B, bv, h1.fr hF (by simp) (by simp), h2, h3.trans hF (by simp), h4⟩
theorem WS.F {W w : World} {A : Nat} {L : List Nat} (h : WS W w A L) : Fr [] W w := by obtain ⟨B, bv, h1, h2, h3, h4⟩ := h; exact h3
theorem ws_new (W w : World) (hF : Fr [] W w) : Calls Try.prog 37 #[] w fun e w' => ∃ A, e = .returned (.pointer (some ⟨A, 0, none⟩)) ∧ WS W w' A [] ∧ w.heap.size ≤ A ∧ Fr [] w w' := by
  refine (new_any w).mono ?_
  rintro e w' ⟨rfl, h, hF'⟩
  exact ⟨_, rfl, ⟨_, _, h, From.none _, hF.trans hF' (by simp), hF.size⟩, Nat.le_refl _, hF'⟩
theorem ws_put {W w : World} {A : Nat} {L : List Nat} (h : WS W w A L) {v : Nat} {n : Int} {k : Nat} (hv : v < 18446744073709551616) (hk : (k : Int) = max 0 (min n 64)) (hs : L.length + 64 ≤ 1099511627776) :
    Calls Try.prog 39 #[.pointer (some ⟨A, 0, none⟩), .int .u64 v, .int .i64 n] w fun e w' => e = .returned (.tuple #[]) ∧ WS W w' A (L ++ bitsOf v k) := by
  obtain ⟨B, bv, h1, h2, h3, h4⟩ := h
  refine (Put_any h1 hv hk hs).mono ?_
  rintro e w' ⟨rfl, bv', h1', hF, hat⟩
  exact ⟨rfl, B, bv', h1', h2.step h3.size hat, h3.trans hF (h2.fresh (Nat.le_refl _) h4), h4⟩
theorem ws_signed {W w : World} {A : Nat} {L : List Nat} (h : WS W w A L) {v : Int} {u : Nat} {n : Int} {k : Nat} (hu : IntKind.u64.wrap v = (u : Int)) (hk : (k : Int) = max 0 (min n 64)) (hs : L.length + 64 ≤ 1099511627776) :
    Calls Try.prog 42 #[.pointer (some ⟨A, 0, none⟩), .int .i64 v, .int .i64 n] w fun e w' => e = .returned (.tuple #[]) ∧ WS W w' A (L ++ bitsOf u k) := by
  obtain ⟨B, bv, h1, h2, h3, h4⟩ := h
  refine (Signed_any h1 hu hk hs).mono ?_
  rintro e w' ⟨rfl, bv', h1', hF, hat⟩
  exact ⟨rfl, B, bv', h1', h2.step h3.size hat, h3.trans hF (h2.fresh (Nat.le_refl _) h4), h4⟩
theorem ws_len {W w : World} {A : Nat} {L : List Nat} (h : WS W w A L) : Calls Try.prog 41 #[.pointer (some ⟨A, 0, none⟩)] w fun e w' => e = .returned (.int .i64 L.length) ∧ w = w' := by
  obtain ⟨B, bv, h1, h2, h3, h4⟩ := h
  exact len_any h1
theorem ws_bytes {W w : World} {A : Nat} {L : List Nat} (h : WS W w A L) :
    Calls Try.prog 40 #[.pointer (some ⟨A, 0, none⟩)] w fun e w' => ∃ v, e = .returned v ∧ w'.ownsRow w.heap.size 5 1 v (pk L).length (u8s (pk L)) ∧ Fr [] w w' := by
  obtain ⟨B, bv, h1, h2, h3, h4⟩ := h
  exact bytes_any h1

/-- a reader that this call has made -/
def RS (W w : World) (A : Nat) (bs : List Nat) (p : Nat) : Prop := ∃ B bv, HasRd w B A bv bs p ∧ W.heap.size ≤ A ∧ W.heap.size ≤ B ∧ Fr [] W w
theorem RS.F {W w : World} {A : Nat} {bs : List Nat} {p : Nat} (h : RS W w A bs p) : Fr [] W w := by obtain ⟨B, bv, h1, h2, h3, h4⟩ := h; exact h4
theorem RS.lt {W w : World} {A : Nat} {bs : List Nat} {p : Nat} (h : RS W w A bs p) : A < w.heap.size := by obtain ⟨B, bv, h1, h2, h3, h4⟩ := h; exact h1.blk.lt
theorem RS.ge {W w : World} {A : Nat} {bs : List Nat} {p : Nat} (h : RS W w A bs p) : W.heap.size ≤ A := by obtain ⟨B, bv, h1, h2, h3, h4⟩ := h; exact h2
theorem RS.fr0 {W w w' : World} {A : Nat} {bs : List Nat} {p : Nat} (h : RS W w A bs p) (hF : Fr [] w w') : RS W w' A bs p := by
  obtain ⟨B, bv, h1, h2, h3, h4⟩ := h
  exact ⟨B, bv, ⟨hF.blk h1.blk (by simp), own_keep h1.own hF (by simp), h1.lt, h1.small, h1.fit⟩, h2, h3, h4.trans hF (by simp)⟩
theorem rs_new (W w : World) (hF : Fr [] W w) (sv : Value) (bs : List Nat) (h : LS w sv (u8s bs)) (hl : bs.length ≤ 1099511627776) (hlt : ∀ x ∈ bs, x < 256) :
    Calls Try.prog 47 #[sv] w fun e w' => ∃ A, e = .returned (.pointer (some ⟨A, 0, none⟩)) ∧ RS W w' A bs 0 ∧ w.heap.size ≤ A ∧ Fr [] w w' := by
  refine (newrd_any w sv bs h hl hlt).mono ?_
  rintro e w' ⟨A, bv, rfl, h1, h2, h3⟩
  have := hF.size
  exact ⟨A, rfl, ⟨_, bv, h1, by omega, hF.size, hF.trans h3 (by simp)⟩, h2, h3⟩
theorem rs_left {W w : World} {A : Nat} {bs : List Nat} {p : Nat} (h : RS W w A bs p) :
    Calls Try.prog 50 #[.pointer (some ⟨A, 0, none⟩)] w fun e w' => e = .returned (.int .i64 (8 * (bs.length : Int) - p)) ∧ RS W w' A bs p ∧ Fr [] w w' := by
  have h' := h
  obtain ⟨B, bv, h1, h2, h3, h4⟩ := h
  refine (left_any h1).mono ?_
  rintro e w' ⟨rfl, m, rfl⟩
  exact ⟨rfl, h'.fr0 ((Fr.refl [] w).drewN m), (Fr.refl [] w).drewN m⟩
theorem rs_get {W w : World} {A : Nat} {bs : List Nat} {p : Nat} (h : RS W w A bs p) {n : Int} {k : Nat} (hk : (k : Int) = max 0 (min n 64)) (hle : p + k ≤ 8 * bs.length) :
    Calls Try.prog 49 #[.pointer (some ⟨A, 0, none⟩), .int .i64 n] w fun e w' => e = .returned (.int .u64 (getN bs p k)) ∧ RS W w' A bs (p + k) ∧ Fr [A] w w' := by
  obtain ⟨B, bv, h1, h2, h3, h4⟩ := h
  refine (get_yes h1 hk hle).mono ?_
  rintro e w' ⟨rfl, h', hF⟩
  exact ⟨rfl, ⟨B, bv, h', h2, h3, h4.trans hF (by simpa using h2)⟩, hF⟩
theorem rs_signed {W w : World} {A : Nat} {bs : List Nat} {p : Nat} (h : RS W w A bs p) {n : Int} {k : Nat} (hk : (k : Int) = max 0 (min n 64)) (hle : p + k ≤ 8 * bs.length) :
    Calls Try.prog 48 #[.pointer (some ⟨A, 0, none⟩), .int .i64 n] w fun e w' => e = .returned (.int .i64 (sgn (getN bs p k) k)) ∧ RS W w' A bs (p + k) ∧ Fr [A] w w' := by
  obtain ⟨B, bv, h1, h2, h3, h4⟩ := h
  refine (signed_yes h1 hk hle).mono ?_
  rintro e w' ⟨rfl, h', hF⟩
  exact ⟨rfl, ⟨B, bv, h', h2, h3, h4.trans hF (by simpa using h2)⟩, hF⟩

theorem kb1_any {W w : World} {A bx : Nat} {bs : List Nat} {p : Nat} (h : RS W w A bs p) (hb : Blk w bx #[.pointer (some ⟨A, 0, none⟩)] 63) (hle : 8 * bs.length < p + 4) :
    Calls Try.prog 55 #[.pointer (some ⟨bx, 0, none⟩)] w fun e w1 => ∃ o : Tr.Out, o.ok ∧ e = o.asBody ∧ Fr [] w w1 ∧ o = .thrown 100 p [] := by
  obtain ⟨B, bv, h1, h2, h3, h4⟩ := h
  have c0 := hb.cell (i := 0) rfl
  have HH := Lib.hid h1
  clear hb h1 h2 h3 h4
  go_enter Try.func55, Try.ntmps55
  go_wp2_with fail
  refine (get_no (k := 4) HH.out (by omega) hle).mono ?_; rintro e w1 ⟨rfl, m, rfl⟩
  dsimp only
  exact ⟨rfl, .thrown 100 p [], rfl, rfl, (Fr.refl _ _).drewN m, rfl⟩
theorem kb2_any {W w : World} {A bx : Nat} {bs : List Nat} {p : Nat} (h : RS W w A bs p) (hb : Blk w bx #[.pointer (some ⟨A, 0, none⟩)] 63) (hle : 8 * bs.length < p + 1) :
    Calls Try.prog 56 #[.pointer (some ⟨bx, 0, none⟩)] w fun e w1 => ∃ o : Tr.Out, o.ok ∧ e = o.asBody ∧ Fr [] w w1 ∧ o = .thrown 100 p [] := by
  obtain ⟨B, bv, h1, h2, h3, h4⟩ := h
  have c0 := hb.cell (i := 0) rfl
  have HH := Lib.hid h1
  clear hb h1 h2 h3 h4
  go_enter Try.func56, Try.ntmps56
  go_wp2_with fail
  refine (signed_no (k := 1) HH.out (by omega) hle).mono ?_; rintro e w1 ⟨rfl, m, rfl⟩
  dsimp only
  exact ⟨rfl, .thrown 100 p [], rfl, rfl, (Fr.refl _ _).drewN m, rfl⟩
def kL : List Nat := [] ++ bitsOf 18446744073709551615 5 ++ bitsOf 9223372036854775808 64 ++ bitsOf 7 0 ++ bitsOf 7 0 ++ bitsOf 3 64
theorem kL_facts : kL.length = 133 ∧ (pk kL).length = 17 ∧ sgn (getN (pk kL) 0 5) 5 = -1 ∧ getN (pk kL) 5 64 = 9223372036854775808 ∧ getN (pk kL) 69 64 = 3 ∧ getN (pk kL) 133 0 = 0 ∧ getN (pk kL) 133 3 = 0 := by
  refine ⟨by kernel_rfl, by kernel_rfl, by kernel_rfl, by kernel_rfl, by kernel_rfl, by kernel_rfl, by kernel_rfl⟩
theorem kL_lt : ∀ x ∈ kL, x < 2 := by
  have : kL.all (fun x => decide (x < 2)) = true := by kernel_rfl
  simpa using this
end Go.Proofs.Ytlfdbkdaamodnaa.Bt
