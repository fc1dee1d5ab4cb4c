import Derived.Test.YtlfdbkdaamodnaaBit16
import Derived.Test.YtlfdbkdaamodnaaFew
import Derived.StillTailTactics
namespace Go.Proofs.Ytlfdbkdaamodnaa.Bt
open Go.RowKit Dt Go.Proofs.Ytlfdbkdaamodnaa.Hd
set_option linter.unusedVariables false
set_option linter.unusedSimpArgs false

/-- BitsReads: what a field's reading gives -/
def valOf (bs : List Nat) (p k : Nat) (sg : Bool) : Int := if sg = true then IntKind.u64.wrap (sgn (getN bs p k) k) else getN bs p k
/-- a reader that this call has made, its row named -/
def RX (W w : World) (A B : Nat) (bv : Value) (bs : List Nat) (p : Nat) : Prop := HasRd w B A bv bs p ∧ W.heap.size ≤ A ∧ W.heap.size ≤ B ∧ Fr [] W w
theorem RX.rs {W w : World} {A B : Nat} {bv : Value} {bs : List Nat} {p : Nat} (h : RX W w A B bv bs p) : RS W w A bs p := ⟨B, bv, h.1, h.2.1, h.2.2.1, h.2.2.2⟩
theorem RX.fr {S : List Nat} {W w w' : World} {A B : Nat} {bv : Value} {bs : List Nat} {p : Nat} (h : RX W w A B bv bs p) (hF : Fr S w w') (hA : A ∉ S) (hb : ∀ g, bv.ownBlock = some g → g ∉ S) (hS : ∀ x ∈ S, W.heap.size ≤ x) : RX W w' A B bv bs p :=
  ⟨⟨hF.blk h.1.blk hA, own_keep h.1.own hF hb, h.1.lt, h.1.small, h.1.fit⟩, h.2.1, h.2.2.1, h.2.2.2.trans hF (fun x hx => .inr (hS x hx))⟩
theorem RX.fr0 {W w w' : World} {A B : Nat} {bv : Value} {bs : List Nat} {p : Nat} (h : RX W w A B bv bs p) (hF : Fr [] w w') : RX W w' A B bv bs p := h.fr hF (by simp) (by simp) (by simp)
theorem RX.other {W w w' : World} {A B : Nat} {bv : Value} {bs : List Nat} {p x : Nat} {cs : Array Value} {T : TypeId} (h : RX W w A B bv bs p) (hx : Blk w x cs T) (h1 : T ≠ 5) (h2 : T ≠ 79) (hW : W.heap.size ≤ x) (hF : Fr [x] w w') : RX W w' A B bv bs p := by
  have hA : A ≠ x := blk_blk h.1.blk hx (Ne.symm h2)
  exact h.fr hF (by simpa using hA) (fun g hg => by simpa using own_blk (g := 0) h.1.own hx (Ne.symm h1) g hg) (by simpa using hW)
theorem rx_left {W w : World} {A B : Nat} {bv : Value} {bs : List Nat} {p : Nat} (h : RX W w A B bv bs p) :
    Calls Try.prog 50 #[.pointer (some ⟨A, 0, none⟩)] w fun e w' => e = .returned (.int .i64 (8 * (bs.length : Int) - p)) ∧ ∃ m, w' = w.drewN m := left_any h.1
theorem rx_get {W w : World} {A B : Nat} {bv : Value} {bs : List Nat} {p : Nat} (h : RX W w A B bv bs p) {n : Int} {k : Nat} (hk : (k : Int) = max 0 (min n 64)) (hle : p + k ≤ 8 * bs.length) :
    Calls Try.prog 49 #[.pointer (some ⟨A, 0, none⟩), .int .i64 n] w fun e w' => e = .returned (.int .u64 (getN bs p k)) ∧ RX W w' A B bv bs (p + k) ∧ Fr [A] w w' := by
  refine (get_yes h.1 hk hle).mono ?_
  rintro e w' ⟨rfl, h', hF⟩
  exact ⟨rfl, ⟨h', h.2.1, h.2.2.1, h.2.2.2.trans hF (by simpa using h.2.1)⟩, hF⟩
theorem rx_signed {W w : World} {A B : Nat} {bv : Value} {bs : List Nat} {p : Nat} (h : RX W w A B bv bs p) {n : Int} {k : Nat} (hk : (k : Int) = max 0 (min n 64)) (hle : p + k ≤ 8 * bs.length) :
    Calls Try.prog 48 #[.pointer (some ⟨A, 0, none⟩), .int .i64 n] w fun e w' => e = .returned (.int .i64 (sgn (getN bs p k) k)) ∧ RX W w' A B bv bs (p + k) ∧ Fr [A] w w' := by
  refine (signed_yes h.1 hk hle).mono ?_
  rintro e w' ⟨rfl, h', hF⟩
  exact ⟨rfl, ⟨h', h.2.1, h.2.2.1, h.2.2.2.trans hF (by simpa using h.2.1)⟩, hF⟩
theorem rx_get_no {W w : World} {A B : Nat} {bv : Value} {bs : List Nat} {p : Nat} (h : RX W w A B bv bs p) {n : Int} {k : Nat} (hk : (k : Int) = max 0 (min n 64)) (hle : 8 * bs.length < p + k) :
    Calls Try.prog 49 #[.pointer (some ⟨A, 0, none⟩), .int .i64 n] w fun e w' => e = .panicked [{ v := Tr.thrownV 100 p, recovered := false }] ∧ RX W w' A B bv bs p ∧ Fr [] w w' := by
  refine (get_no h.1 hk hle).mono ?_
  rintro e w' ⟨rfl, m, rfl⟩
  exact ⟨rfl, h.fr0 ((Fr.refl [] w).drewN m), (Fr.refl [] w).drewN m⟩
theorem rx_signed_no {W w : World} {A B : Nat} {bv : Value} {bs : List Nat} {p : Nat} (h : RX W w A B bv bs p) {n : Int} {k : Nat} (hk : (k : Int) = max 0 (min n 64)) (hle : 8 * bs.length < p + k) :
    Calls Try.prog 48 #[.pointer (some ⟨A, 0, none⟩), .int .i64 n] w fun e w' => e = .panicked [{ v := Tr.thrownV 100 p, recovered := false }] ∧ RX W w' A B bv bs p ∧ Fr [] w w' := by
  refine (signed_no h.1 hk hle).mono ?_
  rintro e w' ⟨rfl, m, rfl⟩
  exact ⟨rfl, h.fr0 ((Fr.refl [] w).drewN m), (Fr.refl [] w).drewN m⟩
def GotOut (W : World) (R B : Nat) (bv : Value) (bg : Nat) (bs : List Nat) (p k : Nat) (sg : Bool) (o : Tr.Out) (w' : World) : Prop :=
  (p + k ≤ 8 * bs.length ∧ o = .done ∧ RX W w' R B bv bs (p + k) ∧ Blk w' bg #[.int .u64 (valOf bs p k sg)] 46) ∨ (8 * bs.length < p + k ∧ o = .thrown 100 p [] ∧ RX W w' R B bv bs p ∧ Blk w' bg #[.int .u64 0] 46)

set_option maxRecDepth 100000 in
set_option maxHeartbeats 3200000 in
theorem reads_body {W w : World} {bl bi br bg R b off : Nat} {len cap : Nat} {j : Nat} {nn : Int} {sg : Bool} {bs : List Nat} {p k : Nat}
    (hbl : Blk w bl #[.slice (some ⟨b, off, none⟩) len cap] 55) (hbi : Blk w bi #[.int .i64 j] 3) (hbr : Blk w br #[.pointer (some ⟨R, 0, none⟩)] 63) (hbg : Blk w bg #[.int .u64 0] 46)
    {B : Nat} {bv : Value} (hR : RX W w R B bv bs p) (hne : R ≠ bg) (hbW : W.heap.size ≤ bg) (r2 : w.cell? ⟨b, off + j * 3 + 1, none⟩ = some (.int .i64 nn)) (r3 : w.cell? ⟨b, off + j * 3 + 2, none⟩ = some (.bool sg))
    (hj : j < len) (hl : len ≤ cap) (hcap : cap ≤ 140737488351232) (hk : (k : Int) = max 0 (min (sizeS nn) 64)) :
    Calls Try.prog 52 #[.pointer (some ⟨bl, 0, none⟩), .pointer (some ⟨bi, 0, none⟩), .pointer (some ⟨br, 0, none⟩), .pointer (some ⟨bg, 0, none⟩)] w fun e w1 => ∃ o : Tr.Out, o.ok ∧ e = o.asBody ∧ Fr [R, bg] w w1 ∧ GotOut W R B bv bg bs p k sg o w1 := by
  have c0 := hbl.cell (i := 0) rfl
  have c1 := hbi.cell (i := 0) rfl
  have c2 := hbr.cell (i := 0) rfl
  have q0 : (0 : Int) ≤ (j : Int) := by omega
  have q1 : (j : Int) < (len : Int) := by omega
  have HR := Lib.hid hR; have HG := Lib.hid hbg; have HK := Lib.hid hk; have HNE := Lib.hid hne
  clear hbl hbi hbr hbg hR hk hne
  cases sg with
  | true =>
    go_enter Try.func52, Try.ntmps52
    go_upto_region 1 with (fail)
    refine wp_region_still_tail 7 (by kernel_rfl) (by kernel_rfl) ?_
    simp only [List.take_succ_cons, List.take_zero, List.drop_succ_cons, List.drop_zero]
    repeat still_step
    refine wpStill_step (fun K hK => ?_)
    go_simp
    refine ⟨_, (size_any _ _).mono (fun e w' h => ⟨h.1, h.2.symm⟩), hK _ ?_⟩
    clear hK K
    repeat still_step
    (try refine wpStill_nil ?_)
    change wpList _ _ _ _ _ w.drew
    have HRd := Lib.hid (HR.out.fr0 (Fr.refl [] w).drew)
    have HGd := Lib.hid ((Fr.refl [] w).drew.blk HG.out (by simp))
    have hFd := (Fr.refl [R, bg] w).drew
    clear c0 c1 c2 r2 r3
    generalize w.drew = wd at *
    have HBW := Lib.hid hbW; clear hbW
    by_cases hle : p + k ≤ 8 * bs.length
    · go_wp2_with fail
      refine (rx_signed HRd.out HK.out hle).mono ?_; rintro e w1 ⟨rfl, hR1, hF⟩
      have hg1 := hF.blk HGd.out (by simp; exact fun h => HNE.out h.symm)
      have f0 := hg1.free 0
      have d0 := hg1.cell (i := 0) rfl
      have HR1 := Lib.hid hR1; have HG1 := Lib.hid hg1; have HF1 := Lib.hid (hFd.trans hF (by simp))
      have HLE := Lib.hid hle
      obtain ⟨s, hs⟩ : ∃ s, sgn (getN bs p k) k = s := ⟨_, rfl⟩
      have HS := Lib.hid hs
      rw [hs]
      clear hR1 hg1 hF hFd hle hs
      go_wp2_with fail
      refine bodyPost_end (results_none rfl _ _ _) rfl ?_
      have hval : .int .u64 (valOf bs p k true) = (Value.int .u64 (IntKind.u64.wrap s) : Value) := by unfold valOf; simp [HS.out]
      refine ⟨.done, trivial, rfl, HF1.out.setCell (.inl (by simp)) _, .inl ⟨HLE.out, rfl, HR1.out.other HG1.out (by decide) (by decide) HBW.out ((Fr.refl [bg] w1).setCell (.inl (by simp)) _), ?_⟩⟩
      rw [hval]
      exact HG1.out.set 0 _
    · go_wp2_with fail
      refine (rx_signed_no HRd.out HK.out (by omega)).mono ?_; rintro e w1 ⟨rfl, hR1, hF⟩
      have hlt : 8 * bs.length < p + k := by omega
      have hg1 := hF.blk HGd.out (by simp)
      exact ⟨rfl, .thrown 100 p [], rfl, rfl, hFd.trans hF (by simp), .inr ⟨hlt, rfl, hR1, hg1⟩⟩
  | false =>
    go_enter Try.func52, Try.ntmps52
    go_upto_region 2 with (fail)
    refine wp_region_still_tail 7 (by kernel_rfl) (by kernel_rfl) ?_
    simp only [List.take_succ_cons, List.take_zero, List.drop_succ_cons, List.drop_zero]
    repeat still_step
    refine wpStill_step (fun K hK => ?_)
    go_simp
    refine ⟨_, (size_any _ _).mono (fun e w' h => ⟨h.1, h.2.symm⟩), hK _ ?_⟩
    clear hK K
    repeat still_step
    (try refine wpStill_nil ?_)
    change wpList _ _ _ _ _ w.drew
    have HRd := Lib.hid (HR.out.fr0 (Fr.refl [] w).drew)
    have HGd := Lib.hid ((Fr.refl [] w).drew.blk HG.out (by simp))
    have hFd := (Fr.refl [R, bg] w).drew
    clear c0 c1 c2 r2 r3
    generalize w.drew = wd at *
    have HBW := Lib.hid hbW; clear hbW
    by_cases hle : p + k ≤ 8 * bs.length
    · go_wp2_with fail
      refine (rx_get HRd.out HK.out hle).mono ?_; rintro e w1 ⟨rfl, hR1, hF⟩
      have hg1 := hF.blk HGd.out (by simp; exact fun h => HNE.out h.symm)
      have f0 := hg1.free 0
      have d0 := hg1.cell (i := 0) rfl
      have HR1 := Lib.hid hR1; have HG1 := Lib.hid hg1; have HF1 := Lib.hid (hFd.trans hF (by simp))
      have HLE := Lib.hid hle
      obtain ⟨s, hs⟩ : ∃ s, getN bs p k = s := ⟨_, rfl⟩
      have HS := Lib.hid hs
      rw [hs]
      clear hR1 hg1 hF hFd hle hs
      go_wp2_with fail
      refine bodyPost_end (results_none rfl _ _ _) rfl ?_
      have hval : .int .u64 (valOf bs p k false) = (Value.int .u64 (s) : Value) := by unfold valOf; simp [HS.out]
      refine ⟨.done, trivial, rfl, HF1.out.setCell (.inl (by simp)) _, .inl ⟨HLE.out, rfl, HR1.out.other HG1.out (by decide) (by decide) HBW.out ((Fr.refl [bg] w1).setCell (.inl (by simp)) _), ?_⟩⟩
      rw [hval]
      exact HG1.out.set 0 _
    · go_wp2_with fail
      refine (rx_get_no HRd.out HK.out (by omega)).mono ?_; rintro e w1 ⟨rfl, hR1, hF⟩
      have hlt : 8 * bs.length < p + k := by omega
      have hg1 := hF.blk HGd.out (by simp)
      exact ⟨rfl, .thrown 100 p [], rfl, rfl, hFd.trans hF (by simp), .inr ⟨hlt, rfl, hR1, hg1⟩⟩
end Go.Proofs.Ytlfdbkdaamodnaa.Bt
