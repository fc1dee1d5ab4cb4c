import Derived.Test.YtidlpihffolelaaWin4
import Derived.Test.YtidlpihffolelaaArr
import Derived.Deep.LoopGhost
import Derived.Deep.Cut
namespace Go.Proofs.Ytidlpihffolelaa.Wn
open Go.RowKit Dt Go.Proofs.Ytidlpihffolelaa.Sq Go.Proofs.Ytidlpihffolelaa.Hd
set_option linter.unusedVariables false

/-- the cells of the reference's window -/
def rvals (any : Bool) (last : Int) (f : Nat → Bool) : Array Value := #[.bool any, .int .i64 last] ++ bools 65 f
theorem rvals_size (any : Bool) (last : Int) (f : Nat → Bool) : (rvals any last f).size = 67 := by simp [rvals, bools_size]
theorem rvals_get {any : Bool} {last : Int} {f : Nat → Bool} {i : Nat} (h : i < 65) : (rvals any last f)[2 + i]? = some (.bool (f i)) := by
  unfold rvals
  rw [Array.getElem?_append_right (by simp)]
  have e : 2 + i - (#[Value.bool any, Value.int .i64 last]).size = i := by simp
  rw [e, bools_get _ h]
theorem rvals_0 {any : Bool} {last : Int} {f : Nat → Bool} : (rvals any last f)[0]? = some (.bool any) := by
  unfold rvals; rw [Array.getElem?_append_left (by simp)]; rfl
theorem rvals_1 {any : Bool} {last : Int} {f : Nat → Bool} : (rvals any last f)[1]? = some (.int .i64 last) := by
  unfold rvals; rw [Array.getElem?_append_left (by simp)]; rfl
theorem rvals_ext {any any' : Bool} {last last' : Int} {f f' : Nat → Bool} {us : Array Value} (hs : us.size = 67) (h0 : us[0]? = some (.bool any')) (h1 : us[1]? = some (.int .i64 last')) (h2 : ∀ i, i < 65 → us[2 + i]? = some (.bool (f' i))) : us = rvals any' last' f' := by
  apply Array.ext_getElem?
  intro i
  rcases Nat.lt_or_ge i 67 with hi | hi
  · rcases Nat.lt_or_ge i 2 with h3 | h3
    · have : i = 0 ∨ i = 1 := by omega
      rcases this with rfl | rfl
      · rw [h0, rvals_0]
      · rw [h1, rvals_1]
    · obtain ⟨k, rfl⟩ : ∃ k, i = 2 + k := ⟨i - 2, by omega⟩
      rw [h2 k (by omega), rvals_get (by omega)]
  · rw [Array.getElem?_eq_none (by omega), Array.getElem?_eq_none (by rw [rvals_size]; omega)]
theorem rvals_set (any : Bool) (last : Int) (f : Nat → Bool) {i : Nat} (h : i < 65) (x : Bool) : (rvals any last f).setIfInBounds (2 + i) (.bool x) = rvals any last (fun k => if k = i then x else f k) := by
  refine rvals_ext (any := any) (last := last) (f := f) (by simp [rvals_size]) ?_ ?_ ?_
  · rw [Array.getElem?_setIfInBounds_ne (by omega), rvals_0]
  · rw [Array.getElem?_setIfInBounds_ne (by omega), rvals_1]
  · intro j hj
    by_cases e : j = i
    · subst e
      rw [Array.getElem?_setIfInBounds_self_of_lt (by rw [rvals_size]; omega)]; simp
    · rw [Array.getElem?_setIfInBounds_ne (by omega), rvals_get hj, if_neg e]
theorem rvals_set0 (any x : Bool) (last : Int) (f : Nat → Bool) : (rvals any last f).setIfInBounds 0 (.bool x) = rvals x last f := by
  refine rvals_ext (any := any) (last := last) (f := f) (by simp [rvals_size]) ?_ ?_ ?_
  · rw [Array.getElem?_setIfInBounds_self_of_lt (by rw [rvals_size]; omega)]
  · rw [Array.getElem?_setIfInBounds_ne (by omega), rvals_1]
  · intro j hj; rw [Array.getElem?_setIfInBounds_ne (by omega), rvals_get hj]
theorem rvals_set1 (any : Bool) (last x : Int) (f : Nat → Bool) : (rvals any last f).setIfInBounds 1 (.int .i64 x) = rvals any x f := by
  refine rvals_ext (any := any) (last := last) (f := f) (by simp [rvals_size]) ?_ ?_ ?_
  · rw [Array.getElem?_setIfInBounds_ne (by omega), rvals_0]
  · rw [Array.getElem?_setIfInBounds_self_of_lt (by rw [rvals_size]; omega)]
  · intro j hj; rw [Array.getElem?_setIfInBounds_ne (by omega), rvals_get hj]

/-- block b holds the reference's window -/
def RWin (w : World) (b : Nat) (s : WS) : Prop := Blk w b (rvals s.any s.last s.f) 37 ∧ 0 ≤ s.last ∧ s.last < 65536

def rnoteS (s : WS) (n : Int) : Int × WS :=
  if s.any = false then (1, ⟨true, n % 65536, fun k => if k = 0 then true else s.f k⟩)
  else if 0 < far (n % 65536) s.last then (1, ⟨true, n % 65536, fun k => if k = 0 then true else decide (far (n % 65536) s.last ≤ k) && s.f (k - (far (n % 65536) s.last).toNat)⟩)
  else if far (n % 65536) s.last < -64 then (3, s)
  else if s.f (-(far (n % 65536) s.last)).toNat = true then (2, s)
  else (1, ⟨true, s.last, fun k => if k = (-(far (n % 65536) s.last)).toNat then true else s.f k⟩)

/-- the reference's row, shifted, as far as it is filled -/
def shiftTo (d i : Nat) (f : Nat → Bool) : Nat → Bool := fun j => if j = 0 then true else decide (d ≤ j ∧ j < d + i) && f (j - d)
theorem shiftTo_def (d i : Nat) (f : Nat → Bool) (j : Nat) : shiftTo d i f j = if j = 0 then true else decide (d ≤ j ∧ j < d + i) && f (j - d) := rfl

set_option maxRecDepth 100000 in
set_option maxHeartbeats 2000000 in
theorem rnote_any (w : World) (b : Nat) (s : WS) (n : Int) (H : RWin w b s) :
    Calls Try.prog 27 #[.pointer (some ⟨b, 0, none⟩), .int .i64 n] w fun e w' => e = .returned (.int .i64 (rnoteS s n).1) ∧ RWin w' b (rnoteS s n).2 ∧ Fr [b] w w' := by
  obtain ⟨any, last, f⟩ := s
  obtain ⟨h, h1, h2⟩ := H
  simp only at h h1 h2
  have c0 := Blk.cell (i := 0) h rvals_0
  have c1 := Blk.cell (i := 1) h rvals_1
  have f0 := Blk.free h 0
  have f1 := Blk.free h 1
  have n1 : 0 ≤ n % 65536 := by omega
  have n2 : n % 65536 < 65536 := by omega
  have g1 := far_lo (n % 65536) last
  have g2 := far_hi (n % 65536) last
  cases any with
  | false =>
    have hfin : rnoteS ⟨false, last, f⟩ n = (1, ⟨true, n % 65536, fun k => if k = 0 then true else f k⟩) := by simp [rnoteS]
    rw [hfin]
    clear hfin
    have c2 := Blk.cell (i := 2) h (rvals_get (i := 0) (by decide))
    have f2 := Blk.free h 2
    go_enter Try.func27, Try.ntmps27
    go_wp2_with (first | (go_at_call 19; refine (rnorm_any _ _).mono ?_; rintro e w' ⟨rfl, rfl⟩) | (go_at_call 21; refine (rahead_any _ _ _).mono ?_; rintro e w' ⟨rfl, rfl⟩))
    go_ret
    refine ⟨rfl, ⟨?_, n1, n2⟩, (((Fr.refl _ _).setCell (.inl (by simp)) _).setCell (.inl (by simp)) _).setCell (.inl (by simp)) _⟩
    have := ((Blk.set h 0 (.bool true)).set 1 (.int .i64 (n % 65536))).set (2 + 0) (.bool true)
    rwa [rvals_set0, rvals_set1, rvals_set _ _ _ (by decide)] at this
  | true =>
    by_cases hf : 0 < far (n % 65536) last
    · have hfin : rnoteS ⟨true, last, f⟩ n = (1, ⟨true, n % 65536, fun k => if k = 0 then true else decide (far (n % 65536) last ≤ k) && f (k - (far (n % 65536) last).toNat)⟩) := by simp [rnoteS, hf]
      rw [hfin]
      clear hfin
      obtain ⟨d, hd⟩ : ∃ d : Nat, far (n % 65536) last = d := ⟨(far (n % 65536) last).toNat, by omega⟩
      have hn : Blk (w.alloc (.cells (bools 65 (fun _ => false)) 35)) w.heap.size (bools 65 (fun _ => false)) 35 := Blk.new w _ _
      have HD := Lib.hid hd; clear hd
      have HH := Lib.hid h
      have hz : ∀ w, (zeroValue 35).run Try.prog w = .ok (.agg (bools 65 (fun _ => false))) w := fun _ => by kernel_rfl
      have hb0 : (bools 65 (fun _ => false))[0]? = some (.bool false) := bools_get _ (by decide)
      have hlt : b < w.heap.size := Blk.lt h
      go_enter Try.func27, Try.ntmps27
      go_wp2_with (first | (go_at_call 19; refine (rnorm_any _ _).mono ?_; rintro e w' ⟨rfl, rfl⟩) | (go_at_call 21; refine (rahead_any _ _ _).mono ?_; rintro e w' ⟨rfl, rfl⟩))
      clear hb0 hz hn
      have eA := bools_set (n := 65) (i := 0) (fun _ => false) true
      rw [eA]
      clear eA
      have hA : Blk (w.alloc (.cells (bools 65 (fun k => if k = 0 then true else false)) 35)) w.heap.size (bools 65 (fun k => if k = 0 then true else false)) 35 := Blk.new w _ _
      have hB : Blk (w.alloc (.cells (bools 65 (fun k => if k = 0 then true else false)) 35)) b (rvals true last f) 37 := Blk.alloc h _
      have hF : Fr [b] w (w.alloc (.cells (bools 65 (fun k => if k = 0 then true else false)) 35)) := (Fr.refl _ _).alloc _
      generalize hA' : w.heap.size = A at *
      generalize w.alloc (.cells (bools 65 (fun k => if k = 0 then true else false)) 35) = W1 at *
      rw [HD.out]
      have hd1 : 1 ≤ (d : Int) := by have := HD.out; omega
      have hd2 : (d : Int) ≤ 32767 := by have := HD.out; omega
      clear c0 c1 f0 f1 HH hf g1 g2
      go_loopw [7] (fun k wr => ∃ i : Nat, (d + i ≤ 65 ∨ i = 0) ∧ k = .int .i64 ((d : Int) + i) ∧ Blk wr A (bools 65 (shiftTo d i f)) 35 ∧ Blk wr b (rvals true last f) 37 ∧ Fr [b] w wr) (fun k _ => 65 - (intOf k).toNat)
      case atStart =>
        refine ⟨0, .inr rfl, by go_num, hA.eq (bools_congr fun j _ => ?_), hB, hF⟩
        rw [shiftTo_def]
        by_cases h0 : j = 0
        · simp [h0]
        · rw [if_neg h0, if_neg h0]; simp; intro h3; omega
      case round =>
        obtain ⟨i, hi, rfl, kA, kB, kF⟩ := hrel
        clear hA hB hF
        by_cases hlt2 : d + i < 65
        · have l1 := Blk.cell (i := 2 + i) kB (rvals_get (i := i) (by omega))
          have l2 := Blk.free kA (d + i)
          have l3 := Blk.cell (i := d + i) kA (bools_get _ (by omega))
          go_wp2_with fail
          go_roundw
          case rel =>
            refine ⟨i + 1, by omega, by go_num, ?_, kB.other (by show b ≠ A; omega) _, kF.setCell (.inr (by show w.heap.size ≤ A; omega)) _⟩
            have := kA.set (d + i) (.bool (f i))
            rw [bools_set] at this
            refine this.eq (bools_congr fun j hj => ?_)
            rw [shiftTo_def, shiftTo_def]
            by_cases h0 : j = 0
            · subst h0; rw [if_neg (by omega)]; simp
            · rw [if_neg h0, if_neg h0]
              by_cases h3 : j = d + i
              · subst h3
                rw [if_pos rfl]
                have e4 : d + i - d = i := by omega
                simp [e4]
              · rw [if_neg h3]
                congr 1
                rw [decide_eq_decide]; omega
          case measure => simp [intOf]; omega
        · have hs1 : (bools 65 (shiftTo d i f)).all (·.oneCell') = true := by
            refine Array.all_eq_true_iff_forall_mem.2 (fun v hv => ?_)
            simp [bools] at hv
            obtain ⟨_, _, rfl⟩ := hv; rfl
          have ht := Blk.there kB 2 65 (by rw [rvals_size]; decide)
          go_upto_region 15 with (fail)
          apply wp_region_lit
          refine wpList_plain rfl (fun K hK => ?_); go_simp; refine hK _ _ ?_; clear hK K
          refine wpList_load_row rfl 35 (Operand.tmp 6) rfl A rfl 35 _ (0, 0) _ kA Try.underlying35 rfl (by rw [bools_size]; kernel_rfl) ?_
          refine wpList_plain rfl (fun K hK => ?_); go_simp; refine hK _ _ ?_; clear hK K
          refine wpList_plain rfl (fun K hK => ?_); go_simp; refine hK _ _ ?_; clear hK K
          refine wpList_store_mid rfl 35 (Operand.tmp 55) (Operand.tmp 53) rfl b 2 (bools 65 (shiftTo d i f)) rfl rfl (by rw [bools_size]; exact ht) (by rw [bools_size]; kernel_rfl) hs1 ?_
          have hsp := Blk.setCells (bools 65 (shiftTo d i f)).toList 2 wr _ kB
          have hF' := Fr.setCells (S := [b]) (a := w) (b := b) (.inl (by simp)) (bools 65 (shiftTo d i f)).toList 2 wr kF
          generalize wr.setCells b 2 (bools 65 (shiftTo d i f)).toList = wz at *
          obtain ⟨us, hz, hus, hget⟩ := hsp
          rw [rvals_size] at hus hget
          have e1 : us = rvals true last (shiftTo d i f) := by
            refine rvals_ext (any := true) (last := last) (f := f) hus ?_ ?_ ?_
            · rw [hget 0 (by decide), if_neg (by omega), rvals_0]
            · rw [hget 1 (by decide), if_neg (by omega), rvals_1]
            · intro j hj
              rw [hget (2 + j) (by omega), if_pos (by simp [bools_size]; omega)]
              have e2 : 2 + j - 2 = j := by omega
              rw [e2, Array.getElem?_toList, bools_get _ hj]
          rw [e1] at hz
          have c1 := Blk.cell (i := 1) hz rvals_1
          have f1 := Blk.free hz 1
          clear hus hget e1 kA kB kF hs1 ht
          go_wp2_with fail
          go_ret
          refine ⟨rfl, ⟨?_, n1, n2⟩, hF'.setCell (.inl (by simp)) _⟩
          have := hz.set 1 (.int .i64 (n % 65536))
          rw [rvals_set1] at this
          refine this.eq ?_
          refine rvals_ext (any := true) (last := n % 65536) (f := f) (rvals_size _ _ _) rvals_0 rvals_1 (fun j hj => ?_)
          rw [rvals_get hj, HD.out, shiftTo_def]
          congr 2
          by_cases h0 : j = 0
          · simp [h0]
          · rw [if_neg h0]
            simp only [h0, if_false]
            have e3 : ((d : Nat) : Int).toNat = d := by omega
            rw [e3]
            congr 1
            rw [decide_eq_decide]; omega
    · by_cases hold : far (n % 65536) last < -64
      · have hfin : rnoteS ⟨true, last, f⟩ n = (3, ⟨true, last, f⟩) := by simp [rnoteS, hf, hold]
        rw [hfin]
        clear hfin
        go_enter Try.func27, Try.ntmps27
        go_wp2_with (first | (go_at_call 19; refine (rnorm_any _ _).mono ?_; rintro e w' ⟨rfl, rfl⟩) | (go_at_call 21; refine (rahead_any _ _ _).mono ?_; rintro e w' ⟨rfl, rfl⟩))
        go_ret
        exact ⟨rfl, ⟨h, h1, h2⟩, Fr.refl _ _⟩
      · obtain ⟨k, hk⟩ : ∃ k : Nat, -(far (n % 65536) last) = k := ⟨(-(far (n % 65536) last)).toNat, by omega⟩
        have ck := Blk.cell (i := 2 + k) h (rvals_get (i := k) (by omega))
        have fk := Blk.free h (2 + k)
        have hkb : (k : Int) ≤ 64 := by omega
        by_cases hin : f k = true
        · have hfin : rnoteS ⟨true, last, f⟩ n = (2, ⟨true, last, f⟩) := by unfold rnoteS; rw [if_neg (by simp), if_neg hf, if_neg hold, if_pos (by rw [hk]; simpa using hin)]
          rw [hfin]
          clear hfin
          rw [hin] at ck
          go_enter Try.func27, Try.ntmps27
          go_wp2_with (first | (go_at_call 19; refine (rnorm_any _ _).mono ?_; rintro e w' ⟨rfl, rfl⟩) | (go_at_call 21; refine (rahead_any _ _ _).mono ?_; rintro e w' ⟨rfl, rfl⟩))
          go_ret
          exact ⟨rfl, ⟨h, h1, h2⟩, Fr.refl _ _⟩
        · have hfin : rnoteS ⟨true, last, f⟩ n = (1, ⟨true, last, fun j => if j = k then true else f j⟩) := by
            unfold rnoteS; rw [if_neg (by simp), if_neg hf, if_neg hold, if_neg (by rw [hk]; simpa using hin)]
            rw [hk]; simp
          rw [hfin]
          clear hfin
          have hin' : f k = false := by simpa using hin
          rw [hin'] at ck
          clear hin hin'
          go_enter Try.func27, Try.ntmps27
          go_wp2_with (first | (go_at_call 19; refine (rnorm_any _ _).mono ?_; rintro e w' ⟨rfl, rfl⟩) | (go_at_call 21; refine (rahead_any _ _ _).mono ?_; rintro e w' ⟨rfl, rfl⟩))
          go_ret
          refine ⟨rfl, ⟨?_, h1, h2⟩, (Fr.refl _ _).setCell (.inl (by simp)) _⟩
          have := Blk.set h (2 + k) (.bool true)
          rwa [rvals_set _ _ _ (by omega)] at this
end Go.Proofs.Ytidlpihffolelaa.Wn
