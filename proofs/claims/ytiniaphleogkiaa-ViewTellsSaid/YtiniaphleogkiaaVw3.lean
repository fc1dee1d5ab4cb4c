import Derived.Test.YtiniaphleogkiaaVw2
import Derived.Test.YtiniaphleogkiaaSh
import Derived.Deep.Cut
namespace Go.Proofs.Ytiniaphleogkiaa.Vw
open Go.RowKit Dt Go.Proofs.Ytiniaphleogkiaa.Hd Go.Proofs.Ytiniaphleogkiaa.Ma Ieee
set_option linter.unusedVariables false
set_option linter.unusedSimpArgs false

/-- no element: whatever slice -/
theorem ins_none {w : World} {v f : Value} {a n : Int} (h : n ≤ a + 1) (ha : 0 ≤ a) (ha2 : a ≤ 1000) :
    Calls Try.prog 53 #[v, .int .i64 a, .int .i64 n, f] w fun e w' => e = .returned (.tuple #[]) ∧ w = w' := by
  have hlt : decide (a + 1 < n) = false := by simp; omega
  go_enter Try.func53, Try.ntmps53
  go_wp2_with fail
  go_loopw [8] (fun iv wr => iv = .int .i64 (a + 1) ∧ w = wr) (fun iv _ => 0)
  case atStart => exact ⟨rfl, rfl⟩
  case round =>
    obtain ⟨rfl, rfl⟩ := hrel
    go_wp2_with fail
    go_end0
    exact ⟨rfl, rfl⟩
set_option maxHeartbeats 1600000 in
theorem stable_any {w : World} {g B0 b off n cap cap0 : Nat} {d : Nat → Nat} (hrow : Row w g (fun t => t) n) (hd : Deps w B0 b off n cap0 d) (hw : ∀ t, t < n → d t < 18446744073709551616) (hn : n ≤ 20) (hn1 : 1 ≤ n) (h0 : B0 ≠ g) (h1 : b ≠ g) :
    Calls Try.prog 52 #[.slice (some ⟨g, 0, none⟩) n cap, .int .i64 n, .func (.func 48) #[] #[.pointer (some ⟨B0, 0, none⟩)]] w fun e w' =>
      e = .returned (.tuple #[]) ∧ (∃ X, Row w' g X n ∧ OrdF (fun t => rk (d t)) n X) ∧ Fr [g] w w' := by
  by_cases h20 : n = 20
  · subst h20
    rw [show ((20 : Nat) : Int) = 20 from rfl]
    go_enter Try.func52, Try.ntmps52
    go_wp2_with fail
    go_loopw [7, 8] (fun av bv wr => (av = .int .i64 0 ∧ bv = .int .i64 20 ∧ w = wr) ∨ (av = .int .i64 20 ∧ bv = .int .i64 40 ∧ (∃ X, Row wr g X 20 ∧ OrdF (fun t => rk (d t)) 20 X) ∧ Fr [g] w wr)) (fun av _ _ => 20 - (intOf av).toNat)
    case atStart => exact .inl ⟨rfl, rfl, rfl⟩
    case round =>
      rcases hrel with ⟨rfl, rfl, rfl⟩ | ⟨rfl, rfl, hX, hF⟩
      · go_wp2_with fail
        refine (ins_any hrow hd hw (by omega) hn1 h0 h1).mono ?_; rintro e w1 ⟨rfl, hX, hF⟩
        have HX := Lib.hid hX; have HF := Lib.hid hF
        clear hX hF hrow hd
        go_wp2_with fail
        go_roundw
        case rel => exact .inr ⟨rfl, rfl, HX.out, HF.out⟩
        case measure => simp [intOf]
      · have HX := Lib.hid hX; have HF := Lib.hid hF
        clear hX hF hrow hd
        go_wp2_with fail
        refine (ins_none (a := 20) (by omega) (by omega) (by omega)).mono ?_; rintro e w' ⟨rfl, rfl⟩
        go_wp2_with fail
        go_loopw [6] (fun sv wq => sv = .int .i64 20 ∧ wr = wq) (fun _ _ => 0)
        case atStart => exact ⟨rfl, rfl⟩
        case round =>
          obtain ⟨rfl, rfl⟩ := hrel
          go_wp2_with fail
          go_end0
          exact ⟨rfl, HX.out, HF.out⟩
  · have q1 : decide ((20 : Int) ≤ n) = false := by simp; omega
    have q2 : decide ((20 : Int) < n) = false := by simp; omega
    go_enter Try.func52, Try.ntmps52
    go_wp2_with fail
    go_loopw [7, 8] (fun av bv wr => av = .int .i64 0 ∧ bv = .int .i64 20 ∧ w = wr) (fun _ _ _ => 0)
    case atStart => exact ⟨rfl, rfl, rfl⟩
    case round =>
      obtain ⟨rfl, rfl, rfl⟩ := hrel
      go_wp2_with fail
      refine (ins_any hrow hd hw (by omega) hn1 h0 h1).mono ?_; rintro e w1 ⟨rfl, hX, hF⟩
      have HX := Lib.hid hX; have HF := Lib.hid hF
      clear hX hF hrow hd
      go_wp2_with fail
      go_loopw [6] (fun sv wq => sv = .int .i64 20 ∧ w1 = wq) (fun _ _ => 0)
      case atStart => exact ⟨rfl, rfl⟩
      case round =>
        obtain ⟨rfl, rfl⟩ := hrel
        go_wp2_with fail
        go_end0
        exact ⟨rfl, HX.out, HF.out⟩
theorem stable_none {w : World} {f : Value} {a : Option Addr} {c : Nat} :
    Calls Try.prog 52 #[.slice a 0 c, .int .i64 0, f] w fun e w' => e = .returned (.tuple #[]) ∧ w = w' := by
  go_enter Try.func52, Try.ntmps52
  go_wp2_with fail
  go_loopw [7, 8] (fun av bv wr => av = .int .i64 0 ∧ bv = .int .i64 20 ∧ w = wr) (fun _ _ _ => 0)
  case atStart => exact ⟨rfl, rfl, rfl⟩
  case round =>
    obtain ⟨rfl, rfl, rfl⟩ := hrel
    go_wp2_with fail
    refine (ins_none (a := 0) (by omega) (by omega) (by omega)).mono ?_; rintro e w' ⟨rfl, rfl⟩
    go_wp2_with fail
    go_loopw [6] (fun sv wq => sv = .int .i64 20 ∧ w = wq) (fun _ _ => 0)
    case atStart => exact ⟨rfl, rfl⟩
    case round =>
      obtain ⟨rfl, rfl⟩ := hrel
      go_wp2_with fail
      go_end0
      exact ⟨rfl, rfl⟩
theorem inf3 : (Try.prog.info? 3).map (fun i => (i.zero, i.size, i.bytes)) = some (some (.int .i64 0), 1, 8) := by kernel_rfl
theorem sort0_any {w : World} {f : Value} {a : Option Addr} {c : Nat} : Calls Try.prog 47 #[.slice a 0 c, f] w fun e w' => e = .returned (.tuple #[]) ∧ w = w' := by
  go_enter Try.func47, Try.ntmps47
  go_wp2_with fail
  refine stable_none.mono ?_; rintro e w' ⟨rfl, rfl⟩
  go_wp2_with fail
  go_end0
  exact ⟨rfl, rfl⟩
theorem sort_any {w : World} {g B0 b off n cap cap0 : Nat} {d : Nat → Nat} (hrow : Row w g (fun t => t) n) (hd : Deps w B0 b off n cap0 d) (hw : ∀ t, t < n → d t < 18446744073709551616) (hn : n ≤ 20) (hn1 : 1 ≤ n) (h0 : B0 ≠ g) (h1 : b ≠ g) :
    Calls Try.prog 47 #[.slice (some ⟨g, 0, none⟩) n cap, .func (.func 48) #[] #[.pointer (some ⟨B0, 0, none⟩)]] w fun e w' =>
      e = .returned (.tuple #[]) ∧ (∃ X, Row w' g X n ∧ OrdF (fun t => rk (d t)) n X) ∧ Fr [g] w w' := by
  go_enter Try.func47, Try.ntmps47
  go_wp2_with fail
  refine (stable_any hrow hd hw hn hn1 h0 h1).mono ?_; rintro e w' ⟨rfl, hX, hF⟩
  go_wp2_with fail
  go_end0
  exact ⟨rfl, hX, hF⟩
/-- a slice value that reads as n numbers, in a block from base on -/
def IntS (w : World) (base : Nat) (v : Value) (n : Nat) (X : Nat → Nat) : Prop := ∃ a cap, v = .slice a n cap ∧ (0 < n → ∃ b off, a = some ⟨b, off, none⟩ ∧ base ≤ b ∧ b < w.heap.size ∧ ∀ t, t < n → w.cell? ⟨b, off + t, none⟩ = some (.int .i64 (X t)))
theorem IntS.fr {S : List Nat} {w w' : World} {base n : Nat} {v : Value} {X : Nat → Nat} (h : IntS w base v n X) (hF : Fr S w w') (hS : ∀ x ∈ S, x < base) : IntS w' base v n X := by
  obtain ⟨a, cap, e, h1⟩ := h
  refine ⟨a, cap, e, fun hn => ?_⟩
  obtain ⟨b, off, e2, h2, h3, h4⟩ := h1 hn
  have hb : b ∉ S := fun hx => by have := hS b hx; omega
  exact ⟨b, off, e2, h2, Nat.lt_of_lt_of_le h3 hF.size, fun t ht => (hF.cell (p := ⟨b, off + t, none⟩) h3 hb).trans (h4 t ht)⟩
theorem IntS.weaken {w : World} {base base' n : Nat} {v : Value} {X : Nat → Nat} (h : IntS w base v n X) (hb : base' ≤ base) : IntS w base' v n X := by
  obtain ⟨a, cap, e, h1⟩ := h
  refine ⟨a, cap, e, fun hn => ?_⟩
  obtain ⟨b, off, e2, h2, h3⟩ := h1 hn
  exact ⟨b, off, e2, by omega, h3⟩
/-- the numbers 0 .. n - 1 as cells -/
def upto (n : Nat) : List Value := (List.range n).map fun (t : Nat) => .int .i64 (t : Int)
theorem upto_succ (n : Nat) : upto (n + 1) = upto n ++ [.int .i64 (n : Int)] := by unfold upto; rw [List.range_succ, List.map_append]; rfl
theorem upto_row {w : World} {base n cap g : Nat} (h : w.ownsRow base 3 1 (.slice (some ⟨g, 0, none⟩) n cap) n (upto n)) (hn : 0 < n) : Row w g (fun t => t) n := by
  obtain ⟨h1, h2 | ⟨g', cap', cur, e, hb, hg, hc, hm, hs, ht⟩⟩ := h
  · omega
  · cases e
    rw [Nat.mul_one] at hs ht
    refine ⟨cur, hg, by omega, fun t htn => ?_⟩
    have h3 : (cur.toList.take n)[t]? = (upto n)[t]? := by rw [ht]
    rw [List.getElem?_take_of_lt htn] at h3
    rw [← Array.getElem?_toList, h3]
    unfold upto
    rw [List.getElem?_map, List.getElem?_range htn]; rfl
set_option maxRecDepth 100000 in
set_option maxHeartbeats 3200000 in
theorem order_any {w : World} {a : Option Addr} {n cap : Nat} {d : Nat → Nat} (hs : 0 < n → ∃ b off, a = some ⟨b, off, none⟩ ∧ b < w.heap.size ∧ ∀ t, t < n → w.cell? ⟨b, off + t, none⟩ = some (.float .f64 (d t))) (hw : ∀ t, t < n → d t < 18446744073709551616) (hn : n ≤ 20) :
    Calls Try.prog 32 #[.slice a n cap] w fun e w' => ∃ v X, e = .returned v ∧ OrdF (fun t => rk (d t)) n X ∧ IntS w' w.heap.size v n X ∧ Fr [] w w' := by
  have hmf : ∀ (fn : Fn) (first cap : Array Value) (w : World), (Instr.makeFunc fn first cap).run Try.prog w = .ok (.func fn first cap) w := fun _ _ _ _ => rfl
  obtain ⟨i0, hi0, hz0, hz1, hz2⟩ := info_parts inf3
  have hF0 := (Fr.refl [] w).alloc (.cells #[.slice a n cap] 40)
  have hbx := (Blk.new w #[.slice a n cap] 40)
  have HS := Lib.hid hs; clear hs
  go_enter Try.func32, Try.ntmps32
  go_wp2_with fail
  obtain ⟨B0, hB0⟩ : ∃ B0, B0 = w.heap.size := ⟨_, rfl⟩
  rw [← hB0] at hbx ⊢
  have hlt0 : B0 < (w.alloc (.cells #[.slice a n cap] 40)).heap.size := hbx.lt
  generalize w.alloc (.cells #[.slice a n cap] 40) = w1 at *
  have HB0 := Lib.hid hB0; clear hB0
  go_loopw [3, 7] (fun ov kv wr => ∃ k : Nat, k ≤ n ∧ kv = .int .i64 k ∧ wr.ownsRow (B0 + 1) 3 1 ov k (upto k) ∧ Blk wr B0 #[.slice a n cap] 40 ∧ Fr [] w wr) (fun _ kv _ => n - (intOf kv).toNat)
  case atStart => exact ⟨0, by omega, rfl, own_nil _ _ _ _, hbx, hF0⟩
  case round =>
    obtain ⟨k, hk, rfl, hown, hbk, hFr⟩ := hrel
    clear hbx hF0 hlt0
    by_cases hlt : k < n
    · have q1 : (k : Int) < n := by omega
      go_upto_region 5 with (fail)
      apply wp_region_lit
      iterate 3 (refine wpList_plain rfl (fun K hK => ?_); go_simp; refine hK _ _ ?_; clear hK K)
      refine wpList_append_src _ rfl (Operand.tmp 10) (Operand.tmp 12) 39 rfl (B0 + 1) 3 i0 (.int .i64 0) 1 8 Try.underlying39 hi0 hz0 hz1 hz2 rfl (by decide) _ _ k 1 (upto k) [.int .i64 k] rfl rfl ?c1 ?c2 ?c3 ?c4 ?c5 ?_
      case c1 => exact (own_fr hown (Fr.refl [] wr) (by simp)).alloc _
      case c2 => exact src_blk (sz := 1) (m := 1) (by simpa using Blk.new wr #[.int .i64 k] 3) (by simp) (by simp; rfl) 1
      case c3 => unfold maxLen; omega
      case c4 => omega
      case c5 => have := Blk.lt hbk; simp; omega
      intro v1 w1 hown1 hg1 hat1
      have hX : Fr [] wr (wr.alloc (.cells #[.int .i64 k] 3)) := (Fr.refl [] wr).alloc _
      have hY := own_fr hown hX (by simp)
      have hZ := fr_own (S := []) (hFr.trans hX (by simp)) hY hg1 (by have := HB0.out; omega)
      have hbk1 := blk_own (hbk.alloc (.cells #[.int .i64 k] 3)) hY hg1 (by omega)
      rw [← upto_succ] at hown1
      clear hX hY hg1 hat1 hown hbk
      go_wp2_with fail
      go_roundw
      case rel => exact ⟨k + 1, by omega, by go_num, hown1, hbk1, hZ⟩
      case measure => simp [intOf]; omega
    · have hkn : k = n := by omega
      have q1 : ¬ (k : Int) < n := by omega
      subst hkn
      go_wp2_with fail
      rcases Nat.eq_zero_or_pos k with hk0 | hk0
      · subst hk0
        obtain ⟨va, vc, rfl, -⟩ := own_any hown
        refine sort0_any.mono ?_; rintro e w' ⟨rfl, rfl⟩
        go_wp2_with fail
        go_ret
        exact ⟨_, fun t => t, rfl, OrdF.zero _ _, ⟨va, vc, rfl, fun h => by omega⟩, hFr⟩
      · obtain ⟨g, vc, rfl, hbg, hgc, -⟩ := own_form hown hk0
        obtain ⟨b, off, rfl, hblt, hcs⟩ := HS.out hk0
        have hrow := upto_row hown hk0
        have hb0 := HB0.out
        have hd : Deps wr B0 b off k cap d := ⟨by have := hbk.cell (i := 0) rfl; simpa using this, fun t ht => (hFr.cell (p := ⟨b, off + t, none⟩) hblt (by simp)).trans (hcs t ht), hbk.lt, Nat.lt_of_lt_of_le hblt hFr.size⟩
        refine (sort_any hrow hd hw hn hk0 (by omega) (by omega)).mono ?_
        rintro e w2 ⟨rfl, ⟨X, hX, hO⟩, hF2⟩
        have hFz := hFr.trans hF2 (by simp; omega)
        obtain ⟨cur, hc1, hc2, hc3⟩ := hX
        have hlt := hc1.lt
        clear hown hbk hcs hrow hd
        go_wp2_with fail
        go_ret
        exact ⟨_, X, rfl, hO, ⟨_, _, rfl, fun _ => ⟨g, 0, rfl, by omega, hlt, fun t ht => by rw [Nat.zero_add]; exact hc1.cell (hc3 t ht)⟩⟩, hFz⟩
end Go.Proofs.Ytiniaphleogkiaa.Vw
