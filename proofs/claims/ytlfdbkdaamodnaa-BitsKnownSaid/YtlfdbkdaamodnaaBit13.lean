import Derived.Test.YtlfdbkdaamodnaaBit12
import Derived.Deep.Cut
namespace Go.Proofs.Ytlfdbkdaamodnaa.Bt
open Go.RowKit Dt Go.Proofs.Ytlfdbkdaamodnaa.Hd
set_option linter.unusedVariables false
set_option linter.unusedSimpArgs false

set_option maxRecDepth 100000 in
set_option maxHeartbeats 3200000 in
theorem walk_bknown (W : World) : Calls Try.prog 12 #[] W fun e w' => e = .returned (.bool true) ∧ Below W.heap.size W w' := by
  have hmf : ∀ (fn : Fn) (first cap : Array Value) (w : World), (Instr.makeFunc fn first cap).run Try.prog w = .ok (.func fn first cap) w := fun _ _ _ _ => rfl
  obtain ⟨L1, hL1⟩ : ∃ L, [] ++ bitsOf 18446744073709551615 5 = L := ⟨_, rfl⟩
  obtain ⟨L2, hL2⟩ : ∃ L, L1 ++ bitsOf 9223372036854775808 64 = L := ⟨_, rfl⟩
  obtain ⟨L3, hL3⟩ : ∃ L, L2 ++ bitsOf 7 0 = L := ⟨_, rfl⟩
  obtain ⟨L4, hL4⟩ : ∃ L, L3 ++ bitsOf 7 0 = L := ⟨_, rfl⟩
  have hL5 : L4 ++ bitsOf 3 64 = kL := by rw [← hL4, ← hL3, ← hL2, ← hL1]; rfl
  have l1 : L1.length = 5 := by rw [← hL1]; rfl
  have l2 : L2.length = 69 := by rw [← hL2, List.length_append, bitsOf_len, l1]
  have l3 : L3.length = 69 := by rw [← hL3, List.length_append, bitsOf_len, l2]
  have l4 : L4.length = 69 := by rw [← hL4, List.length_append, bitsOf_len, l3]
  obtain ⟨q1, q2, q3, q4, q5, q6, q7⟩ := kL_facts
  have q8 := pk_lt kL kL_lt
  generalize kL = L5 at *
  generalize hbs : pk L5 = bs at *
  have HL1 := Lib.hid hL1; have HL2 := Lib.hid hL2; have HL3 := Lib.hid hL3; have HL4 := Lib.hid hL4; have HL5 := Lib.hid hL5
  have HBS := Lib.hid hbs; have Q3 := Lib.hid q3; have Q4 := Lib.hid q4; have Q5 := Lib.hid q5; have Q6 := Lib.hid q6; have Q7 := Lib.hid q7; have Q8 := Lib.hid q8; have Q1 := Lib.hid q1
  clear hL1 hL2 hL3 hL4 hL5 hbs q3 q4 q5 q6 q7 q8 q1
  go_enter Try.func12, Try.ntmps12
  go_wp2_with fail
  refine (ws_new W W (Fr.refl _ _)).mono ?_; rintro e w1 ⟨A, rfl, hA, -, -⟩
  go_wp2_with fail
  refine (known_any _).mono ?_; rintro e w2 ⟨rfl, hF⟩
  replace hA := hA.fr0 hF; clear hF
  go_wp2_with fail
  refine (ws_signed (u := 18446744073709551615) (k := 5) hA (by decide) (by decide) (by decide)).mono ?_; rintro e w3 ⟨rfl, hA3⟩
  rw [HL1.out] at hA3; clear hA
  go_wp2_with fail
  refine (ws_put (v := 9223372036854775808) (k := 64) hA3 (by decide) (by decide) (by omega)).mono ?_; rintro e w4 ⟨rfl, hA4⟩
  rw [HL2.out] at hA4; clear hA3
  go_wp2_with fail
  refine (ws_put (v := 7) (k := 0) hA4 (by decide) (by decide) (by omega)).mono ?_; rintro e w5 ⟨rfl, hA5⟩
  rw [HL3.out] at hA5; clear hA4
  go_wp2_with fail
  refine (ws_put (v := 7) (k := 0) hA5 (by decide) (by decide) (by omega)).mono ?_; rintro e w6 ⟨rfl, hA6⟩
  rw [HL4.out] at hA6; clear hA5
  go_wp2_with fail
  refine (ws_put (v := 3) (k := 64) hA6 (by decide) (by decide) (by omega)).mono ?_; rintro e w7 ⟨rfl, hA7⟩
  rw [HL5.out] at hA7; clear hA6
  go_wp2_with fail
  refine (ws_bytes hA7).mono ?_; rintro e w8 ⟨sv, rfl, hown, hF8⟩
  rw [HBS.out] at hown
  have hA8 := hA7.fr0 hF8
  go_wp2_with fail
  refine (rs_new W w8 hA8.F sv bs (LS.of_own' hown) (by omega) Q8.out).mono ?_; rintro e w9 ⟨R, rfl, hR9, hR, hF9⟩
  have hA9 := hA8.fr0 hF9
  clear hown hF8 hA7 hA8 hF9
  go_upto_region 10 with (fail)
  have hb := Blk.new w9 #[.pointer (some ⟨R, 0, none⟩)] 63
  have hF10 := (Fr.refl [] w9).alloc (.cells #[.pointer (some ⟨R, 0, none⟩)] 63)
  have hlt := hR9.lt
  have hR := hR9.fr0 hF10
  have hA := hA9.fr0 hF10
  clear hR9 hA9 hF10
  generalize w9.alloc (.cells #[.pointer (some ⟨R, 0, none⟩)] 63) = w10 at *
  generalize w9.heap.size = bx at *
  have hne : R ≠ bx := by omega
  have c0 := hb.cell (i := 0) rfl
  go_wp2_with fail
  refine (ws_len hA).mono ?_; rintro e w' ⟨rfl, rfl⟩
  rw [Q1.out]
  go_wp2_with fail
  refine (rs_signed (k := 5) hR (by decide) (by omega)).mono ?_; rintro e w11 ⟨rfl, hR', hF⟩
  replace hb := hF.blk hb (by simp; omega)
  replace hR := hR'
  clear hR' hF c0
  rw [Q3.out]
  simp only [Nat.zero_add] at hR
  have c0 := hb.cell (i := 0) rfl
  go_wp2_with fail
  refine (rs_get (k := 64) hR (by decide) (by omega)).mono ?_; rintro e w11 ⟨rfl, hR', hF⟩
  replace hb := hF.blk hb (by simp; omega)
  replace hR := hR'
  clear hR' hF c0
  rw [Q4.out]
  have c0 := hb.cell (i := 0) rfl
  go_wp2_with fail
  refine (rs_get (k := 64) hR (by decide) (by omega)).mono ?_; rintro e w11 ⟨rfl, hR', hF⟩
  replace hb := hF.blk hb (by simp; omega)
  replace hR := hR'
  clear hR' hF c0
  rw [Q5.out]
  have c0 := hb.cell (i := 0) rfl
  go_wp2_with fail
  refine (rs_left hR).mono ?_; rintro e w11 ⟨rfl, hR', hF⟩
  replace hb := hF.blk hb (by simp)
  replace hR := hR'
  clear hR' hF c0
  have c0 := hb.cell (i := 0) rfl
  go_wp2_with fail
  refine (rs_get (k := 0) hR (by decide) (by omega)).mono ?_; rintro e w11 ⟨rfl, hR', hF⟩
  replace hb := hF.blk hb (by simp; omega)
  replace hR := hR'
  clear hR' hF c0
  rw [Q6.out]
  replace hR : RS W w11 R bs 133 := hR
  go_wp2_with fail
  refine (Tr.catch_any (S := []) (by simp) (fun _ => by kernel_rfl) (fun w0 hF => kb1_any (hR.fr0 hF) (hF.blk hb (by simp)) (by omega))).mono ?_
  rintro e w12 ⟨o, w13, hok, rfl, hF, rfl, -⟩
  simp only [Tr.Out.asCatch]
  replace hb := hF.blk hb (by simp)
  replace hR := hR.fr0 hF
  clear hF hok
  go_upto_region 18 with (fail)
  have hfb := Blk.new w12 #[.int .i64 100, .int .i64 133] 26
  have hF10 := (Fr.refl [] w12).alloc (.cells #[.int .i64 100, .int .i64 133] 26)
  have hlt2 := hR.lt
  replace hb := hF10.blk hb (by simp)
  replace hR := hR.fr0 hF10
  clear hF10
  have e12 : w12.heap.size ≠ R := by omega
  generalize w12.alloc (.cells #[.int .i64 100, .int .i64 133] 26) = w14 at *
  generalize w12.heap.size = fx at *
  have c0 := hb.cell (i := 0) rfl
  go_wp2_with fail
  refine (rs_signed (k := 0) hR (by decide) (by omega)).mono ?_; rintro e w11 ⟨rfl, hR', hF⟩
  replace hb := hF.blk hb (by simp; omega)
  replace hfb := hF.blk hfb (by simp; omega)
  replace hR := hR'
  clear hR' hF c0
  replace hR : RS W w11 R bs 133 := hR
  have hs0 : sgn (getN bs 133 0) 0 = 0 := rfl
  rw [hs0]
  clear hs0
  have c0 := hb.cell (i := 0) rfl
  go_wp2_with fail
  refine (rs_get (k := 3) hR (by decide) (by omega)).mono ?_; rintro e w11 ⟨rfl, hR', hF⟩
  replace hb := hF.blk hb (by simp; omega)
  replace hfb := hF.blk hfb (by simp; omega)
  replace hR := hR'
  clear hR' hF c0
  rw [Q7.out]
  replace hR : RS W w11 R bs 136 := hR
  go_wp2_with fail
  refine (Tr.catch_any (S := []) (by simp) (fun _ => by kernel_rfl) (fun w0 hF => kb2_any (hR.fr0 hF) (hF.blk hb (by simp)) (by omega))).mono ?_
  rintro e w12 ⟨o, w13, hok, rfl, hF, rfl, -⟩
  simp only [Tr.Out.asCatch]
  replace hb := hF.blk hb (by simp)
  replace hR := hR.fr0 hF
  replace hfb := hF.blk hfb (by simp)
  clear hF hok
  go_upto_region 21 with (fail)
  have hgb := Blk.new w12 #[.int .i64 100, .int .i64 136] 26
  have hF10 := (Fr.refl [] w12).alloc (.cells #[.int .i64 100, .int .i64 136] 26)
  replace hb := hF10.blk hb (by simp)
  replace hfb := hF10.blk hfb (by simp)
  replace hR := hR.fr0 hF10
  clear hF10
  generalize w12.alloc (.cells #[.int .i64 100, .int .i64 136] 26) = w15 at *
  generalize w12.heap.size = gx at *
  have d0 := hfb.cell (i := 0) rfl
  have d1 := hfb.cell (i := 1) rfl
  have d2 := hgb.cell (i := 1) rfl
  have c0 := hb.cell (i := 0) rfl
  go_wp2_with fail
  refine (rs_left hR).mono ?_; rintro e w11 ⟨rfl, hR', hF⟩
  have hl0 : 8 * (bs.length : Int) - ((136 : Nat) : Int) = 0 := by omega
  rw [hl0]
  have hFW := hR'.F
  clear hF hR' hl0 hb hfb hgb d0 d1 d2 c0
  go_wp2_with fail
  go_ret
  exact ⟨rfl, hFW.below (Nat.le_refl _) (by simp)⟩
end Go.Proofs.Ytlfdbkdaamodnaa.Bt
