import Derived.Test.YtlfdbkdaamodnaaBit6
import Derived.Laws.MakeOwn
namespace Go.Proofs.Ytlfdbkdaamodnaa.Bt
open Go.RowKit Dt Go.Proofs.Ytlfdbkdaamodnaa.Hd
set_option linter.unusedVariables false
set_option linter.unusedSimpArgs false

theorem run_make_rowN {P : Program} (t e : TypeId) (i : TypeInfo) (z : Value) (ht : P.underlying t = some (.slice e)) (hi : P.info? e = some i) (hz : i.zero = some z)
    (kl kc : IntKind) (n c : Nat) (hnc : n ≤ c) (hbytes : i.bytes * c ≤ 281474976710656) (h63 : c ≤ 9223372036854775807) (w : World) :
    (Instr.makeSlice t (.int kl (n : Int)) (.int kc (c : Int))).run P w = .ok (.slice (some ⟨w.heap.size, 0, none⟩) n c) (w.alloc (.cells (madeCells z.cells (c * i.size)) e)) := by
  have hb : (i.bytes : Int) * (c : Int) ≤ 281474976710656 := by
    have h : ((i.bytes * c : Nat) : Int) ≤ 281474976710656 := by omega
    rwa [Int.natCast_mul] at h
  have hr := run_make (P := P) w t e i z ht hi hz kl kc n c (by omega) (by omega) hb (by omega)
  simp only [Int.toNat_natCast] at hr
  exact hr
theorem run_shl_u (k : IntKind) (v a : Int) (ha : 0 ≤ a) (w : World) : Sem.run Try.prog (Op.shift BinOp.shl k v .u64 a) w = .ok (.int k (k.wrap (v * 2 ^ (min a.toNat k.bits)))) w := by
  simp [Op.shift, go_sem, ha]
theorem made_one (v : Value) (n : Nat) : madeCells #[v] n = Array.replicate n v := by
  apply Array.ext
  · simp [size_madeCells]
  · intro i h1 h2
    simp [madeCells, Nat.mod_one]
theorem full_nil (N : Nat) : full N [] = List.replicate N 0 := by unfold full; simp [pk, pkS]
theorem full_all {N : Nat} {L : List Nat} (h : N = (L.length + 7) / 8) : full N L = pk L := by unfold full; rw [h]; simp
theorem full_len {N : Nat} {L : List Nat} (h : (L.length + 7) / 8 ≤ N) : (full N L).length = N := by
  unfold full; rw [List.length_append, List.length_replicate, pk_len]; omega
theorem take_snoc' {L : List Nat} {j : Nat} (h : j < L.length) : L.take (j + 1) = L.take j ++ [L[j]] := by
  rw [List.take_succ_eq_append_getElem h]
theorem own_of_blk {w : World} {base g : Nat} {bs : List Nat} (h : Blk w g (u8s bs).toArray 5) (hb : base ≤ g) (hm : bs.length ≤ maxLen) : w.ownsRow base 5 1 (.slice (some ⟨g, 0, none⟩) bs.length bs.length) bs.length (u8s bs) :=
  ⟨by simp [u8s], .inr ⟨g, bs.length, (u8s bs).toArray, rfl, hb, h, Nat.le_refl _, hm, by simp [u8s], by simp only [Nat.mul_one]; exact List.take_of_length_le (by simp [u8s])⟩⟩

set_option maxRecDepth 100000 in
set_option maxHeartbeats 1600000 in
theorem rBytes_any {w : World} {B A : Nat} {bv : Value} {L : List Nat} (h : HasRB w B A bv L) (hL : ∀ x ∈ L, x < 2) (hs : L.length ≤ 1099511627776) :
    Calls Try.prog 46 #[.pointer (some ⟨A, 0, none⟩)] w fun e w' => ∃ v, e = .returned v ∧ w'.ownsRow w.heap.size 5 1 v (pk L).length (u8s (pk L)) ∧ Fr [] w w' := by
  have c0 : w.cell? ⟨A, 0, none⟩ = some bv := h.blk.cell (i := 0) rfl
  have hown := h.own
  obtain ⟨ad, cap, rfl, hcap1, hcap2, -, hadd⟩ := own_any hown
  have hAl := h.blk.lt
  have hbk := h.blk
  clear h
  obtain ⟨N, hN⟩ : ∃ N : Nat, N = (L.length + 7) / 8 := ⟨_, rfl⟩
  have hNi : ((L.length : Nat) : Int) + 7 = ((L.length + 7 : Nat) : Int) := by omega
  have hN3 : N ≤ 1099511627776 := by omega
  obtain ⟨i0, hi0, hz0, hz1, hz2⟩ := info_parts info8
  have hmk : ∀ W, (Instr.makeSlice 51 (.int .i64 ((((L.length : Nat) : Int) + 7) / 8)) (.int .i64 ((((L.length : Nat) : Int) + 7) / 8))).run Try.prog W = .ok (.slice (some ⟨W.heap.size, 0, none⟩) N N) (W.alloc (.cells (u8s (full N [])).toArray 5)) := fun W => by
    have := run_make_rowN (P := Try.prog) 51 5 i0 _ Try.underlying51 hi0 hz0 .i64 .i64 N N (Nat.le_refl _) (by rw [hz2]; omega) (by omega) W
    rw [hz1, Nat.mul_one] at this
    have e1 : madeCells (Value.int IntKind.u8 0).cells N = (u8s (full N [])).toArray := by
      rw [full_nil]
      have : (Value.int IntKind.u8 0).cells = #[.int .u8 0] := rfl
      rw [this, made_one]; simp [u8s]
    have e2 : (((L.length : Nat) : Int) + 7) / 8 = (N : Int) := by omega
    rw [e1] at this
    rw [e2]; exact this
  have HN := Lib.hid hN; clear hN hNi
  have HO := Lib.hid hown; have HAD := Lib.hid hadd; have HBK := Lib.hid hbk
  clear hown hadd hbk
  go_enter Try.func46, Try.ntmps46
  go_wp2_with fail
  clear hmk
  have M0 := Blk.new w (u8s (full N [])).toArray 5
  have F0 := (Fr.refl [] w).alloc (.cells (u8s (full N [])).toArray 5)
  go_loopw [4] (fun iv wr => ∃ j : Nat, j ≤ L.length ∧ iv = .int .i64 j ∧ Blk wr w.heap.size (u8s (full N (L.take j))).toArray 5 ∧ Fr [] w wr) (fun iv _ => L.length - (intOf iv).toNat)
  case atStart => exact ⟨0, by omega, rfl, by simpa using M0, F0⟩
  case round =>
    obtain ⟨j, hj, rfl, hM, hF⟩ := hrel
    clear M0 F0
    have d0 := (hF.blk HBK.out (by simp)).cell (i := 0) rfl
    simp only [List.getElem_toArray, List.getElem_cons_zero] at d0
    have HF := Lib.hid hF; have HM := Lib.hid hM
    clear hF hM c0
    by_cases hlt : j < L.length
    · obtain ⟨g, rfl, -⟩ := HAD.out (by omega)
      have q1 := (own_keep HO.out HF.out (by simp)).cellAt j (by omega)
      have q2 : (bs01 L)[j]? = some (.bool (L[j] == 1)) := by simp [bs01, hlt]
      rw [q2] at q1
      have hb2 : L[j] < 2 := hL _ (List.getElem_mem hlt)
      have hlen : (L.take j).length = j := by rw [List.length_take]; omega
      have hNj : j / 8 < N := by have := HN.out; omega
      obtain ⟨x, hx1, hx2, hx3⟩ := full_step (N := N) (L := L.take j) (b := L[j]) (fun y hy => hL y (List.mem_of_mem_take hy)) hb2 (by rw [hlen]; exact hNj)
      rw [hlen] at hx1 hx2 hx3
      rw [← take_snoc' hlt] at hx3
      have hfl : (full N (L.take j)).length = N := full_len (by rw [hlen]; have := HN.out; omega)
      have q3 : wr.cell? ⟨w.heap.size, j / 8, none⟩ = some (.int .u8 (x : Nat)) := by
        rw [HM.out.cell (v := .int .u8 (x : Nat)) (by simp [u8s, hx1])]
      have q4 := HM.out.free (j / 8)
      have g0 : 0 ≤ (j : Int) := by omega
      have g1 : (j : Int) < (L.length : Int) := by omega
      obtain ⟨b, hb⟩ : ∃ b, L[j] = b := ⟨_, rfl⟩
      rw [hb] at hb2 hx2 hx3 q1
      have HX3 := Lib.hid hx3; have HX1 := Lib.hid hx1
      clear hx1 hx3 q2 hb
      rcases (show b = 0 ∨ b = 1 by omega) with rfl | rfl
      · have q1' : wr.cell? ⟨g, j, none⟩ = some (.bool false) := q1
        clear q1 hx2
        go_wp2_with fail
        go_roundw
        case rel =>
          refine ⟨j + 1, by omega, by go_num, ?_, HF.out⟩
          rw [HX3.out, Nat.zero_mul, Nat.add_zero]
          have := HX1.out
          have e : (full N (L.take j)).set (j / 8) x = full N (L.take j) := by
            obtain ⟨h1, h2⟩ := List.getElem?_eq_some_iff.1 this
            rw [← h2, List.set_getElem_self]
          rw [e]; exact HM.out
        case measure => simp [intOf]; omega
      · have q1' : wr.cell? ⟨g, j, none⟩ = some (.bool true) := q1
        clear q1
        obtain ⟨y, hy⟩ : ∃ y : Nat, 2 ^ (7 - j % 8) = y := ⟨_, rfl⟩
        have hpw : 2 ^ (7 - j % 8) ≤ 2 ^ 7 := Nat.pow_le_pow_right (by decide) (by omega)
        rw [Nat.one_mul, hy] at hx2
        have hx3 := HX3.out
        rw [Nat.one_mul, hy] at hx3
        have HX4 := Lib.hid hx3
        clear hx3 HX3
        have hv : ((x : Int) + 2 ^ (7 - j % 8)) % 256 = ((x + y : Nat) : Int) := by
          have e2 : (2 : Int) ^ (7 - j % 8) = ((y : Nat) : Int) := by rw [← hy]; push_cast; rfl
          rw [e2]; omega
        have HV := Lib.hid hv
        have r0 : 0 ≤ (j : Int) / 8 := by omega
        have r1 : (j : Int) / 8 < N := by omega
        have r3 : ((j : Int) / 8).toNat = j / 8 := by omega
        clear hy hpw hv
        go_wp2_with fail
        go_roundw
        case rel =>
          rw [HV.out]
          refine ⟨j + 1, by omega, by go_num, ?_, HF.out.setCell (.inr (by simp)) _⟩
          rw [HX4.out]
          have := HM.out.set (j / 8) (.int .u8 ((x + y : Nat) : Int))
          have e : (u8s (full N (L.take j))).toArray.setIfInBounds (j / 8) (.int .u8 ((x + y : Nat) : Int)) = (u8s ((full N (L.take j)).set (j / 8) (x + y))).toArray := by
            simp [u8s, List.map_set]
          rw [e] at this; exact this
        case measure => simp [intOf]; omega
    · obtain rfl : j = L.length := by omega
      have hM := HM.out
      rw [List.take_length, full_all HN.out] at hM
      have hlen : (pk L).length = N := by rw [pk_len]; exact HN.out.symm
      have hown := own_of_blk hM (Nat.le_refl _) (by rw [hlen]; simp only [maxLen]; omega)
      rw [hlen] at hown
      have hout : ∃ v, Ending.returned (.slice (some ⟨w.heap.size, 0, none⟩) N N) = .returned v ∧ wr.ownsRow w.heap.size 5 1 v (pk L).length (u8s (pk L)) ∧ Fr [] w wr := ⟨_, rfl, by rw [hlen]; exact hown, HF.out⟩
      have HOUT := Lib.hid hout; clear hown hM hout
      go_wp2_with fail
      go_ret
      exact HOUT.out
end Go.Proofs.Ytlfdbkdaamodnaa.Bt
