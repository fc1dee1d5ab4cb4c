import Derived.Test.YtiniaphleogkiaaVw13
import Derived.Deep.CutBlock
namespace Dt
open Ieee
set_option linter.unusedVariables false
set_option linter.unusedSimpArgs false
theorem rk_fl {x : Nat} {X : Int} (h : Fl x X) (h0 : 0 < X) : rk x = 2 * X := by
  unfold rk
  rw [if_pos (show num x from Nat.le_of_lt h.fin), h.sv, if_neg (by omega)]
theorem rk_zero : rk 0 = 1 := by
  unfold rk
  rw [if_pos num_zero, sv_zero, if_pos rfl]
  have : ng 0 = false := by decide
  rw [this]; simp
/-- only how ranks stand to each other counts -/
theorem OrdF.map {r s : Nat → Int} {n : Nat} {X : Nat → Nat} (h : OrdF r n X) (e : ∀ i j, i < n → j < n → (r j < r i ↔ s j < s i)) : OrdF s n X := by
  refine ⟨h.lt, h.onto, fun a b hab hb => ?_⟩
  have h1 := h.srt a b hab hb
  have e1 := e (X a) (X b) (h.lt a (by omega)) (h.lt b hb)
  have e2 := e (X b) (X a) (h.lt b hb) (h.lt a (by omega))
  unfold bef at h1 ⊢
  rcases h1 with h1 | ⟨h1, h2⟩
  · exact .inl (e1.1 h1)
  · refine .inr ⟨?_, h2⟩
    have g1 : ¬ s (X b) < s (X a) := fun h => by have := e1.2 h; omega
    have g2 : ¬ s (X a) < s (X b) := fun h => by have := e2.2 h; omega
    omega
/-- without the last place -/
def cutF (Z : Nat → Nat) (u t : Nat) : Nat := if t < u then Z t else Z (t + 1)
theorem OrdF.cut {r : Nat → Int} {n u : Nat} {Z : Nat → Nat} (h : OrdF r (n + 1) Z) (hu : u < n + 1) (hZ : Z u = n) : OrdF r n (cutF Z u) := by
  have inj : ∀ a b, a < n + 1 → b < n + 1 → Z a = Z b → a = b := fun a b ha hb e => by
    rcases Nat.lt_trichotomy a b with h1 | h1 | h1
    · have := h.srt a b h1 hb; rw [e] at this; unfold bef at this; omega
    · exact h1
    · have := h.srt b a h1 ha; rw [e] at this; unfold bef at this; omega
  refine ⟨fun t ht => ?_, fun v hv => ?_, fun a b hab hb => ?_⟩
  · unfold cutF
    split
    · have h1 := h.lt t (by omega)
      have h2 : Z t ≠ n := fun e => by have := inj t u (by omega) hu (e.trans hZ.symm); omega
      omega
    · have h1 := h.lt (t + 1) (by omega)
      have h2 : Z (t + 1) ≠ n := fun e => by have := inj (t + 1) u (by omega) hu (e.trans hZ.symm); omega
      omega
  · obtain ⟨t, ht, e⟩ := h.onto v (by omega)
    have htu : t ≠ u := fun e' => by subst e'; omega
    by_cases c : t < u
    · exact ⟨t, by omega, by unfold cutF; rw [if_pos c]; exact e⟩
    · exact ⟨t - 1, by omega, by unfold cutF; rw [if_neg (by omega), show t - 1 + 1 = t by omega]; exact e⟩
  · unfold cutF
    by_cases c : a < u
    · rw [if_pos c]
      by_cases d : b < u
      · rw [if_pos d]; exact h.srt a b hab (by omega)
      · rw [if_neg d]; exact h.srt a (b + 1) (by omega) (by omega)
    · rw [if_neg c, if_neg (by omega)]; exact h.srt (a + 1) (b + 1) (by omega) (by omega)
end Dt
namespace Go.Proofs.Ytiniaphleogkiaa.Vw
open Go.RowKit Dt Go.Proofs.Ytiniaphleogkiaa.Hd Go.Proofs.Ytiniaphleogkiaa.Ma Ieee
set_option linter.unusedVariables false
set_option linter.unusedSimpArgs false

theorem flts_one (d : Nat → Nat) (n : Nat) : ∀ u ∈ flts d n, u.oneCell' = true := fun u hu => by
  unfold flts at hu
  obtain ⟨t, -, rfl⟩ := List.mem_map.1 hu
  rfl
def intsF (X : Nat → Nat) (n : Nat) : List Value := (List.range n).map fun (t : Nat) => .int .i64 ((X t : Nat) : Int)
theorem intsF_succ (X : Nat → Nat) (n : Nat) : intsF X (n + 1) = intsF X n ++ [.int .i64 ((X n : Nat) : Int)] := by unfold intsF; rw [List.range_succ, List.map_append]; rfl
theorem intsF_s {w : World} {base n : Nat} {v : Value} {X : Nat → Nat} (h : w.ownsRow base 3 1 v n (intsF X n)) : IntS w base v n X := by
  obtain ⟨h1, ⟨rfl, rfl⟩ | ⟨g, cap, cur, rfl, hb, hg, hc, hm, hs, ht⟩⟩ := h
  · exact ⟨none, 0, rfl, fun h => by omega⟩
  · rw [Nat.mul_one] at hs ht
    have hB : Blk w g cur 3 := hg
    refine ⟨_, _, rfl, fun hn => ⟨g, 0, rfl, hb, hB.lt, fun t htn => ?_⟩⟩
    rw [Nat.zero_add]
    refine hB.cell ?_
    have h3 : (cur.toList.take n)[t]? = (intsF X n)[t]? := by rw [ht]
    rw [List.getElem?_take_of_lt htn] at h3
    rw [← Array.getElem?_toList, h3]
    unfold intsF
    rw [List.getElem?_map, List.getElem?_range htn]; rfl
theorem flts_congr {d e : Nat → Nat} {n : Nat} (h : ∀ t, t < n → d t = e t) : flts d n = flts e n := by
  unfold flts
  refine List.map_congr_left fun t ht => ?_
  rw [h t (List.mem_range.1 ht)]
/-- the depths of whole numbers -/
theorem whole_words (z0 : Nat → Int) : ∃ (p Bw : Nat → Nat), (∀ t, p t < 12 ∧ z0 t % 12 = (p t : Int)) ∧ ∀ t, double.add (Go.floatOfInt .f64 (p t : Int)) 4634204016564240384 = some (Bw t) ∧ Fl (Bw t) (((p t : Int) + 64) * S) := by
  have h : ∀ t, ∃ y, double.add (Go.floatOfInt .f64 (((z0 t % 12).toNat : Nat) : Int)) 4634204016564240384 = some y ∧ Fl y (((((z0 t % 12).toNat : Nat) : Int) + 64) * S) := fun t => by
    have f64 : Fl 4634204016564240384 (64 * S) := by
      have h := fint_exact (n := 64) (by decide) (by decide)
      have e : Go.floatOfInt .f64 64 = 4634204016564240384 := by kernel_rfl
      rwa [e] at h
    obtain ⟨y, e, f⟩ := fadd_exact (fint_exact (n := (((z0 t % 12).toNat : Nat) : Int)) (by omega) (by omega)) f64 (by rw [← Int.add_mul]; exact rep_int (by omega) (by omega))
    rw [← Int.add_mul] at f
    exact ⟨y, e, f⟩
  obtain ⟨Bw, hB⟩ := Classical.axiomOfChoice h
  exact ⟨fun t => (z0 t % 12).toNat, Bw, fun t => ⟨by dsimp only; omega, by dsimp only; omega⟩, hB⟩
theorem rk_whole {m : Nat} (hm : m ≤ 1000) : rk (Go.floatOfInt .f64 (m : Int)) = if m = 0 then 1 else 2 * ((m : Int) * S) := by
  have hS : (0 : Int) < S := by have := S_pos; omega
  by_cases h : m = 0
  · subst h
    rw [if_pos rfl]
    have e : Go.floatOfInt .f64 ((0 : Nat) : Int) = 0 := by kernel_rfl
    rw [e]; exact rk_zero
  · rw [if_neg h]
    exact rk_fl (fint_exact (by omega) (by omega)) (Int.mul_pos (by omega) hS)
theorem whole_lt {m k : Nat} (hm : m ≤ 1000) (hk : k ≤ 1000) : rk (Go.floatOfInt .f64 (m : Int)) < rk (Go.floatOfInt .f64 (k : Int)) ↔ (m : Int) < k := by
  have hS : (1 : Int) ≤ S := by have := S_pos; omega
  rw [rk_whole hm, rk_whole hk]
  have hmul : ∀ {a b : Nat}, a < b → (a : Int) * S + S ≤ (b : Int) * S := fun {a b} h => by
    have := Int.mul_le_mul_of_nonneg_right (show (a : Int) + 1 ≤ b by omega) (show (0 : Int) ≤ S by omega)
    rw [Int.add_mul, Int.one_mul] at this; exact this
  have hpos : ∀ {a : Nat}, 0 < a → (S : Int) ≤ (a : Int) * S := fun {a} h => by have := hmul h; omega
  by_cases h1 : m = 0
  · rw [if_pos h1]
    by_cases h2 : k = 0
    · rw [if_pos h2]; omega
    · rw [if_neg h2]; have := hpos (show 0 < k by omega); omega
  · rw [if_neg h1]
    have hm0 := hpos (show 0 < m by omega)
    by_cases h2 : k = 0
    · rw [if_pos h2]; omega
    · rw [if_neg h2]
      rcases Nat.lt_trichotomy m k with h | h | h
      · have := hmul h; omega
      · subst h; omega
      · have := hmul h; omega
theorem own_off {P : World → World → Prop} {w w' : World} {base : Nat} {e : TypeId} {v u : Value} {n m : Nat} {xs ys : List Value} (hu : w.ownsRow base e 1 u m ys) (hv : w.ownsRow base e 1 v n xs) (hg : w.grownBy w' v.ownBlock) (hd : ∀ g, u.ownBlock = some g → v.ownBlock ≠ some g) : w'.ownsRow base e 1 u m ys :=
  own_keep hu (fr_grown hg) (fun g hx hm => hd g hx (by simpa using hm))
set_option maxRecDepth 100000 in
set_option maxHeartbeats 6400000 in
theorem walk_vslides (a0 : Option Addr) (len0 cap0 : Nat) (z0 : Nat → Int) (b0 : Int) (W : World) (s0 : SlI .i64 W a0 len0 cap0 z0) (x0 : (Lit.int .i64 b0).wf = true) :
    Calls Try.prog 9 #[.slice a0 len0 cap0, .int .i64 b0] W fun e w' => e = .returned (.bool true) ∧ Below W.heap.size W w' := by
  obtain ⟨p, Bw, hp, hB⟩ := whole_words z0
  obtain ⟨i0, hi0, hz0, hz1, hz2⟩ := info_parts infF
  have HC0 := Lib.hid s0.1.cells
  have hr0 := s0.1.reach
  have hl0 := s0.1.le
  have HP := Lib.hid hp; have HBW := Lib.hid hB
  clear s0 x0 hp hB
  obtain ⟨A, hA⟩ : ∃ A : Nat → Nat, A = fun t => Go.floatOfInt .f64 (p t : Int) := ⟨_, rfl⟩
  have hAt : ∀ t, Go.floatOfInt .f64 (p t : Int) = A t := fun t => by rw [hA]
  have HA := Lib.hid hAt
  go_enter Try.func9, Try.ntmps9
  go_wp2_with fail
  refine (vknown_any _).mono ?_; rintro e w1 ⟨rfl, hF1⟩
  go_upto_block 0 with (fail)
  obtain ⟨M, hM⟩ : ∃ M, M = w1.heap.size := ⟨_, rfl⟩
  have hMW : W.heap.size ≤ M := by rw [hM]; exact hF1.size
  have HM := Lib.hid hM; have HF1 := Lib.hid hF1
  clear hM hF1 hA hAt
  go_cut [5, 6] from 15 (fun av bv wc => wc.ownsRow M 22 1 av (min len0 20) (flts A (min len0 20)) ∧ wc.ownsRow M 22 1 bv (min len0 20) (flts Bw (min len0 20)) ∧ Fr [] W wc ∧ M ≤ wc.heap.size)
  case first =>
    go_wp2_with fail
    go_loopw [5, 6, 7] (fun av bv kv wr => ∃ k : Nat, k ≤ len0 ∧ k ≤ 20 ∧ kv = .int .i64 k ∧ wr.ownsRow M 22 1 av k (flts A k) ∧ wr.ownsRow M 22 1 bv k (flts Bw k) ∧ (∀ g, bv.ownBlock = some g → av.ownBlock ≠ some g) ∧ Fr [] W wr ∧ M ≤ wr.heap.size) (fun _ _ kv _ => 20 - (intOf kv).toNat)
    case atStart => exact ⟨0, by omega, by omega, rfl, own_nil _ _ _ _, own_nil _ _ _ _, fun g h => by simp [Value.ownBlock] at h, HF1.out, by have := HM.out; omega⟩
    case round =>
      obtain ⟨k, hk, hk20, rfl, hoa, hob, hdis, hFr, hMs⟩ := hrel
      by_cases hlt : k < len0 ∧ k < 20
      · obtain ⟨hlt, hlt2⟩ := hlt
        obtain ⟨bb, off, rfl, hlb, hc⟩ := HC0.out (by omega)
        have hcj := (hFr.cell (p := ⟨bb, off + k, none⟩) hlb (by simp)).trans (hc k hlt)
        clear hc
        have q0 : 0 ≤ (k : Int) := by omega
        have q1 : (k : Int) < (len0 : Int) := by omega
        have q2 : (k : Int) < 20 := by omega
        have hpk := (HP.out k).2
        have n1 : ∀ w : World, (binOp .add 22 (.float .f64 (Go.floatOfInt .f64 (p k : Int))) (.float .f64 4634204016564240384)).run Try.prog w = .ok (.float .f64 (Bw k)) w := run_fl .add _ (HBW.out k).1
        rw [HA.out k] at n1
        have n2 : ∀ w, (convert 3 22 (.int .i64 (p k : Int))).run Try.prog w = .ok (.float .f64 (A k)) w := fun w => by rw [← HA.out k]; exact run_convert_int_float w 3 22 .i64 .f64 _ (by rw [Try.underlying3]; rfl) Try.underlying22
        have hAk := HA.out k
        go_wp2_with fail
        refine (pick_any _ _ _ (by decide) (by decide)).mono ?_; rintro e w' ⟨rfl, rfl⟩
        rw [hpk]
        go_upto_region 8 with (fail)
        clear hAk n2
        apply wp_region_lit
        iterate 3 (refine wpList_plain rfl (fun K hK => ?_); go_simp; refine hK _ _ ?_; clear hK K)
        refine wpList_append_src _ rfl (Operand.tmp 31) (Operand.tmp 33) 40 rfl M 22 i0 (.float .f64 0) 1 8 Try.underlying40 hi0 hz0 hz1 hz2 rfl (by decide) _ _ k 1 (flts A k) [.float .f64 (A k)] rfl rfl ?c1 ?c2 ?c3 ?c4 ?c5 ?_
        case c1 => exact (own_fr hoa (Fr.refl [] wr) (by simp)).alloc _
        case c2 => exact src_blk (sz := 1) (m := 1) (by simpa using Blk.new wr #[.float .f64 (A k)] 22) (by simp) (by simp; rfl) 1
        case c3 => unfold maxLen; omega
        case c4 => omega
        case c5 => simp; omega
        intro v1 w2 hoa1 hg1 hat1
        replace hg1 : (wr.alloc (.cells #[.float .f64 (A k)] 22)).grownBy w2 u5.ownBlock := hg1
        replace hat1 : v1.ownBlock = u5.ownBlock ∨ v1.ownBlock = some (wr.alloc (.cells #[.float .f64 (A k)] 22)).heap.size := hat1
        have hX : Fr [] wr (wr.alloc (.cells #[.float .f64 (A k)] 22)) := (Fr.refl [] wr).alloc _
        have hYa := own_fr hoa hX (by simp)
        have hYb := own_fr hob hX (by simp)
        have hZ := fr_own (S := []) (hFr.trans hX (by simp)) hYa hg1 hMW
        have hob1 := own_keep hYb (fr_grown hg1) (fun g hx hm => hdis g hx (by simpa using hm))
        have hdis1 : ∀ g, u6.ownBlock = some g → v1.ownBlock ≠ some g := fun g hg he => by
          rcases hat1 with h | h
          · exact hdis g hg (by rw [← h]; exact he)
          · rw [h] at he
            have h2 := own_lt hob hg
            simp at he; omega
        have hMs1 : M ≤ w2.heap.size := Nat.le_trans (by simp; omega) hg1.size
        rw [← flts_succ] at hoa1
        clear hX hYa hYb hg1 hat1 hoa hob hdis hFr hMs
        go_upto_region 9 with (fail)
        apply wp_region_lit
        iterate 4 (refine wpList_plain rfl (fun K hK => ?_); go_simp; refine hK _ _ ?_; clear hK K)
        refine wpList_append_src _ rfl (Operand.tmp 35) (Operand.tmp 38) 40 rfl M 22 i0 (.float .f64 0) 1 8 Try.underlying40 hi0 hz0 hz1 hz2 rfl (by decide) _ _ k 1 (flts Bw k) [.float .f64 (Bw k)] rfl rfl ?c1 ?c2 ?c3 ?c4 ?c5 ?_
        case c1 => exact (own_fr hob1 (Fr.refl [] w2) (by simp)).alloc _
        case c2 => exact src_blk (sz := 1) (m := 1) (by simpa using Blk.new w2 #[.float .f64 (Bw k)] 22) (by simp) (by simp; rfl) 1
        case c3 => unfold maxLen; omega
        case c4 => omega
        case c5 => simp; omega
        intro v2 w3 hob2 hg2 hat2
        replace hg2 : (w2.alloc (.cells #[.float .f64 (Bw k)] 22)).grownBy w3 u6.ownBlock := hg2
        replace hat2 : v2.ownBlock = u6.ownBlock ∨ v2.ownBlock = some (w2.alloc (.cells #[.float .f64 (Bw k)] 22)).heap.size := hat2
        have hX : Fr [] w2 (w2.alloc (.cells #[.float .f64 (Bw k)] 22)) := (Fr.refl [] w2).alloc _
        have hYa := own_fr hoa1 hX (by simp)
        have hYb := own_fr hob1 hX (by simp)
        have hZ2 := fr_own (S := []) (hZ.trans hX (by simp)) hYb hg2 hMW
        have hoa2 := own_keep hYa (fr_grown hg2) (fun g hx hm => hdis1 g (by simpa using hm) hx)
        have hdis2 : ∀ g, v2.ownBlock = some g → v1.ownBlock ≠ some g := fun g hg he => by
          rcases hat2 with h | h
          · exact hdis1 g (by rw [← h]; exact hg) he
          · rw [h] at hg
            have h2 := own_lt hoa1 he
            simp at hg; omega
        have hMs2 : M ≤ w3.heap.size := Nat.le_trans (by simp; omega) hg2.size
        rw [← flts_succ] at hob2
        clear hX hYa hYb hg2 hat2 hoa1 hob1 hdis1 hZ hMs1
        go_wp2_with fail
        go_roundw
        case rel => exact ⟨k + 1, by omega, by omega, by go_num, hoa2, hob2, hdis2, hZ2, hMs2⟩
        case measure => simp [intOf]; omega
      · have hmin : min len0 20 = k := by omega
        by_cases hlt1 : k < len0
        · have q0 : 0 ≤ (k : Int) := by omega
          have q1 : (k : Int) < (len0 : Int) := by omega
          have q2 : ¬ (k : Int) < 20 := by omega
          have HMIN := Lib.hid hmin; clear hmin
          go_wp2_with fail
          go_meet
          case rel => exact ⟨by rw [HMIN.out]; exact hoa, by rw [HMIN.out]; exact hob, hFr, hMs⟩
        · have q1 : ¬ (k : Int) < (len0 : Int) := by omega
          have HMIN := Lib.hid hmin; clear hmin
          go_wp2_with fail
          go_meet
          case rel => exact ⟨by rw [HMIN.out]; exact hoa, by rw [HMIN.out]; exact hob, hFr, hMs⟩
  case rest =>
    obtain ⟨hoa, hob, hFr, hMs⟩ := hcut
    obtain ⟨n, hn⟩ : ∃ n, min len0 20 = n := ⟨_, rfl⟩
    rw [hn] at hoa hob
    have hn20 : n ≤ 20 := by omega
    clear hn HC0 HF1 hi0 hz0 hz1 hz2
    have hsa := flts_s hoa
    have hsb := flts_s hob
    obtain ⟨aa, ca, rfl, hca⟩ := hsa
    obtain ⟨ab, cb, rfl, hcb⟩ := hsb
    have hAw : ∀ t, A t < 18446744073709551616 := fun t => by rw [← HA.out t]; exact (fint_exact (by have := (HP.out t).1; omega) (by have := (HP.out t).1; omega)).lt
    go_wp2_with fail
    refine (order_any (d := A) (fun h => by obtain ⟨b, off, e, -, h2, h3⟩ := hca h; exact ⟨b, off, e, h2, h3⟩) (fun t _ => hAw t) hn20).mono ?_
    rintro e w2 ⟨v, X, rfl, hO, hXS, hF2⟩
    have hBd : ∀ t, Bw t < 18446744073709551616 := fun t => (HBW.out t).2.lt
    go_wp2_with fail
    refine (order_any (d := Bw) (fun h => by obtain ⟨b, off, e, -, h2, h3⟩ := hcb h; exact ⟨b, off, e, Nat.lt_of_lt_of_le h2 hF2.size, fun t ht => (hF2.cell (p := ⟨b, off + t, none⟩) h2 (by simp)).trans (h3 t ht)⟩) (fun t _ => hBd t) hn20).mono ?_
    rintro e w3 ⟨v', Y, rfl, hO', hYS, hF3⟩
    have pO : OrdF (fun t => (p t : Int)) n X := hO.map (fun i j _ _ => by
      rw [← HA.out i, ← HA.out j]
      exact whole_lt (by have := (HP.out j).1; omega) (by have := (HP.out i).1; omega))
    have pO' : OrdF (fun t => (p t : Int)) n Y := hO'.map (fun i j _ _ => by
      have hS : (0 : Int) < S := by have := S_pos; omega
      rw [rk_fl (HBW.out i).2 (Int.mul_pos (by omega) hS), rk_fl (HBW.out j).2 (Int.mul_pos (by omega) hS)]
      constructor
      · intro h
        have := Int.lt_of_mul_lt_mul_right (show ((p j : Int) + 64) * S < ((p i : Int) + 64) * S by omega) (by omega)
        omega
      · intro h
        have := Int.mul_lt_mul_of_pos_right (show (p j : Int) + 64 < (p i : Int) + 64 by omega) hS
        omega)
    have hXY := pO.unique pO'
    have hXS3 := hXS.fr hF3 (by simp)
    go_wp2_with fail
    refine (same_yes hXS3.v hYS.v hXY (by omega)).mono ?_
    rintro e w4 ⟨rfl, kk, rfl⟩
    have hXS4 : IntS (w3.drewN kk) wc.heap.size v n X := hXS3.fr ((Fr.refl [] w3).drewN kk) (by simp)
    have hF4 := (((hFr.trans hF2 (by simp)).trans hF3 (by simp)).drewN kk)
    have hoa4 : (w3.drewN kk).ownsRow M 22 1 (.slice aa n ca) n (flts A n) := own_fr hoa ((hF2.trans hF3 (by simp)).drewN kk) (by simp)
    have hsz4 : wc.heap.size ≤ (w3.drewN kk).heap.size := Nat.le_trans hF2.size hF3.size
    have HPO := Lib.hid pO
    clear hXS hXS3 hYS pO' hXY hO hO' hca hcb hob hoa hF2 hF3 hFr pO
    generalize w3.drewN kk = w4 at *
    obtain ⟨i0, hi0, hz0, hz1, hz2⟩ := info_parts infF
    obtain ⟨j0, hj0, hy0, hy1, hy2⟩ := info_parts inf3
    go_upto_region 13 with (fail)
    apply wp_region_lit
    iterate 2 (refine wpList_plain rfl (fun K hK => ?_); go_simp; refine hK _ _ ?_; clear hK K)
    have hblk := Blk.new w4 #[] 22
    have hoa5 := own_fr hoa4 ((Fr.refl [] w4).alloc (.cells #[] 22)) (by simp)
    have hF5 := hF4.alloc (.cells #[] 22)
    have hXS5 := hXS4.fr ((Fr.refl [] w4).alloc (.cells #[] 22)) (by simp)
    have hW4 : W.heap.size ≤ w4.heap.size := hF4.size
    refine wpList_append_src _ rfl (Operand.tmp 47) (Operand.tmp 48) 40 rfl w4.heap.size 22 i0 (.float .f64 0) 1 8 Try.underlying40 hi0 hz0 hz1 hz2 rfl (by decide) _ _ 0 n [] (flts A n) rfl rfl ?c1 ?c2 ?c3 ?c4 ?c5 ?_
    case c1 => exact own_empty hblk (Nat.le_refl _)
    case c2 => exact own_src hoa5 (flts_one A n)
    case c3 => unfold maxLen; omega
    case c4 => omega
    case c5 => simp
    intro v5 w5 hov hg5 hat5
    have hF6 := fr_own hF5 (own_empty (sz := 1) (base := w4.heap.size) hblk (Nat.le_refl _)) hg5 hW4
    have hFx := fr_own ((Fr.refl [] w4).alloc (.cells #[] 22)) (own_empty (sz := 1) (base := w4.heap.size) hblk (Nat.le_refl _)) hg5 (Nat.le_refl _)
    simp only [Nat.zero_add, List.nil_append] at hov
    have hs5 : w4.heap.size ≤ w5.heap.size := hFx.size
    clear hblk hoa5 hF5 hXS5 hg5 hat5 hoa4 hF4
    go_wp2_with fail
    obtain ⟨q, hq⟩ : ∃ q : Nat, b0 % 14 = q := ⟨(b0 % 14).toNat, by omega⟩
    have hq14 : q < 14 := by omega
    refine (pick_any _ _ _ (by decide) (by decide)).mono ?_; rintro e w' ⟨rfl, rfl⟩
    rw [hq]
    clear hq
    obtain ⟨qw, hqw⟩ : ∃ qw, Go.floatOfInt .f64 (q : Int) = qw := ⟨_, rfl⟩
    have hqb : qw < 18446744073709551616 := by rw [← hqw]; exact (fint_exact (by omega) (by omega)).lt
    dsimp only
    go_step
    iterate 2 (refine wpList_plain rfl (fun K hK => ?_); go_simp; refine hK _ _ ?_; clear hK K)
    clear hqw
    obtain ⟨C, hC⟩ : ∃ C : Nat → Nat, C = fun t => if t < n then A t else qw := ⟨_, rfl⟩
    have hCA : ∀ t, t < n → C t = A t := fun t ht => by rw [hC]; exact if_pos ht
    have hCn : C n = qw := by rw [hC]; exact if_neg (by omega)
    have hCw : ∀ t, C t < 18446744073709551616 := fun t => by
      rw [hC]; dsimp only; split
      · exact hAw t
      · exact hqb
    have hcl : flts A n ++ [.float .f64 qw] = flts C (n + 1) := by rw [flts_succ, hCn, flts_congr hCA]
    refine wpList_append_src _ rfl (Operand.tmp 49) (Operand.tmp 53) 40 rfl w4.heap.size 22 i0 (.float .f64 0) 1 8 Try.underlying40 hi0 hz0 hz1 hz2 rfl (by decide) _ _ n 1 (flts A n) [.float .f64 qw] rfl rfl ?c1 ?c2 ?c3 ?c4 ?c5 ?_
    case c1 => exact (own_fr hov (Fr.refl [] w5) (by simp)).alloc _
    case c2 => exact src_blk (sz := 1) (m := 1) (by simpa using Blk.new w5 #[.float .f64 qw] 22) (by simp) (by simp; rfl) 1
    case c3 => unfold maxLen; omega
    case c4 => omega
    case c5 => simp; omega
    intro v6 w6 hov6 hg6 hat6
    rw [hcl] at hov6
    have hX : Fr [] w5 (w5.alloc (.cells #[.float .f64 qw] 22)) := (Fr.refl [] w5).alloc _
    have hY := own_fr hov hX (by simp)
    have hF7 := fr_own (hF6.trans hX (by simp)) hY hg6 hW4
    have hFx7 := fr_own (hFx.trans hX (by simp)) hY hg6 (Nat.le_refl _)
    clear hX hY hg6 hat6 hov hF6 hC hFx
    obtain ⟨ac, cc, rfl, hcc⟩ := flts_s hov6
    go_wp2_with fail
    refine (order_max (d := C) (fun h => by obtain ⟨b, off, e, -, h2, h3⟩ := hcc h; exact ⟨b, off, e, h2, h3⟩) (fun t _ => hCw t) (by omega)).mono ?_
    rintro e w7 ⟨vz, Z, rfl, hOz, hZS, hF8⟩
    have hXS7 := hXS4.fr (hFx7.trans hF8 (by simp)) (by simp)
    have hF9 := hF7.trans hF8 (by simp)
    obtain ⟨u, hu, hZu⟩ := hOz.onto n (by omega)
    have hcut := (hOz.cut hu hZu).map (s := fun t => (p t : Int)) (fun i j hi hj => by
      rw [hCA i hi, hCA j hj, ← HA.out i, ← HA.out j]
      exact whole_lt (by have := (HP.out j).1; omega) (by have := (HP.out i).1; omega))
    have hRX := hcut.unique HPO.out
    have hne : ∀ t, t < n + 1 → t ≠ u → Z t ≠ n := fun t ht hne e => by
      rcases Nat.lt_trichotomy t u with h1 | h1 | h1
      · have := hOz.srt t u h1 hu; rw [e, hZu] at this; unfold bef at this; omega
      · exact hne h1
      · have := hOz.srt u t h1 ht; rw [e, hZu] at this; unfold bef at this; omega
    obtain ⟨Q, hQ⟩ : ∃ Q, Q = w7.heap.size := ⟨_, rfl⟩
    have hWQ : W.heap.size ≤ Q := by rw [hQ]; exact hF9.size
    obtain ⟨az, cz, rfl, hcz⟩ := hZS
    have HU := Lib.hid hu; have HZU := Lib.hid hZu; have HNE := Lib.hid hne; have HRX := Lib.hid hRX; have HCZ := Lib.hid hcz; have HXS := Lib.hid hXS7; have HF9 := Lib.hid hF9; have HQ := Lib.hid hQ
    clear hu hZu hne hRX hcz hXS7 hF9 hcut hOz hcc hF8 hF7 hFx7 hXS4 hov6 hQ hs5 hsz4 hMs hMW hCA hCn hCw hcl hAw hBd
    go_wp2_with fail
    go_loopw [11, 58] (fun rv kv wr => ∃ k : Nat, k ≤ n + 1 ∧ kv = .int .i64 k ∧ wr.ownsRow Q 3 1 rv (if k ≤ u then k else k - 1) (intsF (cutF Z u) (if k ≤ u then k else k - 1)) ∧ Fr [] w7 wr ∧ Q ≤ wr.heap.size) (fun _ kv _ => n + 1 - (intOf kv).toNat)
    case atStart => exact ⟨0, by omega, rfl, by rw [if_pos (Nat.zero_le _)]; exact own_nil _ _ _ _, Fr.refl _ _, by rw [HQ.out]; exact Nat.le_refl _⟩
    case round =>
      obtain ⟨k, hk, rfl, hor, hFr, hQs⟩ := hrel
      by_cases hlt : k < n + 1
      · obtain ⟨b, off, rfl, -, hbl, hcs⟩ := HCZ.out (by omega)
        have hcj := (hFr.cell (p := ⟨b, off + k, none⟩) hbl (by simp)).trans (hcs k hlt)
        clear hcs
        have q0 : (0 : Int) ≤ k := by omega
        have q1 : (k : Int) < ((n + 1 : Nat) : Int) := by omega
        by_cases hku : k = u
        · have hz : ((Z k : Int) != (n : Int)) = false := by rw [hku, HZU.out]; simp
          have hr1 : (if k + 1 ≤ u then k + 1 else k + 1 - 1) = (if k ≤ u then k else k - 1) := by rw [if_neg (by omega), if_pos (by omega)]; omega
          have HR1 := Lib.hid hr1; clear hr1 hku
          go_wp2_with fail
          go_roundw
          case rel => exact ⟨k + 1, by omega, by go_num, by rw [HR1.out]; exact hor, hFr, hQs⟩
          case measure => simp [intOf]; omega
        · have hz : ((Z k : Int) != (n : Int)) = true := by have := HNE.out k hlt hku; simp; omega
          obtain ⟨c, hc⟩ : ∃ c, (if k ≤ u then k else k - 1) = c := ⟨_, rfl⟩
          rw [hc] at hor
          have hc1 : (if k + 1 ≤ u then k + 1 else k + 1 - 1) = c + 1 := by
            by_cases h : k ≤ u
            · rw [if_pos h] at hc; rw [if_pos (by omega)]; omega
            · rw [if_neg h] at hc; rw [if_neg (by omega)]; omega
          have hcz : cutF Z u c = Z k := by
            unfold cutF
            by_cases h : k ≤ u
            · rw [if_pos h] at hc; rw [if_pos (by omega), ← hc]
            · rw [if_neg h] at hc; rw [if_neg (by omega)]; congr 1; omega
          have hcn : c ≤ 21 := by split at hc <;> omega
          have HC1 := Lib.hid hc1; have HCZ2 := Lib.hid hcz
          clear hc hc1 hcz
          go_upto_region 19 with (fail)
          apply wp_region_lit
          iterate 6 (refine wpList_plain rfl (fun K hK => ?_); go_simp; refine hK _ _ ?_; clear hK K)
          refine wpList_append_src _ rfl (Operand.tmp 68) (Operand.tmp 73) 39 rfl Q 3 j0 (.int .i64 0) 1 8 Try.underlying39 hj0 hy0 hy1 hy2 rfl (by decide) _ _ c 1 (intsF (cutF Z u) c) [.int .i64 (Z k)] rfl rfl ?c1 ?c2 ?c3 ?c4 ?c5 ?_
          case c1 => exact (own_fr hor (Fr.refl [] wr) (by simp)).alloc _
          case c2 => exact src_blk (sz := 1) (m := 1) (by simpa using Blk.new wr #[.int .i64 (Z k)] 3) (by simp) (by simp; rfl) 1
          case c3 => unfold maxLen; omega
          case c4 => omega
          case c5 => simp; omega
          intro v8 w8 hor8 hg8 hat8
          have hX : Fr [] wr (wr.alloc (.cells #[.int .i64 (Z k)] 3)) := (Fr.refl [] wr).alloc _
          have hY := own_fr hor hX (by simp)
          have hZZ := fr_own (S := []) (hFr.trans hX (by simp)) hY hg8 (by rw [HQ.out]; exact Nat.le_refl _)
          have hQs8 : Q ≤ w8.heap.size := Nat.le_trans (by simp; omega) hg8.size
          rw [show ([.int .i64 (Z k)] : List Value) = [.int .i64 ((cutF Z u c : Nat) : Int)] by rw [HCZ2.out], ← intsF_succ, ← HC1.out] at hor8
          clear hX hY hg8 hat8 hor hcj hFr
          go_wp2_with fail
          go_roundw
          case rel => exact ⟨k + 1, by omega, by go_num, by rw [HC1.out] at hor8 ⊢; exact hor8, hZZ, hQs8⟩
          case measure => simp [intOf]; omega
      · have hkn : k = n + 1 := by omega
        have hcu : (if k ≤ u then k else k - 1) = n := by have := HU.out; rw [if_neg (by omega)]; omega
        rw [hcu] at hor
        have q1 : ¬ (k : Int) < ((n + 1 : Nat) : Int) := by omega
        have hRS := intsF_s hor
        have hXS9 := HXS.out.fr hFr (by simp)
        have hFz := HF9.out.trans hFr (by simp)
        have HRS := Lib.hid hRS; have HXS9 := Lib.hid hXS9; have HFz := Lib.hid hFz
        clear hRS hXS9 hFz hor hFr hcu
        go_wp2_with fail
        refine (same_yes HRS.out.v HXS9.out.v HRX.out (by omega)).mono ?_
        rintro e w9 ⟨rfl, m9, rfl⟩
        go_wp2_with fail
        go_ret
        exact ⟨rfl, (HFz.out.drewN m9).below (Nat.le_refl _) (by simp)⟩
end Go.Proofs.Ytiniaphleogkiaa.Vw
