/- chapter 16: Waiting, Mean, Jitter, Lead; links in blocks of their own; lists that are the same. -/
import Derived.Test.YtkjjikjilmngdaaLk3
namespace Go.Proofs.Ytkjjikjilmngdaa.Lk
open Go.RowKit Dt Go.Proofs.Ytkjjikjilmngdaa.Wn Go.Proofs.Ytkjjikjilmngdaa.Sq Go.Proofs.Ytkjjikjilmngdaa.Mt
set_option linter.unusedVariables false
set_option linter.unusedSimpArgs false

/-- numbers as cells -/
def ints (l : List Nat) : List Value := l.map fun (n : Nat) => .int .i64 n
theorem ints_len (l : List Nat) : (ints l).length = l.length := by simp [ints]
theorem ints_one (l : List Nat) : ∀ u ∈ ints l, u.oneCell' = true := fun u hu => by
  simp only [ints, List.mem_map] at hu; obtain ⟨k, -, rfl⟩ := hu; rfl
theorem ints_app (l r : List Nat) : ints (l ++ r) = ints l ++ ints r := by simp [ints]
theorem infInt : (Try.prog.info? 3).map (fun i => (i.zero, i.size, i.bytes)) = some (some (.int .i64 0), 1, 8) := by kernel_rfl
set_option maxRecDepth 100000 in
set_option maxHeartbeats 1600000 in
theorem waiting_any {w : World} {b o base nx n m j : Nat} {T : TypeId} {vs : Array Value} {wv : Value} {s : WS} {q : List (Nat × Nat)} (h : Blk w b vs T) (H : LinkS vs o nx wv s n m j) (hown : w.ownsRow base 103 2 wv q.length (pr q)) (hq : q.length ≤ 1000) :
    Calls Try.prog 17 #[.pointer (some ⟨b, o, none⟩)] w fun e w' => ∃ v, e = .returned v ∧ w'.ownsRow w.heap.size 3 1 v q.length (ints (q.map (·.1))) ∧ Fr [] w w' := by
  obtain ⟨wa, wc, rfl, hwc1, hwc2⟩ := own_val hown
  have c1 := Blk.cell h (H.hd.at (i := 1) rfl)
  have hqn : q.length ≤ maxLen := by unfold maxLen; omega
  obtain ⟨i0, hi0, hz0, hz1, hz2⟩ := info_parts infInt
  have HO := Lib.hid hown; have HH := Lib.hid H
  clear h H hown hwc1 hwc2
  go_enter Try.func17, Try.ntmps17
  go_wp2_with fail
  clear c1
  go_loopw [3, 11] (fun lv iv wr => ∃ (k : Nat), k ≤ q.length ∧ iv = .int .i64 k ∧ wr.ownsRow w.heap.size 3 1 lv k (ints ((q.take k).map (·.1))) ∧ Fr [] w wr) (fun _ iv _ => q.length - (intOf iv).toNat)
  case atStart => exact ⟨0, Nat.zero_le _, rfl, own_nil _ _ _ _, Fr.refl _ _⟩
  case round =>
    obtain ⟨k, hk, rfl, hlo, hF⟩ := hrel
    by_cases hlt2 : k < q.length
    · have q3 : (k : Int) < q.length := by omega
      have q4 : (0 : Int) ≤ k := by omega
      have hqk : q[k]? = some q[k] := List.getElem?_eq_getElem hlt2
      obtain ⟨xs, hxs⟩ : ∃ xs, q[k] = xs := ⟨_, rfl⟩
      rw [hxs] at hqk
      obtain ⟨xa, xt⟩ := xs
      have hw9 := own_keep HO.out hF (by simp)
      obtain ⟨g0, cap0, hv0, hg0, hcap0, hcap1⟩ := own_form hw9 (by omega)
      cases hv0
      obtain ⟨hp1, hp2⟩ := pr_get hqk
      have d1 : wr.cell? ⟨g0, k * 2, none⟩ = some (.int .i64 xa) := by rw [hw9.cellAt _ (by omega)]; exact hp1
      have d2 : wr.cell? ⟨g0, k * 2 + 1, none⟩ = some (.int .i64 xt) := by rw [hw9.cellAt _ (by omega)]; exact hp2
      have HLO := Lib.hid hlo; have HF := Lib.hid hF
      have hts : (q.take (k + 1)).map (·.1) = (q.take k).map (·.1) ++ [xa] := by rw [take_snoc hqk, List.map_append]; rfl
      have HTS := Lib.hid hts
      clear hlo hF hqk hxs hw9 hp1 hp2 hts
      go_upto_region 5 with (fail)
      have hX := Blk.new wr #[.int .i64 xa, .int .i64 xt] 103
      have hF3 := (Fr.refl [] wr).alloc (.cells #[.int .i64 xa, .int .i64 xt] 103)
      have HLO3 := Lib.hid (own_fr (S := []) HLO.out hF3 (by simp))
      have HF3 := Lib.hid (HF.out.trans hF3 (by simp))
      clear hF3 d1 d2
      obtain ⟨X, hXe⟩ : ∃ X, wr.heap.size = X := ⟨_, rfl⟩
      rw [hXe] at hX ⊢
      clear hXe
      generalize wr.alloc (.cells #[.int .i64 xa, .int .i64 xt] 103) = w3 at *
      have x0 := Blk.cell (i := 0) hX rfl
      simp only [List.getElem_toArray, List.getElem_cons_zero, List.getElem_cons_succ] at x0
      apply wp_region_lit
      iterate 4 (refine wpList_plain rfl (fun K hK => ?_); go_simp; refine hK _ _ ?_; clear hK K)
      have hnb := Blk.new w3 #[.int .i64 xa] 3
      have hF4 := (Fr.refl [] w3).alloc (.cells #[.int .i64 xa] 3)
      have hlo4 := own_fr (S := []) HLO3.out hF4 (by simp)
      have hw24 : w.heap.size ≤ (w3.alloc (.cells #[.int .i64 xa] 3)).heap.size := Nat.le_trans HF3.out.size hF4.size
      refine wpList_append_src _ rfl (Operand.tmp 15) (Operand.tmp 18) 22 rfl w.heap.size 3 i0 _ 1 8 Try.underlying22 hi0 hz0 hz1 hz2 rfl (by decide) u3 (.slice (some ⟨w3.heap.size, 0, none⟩) 1 1) k 1 (ints ((q.take k).map (·.1))) (ints [xa]) rfl (by kernel_rfl) hlo4 (src_blk hnb (by simp) (by simp [Value.oneCell']) 1) (by unfold maxLen; omega) (by omega) hw24 ?_
      intro v5 w5 ho5 hg5 hat5
      have hF5 := fr_own (HF3.out.trans hF4 (by simp)) hlo4 hg5 (Nat.le_refl _)
      rw [← ints_app] at ho5
      have HO5 := Lib.hid ho5; have HF5 := Lib.hid hF5
      clear hnb hF4 hlo4 hw24 ho5 hg5 hat5 hF5 hX x0
      go_wp2_with fail
      go_roundw
      case rel => exact ⟨k + 1, by omega, by go_num, by rw [HTS.out]; exact HO5.out, HF5.out⟩
      case measure => simp [intOf]; omega
    · have hke : k = q.length := by omega
      subst hke
      have q3 : ¬ ((q.length : Int) < q.length) := by omega
      rw [List.take_length] at hlo
      have HLO := Lib.hid hlo; have HF := Lib.hid hF
      clear hlo hF
      go_wp2_with fail
      go_ret
      exact ⟨_, rfl, HLO.out, HF.out⟩
theorem lmean_any {w : World} {b o nx n m j : Nat} {T : TypeId} {vs : Array Value} {wv : Value} {s : WS} (h : Blk w b vs T) (H : LinkS vs o nx wv s n m j) : Calls Try.prog 23 #[.pointer (some ⟨b, o, none⟩)] w fun e w' => e = .returned (.float .f64 m) ∧ w = w' := by
  have hM := mean_at h H.mtr
  clear h H
  go_enter Try.func23, Try.ntmps23
  go_wp2_with fail
  refine hM.mono ?_; rintro e w' ⟨rfl, rfl⟩
  go_wp2_with fail
  go_ret
  exact ⟨rfl, rfl⟩
theorem ljit_any {w : World} {b o nx n m j : Nat} {T : TypeId} {vs : Array Value} {wv : Value} {s : WS} (h : Blk w b vs T) (H : LinkS vs o nx wv s n m j) : Calls Try.prog 24 #[.pointer (some ⟨b, o, none⟩)] w fun e w' => e = .returned (.float .f64 j) ∧ w = w' := by
  have hM := jit_at h H.mtr
  clear h H
  go_enter Try.func24, Try.ntmps24
  go_wp2_with fail
  refine hM.mono ?_; rintro e w' ⟨rfl, rfl⟩
  go_wp2_with fail
  go_ret
  exact ⟨rfl, rfl⟩
theorem llead_any {w : World} {b o nx n m j : Nat} {T : TypeId} {vs : Array Value} {wv : Value} {s : WS} {p : Int} (h : Blk w b vs T) (H : LinkS vs o nx wv s n m j) (hok : MOk m j) : Calls Try.prog 18 #[.pointer (some ⟨b, o, none⟩), .int .i64 p] w fun e w' => e = .returned (.int .i64 (ldI m j p)) ∧ ∃ k, w' = w.drewN k := by
  have hM := (lead_both hok p).1 _ _ _ _ _ _ h H.mtr
  clear h H
  go_enter Try.func18, Try.ntmps18
  go_wp2_with fail
  refine hM.mono ?_; rintro e w' ⟨rfl, k, rfl⟩
  go_wp2_with fail
  go_ret
  exact ⟨rfl, _, rfl⟩
/-- block b holds a link, whose list lies in fp -/
structure HasL (w : World) (b : Nat) (fp : Option Nat) (nx : Nat) (s : WS) (q : List (Nat × Nat)) (t : Nat × Nat × Nat) : Prop where
  ex : ∃ vs wv, Blk w b vs 32 ∧ LinkS vs 0 nx wv s t.1 t.2.1 t.2.2 ∧ w.ownsRow 0 103 2 wv q.length (pr q) ∧ wv.ownBlock = fp
  len : q.length ≤ 32
  tk : ∀ x ∈ q, x.2 ≤ 1000000000000
  nlt : nx < 65536
  ok : MOk t.2.1 t.2.2
theorem HasL.lt {w : World} {b : Nat} {fp : Option Nat} {nx : Nat} {s : WS} {q : List (Nat × Nat)} {t : Nat × Nat × Nat} (h : HasL w b fp nx s q t) : b < w.heap.size := by obtain ⟨vs, wv, h1, -⟩ := h.ex; exact h1.lt
theorem HasL.fplt {w : World} {b : Nat} {fp : Option Nat} {nx : Nat} {s : WS} {q : List (Nat × Nat)} {t : Nat × Nat × Nat} (h : HasL w b fp nx s q t) : ∀ g, fp = some g → g < w.heap.size := fun g hg => by obtain ⟨vs, wv, h1, h2, h3, h4⟩ := h.ex; exact own_lt h3 (h4.trans hg)
theorem HasL.apart {w : World} {b : Nat} {fp : Option Nat} {nx : Nat} {s : WS} {q : List (Nat × Nat)} {t : Nat × Nat × Nat} (h : HasL w b fp nx s q t) {c : Nat} {cs : Array Value} {T : TypeId} (hc : Blk w c cs T) (hT : T ≠ 103) : fp ≠ some c := fun e => by
  obtain ⟨vs, wv, h1, h2, h3, h4⟩ := h.ex
  have := own_notin h3 hc hT
  simp only [Option.mem_toList] at this
  exact this (h4.trans e)
theorem HasL.apartL {w : World} {b c : Nat} {fp fp' : Option Nat} {nx nx' : Nat} {s s' : WS} {q q' : List (Nat × Nat)} {t t' : Nat × Nat × Nat} (h : HasL w b fp nx s q t) (k : HasL w c fp' nx' s' q' t') : fp ≠ some c := by
  obtain ⟨vs, wv, h1, -⟩ := k.ex
  exact h.apart h1 (by decide)
theorem HasL.fr {S : List Nat} {w w' : World} {b : Nat} {fp : Option Nat} {nx : Nat} {s : WS} {q : List (Nat × Nat)} {t : Nat × Nat × Nat} (h : HasL w b fp nx s q t) (hF : Fr S w w') (hb : b ∉ S) (hS : ∀ g, fp = some g → g ∉ S) : HasL w' b fp nx s q t := by
  obtain ⟨vs, wv, h1, h2, h3, h4⟩ := h.ex
  exact ⟨⟨vs, wv, hF.blk h1 hb, h2, own_keep h3 hF (fun g hg => hS g (h4.symm.trans hg)), h4⟩, h.len, h.tk, h.nlt, h.ok⟩
theorem HasL.new (w : World) : HasL (w.alloc (.cells #[.int .i64 0, .slice none 0 0, .bool false, .int .i64 0, .int .u64 0, .int .i64 0, .float .f64 0, .float .f64 0] 32)) w.heap.size none 0 s0 [] (0, 0, 0) :=
  ⟨⟨_, .slice none 0 0, Blk.new w _ _, ⟨fun i x hx => by
      match i, hx with
      | 0, hx => simpa using hx
      | 1, hx => simpa using hx
      | i + 2, hx => simp at hx, ⟨⟨0, fun i x hx => by
      match i, hx with
      | 0, hx => simpa [s0] using hx
      | 1, hx => simpa [s0] using hx
      | 2, hx => simpa using hx
      | i + 3, hx => simp at hx, bt_zero⟩, by decide, by decide⟩, fun i x hx => by
      match i, hx with
      | 0, hx => simpa using hx
      | 1, hx => simpa using hx
      | 2, hx => simpa using hx
      | i + 3, hx => simp at hx⟩, own_nil _ _ _ _, rfl⟩, by simp, by simp, by decide, mok_zero⟩
/-- what Send gives -/
def SendL (w : World) (b : Nat) (fp : Option Nat) (nx : Nat) (s : WS) (q : List (Nat × Nat)) (t : Nat × Nat × Nat) (p : Pk) (tk : Int) (e : Ending) (w' : World) : Prop :=
  ∃ (la ac : Int) (fp' : Option Nat), e = .returned (Pk.v { p with seq := nx, last := la, any := s.any, acks := ac }) ∧ (s.any = false → la = 0 ∧ ac = 0) ∧ (s.any = true → la = s.last ∧ Bt ac s.f) ∧
    HasL w' b fp' ((nx + 1) % 65536) s (keep32 (q ++ [(nx, clp tk)])) t ∧ (∀ g, fp' = some g → w.heap.size ≤ g) ∧ Fr (b :: fp.toList) w w'
theorem send_L {w : World} {b : Nat} {fp : Option Nat} {nx : Nat} {s : WS} {q : List (Nat × Nat)} {t : Nat × Nat × Nat} (h : HasL w b fp nx s q t) (p : Pk) (tk : Int) : Calls Try.prog 13 #[.pointer (some ⟨b, 0, none⟩), p.v, .int .i64 tk] w (SendL w b fp nx s q t p tk) := by
  obtain ⟨vs, wv, h1, h2, h3, h4⟩ := h.ex
  refine (send_any h1 h2 (by decide) h3 (Nat.zero_le _) h.len h.nlt p).mono ?_
  rintro e w' ⟨la, ac, us, wv', he, e1, e2, hB, hL, hO, hown, hF⟩
  rw [h4] at hF
  refine ⟨la, ac, wv'.ownBlock, he, e1, e2, ⟨⟨us, wv', hB, hL, own_weaken hown (Nat.zero_le _), rfl⟩, keep32_len _, fun x hx => ?_, Nat.mod_lt _ (by decide), h.ok⟩, fun g hg => own_base hown hg, hF⟩
  have := List.mem_of_mem_drop hx
  simp only [List.mem_append, List.mem_singleton] at this
  rcases this with h5 | h5
  · exact h.tk x h5
  · subst h5; have := clp_le tk; simp only; omega
/-- what Take gives -/
def TakeL (w : World) (b : Nat) (fp : Option Nat) (nx : Nat) (s : WS) (q : List (Nat × Nat)) (t : Nat × Nat × Nat) (p : Pk) (fa : Nat → Bool) (tk : Int) (e : Ending) (w' : World) : Prop :=
  ∃ (fp' : Option Nat) (q' : List (Nat × Nat)) (t' : Nat × Nat × Nat), e = .returned (.bool (decide ((noteS s p.seq).1 = 1))) ∧
    (if (noteS s p.seq).1 = 1 ∧ p.any = true then q' = leftL p.last fa q ∧ t' = meterL p.last fa tk q t else q' = q ∧ t' = t) ∧
    HasL w' b fp' nx (noteS s p.seq).2 q' t' ∧ t'.1 ≤ t.1 + 32 ∧ (fp' = fp ∨ ∀ g, fp' = some g → w.heap.size ≤ g) ∧ Fr [b] w w'
theorem take_L {w : World} {b : Nat} {fp : Option Nat} {nx : Nat} {s : WS} {q : List (Nat × Nat)} {t : Nat × Nat × Nat} (h : HasL w b fp nx s q t) (hn : t.1 ≤ 900000) (p : Pk) {fa : Nat → Bool} (hfa : Bt p.acks fa) (tk : Int) : Calls Try.prog 14 #[.pointer (some ⟨b, 0, none⟩), p.v, .int .i64 tk] w (TakeL w b fp nx s q t p fa tk) := by
  obtain ⟨vs, wv, h1, h2, h3, h4⟩ := h.ex
  refine (take_any (t := t) h1 h2 (by decide) h3 (Nat.zero_le _) h.len h.tk h.ok hn p hfa).mono ?_
  rintro e w' ⟨us, wv', q', t', he, hif, hB, hL, hO, hown, hwv, hF⟩
  have hcl : (cameL p.last fa q).length ≤ q.length := List.length_filter_le _ _
  have hlen := h.len
  have hm := mf_ok (waysL tk (cameL p.last fa q)) t h.ok (waysL_le _ _) (by simp [waysL]; omega)
  have hw : (waysL tk (cameL p.last fa q)).length = (cameL p.last fa q).length := by simp [waysL]
  have hq' : q'.length ≤ 32 ∧ (∀ x ∈ q', x.2 ≤ 1000000000000) ∧ MOk t'.2.1 t'.2.2 ∧ t'.1 ≤ t.1 + 32 := by
    split at hif
    · obtain ⟨rfl, rfl⟩ := hif
      exact ⟨Nat.le_trans (List.length_filter_le _ _) hlen, fun x hx => h.tk x ((List.mem_filter.1 hx).1), hm.1, by unfold meterL; rw [hm.2]; omega⟩
    · obtain ⟨rfl, rfl⟩ := hif
      exact ⟨hlen, h.tk, h.ok, by omega⟩
  refine ⟨wv'.ownBlock, q', t', he, hif, ⟨⟨us, wv', hB, hL, hown, rfl⟩, hq'.1, hq'.2.1, h.nlt, hq'.2.2.1⟩, hq'.2.2.2, ?_, hF⟩
  rcases hwv with rfl | h5
  · exact .inl h4
  · exact .inr h5
theorem waiting_L {w : World} {b : Nat} {fp : Option Nat} {nx : Nat} {s : WS} {q : List (Nat × Nat)} {t : Nat × Nat × Nat} (h : HasL w b fp nx s q t) : Calls Try.prog 17 #[.pointer (some ⟨b, 0, none⟩)] w fun e w' => ∃ v, e = .returned v ∧ w'.ownsRow w.heap.size 3 1 v q.length (ints (q.map (·.1))) ∧ Fr [] w w' := by
  obtain ⟨vs, wv, h1, h2, h3, h4⟩ := h.ex
  exact waiting_any h1 h2 h3 (by have := h.len; omega)
theorem mean_L {w : World} {b : Nat} {fp : Option Nat} {nx : Nat} {s : WS} {q : List (Nat × Nat)} {t : Nat × Nat × Nat} (h : HasL w b fp nx s q t) : Calls Try.prog 23 #[.pointer (some ⟨b, 0, none⟩)] w fun e w' => e = .returned (.float .f64 t.2.1) ∧ w = w' := by
  obtain ⟨vs, wv, h1, h2, h3, h4⟩ := h.ex
  exact lmean_any h1 h2
theorem lead_L {w : World} {b : Nat} {fp : Option Nat} {nx : Nat} {s : WS} {q : List (Nat × Nat)} {t : Nat × Nat × Nat} {p : Int} (h : HasL w b fp nx s q t) : Calls Try.prog 18 #[.pointer (some ⟨b, 0, none⟩), .int .i64 p] w fun e w' => e = .returned (.int .i64 (ldI t.2.1 t.2.2 p)) ∧ ∃ k, w' = w.drewN k := by
  obtain ⟨vs, wv, h1, h2, h3, h4⟩ := h.ex
  exact llead_any h1 h2 h.ok
end Go.Proofs.Ytkjjikjilmngdaa.Lk
