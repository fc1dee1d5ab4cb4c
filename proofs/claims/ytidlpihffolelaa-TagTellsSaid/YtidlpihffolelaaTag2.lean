import Derived.Test.YtidlpihffolelaaTag
namespace Go.Proofs.Ytidlpihffolelaa.Tg
open Go.RowKit Dt Go.Proofs.Ytidlpihffolelaa.Hd
set_option linter.unusedVariables false

theorem equal_any (w : World) (sa sb : Value) (ax bs : List Nat) (ha : LS w sa (u8s ax)) (hb : LS w sb (u8s bs)) (la : ax.length ≤ 9223372036854775807) :
    Calls Try.prog 44 #[sa, sb] w fun e w' => e = .returned (.bool (decide (ax = bs))) ∧ ∃ n, w' = w.drewN n := by
  obtain ⟨a, capa, rfl, hla, hma, -, hca⟩ := ha.ex
  obtain ⟨b, capb, rfl, hlb, hmb, -, hcb⟩ := hb.ex
  simp only [u8s_len] at *
  have HA := Lib.hid hca; have HB := Lib.hid hcb
  clear ha hb hca hcb
  have l2 : bs.length ≤ 9223372036854775807 := by unfold maxLen at hmb; omega
  clear hma hmb hla hlb
  by_cases hlen : ax.length = bs.length
  · have e1 : ((ax.length : Int) != (bs.length : Int)) = false := by simp [hlen]
    have HL := Lib.hid hlen
    have hle : ax.length ≤ bs.length := by omega
    clear hlen
    go_enter Try.func44, Try.ntmps44
    go_wp2_with fail
    clear e1
    go_loopw [13] (fun i wr => ∃ j n : Nat, j ≤ ax.length ∧ i = .int .i64 j ∧ (∀ t, t < j → ax[t]? = bs[t]?) ∧ wr = w.drewN n) (fun i _ => ax.length - (intOf i).toNat)
    case atStart => exact ⟨0, 0, by omega, rfl, fun t h => by omega, rfl⟩
    case round =>
      obtain ⟨j, n, hj, rfl, hall, rfl⟩ := hrel
      have HALL := Lib.hid hall; clear hall
      by_cases hlt : j < ax.length
      · obtain ⟨ba, oa, rfl, _, hca⟩ := HA.out (by omega)
        obtain ⟨bb, ob, rfl, _, hcb⟩ := HB.out (by omega)
        have c1 : w.cell? ⟨ba, oa + j, none⟩ = some (.int .u8 (ax[j] : Nat)) := hca j _ (u8s_get hlt)
        have c2 : w.cell? ⟨bb, ob + j, none⟩ = some (.int .u8 (bs[j] : Nat)) := hcb j _ (u8s_get (by omega))
        clear hca hcb
        have hltb : j < bs.length := by omega
        have i1 : (j : Int) < (ax.length : Int) := by omega
        have i2 : (j : Int) < (bs.length : Int) := by omega
        have i3 : (0 : Int) ≤ (j : Int) := by omega
        obtain ⟨x, hx⟩ : ∃ x, ax[j] = x := ⟨_, rfl⟩
        obtain ⟨y, hy⟩ : ∃ y, bs[j] = y := ⟨_, rfl⟩
        rw [hx] at c1
        rw [hy] at c2
        have HX := Lib.hid hx; have HY := Lib.hid hy
        clear hx hy
        by_cases hxy : x = y
        · subst hxy
          go_wp2_with fail
          go_quiet (fail)
          go_wp2_with fail
          go_roundw
          case rel =>
            refine ⟨j + 1, n + nq, by omega, by go_num, fun t ht => ?_, ?_⟩
            · rcases Nat.lt_or_ge t j with h | h
              · exact HALL.out t h
              · have : t = j := by omega
                subst this
                rw [List.getElem?_eq_getElem hlt, List.getElem?_eq_getElem hltb, HX.out, HY.out]
            · simp [World.drewN]
          case measure => simp [intOf]; omega
        · have hne : (((x : Nat) : Int) != ((y : Nat) : Int)) = true := by rw [bne_iff_ne]; omega
          have HXY := Lib.hid hxy; clear hxy
          go_wp2_with fail
          go_quiet (fail)
          go_wp2_with fail
          go_ret
          refine ⟨ret_b ?_, n + nq, by simp [World.drewN, Nat.add_assoc]⟩
          have : ¬ ax = bs := fun e => HXY.out (by rw [← HX.out, ← HY.out]; subst e; rfl)
          simp [this]
      · have hfin : ax = bs := by
          apply List.ext_getElem?
          intro t
          rcases Nat.lt_or_ge t j with h | h
          · exact HALL.out t h
          · have := HL.out
            rw [List.getElem?_eq_none (by omega), List.getElem?_eq_none (by omega)]
        have HF := Lib.hid hfin; clear hfin
        go_wp2_with fail
        go_ret
        exact ⟨ret_b (by simp [HF.out]), n, rfl⟩
  · have e1 : ((ax.length : Int) != (bs.length : Int)) = true := by rw [bne_iff_ne]; omega
    have hfin : ¬ ax = bs := fun e => hlen (by rw [e])
    have HF := Lib.hid hfin; clear hfin hlen
    go_enter Try.func44, Try.ntmps44
    go_wp2_with fail
    go_ret
    exact ⟨ret_b (by simp [HF.out]), 0, rfl⟩

def sumStep (h : Int) (c : Nat) : Int := (h * 257 + c + 1) % 2147483647
def sumH (key : Int) (bs : List Nat) : Int := bs.foldl sumStep (key % 2147483647 + 1)
def sumS (key : Int) (bs : List Nat) : Int := (sumH key bs + bs.length) % 2147483647
theorem sumH_bd (key : Int) (bs : List Nat) : 0 ≤ sumH key bs ∧ sumH key bs ≤ 2147483647 := by
  unfold sumH
  have : ∀ (l : List Nat) (h : Int), 0 ≤ h ∧ h ≤ 2147483647 → 0 ≤ l.foldl sumStep h ∧ l.foldl sumStep h ≤ 2147483647 := by
    intro l
    induction l with
    | nil => intro h hh; exact hh
    | cons x l ih => intro h hh; exact ih _ (by unfold sumStep; constructor <;> omega)
  exact this bs _ (by omega)
theorem sumS_bd (key : Int) (bs : List Nat) : 0 ≤ sumS key bs ∧ sumS key bs < 2147483647 := by unfold sumS; omega
theorem sumH_snoc (key : Int) (bs : List Nat) {j : Nat} (h : j < bs.length) : sumH key (bs.take (j + 1)) = (sumH key (bs.take j) * 257 + (bs[j] : Nat) + 1) % 2147483647 := by
  unfold sumH
  rw [List.take_succ_eq_append_getElem h, List.foldl_append]; rfl

theorem sum_any (w : World) (key : Int) (sv : Value) (bs : List Nat) (h : LS w sv (u8s bs)) (hB : Bs bs) :
    Calls Try.prog 36 #[.int .i64 key, sv] w fun e w' => e = .returned (.int .i64 (sumS key bs)) ∧ w = w' := by
  obtain ⟨a, cap, rfl, hla, hma, -, hca⟩ := h.ex
  simp only [u8s_len] at *
  have hlen := hB.len
  have HA := Lib.hid hca; have HBS := Lib.hid hB.lt
  clear h hca hB hma hla
  obtain ⟨b1, b2⟩ := tmod_bd (n := key) (m := 2147483647) (by omega)
  have ek := emod_of_tmod (n := key) (m := 2147483647) (by omega)
  have hk : (key.tmod 2147483647 + 2147483647) % 2147483647 = key % 2147483647 := by rw [ek]; split <;> omega
  have k1 : 0 ≤ key % 2147483647 := by omega
  have k2 : key % 2147483647 < 2147483647 := by omega
  clear ek
  go_enter Try.func36, Try.ntmps36
  go_wp2_with fail
  clear hk
  go_loop [5, 15] (fun hv i => ∃ j : Nat, j ≤ bs.length ∧ i = .int .i64 j ∧ hv = .int .i64 (sumH key (bs.take j))) (fun _ i => bs.length - (intOf i).toNat)
  case atStart => exact ⟨0, by omega, rfl, rfl⟩
  case round =>
    obtain ⟨j, hj, rfl, rfl⟩ := hrel
    obtain ⟨h1, h2⟩ := sumH_bd key (bs.take j)
    by_cases hlt : j < bs.length
    · obtain ⟨b, off, rfl, _, hc⟩ := HA.out (by omega)
      have c1 : w.cell? ⟨b, off + j, none⟩ = some (.int .u8 (bs[j] : Nat)) := hc j _ (u8s_get hlt)
      have hx : bs[j] < 256 := HBS.out _ (List.getElem_mem _)
      have HS := Lib.hid (sumH_snoc key bs hlt)
      clear hc
      generalize sumH key (bs.take j) = hh at *
      generalize bs[j] = x at *
      go_wp2_with fail
      go_round
      case rel => exact ⟨j + 1, by omega, by go_num, by rw [HS.out]⟩
      case measure => simp [intOf]; omega
    · have e1 : bs.take j = bs := List.take_of_length_le (by omega)
      rw [e1] at h1 h2 ⊢
      clear e1
      have hfin : sumS key bs = (sumH key bs + (bs.length : Nat)) % 2147483647 := rfl
      have HF := Lib.hid hfin; clear hfin
      go_wp2_with fail
      go_ret
      exact ⟨ret_i (by rw [HF.out]), rfl⟩
end Go.Proofs.Ytidlpihffolelaa.Tg
