import Derived.Test.YtlfdbkdaamodnaaTrap13
import Derived.Laws.EntriesVeiled
namespace Go.Proofs.Ytlfdbkdaamodnaa.Tr
open Go.RowKit Dt Go.Proofs.Ytlfdbkdaamodnaa.Hd
set_option linter.unusedVariables false

def AtF (v' v : Value) (H : Nat) : Prop := v'.ownBlock = v.ownBlock ∨ ∃ g, v'.ownBlock = some g ∧ H ≤ g
theorem AtF.in_ {v' v : Value} {H b : Nat} (h : AtF v' v H) : ∀ x ∈ b :: v'.ownBlock.toList, x ∈ b :: v.ownBlock.toList ∨ H ≤ x := by
  intro x hx
  rcases h with h | ⟨g, h, hg⟩
  · rw [h] at hx; exact .inl hx
  · rw [h] at hx
    simp only [Option.toList_some, List.mem_cons, List.not_mem_nil, or_false] at hx
    rcases hx with hx | hx
    · exact .inl (by rw [hx]; simp)
    · exact .inr (by rw [hx]; exact hg)
theorem AtF.trans {v'' v' v : Value} {H H' : Nat} (h : AtF v'' v' H') (k : AtF v' v H) (hH : H ≤ H') : AtF v'' v H := by
  rcases h with h | ⟨g, h, hg⟩
  · rcases k with k | ⟨g, k, hg⟩
    · exact .inl (h.trans k)
    · exact .inr ⟨g, h.trans k, hg⟩
  · exact .inr ⟨g, h, by omega⟩
/-- where the player may come to from i at depth d: to i' -/
structure Ran (A : Nat → Act3) (N bp base : Nat) (sl : Value) (w : World) (fv : Value) (i : Nat) (F : Nat × List (Int × Int)) (w' : World) (i' c' : Nat) (fs' : List (Int × Int)) (fv' : Value) : Prop where
  ps : PS w' bp base sl i' c' fs' fv'
  fr : Fr (bp :: fv.ownBlock.toList) w w'
  at_ : AtF fv' fv w.heap.size
  le : i ≤ i' ∧ i' ≤ N
  fs : fs'.length ≤ i'
  c : c' ≤ i'

theorem SlAct.fr {w w' : World} {a : Option Addr} {len cap : Nat} {z : Nat → Act3} (h : SlAct w a len cap z) {S : List Nat} (hF : Fr S w w') (hS : ∀ b, 0 < len → a.map (·.block) = some b → b ∉ S) : SlAct w' a len cap z :=
  ⟨h.le, h.nil, h.reach, fun hp => by
    obtain ⟨b, off, e, lt, hc⟩ := h.cells hp
    have hn := hS b hp (by rw [e]; rfl)
    refine ⟨b, off, e, Nat.lt_of_lt_of_le lt hF.size, fun i hi => ?_⟩
    obtain ⟨c1, c2, c3⟩ := hc i hi
    exact ⟨(hF.cell (p := ⟨b, off + i * 3, none⟩) lt hn).trans c1, (hF.cell (p := ⟨b, off + (i * 3 + 1), none⟩) lt hn).trans c2, (hF.cell (p := ⟨b, off + (i * 3 + 2), none⟩) lt hn).trans c3⟩⟩
theorem Ran.trans {A : Nat → Act3} {N bp base : Nat} {sl : Value} {w w' w'' : World} {fv fv' fv'' : Value} {i i' i'' c' c'' : Nat} {fs' fs'' : List (Int × Int)} {F F' : Nat × List (Int × Int)}
    (h : Ran A N bp base sl w fv i F w' i' c' fs' fv') (k : Ran A N bp base sl w' fv' i' F' w'' i'' c'' fs'' fv'') : Ran A N bp base sl w fv i F w'' i'' c'' fs'' fv'' :=
  ⟨k.ps, h.fr.trans k.fr h.at_.in_, k.at_.trans h.at_ h.fr.size, ⟨by have := h.le; have := k.le; omega, k.le.2⟩, k.fs, k.c⟩

theorem own_ne {w : World} {base g b : Nat} {v : Value} {n : Nat} {xs cs} {t : TypeId} (h : w.ownsRow base 26 2 v n xs) (hb : Blk w b cs t) (ht : t ≠ 26) : b ∉ v.ownBlock.toList := by
  intro hx
  simp only [Option.mem_toList] at hx
  rcases h.2 with ⟨rfl, _⟩ | ⟨g', cap, cur, rfl, hb', hg, _⟩
  · simp [Value.ownBlock] at hx
  · simp [Value.ownBlock] at hx
    subst hx
    unfold Blk at hb
    rw [hb] at hg
    simp at hg
    exact ht hg.2

/-- where the player is -/
def plAt (w : World) (bp : Nat) : Nat := match w.cell? ⟨bp, 1, none⟩ with | some (.int _ n) => n.toNat | _ => 0
theorem PS.plAt {w : World} {bp base : Nat} {sl : Value} {i c : Nat} {fs : List (Int × Int)} {fv : Value} (h : PS w bp base sl i c fs fv) : plAt w bp = i := by
  unfold Tr.plAt; rw [h.blk.cell (i := 1) rfl]; simp

set_option maxRecDepth 100000 in
set_option maxHeartbeats 3200000 in
theorem play_body {A : Nat → Act3} {w : World} {bp base bx bd d i c N : Nat} {fs : List (Int × Int)} {fv : Value} {a : Option Addr} {len cap : Nat} (hs : SlAct w a len cap A) (hlb : ∀ b, a.map (·.block) = some b → b < bp) (h : PS w bp base (.slice a len cap) i c fs fv) (kx : Blk w bx #[.pointer (some ⟨bp, 0, none⟩)] 34) (kd : Blk w bd #[.int .i64 d] 3)
    (hN : N = min len 40) (hd6 : d ≤ 6) (hi : i ≤ N) (hfs : fs.length ≤ i) (hc : c ≤ i)
    (ih : d < 6 → ∀ w' i c fs fv, SlAct w' a len cap A → PS w' bp base (.slice a len cap) i c fs fv → i ≤ N → fs.length ≤ i → c ≤ i → Calls Try.prog 31 #[.pointer (some ⟨bp, 0, none⟩), .int .i64 ((d : Int) + 1)] w' fun e w'' => e = .returned (.tuple #[]) ∧ ∃ i' c' fs' fv', Ran A N bp base (.slice a len cap) w' fv i (0, []) w'' i' c' fs' fv' ∧ (i < N → i < i') ∧ Fin A N i (d + 1) c fs = Fin A N i' d c' fs') :
    Calls Try.prog 62 #[.pointer (some ⟨bx, 0, none⟩), .pointer (some ⟨bd, 0, none⟩)] w fun e w1 => ∃ o : Out, o.ok ∧ e = o.asBody ∧ Fr (bp :: fv.ownBlock.toList) w w1 ∧ ∃ i' c' fs' fv', Ran A N bp base (.slice a len cap) w fv i (0, []) w1 i' c' fs' fv' ∧ (i < N → i < i') ∧ 
      ((o = .done ∧ Fin A N i d c fs = Fin A N i' (d - 1) c' fs') ∨ ∃ x y, o = .thrown x y [] ∧ fs'.length < i' ∧ Fin A N i d c fs = Fin A N i' (d - 1) c' (fs' ++ [(x, y)])) := by
  have hxp : bx ∉ bp :: fv.ownBlock.toList := by
    simp only [List.mem_cons, not_or]
    exact ⟨by rintro rfl; have := h.blk; unfold Blk at kx this; rw [kx] at this; simp at this, own_ne (g := 0) h.own kx (by decide)⟩
  have hdp : bd ∉ bp :: fv.ownBlock.toList := by
    simp only [List.mem_cons, not_or]
    exact ⟨by rintro rfl; have := h.blk; unfold Blk at kd this; rw [kd] at this; simp at this, own_ne (g := 0) h.own kd (by decide)⟩
  have hr := hs.reach
  have hl := hs.le
  have HH := Lib.hid h; clear h
  have HN := Lib.hid hN; clear hN
  have hNl : N ≤ len := by have := HN.out; omega
  have hN4 : N ≤ 40 := by have := HN.out; omega
  have IH := Lib.hid ih; clear ih
  have HS := Lib.hid hs; clear hs
  have HLB := Lib.hid hlb; clear hlb
  go_enter Try.func62, Try.ntmps62
  go_wp2_with fail
  go_loopw [2] (fun _ wr => ∃ i' c' fs' fv', Ran A N bp base (.slice a len cap) w fv i (0, []) wr i' c' fs' fv' ∧ Fin A N i d c fs = Fin A N i' d c' fs') (fun _ wr => N - plAt wr bp)
  case atStart =>
    exact ⟨i, c, fs, fv, ⟨HH.out, Fr.refl _ _, .inl rfl, ⟨Nat.le_refl _, hi⟩, hfs, hc⟩, rfl⟩
  case round =>
    obtain ⟨i', c', fs', fv', hR, hF⟩ := hrel
    have mx := hR.fr.blk kx hxp
    have md := hR.fr.blk kd hdp
    have mp := hR.ps.blk
    have c0 := mx.cell (i := 0) rfl
    have c1 := mp.cell (i := 0) rfl
    have c2 := mp.cell (i := 1) rfl
    simp only [List.getElem_toArray, List.getElem_cons_zero, List.getElem_cons_succ] at c0 c1 c2
    have hi' := hR.le
    have HF := Lib.hid hF; clear hF
    have HR := Lib.hid hR; clear hR
    by_cases hlt : i' < N
    · have g1 : i' < len := by omega
      have g2 : (i' : Int) < 40 := by omega
      have g0 : 0 ≤ (i' : Int) := by omega
      have g3 : decide (i' < len) = true := by simpa using g1
      have g4 : (i' : Int) < (len : Int) := by omega
      clear hi'
      go_wp2_with fail
      go_quiet (fail)
      go_wp2_with fail
      have hR2 : Ran A N bp base (.slice a len cap) w fv i (0, []) (wr.drewN nq) i' c' fs' fv' := ⟨HR.out.ps.fr ((Fr.refl [] wr).drewN nq) (by simp) (by simp), HR.out.fr.drewN nq, HR.out.at_, HR.out.le, HR.out.fs, HR.out.c⟩
      have hpl : plAt wr bp = i' := HR.out.ps.plAt
      have HR2 := Lib.hid hR2; have HPL := Lib.hid hpl
      clear hR2 hpl HR
      obtain ⟨b, off, rfl, hlb, hcs⟩ := HS.out.cells (by omega)
      have hbp : b < bp := HLB.out b rfl
      obtain ⟨s1, s2, s3⟩ := hcs i' g1
      rw [← Nat.add_assoc] at s2 s3
      have hbn : b ∉ bp :: fv.ownBlock.toList := by
        simp only [List.mem_cons, not_or]
        exact ⟨by omega, notin_own HH.out.own (by have := HH.out.lt; omega)⟩
      have r1 := (HR2.out.fr.cell (p := ⟨b, off + i' * 3, none⟩) hlb hbn).trans s1
      have r2 := (HR2.out.fr.cell (p := ⟨b, off + i' * 3 + 1, none⟩) hlb hbn).trans s2
      have r3 := (HR2.out.fr.cell (p := ⟨b, off + i' * 3 + 2, none⟩) hlb hbn).trans s3
      have mx2 := mx.drewN nq
      have md2 := md.drewN nq
      have mp2 := mp.drewN nq
      obtain ⟨k, hk⟩ : ∃ k, (A i').1 = k := ⟨_, rfl⟩
      obtain ⟨cd, hcd⟩ : ∃ cd, (A i').2.1 = cd := ⟨_, rfl⟩
      obtain ⟨at_, hat⟩ : ∃ at_, (A i').2.2 = at_ := ⟨_, rfl⟩
      rw [hk] at r1; rw [hcd] at r2; rw [hat] at r3
      have HK := Lib.hid hk; have HCD := Lib.hid hcd; have HAT := Lib.hid hat
      clear s1 s2 s3 hcs mx md mp c0 c1 c2 hk hcd hat hbn
      generalize wr.drewN nq = wq at *
      have c0 := mx2.cell (i := 0) rfl
      have c1 := mp2.cell (i := 0) rfl
      have c2 := mp2.cell (i := 1) rfl
      simp only [List.getElem_toArray, List.getElem_cons_zero, List.getElem_cons_succ] at c0 c1 c2
      have e0 := World.new_ne wq _ c0
      have e1 := World.new_ne wq _ c1
      have e2 := World.new_ne wq _ c2
      have e3 := World.new_ne wq _ r1
      have e4 := World.new_ne wq _ r2
      have e5 := World.new_ne wq _ r3
      go_region_held3 (fun w' => w'.cell? ⟨bx, 0, none⟩ = some (.pointer (some ⟨bp, 0, none⟩)) ∧ w'.cell? ⟨bp, 0, none⟩ = some (.slice (some ⟨b, off, none⟩) len cap) ∧ w'.cell? ⟨bp, 1, none⟩ = some (.int .i64 i') ∧ w'.cell? ⟨b, off + i' * 3, none⟩ = some (.int .i64 k) ∧ w'.cell? ⟨b, off + i' * 3 + 1, none⟩ = some (.int .i64 cd) ∧ w'.cell? ⟨b, off + i' * 3 + 2, none⟩ = some (.int .i64 at_)) (go_keep) (fail)
      have X1 := (Blk.new wq #[.int .i64 k, .int .i64 cd, .int .i64 at_] 39).drew
      have P1 := (mp2.alloc (.cells #[.int .i64 k, .int .i64 cd, .int .i64 at_] 39)).drew
      have B1 := (mx2.alloc (.cells #[.int .i64 k, .int .i64 cd, .int .i64 at_] 39)).drew
      have D1 := (md2.alloc (.cells #[.int .i64 k, .int .i64 cd, .int .i64 at_] 39)).drew
      have F1 := ((HR2.out.fr.alloc (.cells #[.int .i64 k, .int .i64 cd, .int .i64 at_] 39))).drew
      have G1 : (((wq.alloc (.cells #[.int .i64 k, .int .i64 cd, .int .i64 at_] 39))).drew).ownsRow base 26 2 fv' fs'.length (cellsF fs') := own_keep HR2.out.ps.own ((Fr.refl [] wq).alloc _).drew (by simp)
      have hXl := HR2.out.fr.size
      have hpx : bp ≠ wq.heap.size := by have := mp2.lt; omega
      have hbx : bx ≠ wq.heap.size := by have := mx2.lt; omega
      have hdx : bd ≠ wq.heap.size := by have := md2.lt; omega
      clear mx2 md2 mp2 r1 r2 r3 c0 c1 c2 e0 e1 e2 e3 e4 e5
      generalize wq.heap.size = X at *
      generalize (wq.alloc (.cells #[.int .i64 k, .int .i64 cd, .int .i64 at_] 39)).drew = wx at *
      have c0 := B1.cell (i := 0) rfl
      have c2 := P1.cell (i := 1) rfl
      have f2 := P1.free 1
      simp only [List.getElem_toArray, List.getElem_cons_zero, List.getElem_cons_succ] at c0 c2
      go_upto_region 3 with (fail)
      have P3 : PS (wx.setCell ⟨bp, 1, none⟩ (.int .i64 ((i' : Int) + 1))) bp base (.slice (some ⟨b, off, none⟩) len cap) (i' + 1) c' fs' fv' := by
        refine ⟨?_, own_keep G1 ((Fr.refl [bp] wx).setCell (p := ⟨bp, 1, none⟩) (.inl (by simp)) _) (fun g hg => by have := own_base G1 hg; have := HH.out.lt; simp; omega), HH.out.lt, ?_⟩
        · have e : ((i' : Int) + 1) = ((i' + 1 : Nat) : Int) := by omega
          rw [e]; exact P1.set 1 _
        · exact Nat.le_trans HH.out.room (F1.setCell (p := ⟨bp, 1, none⟩) (.inl (by simp)) (.int .i64 ((i' : Int) + 1))).size
      have R3' : Ran A N bp base (.slice (some ⟨b, off, none⟩) len cap) w fv i (0, []) (wx.setCell ⟨bp, 1, none⟩ (.int .i64 ((i' : Int) + 1))) (i' + 1) c' fs' fv' :=
        ⟨P3, F1.setCell (.inl (by simp)) _, HR2.out.at_, by have := HR2.out.le; omega, by have := HR2.out.fs; omega, by have := HR2.out.c; omega⟩
      have R3 := Lib.hid R3'
      have X3 := X1.other (a := ⟨bp, 1, none⟩) (Ne.symm hpx) (.int .i64 ((i' : Int) + 1))
      have B3 := B1.other (a := ⟨bp, 1, none⟩) (by simp only [List.mem_cons, not_or] at hxp; exact hxp.1) (.int .i64 ((i' : Int) + 1))
      have D3 := D1.other (a := ⟨bp, 1, none⟩) (by simp only [List.mem_cons, not_or] at hdp; exact hdp.1) (.int .i64 ((i' : Int) + 1))
      have P4 := P3.blk
      clear P3 R3' X1 P1 B1 D1 F1 G1 c0 c2 f2
      generalize wx.setCell ⟨bp, 1, none⟩ (.int .i64 ((i' : Int) + 1)) = w3 at *
      have c0 := B3.cell (i := 0) rfl
      have c1 := D3.cell (i := 0) rfl
      have x0 := X3.cell (i := 0) rfl
      have x1 := X3.cell (i := 1) rfl
      have x2 := X3.cell (i := 2) rfl
      have c2 := P4.cell (i := 2) rfl
      have f2 := P4.free 2
      simp only [List.getElem_toArray, List.getElem_cons_zero, List.getElem_cons_succ] at c0 c1 c2 x0 x1 x2
      have hi'i : i ≤ i' := HR2.out.le.1
      go_wp2_with fail
      refine (pick_any _ _ _ (by decide) (by decide)).mono ?_; rintro e w' ⟨rfl, rfl⟩
      have q0 : 0 ≤ k % 8 := by omega
      have q8 : k % 8 < 8 := by omega
      obtain ⟨q, hq⟩ : ∃ q, k % 8 = q := ⟨_, rfl⟩
      rw [hq] at q0 q8 ⊢
      have HQ := Lib.hid hq; clear hq
      rcases (show q = 0 ∨ q = 1 ∨ q = 2 ∨ (q = 3 ∨ q = 4) ∨ (q = 5 ∨ q = 6 ∨ q = 7) by omega) with rfl | rfl | rfl | hq34 | hq567
      · by_cases hd : d < 6
        · have hd' : (d : Int) < 6 := by omega
          go_wp2_with fail
          refine (IH.out hd w3 (i' + 1) c' fs' fv' (HS.out.fr R3.out.fr (fun b' _ h => by
            simp at h; subst h
            simp only [List.mem_cons, not_or]
            exact ⟨by omega, notin_own HH.out.own (by have := HH.out.lt; omega)⟩)) R3.out.ps (by omega) R3.out.fs R3.out.c).mono ?_
          rintro e w4 ⟨rfl, i4, c4, fs4, fv4, R4, -, F4⟩
          have R5 := R3.out.trans R4
          have hF5 : Fin A N i d c fs = Fin A N i4 d c4 fs4 := by
            rw [HF.out, Fin_in hlt (by rw [HK.out]; exact HQ.out), show min 6 (d + 1) = d + 1 by omega, F4]
          have R5' := Lib.hid R5; have HF5 := Lib.hid hF5
          have hle := R4.le
          clear R5 hF5 R4 F4
          go_wp2_with fail
          go_roundw
          case rel => exact ⟨i4, c4, fs4, fv4, R5'.out, HF5.out⟩
          case measure => rw [HPL.out, R5'.out.ps.plAt]; omega
        · have hd' : ¬ (d : Int) < 6 := by omega
          go_wp2_with fail
          go_roundw
          case rel => exact ⟨i' + 1, c', fs', fv', R3.out, by rw [HF.out, Fin_in hlt (by rw [HK.out]; exact HQ.out), show min 6 (d + 1) = d by omega]⟩
          case measure => rw [HPL.out, R3.out.ps.plAt]; omega
      · go_wp2_with fail
        (try simp only [Exit.inBlock, Exit.then])
        refine bodyPost_ret (results_none rfl _ _ _) rfl ?_
        exact ⟨.done, trivial, rfl, R3.out.fr, i' + 1, c', fs', fv', R3.out, by omega, .inl ⟨rfl, by rw [HF.out, Fin_out hlt (by rw [HK.out]; exact HQ.out)]⟩⟩
      · have HTH := Lib.hid (show k % 8 = 2 ∨ (k % 8 = 3 ∨ k % 8 = 4) ∧ cd.tmod 2 ≠ 0 from .inl HQ.out)
        go_wp2_with fail
        refine (throw_any _ _ _).mono ?_; rintro e w4 ⟨rfl, rfl⟩
        refine ⟨rfl, .thrown cd at_ [], rfl, rfl, R3.out.fr, i' + 1, c', fs', fv', R3.out, by omega, .inr ⟨cd, at_, rfl, by have := R3.out.fs; have := HR2.out.fs; omega, ?_⟩⟩
        rw [HF.out, Fin_throw hlt (by rw [HK.out, HCD.out]; exact HTH.out), HCD.out, HAT.out]
      · have HQ34 := Lib.hid hq34
        by_cases hm : cd.tmod 2 = 0
        · have hm' : (cd.tmod 2 == 0) = true := by simp [hm]
          have HM := Lib.hid hm; clear hm
          rcases hq34 with rfl | rfl
          all_goals
            go_wp2_with fail
            refine (must_yes _ _ _).mono ?_; rintro e w4 ⟨rfl, rfl⟩
            go_wp2_with fail
            go_roundw
            case rel => exact ⟨i' + 1, c', fs', fv', R3.out, by rw [HF.out, Fin_must hlt (by rw [HK.out, HQ.out]; decide) (by rw [HCD.out]; exact HM.out)]⟩
            case measure => rw [HPL.out, R3.out.ps.plAt]; omega
        · have hm' : (cd.tmod 2 == 0) = false := by simp [hm]
          have HTH := Lib.hid (show k % 8 = 2 ∨ (k % 8 = 3 ∨ k % 8 = 4) ∧ cd.tmod 2 ≠ 0 from .inr ⟨by rw [HQ.out]; exact hq34, hm⟩)
          clear hm
          rcases hq34 with rfl | rfl
          all_goals
            go_wp2_with fail
            refine (must_no _ _ _).mono ?_; rintro e w4 ⟨rfl, rfl⟩
            refine ⟨rfl, .thrown cd at_ [], rfl, rfl, R3.out.fr, i' + 1, c', fs', fv', R3.out, by omega, .inr ⟨cd, at_, rfl, by have := R3.out.fs; have := HR2.out.fs; omega, ?_⟩⟩
            rw [HF.out, Fin_throw hlt (by rw [HK.out, HCD.out]; exact HTH.out), HCD.out, HAT.out]
      · have HQ5 := Lib.hid (show 5 ≤ k % 8 by rw [HQ.out]; omega)
        have hcb : c' ≤ 1000 := by have := HR2.out.c; omega
        rcases hq567 with rfl | rfl | rfl
        all_goals
          go_wp2_with fail
          go_roundw
          case rel =>
            refine ⟨i' + 1, c' + 1, fs', fv', ⟨⟨?_, own_keep R3.out.ps.own ((Fr.refl [bp] w3).setCell (p := ⟨bp, 2, none⟩) (.inl (by simp)) _) (fun g hg => by have := own_base R3.out.ps.own hg; have := HH.out.lt; simp; omega), HH.out.lt, ?_⟩, R3.out.fr.setCell (.inl (by simp)) _, R3.out.at_, R3.out.le, R3.out.fs, by have := HR2.out.c; omega⟩, by rw [HF.out, Fin_count hlt (by rw [HK.out]; exact HQ5.out)]⟩
            · have e : ((c' : Int) + 1) = ((c' + 1 : Nat) : Int) := by omega
              rw [e]; exact P4.set 2 _
            · exact Nat.le_trans HH.out.room (R3.out.fr.setCell (p := ⟨bp, 2, none⟩) (.inl (by simp)) (.int .i64 ((c' : Int) + 1))).size
          case measure =>
            have e : plAt (w3.setCell ⟨bp, 2, none⟩ (.int .i64 ((c' : Int) + 1))) bp = i' + 1 := by
              unfold plAt; rw [(P4.set 2 (.int .i64 ((c' : Int) + 1))).cell (i := 1) rfl]; simp
            rw [HPL.out, e]; omega
    · obtain rfl : i' = N := by omega
      have g0 : 0 ≤ (i' : Int) := by omega
      by_cases hln : i' < len
      · have g3 : decide (i' < len) = true := by simpa using hln
        have g2 : ¬ (i' : Int) < 40 := by have := HN.out; omega
        clear hi'
        go_wp2_with fail
        go_quiet (fail)
        go_wp2_with fail
        (try simp only [Exit.inBlock, Exit.then])
        refine bodyPost_end (results_none rfl _ _ _) rfl ?_
        refine ⟨.done, trivial, rfl, HR.out.fr.drewN _, i', c', fs', fv', ⟨HR.out.ps.fr ((Fr.refl [] wr).drewN _) (by simp) (by simp), HR.out.fr.drewN _, HR.out.at_, HR.out.le, HR.out.fs, HR.out.c⟩, (fun h => by have := HR.out.le; omega), .inl ⟨rfl, by rw [HF.out, Fin_end, Fin_end]⟩⟩
      · have g3 : decide (i' < len) = false := by simpa using hln
        clear hi'
        go_wp2_with fail
        go_quiet (fail)
        go_wp2_with fail
        (try simp only [Exit.inBlock, Exit.then])
        refine bodyPost_end (results_none rfl _ _ _) rfl ?_
        refine ⟨.done, trivial, rfl, HR.out.fr.drewN _, i', c', fs', fv', ⟨HR.out.ps.fr ((Fr.refl [] wr).drewN _) (by simp) (by simp), HR.out.fr.drewN _, HR.out.at_, HR.out.le, HR.out.fs, HR.out.c⟩, (fun h => by have := HR.out.le; omega), .inl ⟨rfl, by rw [HF.out, Fin_end, Fin_end]⟩⟩
end Go.Proofs.Ytlfdbkdaamodnaa.Tr
