import Derived.Test.YtlfdbkdaamodnaaBit18
import Derived.Test.YtlfdbkdaamodnaaSlField
namespace Go.Proofs.Ytlfdbkdaamodnaa.Bt
open Go.RowKit Dt Go.Proofs.Ytlfdbkdaamodnaa.Hd
set_option linter.unusedVariables false
set_option linter.unusedSimpArgs false

def jAt (w : World) (v : Value) : Nat := match v with
  | .pointer (some a) => match w.cell? a with
    | some (.int _ j) => j.toNat
    | _ => 0
  | _ => 0
theorem jAt_eq {w : World} {b : Nat} {j : Nat} (h : Blk w b #[.int .i64 j] 3) : jAt w (.pointer (some ⟨b, 0, none⟩)) = j := by
  have := h.cell (i := 0) rfl
  unfold jAt; simp only [this]; simp

set_option maxRecDepth 100000 in
set_option maxHeartbeats 3200000 in
theorem walk_reads (a0 : Option Addr) (len0 cap0 : Nat) (z0 : Nat → Int) (a1 : Option Addr) (len1 cap1 : Nat) (z1 : Nat → Int × Int × Bool) (W : World) (s0 : SlI .u8 W a0 len0 cap0 z0) (s1 : SlField W a1 len1 cap1 z1) :
    Calls Try.prog 11 #[.slice a0 len0 cap0, .slice a1 len1 cap1] W fun e w' => e = .returned (.bool true) ∧ Below W.heap.size W w' := by
  have hmf : ∀ (fn : Fn) (first cap : Array Value) (w : World), (Instr.makeFunc fn first cap).run Try.prog w = .ok (.func fn first cap) w := fun _ _ _ _ => rfl
  have hr := s1.1.reach
  have hl := s1.1.le
  obtain ⟨bs0, hls, hB0, hlen0⟩ := Tg.bytes_of s0
  have h60 : (bs0.take 60).length ≤ 60 := by simp; omega
  have hBt := (hB0.take 60).lt
  obtain ⟨bs, hbs⟩ : ∃ bs, bs0.take 60 = bs := ⟨_, rfl⟩
  rw [hbs] at h60 hBt
  have HBS := Lib.hid hbs; clear hbs
  have HS := Lib.hid s1; have HL0 := Lib.hid hls; have HB0 := Lib.hid hB0; have HBT := Lib.hid hBt; have H60 := Lib.hid h60
  clear s0 s1 hls hB0 hlen0 hBt h60
  go_enter Try.func11, Try.ntmps11
  go_upto_region 1 with (fail)
  have hbl := Blk.new W #[.slice a1 len1 cap1] 55
  have hF := (Fr.refl [] W).alloc (.cells #[.slice a1 len1 cap1] 55)
  generalize W.alloc (.cells #[.slice a1 len1 cap1] 55) = w1 at *
  obtain ⟨bl, hblW⟩ : ∃ bl, W.heap.size = bl := ⟨_, rfl⟩
  rw [hblW] at hbl ⊢
  have hblge : W.heap.size ≤ bl := by omega
  have HBLW := Lib.hid hblge; clear hblW hblge
  go_wp2_with fail
  refine (Tg.few_any _ _ bs0 60 (HL0.out.fr0 hF) HB0.out (by decide)).mono ?_; rintro e w2 ⟨sv, rfl, hown, hF2⟩
  rw [HBS.out] at hown
  replace hF := hF.trans hF2 (by simp)
  replace hbl := hF2.blk hbl (by simp)
  clear hF2
  go_wp2_with fail
  refine (rs_new W w2 hF sv _ (LS.of_own' hown) (by have := H60.out; omega) HBT.out).mono ?_; rintro e w3 ⟨R, rfl, hR, -, hF3⟩
  replace hbl := hF3.blk hbl (by simp)
  clear hown hF3 hF
  go_upto_region 2 with (fail)
  have hbr := Blk.new w3 #[.pointer (some ⟨R, 0, none⟩)] 63
  replace hbl := hbl.alloc (.cells #[.pointer (some ⟨R, 0, none⟩)] 63)
  have hR := hR.fr0 ((Fr.refl [] w3).alloc (.cells #[.pointer (some ⟨R, 0, none⟩)] 63))
  generalize w3.alloc (.cells #[.pointer (some ⟨R, 0, none⟩)] 63) = w4 at *
  generalize w3.heap.size = br at *
  obtain ⟨Br, rv, hR⟩ : ∃ B bv, RX W w4 R B bv bs 0 := hR
  go_wp2_with fail
  refine (known_any _).mono ?_; rintro e w5 ⟨rfl, hF⟩
  replace hbl := hF.blk hbl (by simp)
  replace hbr := hF.blk hbr (by simp)
  replace hR := hR.fr0 hF
  clear hF
  have c0 := hbr.cell (i := 0) rfl
  have hsz5 := hR.rs.F.size
  go_wp2_with fail
  refine (Tg.few_any _ _ bs0 60 (HL0.out.fr0 hR.rs.F) HB0.out (by decide)).mono ?_; rintro e w6 ⟨sv2, rfl, hown, hF⟩
  rw [HBS.out] at hown
  replace hbl := hF.blk hbl (by simp)
  replace hbr := hF.blk hbr (by simp)
  replace hR := hR.fr0 hF
  clear c0
  obtain ⟨ad, cap, rfl, hcap1, hcap2, -, hadd⟩ := own_any hown
  go_upto_region 5 with (fail)
  have hRF : RF W (w6.alloc (.cells #[.slice ad bs.length cap, .int .i64 0, .bool false] 69)) w6.heap.size bs 0 false :=
    ⟨_, _, ⟨Blk.new w6 _ _, own_keep hown ((Fr.refl [] w6).alloc _) (by simp), HBT.out, by have := H60.out; omega, by omega⟩, hR.rs.F.size, hsz5, hR.rs.F.alloc _⟩
  replace hbl := hbl.alloc (.cells #[.slice ad bs.length cap, .int .i64 0, .bool false] 69)
  replace hbr := hbr.alloc (.cells #[.slice ad bs.length cap, .int .i64 0, .bool false] 69)
  replace hR := hR.fr0 ((Fr.refl [] w6).alloc (.cells #[.slice ad bs.length cap, .int .i64 0, .bool false] 69))
  clear hown hF hadd hsz5
  generalize w6.alloc (.cells #[.slice ad bs.length cap, .int .i64 0, .bool false] 69) = w7 at *
  generalize w6.heap.size = S at *
  go_upto_block 0 with (fail)
  have hbi := Blk.new w7 #[.int .i64 0] 3
  replace hbl := hbl.alloc (.cells #[.int .i64 0] 3)
  replace hbr := hbr.alloc (.cells #[.int .i64 0] 3)
  replace hR := hR.fr0 ((Fr.refl [] w7).alloc (.cells #[.int .i64 0] 3))
  have hSlt := hRF.lt
  replace hRF := hRF.fr0 ((Fr.refl [] w7).alloc (.cells #[.int .i64 0] 3))
  have hbiW : W.heap.size ≤ w7.heap.size := by have := hRF.ge; omega
  generalize w7.alloc (.cells #[.int .i64 0] 3) = w8 at *
  generalize w7.heap.size = bi0 at *
  have Hbi := Lib.hid hbi; have Hbl := Lib.hid hbl; have Hbr := Lib.hid hbr; have HR0 := Lib.hid hR; have HRF0 := Lib.hid hRF; have HBI := Lib.hid hbiW
  clear hbi hbl hbr hR hRF hbiW hSlt
  go_wp2_with fail
  go_loopw [7] (fun iv wr => ∃ (j p bi : Nat), (j ≤ len1 ∧ j ≤ 40) ∧ iv = .pointer (some ⟨bi, 0, none⟩) ∧ Blk wr bi #[.int .i64 j] 3 ∧ W.heap.size ≤ bi ∧ Blk wr bl #[.slice a1 len1 cap1] 55 ∧ Blk wr br #[.pointer (some ⟨R, 0, none⟩)] 63 ∧ RX W wr R Br rv bs p ∧ RF W wr S bs p false) (fun iv wr => 40 - jAt wr iv)
  case atStart => exact ⟨0, 0, bi0, by simp, rfl, Hbi.out, HBI.out, Hbl.out, Hbr.out, HR0.out, HRF0.out⟩
  case round =>
    obtain ⟨j, p, bi, hjb, rfl, hbi, hbiW, hbl, hbr, hR, hRF⟩ := hrel
    have hjA := jAt_eq hbi
    have HJA := Lib.hid hjA
    clear hjA Hbi Hbl Hbr HR0 HRF0 HBI
    have c1 := hbi.cell (i := 0) rfl
    have c2 := hbl.cell (i := 0) rfl
    have q0 : (0 : Int) ≤ (j : Int) := by omega
    by_cases hlt : j < len1
    · by_cases hlt2 : j < 40
      · have q1 : (j : Int) < (len1 : Int) := by omega
        have q2 : (j : Int) < 40 := by omega
        obtain ⟨b, off, rfl, hlb, hcs⟩ := HS.out.1.cells (by omega)
        obtain ⟨x1, x2, x3⟩ := hcs j hlt
        rw [← Nat.add_assoc] at x2 x3
        obtain ⟨nn, hnn⟩ : ∃ nn, (z1 j).2.1 = nn := ⟨_, rfl⟩
        obtain ⟨sg, hsg⟩ : ∃ sg, (z1 j).2.2 = sg := ⟨_, rfl⟩
        rw [hnn] at x2; rw [hsg] at x3
        have hsz := sizeS_bd nn
        obtain ⟨k, hk⟩ : ∃ k : Nat, (k : Int) = max 0 (min (sizeS nn) 64) := ⟨(max 0 (min (sizeS nn) 64)).toNat, by omega⟩
        have hk2 : (k : Int) = max 0 (min 64 (sizeS nn)) := by omega
        have hk64 : k ≤ 64 := by omega
        have HKK := Lib.hid hk; have HKK2 := Lib.hid hk2; have HX2 := Lib.hid x2; have HX3 := Lib.hid x3
        obtain ⟨adS, capS, hSb, hcS1, hcS2⟩ := hRF.blk
        have c3 := hSb.cell (i := 1) rfl
        have c4 := hbr.cell (i := 0) rfl
        have hfit := hRF.fit
        clear hk hk2 hcs hnn hsg x1 x2 x3 hsz
        have Hbi := Lib.hid hbi; have Hbl := Lib.hid hbl; have Hbr := Lib.hid hbr; have HR := Lib.hid hR; have HRF := Lib.hid hRF; have HBI := Lib.hid hbiW; have HSB := Lib.hid hSb
        clear hbi hbl hbr hR hRF hbiW hSb
        go_upto_region 10 with (fail)
        have hFg := (Fr.refl [] wr).alloc (.cells #[.int .u64 0] 46)
        have hbg := Blk.new wr #[.int .u64 0] 46
        have gW : W.heap.size ≤ wr.heap.size := HRF.out.F.size
        have hRg := HR.out.fr0 hFg
        have hRFg := HRF.out.fr0 hFg
        have hbig := hFg.blk Hbi.out (by simp)
        have hblg := hFg.blk Hbl.out (by simp)
        have hbrg := hFg.blk Hbr.out (by simp)
        have hgbr : br ≠ wr.heap.size := by have := Hbr.out.lt; omega
        clear c1 c2 c3 c4 Hbi Hbl Hbr HR HRF HSB hFg
        generalize wr.alloc (.cells #[.int .u64 0] 46) = wg at *
        generalize wr.heap.size = bg at *
        have r2 := (hRg.rs.F.cell (p := ⟨b, off + j * 3 + 1, none⟩) hlb (by simp)).trans HX2.out
        have r3 := (hRg.rs.F.cell (p := ⟨b, off + j * 3 + 2, none⟩) hlb (by simp)).trans HX3.out
        have hne : R ≠ bg := blk_blk hRg.1.blk hbg (by decide)
        have hRlt := hRg.1.blk.lt
        have hglt := hbg.lt
        have Hbi := Lib.hid hbig; have Hbl := Lib.hid hblg; have Hbr := Lib.hid hbrg; have HR := Lib.hid hRg; have HRF := Lib.hid hRFg; have Hbg := Lib.hid hbg; have HR2 := Lib.hid r2; have HR3 := Lib.hid r3; have HGW := Lib.hid gW; have HNE := Lib.hid hne; have HRLT := Lib.hid hRlt; have HGLT := Lib.hid hglt
        clear hbig hblg hbrg hRg hRFg hbg r2 r3 gW hne hRlt hglt
        go_wp2_with fail
        refine (Tr.catch_any (S := [R, bg]) (by have := HRLT.out; have := HGLT.out; simp; omega) (fun _ => by kernel_rfl) (fun w0 hF => reads_body (hF.blk Hbl.out (by simp)) (hF.blk Hbi.out (by simp)) (hF.blk Hbr.out (by simp)) (hF.blk Hbg.out (by simp)) (HR.out.fr0 hF) HNE.out HGW.out ((hF.cell (p := ⟨b, off + j * 3 + 1, none⟩) (Nat.lt_of_lt_of_le hlb HR.out.rs.F.size) (by simp)).trans HR2.out) ((hF.cell (p := ⟨b, off + j * 3 + 2, none⟩) (Nat.lt_of_lt_of_le hlb HR.out.rs.F.size) (by simp)).trans HR3.out) hlt hl hr HKK.out)).mono ?_
        rintro e w12 ⟨o, w13, hok, rfl, hF, hG, hF2⟩
        have hRW := HR.out.2.1
        have hGW := HGW.out
        have hbi := hF.blk Hbi.out (by have := blk_blk Hbi.out HR.out.1.blk (by decide); have := blk_blk Hbi.out Hbg.out (by decide); simp; omega)
        have hbl := hF.blk Hbl.out (by have := blk_blk Hbl.out HR.out.1.blk (by decide); have := blk_blk Hbl.out Hbg.out (by decide); simp; omega)
        have hbr := hF.blk Hbr.out (by have := blk_blk Hbr.out HR.out.1.blk (by decide); have := blk_blk Hbr.out Hbg.out (by decide); simp; omega)
        have hRF := HRF.out.two HR.out.1.blk Hbg.out (by decide) (by decide) (by decide) (by decide) hRW hGW hF
        have hown : ∀ g, rv.ownBlock = some g → g ∉ [wg.heap.size, wg.heap.size + 1] := fun g hg => by have := own_lt HR.out.1.own hg; simp; omega
        have hRn : R ∉ [wg.heap.size, wg.heap.size + 1] := by have := HRLT.out; simp; omega
        have hgn : bg ∉ [wg.heap.size, wg.heap.size + 1] := by have := HGLT.out; simp; omega
        have hsz : ∀ x ∈ [wg.heap.size, wg.heap.size + 1], W.heap.size ≤ x := by have := HR.out.rs.F.size; simp; omega
        rcases hG with ⟨hfits, rfl, hR13, hg13⟩ | ⟨hlack, rfl, hR13, hg13⟩
        · have hR := hR13.fr hF2 hRn hown hsz
          have hbg := hF2.blk hg13 hgn
          clear hF hF2 hR13 hg13 hok
          simp only [Tr.Out.asCatch]
          go_upto_region 11 with (fail)
          have hbf := Blk.new w12 #[.int .i64 0, .int .i64 0] 26
          have hFf := (Fr.refl [] w12).alloc (.cells #[.int .i64 0, .int .i64 0] 26)
          replace hbi := hFf.blk hbi (by simp)
          replace hbl := hFf.blk hbl (by simp)
          replace hbr := hFf.blk hbr (by simp)
          replace hbg := hFf.blk hbg (by simp)
          replace hR := hR.fr0 hFf
          replace hRF := hRF.fr0 hFf
          clear hFf
          generalize w12.alloc (.cells #[.int .i64 0, .int .i64 0] 26) = w14 at *
          generalize w12.heap.size = bf at *
          have r2 := (hR.rs.F.cell (p := ⟨b, off + j * 3 + 1, none⟩) hlb (by simp)).trans HX2.out
          have r3 := (hR.rs.F.cell (p := ⟨b, off + j * 3 + 2, none⟩) hlb (by simp)).trans HX3.out
          have c1 := hbi.cell (i := 0) rfl
          have c2 := hbl.cell (i := 0) rfl
          clear Hbi Hbl Hbr HR HRF Hbg HR2 HR3 hown hRn hgn hsz
          have Hbi := Lib.hid hbi; have Hbl := Lib.hid hbl; have Hbr := Lib.hid hbr; have HR := Lib.hid hR; have HRF := Lib.hid hRF; have Hbg := Lib.hid hbg; have Hbf := Lib.hid hbf
          clear hbi hbl hbr hR hRF hbg hbf
          cases sg with
          | true =>
            go_wp2_with fail
            refine (size_any _ _).mono ?_; rintro e w' ⟨rfl, rfl⟩
            go_wp2_with fail
            refine (rf_sgn HRF.out HKK2.out hfits).mono ?_; rintro e w15 ⟨rfl, hRF, hF⟩
            have hR := HR.out.by_rf HRF.out hF
            have hSt := HRF.out.blk
            have hbi := hF.blk Hbi.out (by obtain ⟨_, _, h, -⟩ := hSt; have := blk_blk Hbi.out h (by decide); simpa using this)
            have hbl := hF.blk Hbl.out (by obtain ⟨_, _, h, -⟩ := hSt; have := blk_blk Hbl.out h (by decide); simpa using this)
            have hbr := hF.blk Hbr.out (by obtain ⟨_, _, h, -⟩ := hSt; have := blk_blk Hbr.out h (by decide); simpa using this)
            have hbg := hF.blk Hbg.out (by obtain ⟨_, _, h, -⟩ := hSt; have := blk_blk Hbg.out h (by decide); simpa using this)
            have hbf := hF.blk Hbf.out (by obtain ⟨_, _, h, -⟩ := hSt; have := blk_blk Hbf.out h (by decide); simpa using this)
            have hv : valOf bs p k true = IntKind.u64.wrap (sgn (getN bs p k) k) := by unfold valOf; simp
            obtain ⟨V, hV⟩ : ∃ V, IntKind.u64.wrap (sgn (getN bs p k) k) = V := ⟨_, rfl⟩
            rw [hv, hV] at hbg
            have HV := Lib.hid hV
            clear hv hV
            obtain ⟨s, hs⟩ : ∃ s, sgn (getN bs p k) k = s := ⟨_, rfl⟩
            rw [hs] at HV ⊢
            clear hs
            obtain ⟨p', hp'⟩ : ∃ p', p + k = p' := ⟨_, rfl⟩
            rw [hp'] at hR hRF
            clear hp'
            obtain ⟨adS, capS, hSb, hcS1, hcS2⟩ := hRF.blk
            have c1 := hbi.cell (i := 0) rfl
            have c2 := hbl.cell (i := 0) rfl
            have c4 := hbr.cell (i := 0) rfl
            have c5 := hbg.cell (i := 0) rfl
            have c6 := hbf.cell (i := 0) rfl
            have c7 := hbf.cell (i := 1) rfl
            have e0 := hSb.cell (i := 0) rfl
            have e1 := hSb.cell (i := 1) rfl
            have e2 := hSb.cell (i := 2) rfl
            have f2 := hSb.free 2
            have hfit2 := hRF.fit
            have h60 := H60.out
            have Hbi' := Lib.hid hbi
            have Hbl' := Lib.hid hbl
            have Hbr' := Lib.hid hbr
            have HR' := Lib.hid hR
            have HRF' := Lib.hid hRF
            have HSb' := Lib.hid hSb
            clear hbi hbl hbr hbg hbf hR hRF hSb hF hSt Hbi Hbl Hbr Hbg Hbf HR HRF r2 r3
            go_upto_region 14 with (fail)
            (try rw [HV.out])
            go_quiet (first | (go_at_call 50; exact Calls.quiet_of (rx_left (HR'.out.fr0 ((Fr.refl [] _).drewN _)))))
            go_upto_region 17 with (fail)
            have HF17 := Lib.hid (((Fr.refl [S] w15).drewN nq).setCell (p := ⟨S, 2, none⟩) (.inl (by simp)) (.bool false))
            have hRF := (HRF'.out.drewN nq).setS false
            have hR := HR'.out.by_rf HRF'.out HF17.out
            have hbi := HF17.out.blk Hbi'.out (by have := blk_blk Hbi'.out HSb'.out (by decide); simpa using this)
            have hbl := HF17.out.blk Hbl'.out (by have := blk_blk Hbl'.out HSb'.out (by decide); simpa using this)
            have hbr := HF17.out.blk Hbr'.out (by have := blk_blk Hbr'.out HSb'.out (by decide); simpa using this)
            clear HRF' HR' HF17 Hbi' Hbl' Hbr' HSb' c1 c2 c4 c5 c6 c7 e0 e1 e2 f2
            generalize (w15.drewN nq).setCell ⟨S, 2, none⟩ (.bool false) = w17 at *
            have c1 := hbi.cell (i := 0) rfl
            have HRF := Lib.hid hRF; have HR := Lib.hid hR; have Hbl := Lib.hid hbl; have Hbr := Lib.hid hbr
            clear hRF hR hbi hbl hbr
            go_upto_region 7 with (fail)
            have hni := Blk.new w17 #[.int .i64 (j : Int)] 3
            have hFn := (Fr.refl [] w17).alloc (.cells #[.int .i64 (j : Int)] 3)
            have hniW := HR.out.rs.F.size
            have hRF := HRF.out.fr0 hFn
            have hR := HR.out.fr0 hFn
            have hbl := hFn.blk Hbl.out (by simp)
            have hbr := hFn.blk Hbr.out (by simp)
            clear HRF HR Hbl Hbr hFn c1
            generalize w17.alloc (.cells #[.int .i64 (j : Int)] 3) = w18 at *
            generalize w17.heap.size = ni at *
            have c1 := hni.cell (i := 0) rfl
            have f1 := hni.free 0
            have Hni := Lib.hid hni; have HRF := Lib.hid hRF; have HR := Lib.hid hR; have Hbl := Lib.hid hbl; have Hbr := Lib.hid hbr
            clear hni hRF hR hbl hbr
            go_wp2_with fail
            have hFe := (Fr.refl [ni] w18).setCell (p := ⟨ni, 0, none⟩) (.inl (by simp)) (.int .i64 ((j : Int) + 1))
            have hni := Hni.out.set 0 (.int .i64 ((j : Int) + 1))
            have hRF := HRF.out.other Hni.out (by decide) (by decide) hniW hFe
            have hR := HR.out.other Hni.out (by decide) (by decide) hniW hFe
            have hbl := hFe.blk Hbl.out (by have := blk_blk Hbl.out Hni.out (by decide); simpa using this)
            have hbr := hFe.blk Hbr.out (by have := blk_blk Hbr.out Hni.out (by decide); simpa using this)
            clear hFe Hni HRF HR Hbl Hbr c1 f1
            generalize w18.setCell ⟨ni, 0, none⟩ (.int .i64 ((j : Int) + 1)) = w19 at *
            replace hni : Blk w19 ni #[.int .i64 ((j + 1 : Nat) : Int)] 3 := hni
            go_roundw
            case rel => exact ⟨j + 1, p', ni, by omega, rfl, hni, hniW, hbl, hbr, hR, hRF⟩
            case measure => rw [jAt_eq hni, HJA.out]; omega
          | false =>
            go_wp2_with fail
            refine (size_any _ _).mono ?_; rintro e w' ⟨rfl, rfl⟩
            go_wp2_with fail
            refine (rf_get HRF.out HKK2.out hfits).mono ?_; rintro e w15 ⟨rfl, hRF, hF⟩
            have hR := HR.out.by_rf HRF.out hF
            have hSt := HRF.out.blk
            have hbi := hF.blk Hbi.out (by obtain ⟨_, _, h, -⟩ := hSt; have := blk_blk Hbi.out h (by decide); simpa using this)
            have hbl := hF.blk Hbl.out (by obtain ⟨_, _, h, -⟩ := hSt; have := blk_blk Hbl.out h (by decide); simpa using this)
            have hbr := hF.blk Hbr.out (by obtain ⟨_, _, h, -⟩ := hSt; have := blk_blk Hbr.out h (by decide); simpa using this)
            have hbg := hF.blk Hbg.out (by obtain ⟨_, _, h, -⟩ := hSt; have := blk_blk Hbg.out h (by decide); simpa using this)
            have hbf := hF.blk Hbf.out (by obtain ⟨_, _, h, -⟩ := hSt; have := blk_blk Hbf.out h (by decide); simpa using this)
            have hv : valOf bs p k false = (getN bs p k : Int) := by unfold valOf; simp
            obtain ⟨V, hV⟩ : ∃ V, (getN bs p k : Int) = V := ⟨_, rfl⟩
            rw [hv, hV] at hbg
            have HV := Lib.hid hV
            clear hv hV
            rw [HV.out]
            obtain ⟨p', hp'⟩ : ∃ p', p + k = p' := ⟨_, rfl⟩
            rw [hp'] at hR hRF
            clear hp'
            obtain ⟨adS, capS, hSb, hcS1, hcS2⟩ := hRF.blk
            have c1 := hbi.cell (i := 0) rfl
            have c2 := hbl.cell (i := 0) rfl
            have c4 := hbr.cell (i := 0) rfl
            have c5 := hbg.cell (i := 0) rfl
            have c6 := hbf.cell (i := 0) rfl
            have c7 := hbf.cell (i := 1) rfl
            have e0 := hSb.cell (i := 0) rfl
            have e1 := hSb.cell (i := 1) rfl
            have e2 := hSb.cell (i := 2) rfl
            have f2 := hSb.free 2
            have hfit2 := hRF.fit
            have h60 := H60.out
            have Hbi' := Lib.hid hbi
            have Hbl' := Lib.hid hbl
            have Hbr' := Lib.hid hbr
            have HR' := Lib.hid hR
            have HRF' := Lib.hid hRF
            have HSb' := Lib.hid hSb
            clear hbi hbl hbr hbg hbf hR hRF hSb hF hSt Hbi Hbl Hbr Hbg Hbf HR HRF r2 r3
            go_upto_region 14 with (fail)
            go_quiet (first | (go_at_call 50; exact Calls.quiet_of (rx_left (HR'.out.fr0 ((Fr.refl [] _).drewN _)))))
            go_upto_region 17 with (fail)
            have HF17 := Lib.hid (((Fr.refl [S] w15).drewN nq).setCell (p := ⟨S, 2, none⟩) (.inl (by simp)) (.bool false))
            have hRF := (HRF'.out.drewN nq).setS false
            have hR := HR'.out.by_rf HRF'.out HF17.out
            have hbi := HF17.out.blk Hbi'.out (by have := blk_blk Hbi'.out HSb'.out (by decide); simpa using this)
            have hbl := HF17.out.blk Hbl'.out (by have := blk_blk Hbl'.out HSb'.out (by decide); simpa using this)
            have hbr := HF17.out.blk Hbr'.out (by have := blk_blk Hbr'.out HSb'.out (by decide); simpa using this)
            clear HRF' HR' HF17 Hbi' Hbl' Hbr' HSb' c1 c2 c4 c5 c6 c7 e0 e1 e2 f2
            generalize (w15.drewN nq).setCell ⟨S, 2, none⟩ (.bool false) = w17 at *
            have c1 := hbi.cell (i := 0) rfl
            have HRF := Lib.hid hRF; have HR := Lib.hid hR; have Hbl := Lib.hid hbl; have Hbr := Lib.hid hbr
            clear hRF hR hbi hbl hbr
            go_upto_region 7 with (fail)
            have hni := Blk.new w17 #[.int .i64 (j : Int)] 3
            have hFn := (Fr.refl [] w17).alloc (.cells #[.int .i64 (j : Int)] 3)
            have hniW := HR.out.rs.F.size
            have hRF := HRF.out.fr0 hFn
            have hR := HR.out.fr0 hFn
            have hbl := hFn.blk Hbl.out (by simp)
            have hbr := hFn.blk Hbr.out (by simp)
            clear HRF HR Hbl Hbr hFn c1
            generalize w17.alloc (.cells #[.int .i64 (j : Int)] 3) = w18 at *
            generalize w17.heap.size = ni at *
            have c1 := hni.cell (i := 0) rfl
            have f1 := hni.free 0
            have Hni := Lib.hid hni; have HRF := Lib.hid hRF; have HR := Lib.hid hR; have Hbl := Lib.hid hbl; have Hbr := Lib.hid hbr
            clear hni hRF hR hbl hbr
            go_wp2_with fail
            have hFe := (Fr.refl [ni] w18).setCell (p := ⟨ni, 0, none⟩) (.inl (by simp)) (.int .i64 ((j : Int) + 1))
            have hni := Hni.out.set 0 (.int .i64 ((j : Int) + 1))
            have hRF := HRF.out.other Hni.out (by decide) (by decide) hniW hFe
            have hR := HR.out.other Hni.out (by decide) (by decide) hniW hFe
            have hbl := hFe.blk Hbl.out (by have := blk_blk Hbl.out Hni.out (by decide); simpa using this)
            have hbr := hFe.blk Hbr.out (by have := blk_blk Hbr.out Hni.out (by decide); simpa using this)
            clear hFe Hni HRF HR Hbl Hbr c1 f1
            generalize w18.setCell ⟨ni, 0, none⟩ (.int .i64 ((j : Int) + 1)) = w19 at *
            replace hni : Blk w19 ni #[.int .i64 ((j + 1 : Nat) : Int)] 3 := hni
            go_roundw
            case rel => exact ⟨j + 1, p', ni, by omega, rfl, hni, hniW, hbl, hbr, hR, hRF⟩
            case measure => rw [jAt_eq hni, HJA.out]; omega
        · have hR := hR13.fr hF2 hRn hown hsz
          have hbg := hF2.blk hg13 hgn
          clear hF hF2 hR13 hg13 hok
          simp only [Tr.Out.asCatch]
          go_upto_region 11 with (fail)
          have hbf := Blk.new w12 #[.int .i64 100, .int .i64 (p : Int)] 26
          have hFf := (Fr.refl [] w12).alloc (.cells #[.int .i64 100, .int .i64 (p : Int)] 26)
          replace hbi := hFf.blk hbi (by simp)
          replace hbl := hFf.blk hbl (by simp)
          replace hbr := hFf.blk hbr (by simp)
          replace hbg := hFf.blk hbg (by simp)
          replace hR := hR.fr0 hFf
          replace hRF := hRF.fr0 hFf
          clear hFf
          generalize w12.alloc (.cells #[.int .i64 100, .int .i64 (p : Int)] 26) = w14 at *
          generalize w12.heap.size = bf at *
          have r2 := (hR.rs.F.cell (p := ⟨b, off + j * 3 + 1, none⟩) hlb (by simp)).trans HX2.out
          have r3 := (hR.rs.F.cell (p := ⟨b, off + j * 3 + 2, none⟩) hlb (by simp)).trans HX3.out
          have c1 := hbi.cell (i := 0) rfl
          have c2 := hbl.cell (i := 0) rfl
          clear Hbi Hbl Hbr HR HRF Hbg HR2 HR3 hown hRn hgn hsz
          have Hbi := Lib.hid hbi; have Hbl := Lib.hid hbl; have Hbr := Lib.hid hbr; have HR := Lib.hid hR; have HRF := Lib.hid hRF; have Hbg := Lib.hid hbg; have Hbf := Lib.hid hbf
          clear hbi hbl hbr hR hRF hbg hbf
          cases sg with
          | true =>
            go_wp2_with fail
            refine (size_any _ _).mono ?_; rintro e w' ⟨rfl, rfl⟩
            go_wp2_with fail
            refine (rf_sgn_no HRF.out HKK2.out hlack).mono ?_; rintro e w15 ⟨rfl, hRF, hF⟩
            have hR := HR.out.by_rf HRF.out hF
            have hSt := HRF.out.blk
            have hbi := hF.blk Hbi.out (by obtain ⟨_, _, h, -⟩ := hSt; have := blk_blk Hbi.out h (by decide); simpa using this)
            have hbl := hF.blk Hbl.out (by obtain ⟨_, _, h, -⟩ := hSt; have := blk_blk Hbl.out h (by decide); simpa using this)
            have hbr := hF.blk Hbr.out (by obtain ⟨_, _, h, -⟩ := hSt; have := blk_blk Hbr.out h (by decide); simpa using this)
            have hbg := hF.blk Hbg.out (by obtain ⟨_, _, h, -⟩ := hSt; have := blk_blk Hbg.out h (by decide); simpa using this)
            have hbf := hF.blk Hbf.out (by obtain ⟨_, _, h, -⟩ := hSt; have := blk_blk Hbf.out h (by decide); simpa using this)
            obtain ⟨adS, capS, hSb, hcS1, hcS2⟩ := hRF.blk
            have c1 := hbi.cell (i := 0) rfl
            have c2 := hbl.cell (i := 0) rfl
            have c4 := hbr.cell (i := 0) rfl
            have c5 := hbg.cell (i := 0) rfl
            have c6 := hbf.cell (i := 0) rfl
            have c7 := hbf.cell (i := 1) rfl
            have e0 := hSb.cell (i := 0) rfl
            have e1 := hSb.cell (i := 1) rfl
            have e2 := hSb.cell (i := 2) rfl
            have f2 := hSb.free 2
            have hfit2 := hRF.fit
            have h60 := H60.out
            have Hbi' := Lib.hid hbi
            have Hbl' := Lib.hid hbl
            have Hbr' := Lib.hid hbr
            have HR' := Lib.hid hR
            have HRF' := Lib.hid hRF
            have HSb' := Lib.hid hSb
            clear hbi hbl hbr hbg hbf hR hRF hSb hF hSt Hbi Hbl Hbr Hbg Hbf HR HRF r2 r3
            go_upto_region 14 with (fail)
            go_quiet (first | (go_at_call 50; exact Calls.quiet_of (rx_left (HR'.out.fr0 ((Fr.refl [] _).drewN _)))))
            go_upto_region 17 with (fail)
            have HF17 := Lib.hid (((Fr.refl [S] w15).drewN nq).setCell (p := ⟨S, 2, none⟩) (.inl (by simp)) (.bool false))
            have hRF := (HRF'.out.drewN nq).setS false
            have hR := HR'.out.by_rf HRF'.out HF17.out
            have hbi := HF17.out.blk Hbi'.out (by have := blk_blk Hbi'.out HSb'.out (by decide); simpa using this)
            have hbl := HF17.out.blk Hbl'.out (by have := blk_blk Hbl'.out HSb'.out (by decide); simpa using this)
            have hbr := HF17.out.blk Hbr'.out (by have := blk_blk Hbr'.out HSb'.out (by decide); simpa using this)
            clear HRF' HR' HF17 Hbi' Hbl' Hbr' HSb' c1 c2 c4 c5 c6 c7 e0 e1 e2 f2
            generalize (w15.drewN nq).setCell ⟨S, 2, none⟩ (.bool false) = w17 at *
            have c1 := hbi.cell (i := 0) rfl
            have HRF := Lib.hid hRF; have HR := Lib.hid hR; have Hbl := Lib.hid hbl; have Hbr := Lib.hid hbr
            clear hRF hR hbi hbl hbr
            go_upto_region 7 with (fail)
            have hni := Blk.new w17 #[.int .i64 (j : Int)] 3
            have hFn := (Fr.refl [] w17).alloc (.cells #[.int .i64 (j : Int)] 3)
            have hniW := HR.out.rs.F.size
            have hRF := HRF.out.fr0 hFn
            have hR := HR.out.fr0 hFn
            have hbl := hFn.blk Hbl.out (by simp)
            have hbr := hFn.blk Hbr.out (by simp)
            clear HRF HR Hbl Hbr hFn c1
            generalize w17.alloc (.cells #[.int .i64 (j : Int)] 3) = w18 at *
            generalize w17.heap.size = ni at *
            have c1 := hni.cell (i := 0) rfl
            have f1 := hni.free 0
            have Hni := Lib.hid hni; have HRF := Lib.hid hRF; have HR := Lib.hid hR; have Hbl := Lib.hid hbl; have Hbr := Lib.hid hbr
            clear hni hRF hR hbl hbr
            go_wp2_with fail
            have hFe := (Fr.refl [ni] w18).setCell (p := ⟨ni, 0, none⟩) (.inl (by simp)) (.int .i64 ((j : Int) + 1))
            have hni := Hni.out.set 0 (.int .i64 ((j : Int) + 1))
            have hRF := HRF.out.other Hni.out (by decide) (by decide) hniW hFe
            have hR := HR.out.other Hni.out (by decide) (by decide) hniW hFe
            have hbl := hFe.blk Hbl.out (by have := blk_blk Hbl.out Hni.out (by decide); simpa using this)
            have hbr := hFe.blk Hbr.out (by have := blk_blk Hbr.out Hni.out (by decide); simpa using this)
            clear hFe Hni HRF HR Hbl Hbr c1 f1
            generalize w18.setCell ⟨ni, 0, none⟩ (.int .i64 ((j : Int) + 1)) = w19 at *
            replace hni : Blk w19 ni #[.int .i64 ((j + 1 : Nat) : Int)] 3 := hni
            go_roundw
            case rel => exact ⟨j + 1, p, ni, by omega, rfl, hni, hniW, hbl, hbr, hR, hRF⟩
            case measure => rw [jAt_eq hni, HJA.out]; omega
          | false =>
            go_wp2_with fail
            refine (size_any _ _).mono ?_; rintro e w' ⟨rfl, rfl⟩
            go_wp2_with fail
            refine (rf_get_no HRF.out HKK2.out hlack).mono ?_; rintro e w15 ⟨rfl, hRF, hF⟩
            have hR := HR.out.by_rf HRF.out hF
            have hSt := HRF.out.blk
            have hbi := hF.blk Hbi.out (by obtain ⟨_, _, h, -⟩ := hSt; have := blk_blk Hbi.out h (by decide); simpa using this)
            have hbl := hF.blk Hbl.out (by obtain ⟨_, _, h, -⟩ := hSt; have := blk_blk Hbl.out h (by decide); simpa using this)
            have hbr := hF.blk Hbr.out (by obtain ⟨_, _, h, -⟩ := hSt; have := blk_blk Hbr.out h (by decide); simpa using this)
            have hbg := hF.blk Hbg.out (by obtain ⟨_, _, h, -⟩ := hSt; have := blk_blk Hbg.out h (by decide); simpa using this)
            have hbf := hF.blk Hbf.out (by obtain ⟨_, _, h, -⟩ := hSt; have := blk_blk Hbf.out h (by decide); simpa using this)
            obtain ⟨adS, capS, hSb, hcS1, hcS2⟩ := hRF.blk
            have c1 := hbi.cell (i := 0) rfl
            have c2 := hbl.cell (i := 0) rfl
            have c4 := hbr.cell (i := 0) rfl
            have c5 := hbg.cell (i := 0) rfl
            have c6 := hbf.cell (i := 0) rfl
            have c7 := hbf.cell (i := 1) rfl
            have e0 := hSb.cell (i := 0) rfl
            have e1 := hSb.cell (i := 1) rfl
            have e2 := hSb.cell (i := 2) rfl
            have f2 := hSb.free 2
            have hfit2 := hRF.fit
            have h60 := H60.out
            have Hbi' := Lib.hid hbi
            have Hbl' := Lib.hid hbl
            have Hbr' := Lib.hid hbr
            have HR' := Lib.hid hR
            have HRF' := Lib.hid hRF
            have HSb' := Lib.hid hSb
            clear hbi hbl hbr hbg hbf hR hRF hSb hF hSt Hbi Hbl Hbr Hbg Hbf HR HRF r2 r3
            go_upto_region 14 with (fail)
            go_quiet (first | (go_at_call 50; exact Calls.quiet_of (rx_left (HR'.out.fr0 ((Fr.refl [] _).drewN _)))))
            go_upto_region 17 with (fail)
            have HF17 := Lib.hid (((Fr.refl [S] w15).drewN nq).setCell (p := ⟨S, 2, none⟩) (.inl (by simp)) (.bool false))
            have hRF := (HRF'.out.drewN nq).setS false
            have hR := HR'.out.by_rf HRF'.out HF17.out
            have hbi := HF17.out.blk Hbi'.out (by have := blk_blk Hbi'.out HSb'.out (by decide); simpa using this)
            have hbl := HF17.out.blk Hbl'.out (by have := blk_blk Hbl'.out HSb'.out (by decide); simpa using this)
            have hbr := HF17.out.blk Hbr'.out (by have := blk_blk Hbr'.out HSb'.out (by decide); simpa using this)
            clear HRF' HR' HF17 Hbi' Hbl' Hbr' HSb' c1 c2 c4 c5 c6 c7 e0 e1 e2 f2
            generalize (w15.drewN nq).setCell ⟨S, 2, none⟩ (.bool false) = w17 at *
            have c1 := hbi.cell (i := 0) rfl
            have HRF := Lib.hid hRF; have HR := Lib.hid hR; have Hbl := Lib.hid hbl; have Hbr := Lib.hid hbr
            clear hRF hR hbi hbl hbr
            go_upto_region 7 with (fail)
            have hni := Blk.new w17 #[.int .i64 (j : Int)] 3
            have hFn := (Fr.refl [] w17).alloc (.cells #[.int .i64 (j : Int)] 3)
            have hniW := HR.out.rs.F.size
            have hRF := HRF.out.fr0 hFn
            have hR := HR.out.fr0 hFn
            have hbl := hFn.blk Hbl.out (by simp)
            have hbr := hFn.blk Hbr.out (by simp)
            clear HRF HR Hbl Hbr hFn c1
            generalize w17.alloc (.cells #[.int .i64 (j : Int)] 3) = w18 at *
            generalize w17.heap.size = ni at *
            have c1 := hni.cell (i := 0) rfl
            have f1 := hni.free 0
            have Hni := Lib.hid hni; have HRF := Lib.hid hRF; have HR := Lib.hid hR; have Hbl := Lib.hid hbl; have Hbr := Lib.hid hbr
            clear hni hRF hR hbl hbr
            go_wp2_with fail
            have hFe := (Fr.refl [ni] w18).setCell (p := ⟨ni, 0, none⟩) (.inl (by simp)) (.int .i64 ((j : Int) + 1))
            have hni := Hni.out.set 0 (.int .i64 ((j : Int) + 1))
            have hRF := HRF.out.other Hni.out (by decide) (by decide) hniW hFe
            have hR := HR.out.other Hni.out (by decide) (by decide) hniW hFe
            have hbl := hFe.blk Hbl.out (by have := blk_blk Hbl.out Hni.out (by decide); simpa using this)
            have hbr := hFe.blk Hbr.out (by have := blk_blk Hbr.out Hni.out (by decide); simpa using this)
            clear hFe Hni HRF HR Hbl Hbr c1 f1
            generalize w18.setCell ⟨ni, 0, none⟩ (.int .i64 ((j : Int) + 1)) = w19 at *
            replace hni : Blk w19 ni #[.int .i64 ((j + 1 : Nat) : Int)] 3 := hni
            go_roundw
            case rel => exact ⟨j + 1, p, ni, by omega, rfl, hni, hniW, hbl, hbr, hR, hRF⟩
            case measure => rw [jAt_eq hni, HJA.out]; omega
      · have hj40 : j = 40 := by omega
        have q2 : decide ((j : Int) < 40) = false := by simp; omega
        have q1 : (j : Int) < (len1 : Int) := by omega
        have hFW := hR.rs.F
        go_wp2_with fail
        go_ret
        exact ⟨rfl, hFW.below (Nat.le_refl _) (by simp)⟩
    · have q1 : decide ((j : Int) < (len1 : Int)) = false := by simp; omega
      have hFW := hR.rs.F
      go_wp2_with fail
      go_ret
      exact ⟨rfl, hFW.below (Nat.le_refl _) (by simp)⟩
end Go.Proofs.Ytlfdbkdaamodnaa.Bt
