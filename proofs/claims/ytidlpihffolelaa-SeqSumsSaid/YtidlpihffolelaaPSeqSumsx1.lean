-- PRINTED BY print.sh 35421559b90ae4d0a3588c463048766b98c2df88dd9212a6774a882060cdf62d: not written by this session
import Derived.Test.YtidlpihffolelaaPSeqSumsx0
namespace Go.Proofs.Ytidlpihffolelaa.PSeqSums
open Go.RowKit Go.Proofs.YtidlpihffolelaaW.PrintWords Go.Proofs.YtidlpihffolelaaW.PrintLast Go.Proofs.YtidlpihffolelaaW.PrintMore
attribute [local go_sem] max2_int min2_int max_two min_two max_three min_three max_four min_four   -- for this text's walks alone
set_option linter.unusedVariables false
set_option linter.unusedSimpArgs false

/-! ### seq_Norm: function 18 -/
def seq_Norm.f (a0 : Int) : Option (Int) := some (Int.tmod (wrap64 ((Int.tmod a0 65536) + 65536)) 65536)
set_option maxHeartbeats 8000000 in
set_option maxRecDepth 100000 in
theorem seq_Norm.calls (a0 : Int) (r : Int) (w : World) (h : seq_Norm.f a0 = some r) :
    Calls Try.prog 18 #[.int .i64 a0] w fun e w' => e = .returned (.int .i64 r) ∧ Drawn0 w w' := by
  have H : (some (Int.tmod (wrap64 ((Int.tmod a0 65536) + 65536)) 65536)) = some r := h
  clear h
  obtain rfl := Option.some.inj H
  go_enter Try.func18, Try.ntmps18
  go_wp2
  go_ret
  exact ⟨by first | rfl | (simp; done) | (simp [*]; done), by repeat (first | exact Drawn0.refl _ | apply Drawn0.step)⟩

/-! ### seq_Ahead: function 16 -/
def seq_Ahead.f (a0 : Int) (a1 : Int) : Option (Int) := (seq_Norm.f a0).bind fun t101 => ((seq_Norm.f a1).bind fun t102 => ((seq_Norm.f (wrap64 (t101 - t102))).bind fun t103 => (if t103 ≥ 32768 then (some (wrap64 (t103 - 65536))) else (some t103))))
set_option maxHeartbeats 8000000 in
set_option maxRecDepth 100000 in
theorem seq_Ahead.calls (a0 : Int) (a1 : Int) (r : Int) (w : World) (h : seq_Ahead.f a0 a1 = some r) :
    Calls Try.prog 16 #[.int .i64 a0, .int .i64 a1] w fun e w' => e = .returned (.int .i64 r) ∧ Drawn0 w w' := by
  have H : ((seq_Norm.f a0).bind fun t101 => ((seq_Norm.f a1).bind fun t102 => ((seq_Norm.f (wrap64 (t101 - t102))).bind fun t103 => (if t103 ≥ 32768 then (some (wrap64 (t103 - 65536))) else (some t103))))) = some r := h
  clear h
  replace H := Option.bind_eq_some_iff.mp H
  obtain ⟨t101, A30, H⟩ := H
  replace H : ((seq_Norm.f a1).bind fun t102 => ((seq_Norm.f (wrap64 (t101 - t102))).bind fun t103 => (if t103 ≥ 32768 then (some (wrap64 (t103 - 65536))) else (some t103)))) = some r := H
  have A3 := Aside0.mk A30
  clear A30
  replace H := Option.bind_eq_some_iff.mp H
  obtain ⟨t102, A40, H⟩ := H
  replace H : ((seq_Norm.f (wrap64 (t101 - t102))).bind fun t103 => (if t103 ≥ 32768 then (some (wrap64 (t103 - 65536))) else (some t103))) = some r := H
  have A4 := Aside0.mk A40
  clear A40
  replace H := Option.bind_eq_some_iff.mp H
  obtain ⟨t103, A50, H⟩ := H
  replace H : (if t103 ≥ 32768 then (some (wrap64 (t103 - 65536))) else (some t103)) = some r := H
  have A5 := Aside0.mk A50
  clear A50
  by_cases c6 : t103 ≥ 32768
  · rw [if_pos c6] at H
    have c6b0 : decide (32768 ≤ t103) = true := decide_eq_true c6
    clear c6
    obtain rfl := Option.some.inj H
    go_enter Try.func16, Try.ntmps16
    go_wp2_with (first | ((with_reducible refine gate_callee (f := 18) rfl ?_); refine goesL_ (some 7) rfl rfl Try.func18 (by kernel_rfl) rfl #[.int .i64 a0] rfl (by (try simp only [List.map_toArray, List.map_cons, List.map_nil]); first | done | rfl | (simp only [List.length_drop, List.length_take]; rfl)) ?_; (with_reducible refine (seq_Norm.calls a0 t101 _ A3.out).mono ?_); rintro e w' ⟨rfl, ⟨nd, rfl⟩⟩; refine ⟨_, rfl, ?_⟩) | ((with_reducible refine gate_callee (f := 18) rfl ?_); refine goesL_ (some 9) rfl rfl Try.func18 (by kernel_rfl) rfl #[.int .i64 a1] rfl (by (try simp only [List.map_toArray, List.map_cons, List.map_nil]); first | done | rfl | (simp only [List.length_drop, List.length_take]; rfl)) ?_; (with_reducible refine (seq_Norm.calls a1 t102 _ A4.out).mono ?_); rintro e w' ⟨rfl, ⟨nd, rfl⟩⟩; refine ⟨_, rfl, ?_⟩) | ((with_reducible refine gate_callee (f := 18) rfl ?_); refine goesL_ (some 11) rfl rfl Try.func18 (by kernel_rfl) rfl #[.int .i64 (wrap64 (t101 - t102))] rfl (by (try simp only [List.map_toArray, List.map_cons, List.map_nil]); first | done | rfl | (simp only [List.length_drop, List.length_take]; rfl)) ?_; (with_reducible refine (seq_Norm.calls (wrap64 (t101 - t102)) t103 _ A5.out).mono ?_); rintro e w' ⟨rfl, ⟨nd, rfl⟩⟩; refine ⟨_, rfl, ?_⟩))
    go_ret
    exact ⟨by first | rfl | (simp; done) | (simp [*]; done), by repeat (first | exact Drawn0.refl _ | apply Drawn0.step)⟩
  · rw [if_neg c6] at H
    have c6b0 : decide (32768 ≤ t103) = false := decide_eq_false c6
    clear c6
    obtain rfl := Option.some.inj H
    go_enter Try.func16, Try.ntmps16
    go_wp2_with (first | ((with_reducible refine gate_callee (f := 18) rfl ?_); refine goesL_ (some 7) rfl rfl Try.func18 (by kernel_rfl) rfl #[.int .i64 a0] rfl (by (try simp only [List.map_toArray, List.map_cons, List.map_nil]); first | done | rfl | (simp only [List.length_drop, List.length_take]; rfl)) ?_; (with_reducible refine (seq_Norm.calls a0 t101 _ A3.out).mono ?_); rintro e w' ⟨rfl, ⟨nd, rfl⟩⟩; refine ⟨_, rfl, ?_⟩) | ((with_reducible refine gate_callee (f := 18) rfl ?_); refine goesL_ (some 9) rfl rfl Try.func18 (by kernel_rfl) rfl #[.int .i64 a1] rfl (by (try simp only [List.map_toArray, List.map_cons, List.map_nil]); first | done | rfl | (simp only [List.length_drop, List.length_take]; rfl)) ?_; (with_reducible refine (seq_Norm.calls a1 t102 _ A4.out).mono ?_); rintro e w' ⟨rfl, ⟨nd, rfl⟩⟩; refine ⟨_, rfl, ?_⟩) | ((with_reducible refine gate_callee (f := 18) rfl ?_); refine goesL_ (some 11) rfl rfl Try.func18 (by kernel_rfl) rfl #[.int .i64 (wrap64 (t101 - t102))] rfl (by (try simp only [List.map_toArray, List.map_cons, List.map_nil]); first | done | rfl | (simp only [List.length_drop, List.length_take]; rfl)) ?_; (with_reducible refine (seq_Norm.calls (wrap64 (t101 - t102)) t103 _ A5.out).mono ?_); rintro e w' ⟨rfl, ⟨nd, rfl⟩⟩; refine ⟨_, rfl, ?_⟩))
    go_ret
    exact ⟨by first | rfl | (simp; done) | (simp [*]; done), by repeat (first | exact Drawn0.refl _ | apply Drawn0.step)⟩

/-! ### seq_Newer: function 17 -/
def seq_Newer.f (a0 : Int) (a1 : Int) : Option (Bool) := (seq_Ahead.f a0 a1).bind fun t104 => (some (decide (t104 > 0)))
set_option maxHeartbeats 8000000 in
set_option maxRecDepth 100000 in
theorem seq_Newer.calls (a0 : Int) (a1 : Int) (r : Bool) (w : World) (h : seq_Newer.f a0 a1 = some r) :
    Calls Try.prog 17 #[.int .i64 a0, .int .i64 a1] w fun e w' => e = .returned (.bool r) ∧ Drawn0 w w' := by
  have H : ((seq_Ahead.f a0 a1).bind fun t104 => (some (decide (t104 > 0)))) = some r := h
  clear h
  replace H := Option.bind_eq_some_iff.mp H
  obtain ⟨t104, A30, H⟩ := H
  replace H : (some (decide (t104 > 0))) = some r := H
  have A3 := Aside0.mk A30
  clear A30
  obtain rfl := Option.some.inj H
  go_enter Try.func17, Try.ntmps17
  go_wp2_with (first | ((with_reducible refine gate_callee (f := 16) rfl ?_); refine goesL_ (some 7) rfl rfl Try.func16 (by kernel_rfl) rfl #[.int .i64 a0, .int .i64 a1] rfl (by (try simp only [List.map_toArray, List.map_cons, List.map_nil]); first | done | rfl | (simp only [List.length_drop, List.length_take]; rfl)) ?_; (with_reducible refine (seq_Ahead.calls a0 a1 t104 _ A3.out).mono ?_); rintro e w' ⟨rfl, ⟨nd, rfl⟩⟩; refine ⟨_, rfl, ?_⟩))
  go_ret
  exact ⟨by first | rfl | (simp; done) | (simp [*]; done), by repeat (first | exact Drawn0.refl _ | apply Drawn0.step)⟩

/-! ### seq_Next: function 20 -/
def seq_Next.f (a0 : Int) : Option (Int) := (seq_Norm.f a0).bind fun t105 => ((seq_Norm.f (wrap64 (t105 + 1))).bind fun t106 => (some t106))
set_option maxHeartbeats 8000000 in
set_option maxRecDepth 100000 in
theorem seq_Next.calls (a0 : Int) (r : Int) (w : World) (h : seq_Next.f a0 = some r) :
    Calls Try.prog 20 #[.int .i64 a0] w fun e w' => e = .returned (.int .i64 r) ∧ Drawn0 w w' := by
  have H : ((seq_Norm.f a0).bind fun t105 => ((seq_Norm.f (wrap64 (t105 + 1))).bind fun t106 => (some t106))) = some r := h
  clear h
  replace H := Option.bind_eq_some_iff.mp H
  obtain ⟨t105, A20, H⟩ := H
  replace H : ((seq_Norm.f (wrap64 (t105 + 1))).bind fun t106 => (some t106)) = some r := H
  have A2 := Aside0.mk A20
  clear A20
  replace H := Option.bind_eq_some_iff.mp H
  obtain ⟨t106, A30, H⟩ := H
  replace H : (some t106) = some r := H
  have A3 := Aside0.mk A30
  clear A30
  obtain rfl := Option.some.inj H
  go_enter Try.func20, Try.ntmps20
  go_wp2_with (first | ((with_reducible refine gate_callee (f := 18) rfl ?_); refine goesL_ (some 4) rfl rfl Try.func18 (by kernel_rfl) rfl #[.int .i64 a0] rfl (by (try simp only [List.map_toArray, List.map_cons, List.map_nil]); first | done | rfl | (simp only [List.length_drop, List.length_take]; rfl)) ?_; (with_reducible refine (seq_Norm.calls a0 t105 _ A2.out).mono ?_); rintro e w' ⟨rfl, ⟨nd, rfl⟩⟩; refine ⟨_, rfl, ?_⟩) | ((with_reducible refine gate_callee (f := 18) rfl ?_); refine goesL_ (some 6) rfl rfl Try.func18 (by kernel_rfl) rfl #[.int .i64 (wrap64 (t105 + 1))] rfl (by (try simp only [List.map_toArray, List.map_cons, List.map_nil]); first | done | rfl | (simp only [List.length_drop, List.length_take]; rfl)) ?_; (with_reducible refine (seq_Norm.calls (wrap64 (t105 + 1)) t106 _ A3.out).mono ?_); rintro e w' ⟨rfl, ⟨nd, rfl⟩⟩; refine ⟨_, rfl, ?_⟩))
  go_ret
  exact ⟨by first | rfl | (simp; done) | (simp [*]; done), by repeat (first | exact Drawn0.refl _ | apply Drawn0.step)⟩

/-! ### doubletakelaw6_known: function 15 -/
def doubletakelaw6_known.f  : Option (Bool) := (seq_Ahead.f 1 65535).bind fun t107 => (if t107 = 2 then ((seq_Next.f 65535).bind fun t108 => (if t108 = 0 then ((seq_Newer.f 1 65535).bind fun t109 => (some t109)) else (some false))) else (some false))
set_option maxHeartbeats 8000000 in
set_option maxRecDepth 100000 in
theorem doubletakelaw6_known.calls  (r : Bool) (w : World) (h : doubletakelaw6_known.f  = some r) :
    Calls Try.prog 15 #[] w fun e w' => e = .returned (.bool r) ∧ Drawn0 w w' := by
  have H : ((seq_Ahead.f 1 65535).bind fun t107 => (if t107 = 2 then ((seq_Next.f 65535).bind fun t108 => (if t108 = 0 then ((seq_Newer.f 1 65535).bind fun t109 => (some t109)) else (some false))) else (some false))) = some r := h
  clear h
  replace H := Option.bind_eq_some_iff.mp H
  obtain ⟨t107, A10, H⟩ := H
  replace H : (if t107 = 2 then ((seq_Next.f 65535).bind fun t108 => (if t108 = 0 then ((seq_Newer.f 1 65535).bind fun t109 => (some t109)) else (some false))) else (some false)) = some r := H
  have A1 := Aside0.mk A10
  clear A10
  by_cases c2 : t107 = 2
  · rw [if_pos c2] at H
    have c2b0 : (t107 == 2) = true := beq_iff_eq.mpr c2
    have c2b1 : (t107 != 2) = false := bne_eq_false_iff_eq.mpr c2
    clear c2
    replace H := Option.bind_eq_some_iff.mp H
    obtain ⟨t108, A30, H⟩ := H
    replace H : (if t108 = 0 then ((seq_Newer.f 1 65535).bind fun t109 => (some t109)) else (some false)) = some r := H
    have A3 := Aside0.mk A30
    clear A30
    by_cases c4 : t108 = 0
    · rw [if_pos c4] at H
      have c4b0 : (t108 == 0) = true := beq_iff_eq.mpr c4
      have c4b1 : (t108 != 0) = false := bne_eq_false_iff_eq.mpr c4
      clear c4
      replace H := Option.bind_eq_some_iff.mp H
      obtain ⟨t109, A50, H⟩ := H
      replace H : (some t109) = some r := H
      have A5 := Aside0.mk A50
      clear A50
      obtain rfl := Option.some.inj H
      go_enter Try.func15, Try.ntmps15
      go_wp2_with (first | ((with_reducible refine gate_callee (f := 16) rfl ?_); refine goesL_ (some 1) rfl rfl Try.func16 (by kernel_rfl) rfl #[.int .i64 1, .int .i64 65535] rfl (by (try simp only [List.map_toArray, List.map_cons, List.map_nil]); first | done | rfl | (simp only [List.length_drop, List.length_take]; rfl)) ?_; (with_reducible refine (seq_Ahead.calls 1 65535 t107 _ A1.out).mono ?_); rintro e w' ⟨rfl, ⟨nd, rfl⟩⟩; refine ⟨_, rfl, ?_⟩) | (go_at_call 20; (with_reducible refine (seq_Next.calls 65535 t108 _ A3.out).mono ?_); rintro e w' ⟨rfl, ⟨nd, rfl⟩⟩) | (go_at_call 17; (with_reducible refine (seq_Newer.calls 1 65535 t109 _ A5.out).mono ?_); rintro e w' ⟨rfl, ⟨nd, rfl⟩⟩))
      go_ret
      exact ⟨by first | rfl | (simp; done) | (simp [*]; done), by repeat (first | exact Drawn0.refl _ | apply Drawn0.step)⟩
    · rw [if_neg c4] at H
      have c4b0 : (t108 == 0) = false := beq_eq_false_iff_ne.mpr c4
      have c4b1 : (t108 != 0) = true := bne_iff_ne.mpr c4
      obtain rfl := Option.some.inj H
      go_enter Try.func15, Try.ntmps15
      go_wp2_with (first | ((with_reducible refine gate_callee (f := 16) rfl ?_); refine goesL_ (some 1) rfl rfl Try.func16 (by kernel_rfl) rfl #[.int .i64 1, .int .i64 65535] rfl (by (try simp only [List.map_toArray, List.map_cons, List.map_nil]); first | done | rfl | (simp only [List.length_drop, List.length_take]; rfl)) ?_; (with_reducible refine (seq_Ahead.calls 1 65535 t107 _ A1.out).mono ?_); rintro e w' ⟨rfl, ⟨nd, rfl⟩⟩; refine ⟨_, rfl, ?_⟩) | (go_at_call 20; (with_reducible refine (seq_Next.calls 65535 t108 _ A3.out).mono ?_); rintro e w' ⟨rfl, ⟨nd, rfl⟩⟩))
      go_ret
      exact ⟨by first | rfl | (simp; done) | (simp [*]; done), by repeat (first | exact Drawn0.refl _ | apply Drawn0.step)⟩
  · rw [if_neg c2] at H
    have c2b0 : (t107 == 2) = false := beq_eq_false_iff_ne.mpr c2
    have c2b1 : (t107 != 2) = true := bne_iff_ne.mpr c2
    obtain rfl := Option.some.inj H
    go_enter Try.func15, Try.ntmps15
    go_wp2_with (first | ((with_reducible refine gate_callee (f := 16) rfl ?_); refine goesL_ (some 1) rfl rfl Try.func16 (by kernel_rfl) rfl #[.int .i64 1, .int .i64 65535] rfl (by (try simp only [List.map_toArray, List.map_cons, List.map_nil]); first | done | rfl | (simp only [List.length_drop, List.length_take]; rfl)) ?_; (with_reducible refine (seq_Ahead.calls 1 65535 t107 _ A1.out).mono ?_); rintro e w' ⟨rfl, ⟨nd, rfl⟩⟩; refine ⟨_, rfl, ?_⟩))
    go_ret
    exact ⟨by first | rfl | (simp; done) | (simp [*]; done), by repeat (first | exact Drawn0.refl _ | apply Drawn0.step)⟩

/-! ### doubletakehand_Pick: function 22 -/
def doubletakehand_Pick.f (a0 : Int) (a1 : Int) : Option (Int) := if a1 = 0 then (none) else (if (Int.tmod a0 a1) < 0 then (some (wrap64 ((Int.tmod a0 a1) + a1))) else (some (Int.tmod a0 a1)))
set_option maxHeartbeats 8000000 in
set_option maxRecDepth 100000 in
theorem doubletakehand_Pick.calls (a0 : Int) (a1 : Int) (r : Int) (w : World) (h : doubletakehand_Pick.f a0 a1 = some r) :
    Calls Try.prog 22 #[.int .i64 a0, .int .i64 a1] w fun e w' => e = .returned (.int .i64 r) ∧ Drawn0 w w' := by
  have H : (if a1 = 0 then (none) else (if (Int.tmod a0 a1) < 0 then (some (wrap64 ((Int.tmod a0 a1) + a1))) else (some (Int.tmod a0 a1)))) = some r := h
  clear h
  by_cases c3 : a1 = 0
  · rw [if_pos c3] at H
    exact absurd H (by simp)
  · rw [if_neg c3] at H
    have c3b0 : (a1 == 0) = false := beq_eq_false_iff_ne.mpr c3
    have c3b1 : (a1 != 0) = true := bne_iff_ne.mpr c3
    by_cases c4 : (Int.tmod a0 a1) < 0
    · rw [if_pos c4] at H
      have c4b0 : decide ((Int.tmod a0 a1) < 0) = true := decide_eq_true c4
      clear c4
      obtain rfl := Option.some.inj H
      go_enter Try.func22, Try.ntmps22
      go_wp2
      go_ret
      exact ⟨by first | rfl | (simp; done) | (simp [*]; done), by repeat (first | exact Drawn0.refl _ | apply Drawn0.step)⟩
    · rw [if_neg c4] at H
      have c4b0 : decide ((Int.tmod a0 a1) < 0) = false := decide_eq_false c4
      clear c4
      obtain rfl := Option.some.inj H
      go_enter Try.func22, Try.ntmps22
      go_wp2
      go_ret
      exact ⟨by first | rfl | (simp; done) | (simp [*]; done), by repeat (first | exact Drawn0.refl _ | apply Drawn0.step)⟩

/-! ### doubletakelaw6_SeqSums: function 6 -/
def doubletakelaw6_SeqSums.f (a0 : Int) (a1 : Int) (a2 : Int) (a3 : Int) : Option (Bool) := (doubletakehand_Pick.f a0 65536).bind fun t110 => ((doubletakehand_Pick.f a1 16000).bind fun t111 => ((doubletakehand_Pick.f a2 16000).bind fun t112 => ((doubletakehand_Pick.f a3 1000).bind fun t113 => ((doubletakelaw6_known.f).bind fun t114 => (if t114 = true then ((seq_Ahead.f (wrap64 ((wrap64 (t110 + t111)) + t112)) t110).bind fun t115 => ((seq_Ahead.f (wrap64 (t110 + t111)) t110).bind fun t116 => ((seq_Ahead.f (wrap64 ((wrap64 (t110 + t111)) + t112)) (wrap64 (t110 + t111))).bind fun t117 => (if t115 = (wrap64 (t116 + t117)) then ((seq_Ahead.f (wrap64 ((wrap64 (t110 + t111)) + (wrap64 (t113 * 65536)))) t110).bind fun t118 => (if t118 = t111 then ((seq_Newer.f (wrap64 (t110 + t111)) t110).bind fun t119 => (if (t119 == (decide (t111 > 0))) = true then ((seq_Newer.f t110 (wrap64 (t110 + t111))).bind fun t120 => (some (!t120))) else (some false))) else (some false))) else (some false))))) else (some false))))))
set_option maxHeartbeats 8000000 in
set_option maxRecDepth 100000 in
theorem doubletakelaw6_SeqSums.calls (a0 : Int) (a1 : Int) (a2 : Int) (a3 : Int) (r : Bool) (w : World) (h : doubletakelaw6_SeqSums.f a0 a1 a2 a3 = some r) :
    Calls Try.prog 6 #[.int .i64 a0, .int .i64 a1, .int .i64 a2, .int .i64 a3] w fun e w' => e = .returned (.bool r) ∧ Drawn0 w w' := by
  have H : ((doubletakehand_Pick.f a0 65536).bind fun t110 => ((doubletakehand_Pick.f a1 16000).bind fun t111 => ((doubletakehand_Pick.f a2 16000).bind fun t112 => ((doubletakehand_Pick.f a3 1000).bind fun t113 => ((doubletakelaw6_known.f).bind fun t114 => (if t114 = true then ((seq_Ahead.f (wrap64 ((wrap64 (t110 + t111)) + t112)) t110).bind fun t115 => ((seq_Ahead.f (wrap64 (t110 + t111)) t110).bind fun t116 => ((seq_Ahead.f (wrap64 ((wrap64 (t110 + t111)) + t112)) (wrap64 (t110 + t111))).bind fun t117 => (if t115 = (wrap64 (t116 + t117)) then ((seq_Ahead.f (wrap64 ((wrap64 (t110 + t111)) + (wrap64 (t113 * 65536)))) t110).bind fun t118 => (if t118 = t111 then ((seq_Newer.f (wrap64 (t110 + t111)) t110).bind fun t119 => (if (t119 == (decide (t111 > 0))) = true then ((seq_Newer.f t110 (wrap64 (t110 + t111))).bind fun t120 => (some (!t120))) else (some false))) else (some false))) else (some false))))) else (some false))))))) = some r := h
  clear h
  replace H := Option.bind_eq_some_iff.mp H
  obtain ⟨t110, A50, H⟩ := H
  replace H : ((doubletakehand_Pick.f a1 16000).bind fun t111 => ((doubletakehand_Pick.f a2 16000).bind fun t112 => ((doubletakehand_Pick.f a3 1000).bind fun t113 => ((doubletakelaw6_known.f).bind fun t114 => (if t114 = true then ((seq_Ahead.f (wrap64 ((wrap64 (t110 + t111)) + t112)) t110).bind fun t115 => ((seq_Ahead.f (wrap64 (t110 + t111)) t110).bind fun t116 => ((seq_Ahead.f (wrap64 ((wrap64 (t110 + t111)) + t112)) (wrap64 (t110 + t111))).bind fun t117 => (if t115 = (wrap64 (t116 + t117)) then ((seq_Ahead.f (wrap64 ((wrap64 (t110 + t111)) + (wrap64 (t113 * 65536)))) t110).bind fun t118 => (if t118 = t111 then ((seq_Newer.f (wrap64 (t110 + t111)) t110).bind fun t119 => (if (t119 == (decide (t111 > 0))) = true then ((seq_Newer.f t110 (wrap64 (t110 + t111))).bind fun t120 => (some (!t120))) else (some false))) else (some false))) else (some false))))) else (some false)))))) = some r := H
  have A5 := Aside0.mk A50
  clear A50
  replace H := Option.bind_eq_some_iff.mp H
  obtain ⟨t111, A60, H⟩ := H
  replace H : ((doubletakehand_Pick.f a2 16000).bind fun t112 => ((doubletakehand_Pick.f a3 1000).bind fun t113 => ((doubletakelaw6_known.f).bind fun t114 => (if t114 = true then ((seq_Ahead.f (wrap64 ((wrap64 (t110 + t111)) + t112)) t110).bind fun t115 => ((seq_Ahead.f (wrap64 (t110 + t111)) t110).bind fun t116 => ((seq_Ahead.f (wrap64 ((wrap64 (t110 + t111)) + t112)) (wrap64 (t110 + t111))).bind fun t117 => (if t115 = (wrap64 (t116 + t117)) then ((seq_Ahead.f (wrap64 ((wrap64 (t110 + t111)) + (wrap64 (t113 * 65536)))) t110).bind fun t118 => (if t118 = t111 then ((seq_Newer.f (wrap64 (t110 + t111)) t110).bind fun t119 => (if (t119 == (decide (t111 > 0))) = true then ((seq_Newer.f t110 (wrap64 (t110 + t111))).bind fun t120 => (some (!t120))) else (some false))) else (some false))) else (some false))))) else (some false))))) = some r := H
  have A6 := Aside0.mk A60
  clear A60
  replace H := Option.bind_eq_some_iff.mp H
  obtain ⟨t112, A70, H⟩ := H
  replace H : ((doubletakehand_Pick.f a3 1000).bind fun t113 => ((doubletakelaw6_known.f).bind fun t114 => (if t114 = true then ((seq_Ahead.f (wrap64 ((wrap64 (t110 + t111)) + t112)) t110).bind fun t115 => ((seq_Ahead.f (wrap64 (t110 + t111)) t110).bind fun t116 => ((seq_Ahead.f (wrap64 ((wrap64 (t110 + t111)) + t112)) (wrap64 (t110 + t111))).bind fun t117 => (if t115 = (wrap64 (t116 + t117)) then ((seq_Ahead.f (wrap64 ((wrap64 (t110 + t111)) + (wrap64 (t113 * 65536)))) t110).bind fun t118 => (if t118 = t111 then ((seq_Newer.f (wrap64 (t110 + t111)) t110).bind fun t119 => (if (t119 == (decide (t111 > 0))) = true then ((seq_Newer.f t110 (wrap64 (t110 + t111))).bind fun t120 => (some (!t120))) else (some false))) else (some false))) else (some false))))) else (some false)))) = some r := H
  have A7 := Aside0.mk A70
  clear A70
  replace H := Option.bind_eq_some_iff.mp H
  obtain ⟨t113, A80, H⟩ := H
  replace H : ((doubletakelaw6_known.f).bind fun t114 => (if t114 = true then ((seq_Ahead.f (wrap64 ((wrap64 (t110 + t111)) + t112)) t110).bind fun t115 => ((seq_Ahead.f (wrap64 (t110 + t111)) t110).bind fun t116 => ((seq_Ahead.f (wrap64 ((wrap64 (t110 + t111)) + t112)) (wrap64 (t110 + t111))).bind fun t117 => (if t115 = (wrap64 (t116 + t117)) then ((seq_Ahead.f (wrap64 ((wrap64 (t110 + t111)) + (wrap64 (t113 * 65536)))) t110).bind fun t118 => (if t118 = t111 then ((seq_Newer.f (wrap64 (t110 + t111)) t110).bind fun t119 => (if (t119 == (decide (t111 > 0))) = true then ((seq_Newer.f t110 (wrap64 (t110 + t111))).bind fun t120 => (some (!t120))) else (some false))) else (some false))) else (some false))))) else (some false))) = some r := H
  have A8 := Aside0.mk A80
  clear A80
  replace H := Option.bind_eq_some_iff.mp H
  obtain ⟨t114, A90, H⟩ := H
  replace H : (if t114 = true then ((seq_Ahead.f (wrap64 ((wrap64 (t110 + t111)) + t112)) t110).bind fun t115 => ((seq_Ahead.f (wrap64 (t110 + t111)) t110).bind fun t116 => ((seq_Ahead.f (wrap64 ((wrap64 (t110 + t111)) + t112)) (wrap64 (t110 + t111))).bind fun t117 => (if t115 = (wrap64 (t116 + t117)) then ((seq_Ahead.f (wrap64 ((wrap64 (t110 + t111)) + (wrap64 (t113 * 65536)))) t110).bind fun t118 => (if t118 = t111 then ((seq_Newer.f (wrap64 (t110 + t111)) t110).bind fun t119 => (if (t119 == (decide (t111 > 0))) = true then ((seq_Newer.f t110 (wrap64 (t110 + t111))).bind fun t120 => (some (!t120))) else (some false))) else (some false))) else (some false))))) else (some false)) = some r := H
  have A9 := Aside0.mk A90
  clear A90
  by_cases c10 : t114 = true
  · subst c10
    have H1 : ((seq_Ahead.f (wrap64 ((wrap64 (t110 + t111)) + t112)) t110).bind fun t115 => ((seq_Ahead.f (wrap64 (t110 + t111)) t110).bind fun t116 => ((seq_Ahead.f (wrap64 ((wrap64 (t110 + t111)) + t112)) (wrap64 (t110 + t111))).bind fun t117 => (if t115 = (wrap64 (t116 + t117)) then ((seq_Ahead.f (wrap64 ((wrap64 (t110 + t111)) + (wrap64 (t113 * 65536)))) t110).bind fun t118 => (if t118 = t111 then ((seq_Newer.f (wrap64 (t110 + t111)) t110).bind fun t119 => (if (t119 == (decide (t111 > 0))) = true then ((seq_Newer.f t110 (wrap64 (t110 + t111))).bind fun t120 => (some (!t120))) else (some false))) else (some false))) else (some false))))) = some r := by rw [if_pos rfl] at H; exact H
    clear H
    have H := H1
    clear H1
    replace H := Option.bind_eq_some_iff.mp H
    obtain ⟨t115, A110, H⟩ := H
    replace H : ((seq_Ahead.f (wrap64 (t110 + t111)) t110).bind fun t116 => ((seq_Ahead.f (wrap64 ((wrap64 (t110 + t111)) + t112)) (wrap64 (t110 + t111))).bind fun t117 => (if t115 = (wrap64 (t116 + t117)) then ((seq_Ahead.f (wrap64 ((wrap64 (t110 + t111)) + (wrap64 (t113 * 65536)))) t110).bind fun t118 => (if t118 = t111 then ((seq_Newer.f (wrap64 (t110 + t111)) t110).bind fun t119 => (if (t119 == (decide (t111 > 0))) = true then ((seq_Newer.f t110 (wrap64 (t110 + t111))).bind fun t120 => (some (!t120))) else (some false))) else (some false))) else (some false)))) = some r := H
    have A11 := Aside0.mk A110
    clear A110
    replace H := Option.bind_eq_some_iff.mp H
    obtain ⟨t116, A120, H⟩ := H
    replace H : ((seq_Ahead.f (wrap64 ((wrap64 (t110 + t111)) + t112)) (wrap64 (t110 + t111))).bind fun t117 => (if t115 = (wrap64 (t116 + t117)) then ((seq_Ahead.f (wrap64 ((wrap64 (t110 + t111)) + (wrap64 (t113 * 65536)))) t110).bind fun t118 => (if t118 = t111 then ((seq_Newer.f (wrap64 (t110 + t111)) t110).bind fun t119 => (if (t119 == (decide (t111 > 0))) = true then ((seq_Newer.f t110 (wrap64 (t110 + t111))).bind fun t120 => (some (!t120))) else (some false))) else (some false))) else (some false))) = some r := H
    have A12 := Aside0.mk A120
    clear A120
    replace H := Option.bind_eq_some_iff.mp H
    obtain ⟨t117, A130, H⟩ := H
    replace H : (if t115 = (wrap64 (t116 + t117)) then ((seq_Ahead.f (wrap64 ((wrap64 (t110 + t111)) + (wrap64 (t113 * 65536)))) t110).bind fun t118 => (if t118 = t111 then ((seq_Newer.f (wrap64 (t110 + t111)) t110).bind fun t119 => (if (t119 == (decide (t111 > 0))) = true then ((seq_Newer.f t110 (wrap64 (t110 + t111))).bind fun t120 => (some (!t120))) else (some false))) else (some false))) else (some false)) = some r := H
    have A13 := Aside0.mk A130
    clear A130
    by_cases c14 : t115 = (wrap64 (t116 + t117))
    · rw [if_pos c14] at H
      have c14b0 : (t115 == (wrap64 (t116 + t117))) = true := beq_iff_eq.mpr c14
      have c14b1 : (t115 != (wrap64 (t116 + t117))) = false := bne_eq_false_iff_eq.mpr c14
      clear c14
      replace H := Option.bind_eq_some_iff.mp H
      obtain ⟨t118, A150, H⟩ := H
      replace H : (if t118 = t111 then ((seq_Newer.f (wrap64 (t110 + t111)) t110).bind fun t119 => (if (t119 == (decide (t111 > 0))) = true then ((seq_Newer.f t110 (wrap64 (t110 + t111))).bind fun t120 => (some (!t120))) else (some false))) else (some false)) = some r := H
      have A15 := Aside0.mk A150
      clear A150
      by_cases c16 : t118 = t111
      · rw [if_pos c16] at H
        have c16b0 : (t118 == t111) = true := beq_iff_eq.mpr c16
        have c16b1 : (t118 != t111) = false := bne_eq_false_iff_eq.mpr c16
        clear c16
        replace H := Option.bind_eq_some_iff.mp H
        obtain ⟨t119, A170, H⟩ := H
        replace H : (if (t119 == (decide (t111 > 0))) = true then ((seq_Newer.f t110 (wrap64 (t110 + t111))).bind fun t120 => (some (!t120))) else (some false)) = some r := H
        have A17 := Aside0.mk A170
        clear A170
        by_cases c18 : (t119 == (decide (t111 > 0))) = true
        · rw [if_pos c18] at H
          have c18b0 : (t119 == (decide (t111 > 0))) = true := c18
          (try (have c18b1 : decide (t119 = (decide (t111 > 0))) = true := by simpa using c18))
          (try (have c18b2 : (t119 == (decide (t111 > 0))) = true := by simpa using c18))
          clear c18
          replace H := Option.bind_eq_some_iff.mp H
          obtain ⟨t120, A190, H⟩ := H
          replace H : (some (!t120)) = some r := H
          have A19 := Aside0.mk A190
          clear A190
          obtain rfl := Option.some.inj H
          go_enter Try.func6, Try.ntmps6
          go_wp2_with (first | ((with_reducible refine gate_callee (f := 22) rfl ?_); refine goesL_ (some 11) rfl rfl Try.func22 (by kernel_rfl) rfl #[.int .i64 a0, .int .i64 65536] rfl (by (try simp only [List.map_toArray, List.map_cons, List.map_nil]); first | done | rfl | (simp only [List.length_drop, List.length_take]; rfl)) ?_; (with_reducible refine (doubletakehand_Pick.calls a0 65536 t110 _ A5.out).mono ?_); rintro e w' ⟨rfl, ⟨nd, rfl⟩⟩; refine ⟨_, rfl, ?_⟩) | ((with_reducible refine gate_callee (f := 22) rfl ?_); refine goesL_ (some 13) rfl rfl Try.func22 (by kernel_rfl) rfl #[.int .i64 a1, .int .i64 16000] rfl (by (try simp only [List.map_toArray, List.map_cons, List.map_nil]); first | done | rfl | (simp only [List.length_drop, List.length_take]; rfl)) ?_; (with_reducible refine (doubletakehand_Pick.calls a1 16000 t111 _ A6.out).mono ?_); rintro e w' ⟨rfl, ⟨nd, rfl⟩⟩; refine ⟨_, rfl, ?_⟩) | ((with_reducible refine gate_callee (f := 22) rfl ?_); refine goesL_ (some 15) rfl rfl Try.func22 (by kernel_rfl) rfl #[.int .i64 a2, .int .i64 16000] rfl (by (try simp only [List.map_toArray, List.map_cons, List.map_nil]); first | done | rfl | (simp only [List.length_drop, List.length_take]; rfl)) ?_; (with_reducible refine (doubletakehand_Pick.calls a2 16000 t112 _ A7.out).mono ?_); rintro e w' ⟨rfl, ⟨nd, rfl⟩⟩; refine ⟨_, rfl, ?_⟩) | ((with_reducible refine gate_callee (f := 22) rfl ?_); refine goesL_ (some 17) rfl rfl Try.func22 (by kernel_rfl) rfl #[.int .i64 a3, .int .i64 1000] rfl (by (try simp only [List.map_toArray, List.map_cons, List.map_nil]); first | done | rfl | (simp only [List.length_drop, List.length_take]; rfl)) ?_; (with_reducible refine (doubletakehand_Pick.calls a3 1000 t113 _ A8.out).mono ?_); rintro e w' ⟨rfl, ⟨nd, rfl⟩⟩; refine ⟨_, rfl, ?_⟩) | ((with_reducible refine gate_callee (f := 15) rfl ?_); refine goesL_ (some 19) rfl rfl Try.func15 (by kernel_rfl) rfl #[] rfl (by (try simp only [List.map_toArray, List.map_cons, List.map_nil]); first | done | rfl | (simp only [List.length_drop, List.length_take]; rfl)) ?_; (with_reducible refine (doubletakelaw6_known.calls  true _ A9.out).mono ?_); rintro e w' ⟨rfl, ⟨nd, rfl⟩⟩; refine ⟨_, rfl, ?_⟩) | (go_at_call 16; (with_reducible refine (seq_Ahead.calls (wrap64 ((wrap64 (t110 + t111)) + t112)) t110 t115 _ A11.out).mono ?_); rintro e w' ⟨rfl, ⟨nd, rfl⟩⟩) | (go_at_call 16; (with_reducible refine (seq_Ahead.calls (wrap64 (t110 + t111)) t110 t116 _ A12.out).mono ?_); rintro e w' ⟨rfl, ⟨nd, rfl⟩⟩) | (go_at_call 16; (with_reducible refine (seq_Ahead.calls (wrap64 ((wrap64 (t110 + t111)) + t112)) (wrap64 (t110 + t111)) t117 _ A13.out).mono ?_); rintro e w' ⟨rfl, ⟨nd, rfl⟩⟩) | (go_at_call 16; (with_reducible refine (seq_Ahead.calls (wrap64 ((wrap64 (t110 + t111)) + (wrap64 (t113 * 65536)))) t110 t118 _ A15.out).mono ?_); rintro e w' ⟨rfl, ⟨nd, rfl⟩⟩) | (go_at_call 17; (with_reducible refine (seq_Newer.calls (wrap64 (t110 + t111)) t110 t119 _ A17.out).mono ?_); rintro e w' ⟨rfl, ⟨nd, rfl⟩⟩) | (go_at_call 17; (with_reducible refine (seq_Newer.calls t110 (wrap64 (t110 + t111)) t120 _ A19.out).mono ?_); rintro e w' ⟨rfl, ⟨nd, rfl⟩⟩))
          go_ret
          exact ⟨by first | rfl | (simp; done) | (simp [*]; done), by repeat (first | exact Drawn0.refl _ | apply Drawn0.step)⟩
        · rw [if_neg c18] at H
          have c18b0 : (t119 == (decide (t111 > 0))) = false := by simpa using c18
          (try (have c18b1 : decide (t119 = (decide (t111 > 0))) = false := by simpa using c18))
          (try (have c18b2 : (t119 == (decide (t111 > 0))) = false := by simpa using c18))
          (try (have c18b3 : ¬ (t119 = (decide (t111 > 0))) := by simpa using c18))
          clear c18
          obtain rfl := Option.some.inj H
          go_enter Try.func6, Try.ntmps6
          go_wp2_with (first | ((with_reducible refine gate_callee (f := 22) rfl ?_); refine goesL_ (some 11) rfl rfl Try.func22 (by kernel_rfl) rfl #[.int .i64 a0, .int .i64 65536] rfl (by (try simp only [List.map_toArray, List.map_cons, List.map_nil]); first | done | rfl | (simp only [List.length_drop, List.length_take]; rfl)) ?_; (with_reducible refine (doubletakehand_Pick.calls a0 65536 t110 _ A5.out).mono ?_); rintro e w' ⟨rfl, ⟨nd, rfl⟩⟩; refine ⟨_, rfl, ?_⟩) | ((with_reducible refine gate_callee (f := 22) rfl ?_); refine goesL_ (some 13) rfl rfl Try.func22 (by kernel_rfl) rfl #[.int .i64 a1, .int .i64 16000] rfl (by (try simp only [List.map_toArray, List.map_cons, List.map_nil]); first | done | rfl | (simp only [List.length_drop, List.length_take]; rfl)) ?_; (with_reducible refine (doubletakehand_Pick.calls a1 16000 t111 _ A6.out).mono ?_); rintro e w' ⟨rfl, ⟨nd, rfl⟩⟩; refine ⟨_, rfl, ?_⟩) | ((with_reducible refine gate_callee (f := 22) rfl ?_); refine goesL_ (some 15) rfl rfl Try.func22 (by kernel_rfl) rfl #[.int .i64 a2, .int .i64 16000] rfl (by (try simp only [List.map_toArray, List.map_cons, List.map_nil]); first | done | rfl | (simp only [List.length_drop, List.length_take]; rfl)) ?_; (with_reducible refine (doubletakehand_Pick.calls a2 16000 t112 _ A7.out).mono ?_); rintro e w' ⟨rfl, ⟨nd, rfl⟩⟩; refine ⟨_, rfl, ?_⟩) | ((with_reducible refine gate_callee (f := 22) rfl ?_); refine goesL_ (some 17) rfl rfl Try.func22 (by kernel_rfl) rfl #[.int .i64 a3, .int .i64 1000] rfl (by (try simp only [List.map_toArray, List.map_cons, List.map_nil]); first | done | rfl | (simp only [List.length_drop, List.length_take]; rfl)) ?_; (with_reducible refine (doubletakehand_Pick.calls a3 1000 t113 _ A8.out).mono ?_); rintro e w' ⟨rfl, ⟨nd, rfl⟩⟩; refine ⟨_, rfl, ?_⟩) | ((with_reducible refine gate_callee (f := 15) rfl ?_); refine goesL_ (some 19) rfl rfl Try.func15 (by kernel_rfl) rfl #[] rfl (by (try simp only [List.map_toArray, List.map_cons, List.map_nil]); first | done | rfl | (simp only [List.length_drop, List.length_take]; rfl)) ?_; (with_reducible refine (doubletakelaw6_known.calls  true _ A9.out).mono ?_); rintro e w' ⟨rfl, ⟨nd, rfl⟩⟩; refine ⟨_, rfl, ?_⟩) | (go_at_call 16; (with_reducible refine (seq_Ahead.calls (wrap64 ((wrap64 (t110 + t111)) + t112)) t110 t115 _ A11.out).mono ?_); rintro e w' ⟨rfl, ⟨nd, rfl⟩⟩) | (go_at_call 16; (with_reducible refine (seq_Ahead.calls (wrap64 (t110 + t111)) t110 t116 _ A12.out).mono ?_); rintro e w' ⟨rfl, ⟨nd, rfl⟩⟩) | (go_at_call 16; (with_reducible refine (seq_Ahead.calls (wrap64 ((wrap64 (t110 + t111)) + t112)) (wrap64 (t110 + t111)) t117 _ A13.out).mono ?_); rintro e w' ⟨rfl, ⟨nd, rfl⟩⟩) | (go_at_call 16; (with_reducible refine (seq_Ahead.calls (wrap64 ((wrap64 (t110 + t111)) + (wrap64 (t113 * 65536)))) t110 t118 _ A15.out).mono ?_); rintro e w' ⟨rfl, ⟨nd, rfl⟩⟩) | (go_at_call 17; (with_reducible refine (seq_Newer.calls (wrap64 (t110 + t111)) t110 t119 _ A17.out).mono ?_); rintro e w' ⟨rfl, ⟨nd, rfl⟩⟩))
          go_ret
          exact ⟨by first | rfl | (simp; done) | (simp [*]; done), by repeat (first | exact Drawn0.refl _ | apply Drawn0.step)⟩
      · rw [if_neg c16] at H
        have c16b0 : (t118 == t111) = false := beq_eq_false_iff_ne.mpr c16
        have c16b1 : (t118 != t111) = true := bne_iff_ne.mpr c16
        obtain rfl := Option.some.inj H
        go_enter Try.func6, Try.ntmps6
        go_wp2_with (first | ((with_reducible refine gate_callee (f := 22) rfl ?_); refine goesL_ (some 11) rfl rfl Try.func22 (by kernel_rfl) rfl #[.int .i64 a0, .int .i64 65536] rfl (by (try simp only [List.map_toArray, List.map_cons, List.map_nil]); first | done | rfl | (simp only [List.length_drop, List.length_take]; rfl)) ?_; (with_reducible refine (doubletakehand_Pick.calls a0 65536 t110 _ A5.out).mono ?_); rintro e w' ⟨rfl, ⟨nd, rfl⟩⟩; refine ⟨_, rfl, ?_⟩) | ((with_reducible refine gate_callee (f := 22) rfl ?_); refine goesL_ (some 13) rfl rfl Try.func22 (by kernel_rfl) rfl #[.int .i64 a1, .int .i64 16000] rfl (by (try simp only [List.map_toArray, List.map_cons, List.map_nil]); first | done | rfl | (simp only [List.length_drop, List.length_take]; rfl)) ?_; (with_reducible refine (doubletakehand_Pick.calls a1 16000 t111 _ A6.out).mono ?_); rintro e w' ⟨rfl, ⟨nd, rfl⟩⟩; refine ⟨_, rfl, ?_⟩) | ((with_reducible refine gate_callee (f := 22) rfl ?_); refine goesL_ (some 15) rfl rfl Try.func22 (by kernel_rfl) rfl #[.int .i64 a2, .int .i64 16000] rfl (by (try simp only [List.map_toArray, List.map_cons, List.map_nil]); first | done | rfl | (simp only [List.length_drop, List.length_take]; rfl)) ?_; (with_reducible refine (doubletakehand_Pick.calls a2 16000 t112 _ A7.out).mono ?_); rintro e w' ⟨rfl, ⟨nd, rfl⟩⟩; refine ⟨_, rfl, ?_⟩) | ((with_reducible refine gate_callee (f := 22) rfl ?_); refine goesL_ (some 17) rfl rfl Try.func22 (by kernel_rfl) rfl #[.int .i64 a3, .int .i64 1000] rfl (by (try simp only [List.map_toArray, List.map_cons, List.map_nil]); first | done | rfl | (simp only [List.length_drop, List.length_take]; rfl)) ?_; (with_reducible refine (doubletakehand_Pick.calls a3 1000 t113 _ A8.out).mono ?_); rintro e w' ⟨rfl, ⟨nd, rfl⟩⟩; refine ⟨_, rfl, ?_⟩) | ((with_reducible refine gate_callee (f := 15) rfl ?_); refine goesL_ (some 19) rfl rfl Try.func15 (by kernel_rfl) rfl #[] rfl (by (try simp only [List.map_toArray, List.map_cons, List.map_nil]); first | done | rfl | (simp only [List.length_drop, List.length_take]; rfl)) ?_; (with_reducible refine (doubletakelaw6_known.calls  true _ A9.out).mono ?_); rintro e w' ⟨rfl, ⟨nd, rfl⟩⟩; refine ⟨_, rfl, ?_⟩) | (go_at_call 16; (with_reducible refine (seq_Ahead.calls (wrap64 ((wrap64 (t110 + t111)) + t112)) t110 t115 _ A11.out).mono ?_); rintro e w' ⟨rfl, ⟨nd, rfl⟩⟩) | (go_at_call 16; (with_reducible refine (seq_Ahead.calls (wrap64 (t110 + t111)) t110 t116 _ A12.out).mono ?_); rintro e w' ⟨rfl, ⟨nd, rfl⟩⟩) | (go_at_call 16; (with_reducible refine (seq_Ahead.calls (wrap64 ((wrap64 (t110 + t111)) + t112)) (wrap64 (t110 + t111)) t117 _ A13.out).mono ?_); rintro e w' ⟨rfl, ⟨nd, rfl⟩⟩) | (go_at_call 16; (with_reducible refine (seq_Ahead.calls (wrap64 ((wrap64 (t110 + t111)) + (wrap64 (t113 * 65536)))) t110 t118 _ A15.out).mono ?_); rintro e w' ⟨rfl, ⟨nd, rfl⟩⟩))
        go_ret
        exact ⟨by first | rfl | (simp; done) | (simp [*]; done), by repeat (first | exact Drawn0.refl _ | apply Drawn0.step)⟩
    · rw [if_neg c14] at H
      have c14b0 : (t115 == (wrap64 (t116 + t117))) = false := beq_eq_false_iff_ne.mpr c14
      have c14b1 : (t115 != (wrap64 (t116 + t117))) = true := bne_iff_ne.mpr c14
      obtain rfl := Option.some.inj H
      go_enter Try.func6, Try.ntmps6
      go_wp2_with (first | ((with_reducible refine gate_callee (f := 22) rfl ?_); refine goesL_ (some 11) rfl rfl Try.func22 (by kernel_rfl) rfl #[.int .i64 a0, .int .i64 65536] rfl (by (try simp only [List.map_toArray, List.map_cons, List.map_nil]); first | done | rfl | (simp only [List.length_drop, List.length_take]; rfl)) ?_; (with_reducible refine (doubletakehand_Pick.calls a0 65536 t110 _ A5.out).mono ?_); rintro e w' ⟨rfl, ⟨nd, rfl⟩⟩; refine ⟨_, rfl, ?_⟩) | ((with_reducible refine gate_callee (f := 22) rfl ?_); refine goesL_ (some 13) rfl rfl Try.func22 (by kernel_rfl) rfl #[.int .i64 a1, .int .i64 16000] rfl (by (try simp only [List.map_toArray, List.map_cons, List.map_nil]); first | done | rfl | (simp only [List.length_drop, List.length_take]; rfl)) ?_; (with_reducible refine (doubletakehand_Pick.calls a1 16000 t111 _ A6.out).mono ?_); rintro e w' ⟨rfl, ⟨nd, rfl⟩⟩; refine ⟨_, rfl, ?_⟩) | ((with_reducible refine gate_callee (f := 22) rfl ?_); refine goesL_ (some 15) rfl rfl Try.func22 (by kernel_rfl) rfl #[.int .i64 a2, .int .i64 16000] rfl (by (try simp only [List.map_toArray, List.map_cons, List.map_nil]); first | done | rfl | (simp only [List.length_drop, List.length_take]; rfl)) ?_; (with_reducible refine (doubletakehand_Pick.calls a2 16000 t112 _ A7.out).mono ?_); rintro e w' ⟨rfl, ⟨nd, rfl⟩⟩; refine ⟨_, rfl, ?_⟩) | ((with_reducible refine gate_callee (f := 22) rfl ?_); refine goesL_ (some 17) rfl rfl Try.func22 (by kernel_rfl) rfl #[.int .i64 a3, .int .i64 1000] rfl (by (try simp only [List.map_toArray, List.map_cons, List.map_nil]); first | done | rfl | (simp only [List.length_drop, List.length_take]; rfl)) ?_; (with_reducible refine (doubletakehand_Pick.calls a3 1000 t113 _ A8.out).mono ?_); rintro e w' ⟨rfl, ⟨nd, rfl⟩⟩; refine ⟨_, rfl, ?_⟩) | ((with_reducible refine gate_callee (f := 15) rfl ?_); refine goesL_ (some 19) rfl rfl Try.func15 (by kernel_rfl) rfl #[] rfl (by (try simp only [List.map_toArray, List.map_cons, List.map_nil]); first | done | rfl | (simp only [List.length_drop, List.length_take]; rfl)) ?_; (with_reducible refine (doubletakelaw6_known.calls  true _ A9.out).mono ?_); rintro e w' ⟨rfl, ⟨nd, rfl⟩⟩; refine ⟨_, rfl, ?_⟩) | (go_at_call 16; (with_reducible refine (seq_Ahead.calls (wrap64 ((wrap64 (t110 + t111)) + t112)) t110 t115 _ A11.out).mono ?_); rintro e w' ⟨rfl, ⟨nd, rfl⟩⟩) | (go_at_call 16; (with_reducible refine (seq_Ahead.calls (wrap64 (t110 + t111)) t110 t116 _ A12.out).mono ?_); rintro e w' ⟨rfl, ⟨nd, rfl⟩⟩) | (go_at_call 16; (with_reducible refine (seq_Ahead.calls (wrap64 ((wrap64 (t110 + t111)) + t112)) (wrap64 (t110 + t111)) t117 _ A13.out).mono ?_); rintro e w' ⟨rfl, ⟨nd, rfl⟩⟩))
      go_ret
      exact ⟨by first | rfl | (simp; done) | (simp [*]; done), by repeat (first | exact Drawn0.refl _ | apply Drawn0.step)⟩
  · replace c10 := Bool.eq_false_iff.mpr c10
    subst c10
    have H1 : (some false) = some r := by rw [if_neg (show ¬ (false = true) by decide)] at H; exact H
    clear H
    have H := H1
    clear H1
    obtain rfl := Option.some.inj H
    go_enter Try.func6, Try.ntmps6
    go_wp2_with (first | ((with_reducible refine gate_callee (f := 22) rfl ?_); refine goesL_ (some 11) rfl rfl Try.func22 (by kernel_rfl) rfl #[.int .i64 a0, .int .i64 65536] rfl (by (try simp only [List.map_toArray, List.map_cons, List.map_nil]); first | done | rfl | (simp only [List.length_drop, List.length_take]; rfl)) ?_; (with_reducible refine (doubletakehand_Pick.calls a0 65536 t110 _ A5.out).mono ?_); rintro e w' ⟨rfl, ⟨nd, rfl⟩⟩; refine ⟨_, rfl, ?_⟩) | ((with_reducible refine gate_callee (f := 22) rfl ?_); refine goesL_ (some 13) rfl rfl Try.func22 (by kernel_rfl) rfl #[.int .i64 a1, .int .i64 16000] rfl (by (try simp only [List.map_toArray, List.map_cons, List.map_nil]); first | done | rfl | (simp only [List.length_drop, List.length_take]; rfl)) ?_; (with_reducible refine (doubletakehand_Pick.calls a1 16000 t111 _ A6.out).mono ?_); rintro e w' ⟨rfl, ⟨nd, rfl⟩⟩; refine ⟨_, rfl, ?_⟩) | ((with_reducible refine gate_callee (f := 22) rfl ?_); refine goesL_ (some 15) rfl rfl Try.func22 (by kernel_rfl) rfl #[.int .i64 a2, .int .i64 16000] rfl (by (try simp only [List.map_toArray, List.map_cons, List.map_nil]); first | done | rfl | (simp only [List.length_drop, List.length_take]; rfl)) ?_; (with_reducible refine (doubletakehand_Pick.calls a2 16000 t112 _ A7.out).mono ?_); rintro e w' ⟨rfl, ⟨nd, rfl⟩⟩; refine ⟨_, rfl, ?_⟩) | ((with_reducible refine gate_callee (f := 22) rfl ?_); refine goesL_ (some 17) rfl rfl Try.func22 (by kernel_rfl) rfl #[.int .i64 a3, .int .i64 1000] rfl (by (try simp only [List.map_toArray, List.map_cons, List.map_nil]); first | done | rfl | (simp only [List.length_drop, List.length_take]; rfl)) ?_; (with_reducible refine (doubletakehand_Pick.calls a3 1000 t113 _ A8.out).mono ?_); rintro e w' ⟨rfl, ⟨nd, rfl⟩⟩; refine ⟨_, rfl, ?_⟩) | ((with_reducible refine gate_callee (f := 15) rfl ?_); refine goesL_ (some 19) rfl rfl Try.func15 (by kernel_rfl) rfl #[] rfl (by (try simp only [List.map_toArray, List.map_cons, List.map_nil]); first | done | rfl | (simp only [List.length_drop, List.length_take]; rfl)) ?_; (with_reducible refine (doubletakelaw6_known.calls  false _ A9.out).mono ?_); rintro e w' ⟨rfl, ⟨nd, rfl⟩⟩; refine ⟨_, rfl, ?_⟩))
    go_ret
    exact ⟨by first | rfl | (simp; done) | (simp [*]; done), by repeat (first | exact Drawn0.refl _ | apply Drawn0.step)⟩

/-- THE ONE PURE STATEMENT of doubletakelaw6_SeqSums: yours. -/
def doubletakelaw6_SeqSums.Pure : Prop := ∀ (a0 : Int) (a1 : Int) (a2 : Int) (a3 : Int), (Lit.int .i64 a0).wf = true → (Lit.int .i64 a1).wf = true → (Lit.int .i64 a2).wf = true → (Lit.int .i64 a3).wf = true → doubletakelaw6_SeqSums.f a0 a1 a2 a3 = some true
theorem doubletakelaw6_SeqSums.walk (P : doubletakelaw6_SeqSums.Pure) (a0 : Int) (a1 : Int) (a2 : Int) (a3 : Int) (w : World) (w0 : (Lit.int .i64 a0).wf = true) (w1 : (Lit.int .i64 a1).wf = true) (w2 : (Lit.int .i64 a2).wf = true) (w3 : (Lit.int .i64 a3).wf = true) :
    Calls Try.prog 6 #[.int .i64 a0, .int .i64 a1, .int .i64 a2, .int .i64 a3] w fun e w' => e = .returned (.bool true) ∧ Below w.heap.size w w' := by
  have h := P a0 a1 a2 a3 w0 w1 w2 w3
  refine (doubletakelaw6_SeqSums.calls a0 a1 a2 a3 true w h).mono ?_
  rintro e w' ⟨rfl, hd⟩
  exact ⟨rfl, hd.below⟩

end Go.Proofs.Ytidlpihffolelaa.PSeqSums
