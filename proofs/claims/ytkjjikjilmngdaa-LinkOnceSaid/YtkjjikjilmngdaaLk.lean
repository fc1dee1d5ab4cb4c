/- chapter 16: links: what is remembered. -/
import Derived.Test.YtkjjikjilmngdaaWinC
import Derived.Test.YtkjjikjilmngdaaMtO3
import Derived.Test.YtkjjikjilmngdaaLs
import Derived.Test.YtkjjikjilmngdaaHand
import Derived.Deep.QuietTactic
import Derived.Deep.RegionHeld3
import Derived.BigQuiet
import Derived.Deep.Cut
import Derived.Laws.MakeOwn
namespace Go.Proofs.Ytkjjikjilmngdaa.Lk
open Go.RowKit Dt Go.Proofs.Ytkjjikjilmngdaa.Hd Go.Proofs.Ytkjjikjilmngdaa.Wn Go.Proofs.Ytkjjikjilmngdaa.Sq Go.Proofs.Ytkjjikjilmngdaa.Mt
set_option linter.unusedVariables false
set_option linter.unusedSimpArgs false

/-- a tick, clipped -/
def clp (t : Int) : Nat := (max 0 (min t 1000000)).toNat
theorem clp_le (t : Int) : clp t ≤ 1000000 := by unfold clp; omega
theorem clp_any (t : Int) (w : World) : Calls Try.prog 42 #[.int .i64 t] w fun e w' => e = .returned (.int .i64 (clp t)) ∧ w = w' := by
  obtain ⟨k, hk⟩ : ∃ k, clp t = k := ⟨_, rfl⟩
  rw [hk]
  have HT := Lib.hid (show (k : Int) = max 0 (min t 1000000) by rw [← hk]; unfold clp; omega)
  clear hk
  rcases Int.lt_trichotomy t 0 with h | h | h
  · go_enter Try.func42, Try.ntmps42
    go_wp2_with fail
    have := HT.out
    go_ret; exact ⟨Hd.ret_i (by omega), rfl⟩
  · subst h
    go_enter Try.func42, Try.ntmps42
    go_wp2_with fail
    have := HT.out
    go_ret; exact ⟨Hd.ret_i (by omega), rfl⟩
  · rcases Int.lt_or_le 1000000 t with h2 | h2
    all_goals
      go_enter Try.func42, Try.ntmps42
      go_wp2_with fail
      have := HT.out
      go_ret; exact ⟨Hd.ret_i (by omega), rfl⟩
/-- what is remembered: numbers and ticks -/
def pr (q : List (Nat × Nat)) : List Value := q.flatMap fun x => [.int .i64 x.1, .int .i64 x.2]
theorem pr_len : ∀ q : List (Nat × Nat), (pr q).length = q.length * 2
  | [] => rfl
  | x :: q => by simp [pr] at *; have := pr_len q; simp [pr] at this; omega
theorem pr_app (q r : List (Nat × Nat)) : pr (q ++ r) = pr q ++ pr r := by simp [pr]
theorem pr_one (q : List (Nat × Nat)) : ∀ u ∈ pr q, u.oneCell' = true := fun u hu => by
  simp [pr] at hu
  obtain ⟨a, b, -, rfl | rfl⟩ := hu <;> rfl
theorem pr_get : ∀ {q : List (Nat × Nat)} {t : Nat} {x : Nat × Nat}, q[t]? = some x → (pr q)[t * 2]? = some (.int .i64 x.1) ∧ (pr q)[t * 2 + 1]? = some (.int .i64 x.2)
  | [], t, x, h => by simp at h
  | y :: q, 0, x, h => by simp at h; subst h; simp [pr]
  | y :: q, t + 1, x, h => by
    have := pr_get (q := q) (t := t) (x := x) (by simpa using h)
    have e : pr (y :: q) = [.int .i64 y.1, .int .i64 y.2] ++ pr q := by simp [pr]
    rw [e, List.getElem?_append_right (by simp; omega), List.getElem?_append_right (by simp; omega)]
    simp only [List.length_cons, List.length_nil]
    rw [show (t + 1) * 2 - (0 + 1 + 1) = t * 2 by omega, show (t + 1) * 2 + 1 - (0 + 1 + 1) = t * 2 + 1 by omega]
    exact this
/-- the last 32 -/
def keep32 (q : List (Nat × Nat)) : List (Nat × Nat) := q.drop (q.length - 32)
theorem keep32_len (q : List (Nat × Nat)) : (keep32 q).length ≤ 32 := by unfold keep32; simp; omega
/-- a link from o on -/
structure LinkS (vs : Array Value) (o nx : Nat) (wv : Value) (s : WS) (n m j : Nat) : Prop where
  hd : Sub vs o [.int .i64 nx, wv]
  win : WinS vs (o + 2) s
  mtr : MtrS vs (o + 5) n m j
theorem LinkS.out {vs us : Array Value} {o p k nx n m j : Nat} {wv : Value} {s : WS} (h : LinkS vs o nx wv s n m j) (ho : Out vs us p k) (hd : o + 8 ≤ p ∨ p + k ≤ o) : LinkS us o nx wv s n m j :=
  ⟨h.hd.out ho (by simp; omega), h.win.out ho (by omega), h.mtr.out ho (by simp; omega)⟩
/-- a packet -/
structure Pk where
  kind : Int
  slot : Int
  seq : Int
  last : Int
  any : Bool
  acks : Int
  got : Int
  first : Int
  ia : Option Addr
  il : Nat
  ic : Nat
  pl : Int
  ra : Option Addr
  rl : Nat
  rcp : Nat
  frame : Int
  mark : Int
def Pk.v (p : Pk) : Value := .agg #[.int .i64 p.kind, .int .i64 p.slot, .int .i64 p.seq, .int .i64 p.last, .bool p.any, .int .u64 p.acks, .int .i64 p.got, .int .i64 p.first, .slice p.ia p.il p.ic, .int .i64 p.pl, .slice p.ra p.rl p.rcp, .int .i64 p.frame, .int .i64 p.mark]
end Go.Proofs.Ytkjjikjilmngdaa.Lk
