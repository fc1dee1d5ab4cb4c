import Derived.WalkKit
namespace Dt
open Go
/-- shifts of an integer by an int that is not negative -/
theorem run_shl {P : Program} (k : IntKind) (v a : Int) (w : World) (ha : 0 ≤ a) : Sem.run P (Op.shift BinOp.shl k v .i64 a) w = .ok (.int k (k.wrap (v * 2 ^ (min a.toNat k.bits)))) w := by
  simp [Op.shift, go_sem, ha]
theorem run_shr {P : Program} (k : IntKind) (v a : Int) (w : World) (ha : 0 ≤ a) : Sem.run P (Op.shift BinOp.shr k v .i64 a) w = .ok (.int k (v / 2 ^ (min a.toNat k.bits))) w := by
  have h : ¬ a < 0 := by omega
  have e : v.fdiv (2 ^ (min a.toNat k.bits)) = v / 2 ^ (min a.toNat k.bits) := Int.fdiv_eq_ediv_of_nonneg _ (Int.pow_nonneg (by decide))
  unfold Op.shift
  rw [if_neg h]
  simp only
  rw [e]; rfl
end Dt
