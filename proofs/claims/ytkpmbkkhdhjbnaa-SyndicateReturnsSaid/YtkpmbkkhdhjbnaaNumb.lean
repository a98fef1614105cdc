/- Products of package num and of its reference: both compute the same plain function. -/
import Derived.Test.YtkpmbkkhdhjbnaaNuma
import Derived.Test.YtkpmbkkhdhjbnaaShelf
namespace Go.Proofs.Ytkpmbkkhdhjbnaa
open Go.ChangeShapes Go.WideShapes Go.ChangeAt Go.RowKit Go.Lott

theorem Mul64_v (x y hi lo : Int) (w : World) (x0 : 0 ≤ x) (x1 : x ≤ 18446744073709551615) (y0 : 0 ≤ y) (y1 : y ≤ 18446744073709551615) (h : x * y = hi * 18446744073709551616 + lo) (l0 : 0 ≤ lo) (l1 : lo ≤ 18446744073709551615) :
    Calls Try.prog 58 #[.int .u64 x, .int .u64 y] w (RetS (.tuple #[.int .u64 hi, .int .u64 lo]) w) := by
  obtain ⟨n, rfl⟩ := Int.eq_ofNat_of_zero_le x0
  obtain ⟨m, rfl⟩ := Int.eq_ofNat_of_zero_le y0
  have hc := Try.bits_Mul64 n m (by omega) (by omega) w
  have e1 : ((n * m / 18446744073709551616 : Nat) : Int) = hi := by rw [Int.natCast_ediv, Int.natCast_mul, h]; omega
  have e2 : ((n * m % 18446744073709551616 : Nat) : Int) = lo := by rw [Int.natCast_emod, Int.natCast_mul, h]; omega
  rw [e1, e2] at hc
  exact hc.mono fun _ _ ⟨he, hw⟩ => ⟨he, hw.symm⟩

/-- What the walks need of a product. -/
theorem mul_cases (a b : Int) (ha : -9223372036854775808 ≤ a ∧ a ≤ 9223372036854775807) (hb : -9223372036854775808 ≤ b ∧ b ≤ 9223372036854775807) :
    ∃ p : Int, Num.ab a * Num.ab b = p ∧ 0 ≤ p ∧ (((a < 0) ↔ (b < 0)) → a * b = p) ∧ (¬ ((a < 0) ↔ (b < 0)) → a * b = -p) := by
  refine ⟨_, rfl, Int.mul_nonneg (Num.ab_bd ha).1 (Num.ab_bd hb).1, fun h => ?_, fun h => ?_⟩
  · rw [Num.ab_mul]; have := (Num.mul_sign a b).1 h; unfold Num.ab; rw [if_neg (by omega)]
  · rw [Num.ab_mul]; have := (Num.mul_sign a b).2 h; unfold Num.ab; split <;> omega

end Go.Proofs.Ytkpmbkkhdhjbnaa
