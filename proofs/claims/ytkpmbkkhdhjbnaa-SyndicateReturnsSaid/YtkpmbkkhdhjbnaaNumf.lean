/- Plain facts on the division of 128 bits by 64: the shift that normalizes. -/
import Derived.Test.YtkpmbkkhdhjbnaaNumd
import Derived.Laws.BitsAllLaws
import Derived.Laws.Bits64
import Derived.Lib.ItoaNum
import Derived.WalkKit
namespace Go.Lott.Num

theorem and_mask (x : Int) (h0 : 0 ≤ x) (h1 : x ≤ 18446744073709551615) : bits .and .u64 x 4294967295 = x % 4294967296 := by
  rw [u64_and x 4294967295 h0 (by omega) (by omega) (by omega)]
  have e : (4294967295 : Int).toNat = 2 ^ 32 - 1 := by decide
  rw [e, Nat.and_two_pow_sub_one_eq_mod]
  omega
theorem or_sum (A B s : Nat) (hA : 2 ^ s * A < 18446744073709551616) (hB : B < 2 ^ s) (hB2 : B < 18446744073709551616) : bits .or .u64 ((2 ^ s * A : Nat) : Int) (B : Int) = ((2 ^ s * A + B : Nat) : Int) := by
  rw [u64_or _ _ (by omega) (by omega) (by omega) (by omega), Int.toNat_natCast, Int.toNat_natCast, Nat.two_pow_add_eq_or_of_lt hB]
theorem shift_of (y : Nat) (h0 : y ≠ 0) (h1 : y < 2 ^ 64) : Lib.bitLen y ≤ 64 ∧ 2 ^ 63 ≤ y * 2 ^ (64 - Lib.bitLen y) ∧ y * 2 ^ (64 - Lib.bitLen y) < 2 ^ 64 := by
  obtain ⟨b1, b2, b3⟩ := Lib.bitLenAux_bounds 64 y h1 h0
  change 1 ≤ Lib.bitLen y at b1
  change 2 ^ (Lib.bitLen y - 1) ≤ y at b2
  change y < 2 ^ Lib.bitLen y at b3
  have hle : Lib.bitLen y ≤ 64 := by
    rcases Nat.lt_or_ge 64 (Lib.bitLen y) with c | c
    · have : 2 ^ 64 ≤ 2 ^ (Lib.bitLen y - 1) := Nat.pow_le_pow_right (by omega) (by omega)
      omega
    · exact c
  refine ⟨hle, ?_, ?_⟩
  · have e : 2 ^ 63 = 2 ^ (Lib.bitLen y - 1) * 2 ^ (64 - Lib.bitLen y) := by rw [← Nat.pow_add]; congr 1; omega
    rw [e]; exact Nat.mul_le_mul_right _ b2
  · have e : 2 ^ 64 = 2 ^ Lib.bitLen y * 2 ^ (64 - Lib.bitLen y) := by rw [← Nat.pow_add]; congr 1; omega
    rw [e]; exact Nat.mul_lt_mul_of_pos_right b3 (Nat.pow_pos (by omega))
/-- What the normalized numbers are, in Nat. -/
theorem split_nat (hi lo y s : Nat) (h1 : hi < y) (l1 : lo < 18446744073709551616) (hs1 : 9223372036854775808 ≤ y * 2 ^ s) (hs2 : y * 2 ^ s < 18446744073709551616) (hs : s ≤ 64) :
    2 ^ s * hi < 18446744073709551616 ∧ lo / 2 ^ (64 - s) < 2 ^ s ∧ 2 ^ s * hi + lo / 2 ^ (64 - s) < y * 2 ^ s ∧
      (hi * 18446744073709551616 + lo) * 2 ^ s = (2 ^ s * hi + lo / 2 ^ (64 - s)) * 18446744073709551616 + lo * 2 ^ s % 18446744073709551616 := by
  have hp : 0 < 2 ^ s := Nat.pow_pos (by omega)
  have hq : 0 < 2 ^ (64 - s) := Nat.pow_pos (by omega)
  have e : 2 ^ s * 2 ^ (64 - s) = 18446744073709551616 := by rw [← Nat.pow_add, show s + (64 - s) = 64 by omega]
  have c1 : 2 ^ s * hi + 2 ^ s ≤ y * 2 ^ s := by
    have := Nat.mul_le_mul_left (2 ^ s) (show hi + 1 ≤ y by omega)
    rw [Nat.mul_add, Nat.mul_one, Nat.mul_comm _ y] at this; exact this
  have c2 : lo / 2 ^ (64 - s) < 2 ^ s := by
    rw [Nat.div_lt_iff_lt_mul hq, e]; exact l1
  refine ⟨by omega, c2, by omega, ?_⟩
  have c3 : lo * 2 ^ s / 18446744073709551616 = lo / 2 ^ (64 - s) := by
    rw [← e, Nat.mul_comm (2 ^ s) (2 ^ (64 - s)), Nat.mul_div_mul_right _ _ hp]
  have c4 := Nat.div_add_mod (lo * 2 ^ s) 18446744073709551616
  rw [c3] at c4
  have c5 : (hi * 18446744073709551616 + lo) * 2 ^ s = 2 ^ s * hi * 18446744073709551616 + lo * 2 ^ s := by
    rw [Nat.add_mul, Nat.mul_comm (hi * _), ← Nat.mul_assoc]
  rw [c5]
  omega
theorem wrap3 {u d q Y v : Int} (h : v = u * 4294967296 + d - q * Y) (h0 : 0 ≤ v) (h1 : v ≤ 18446744073709551615) :
    IntKind.u64.wrap (IntKind.u64.wrap (IntKind.u64.wrap (u * 4294967296) + d) - IntKind.u64.wrap (q * Y)) = v := by
  simp only [IntKind.wrap_u64]
  generalize q * Y = z at *
  omega
theorem k_rest {yn1 yn0 u d d' q Y : Int} (h : KSet yn1 yn0 u d) (hd : 0 ≤ d' ∧ d' ≤ 4294967295) (hY : Y = yn1 * 4294967296 + yn0) (hq : q = kQ yn1 yn0 u d) :
    ∃ v, v = u * 4294967296 + d - q * Y ∧ 0 ≤ v ∧ v < Y ∧ v ≤ 18446744073709551615 ∧ KSet yn1 yn0 v d' := by
  obtain ⟨s0, s1, s2, s3⟩ := kQ_spec h
  have e : kY yn1 yn0 = Y := hY.symm
  rw [e, ← hq] at s2 s3
  have := h.a2
  have := h.b2
  exact ⟨_, rfl, by omega, by omega, by omega, ⟨h.a1, h.a2, h.b1, h.b2, by omega, by omega, hd.1, hd.2⟩⟩
theorem div_fin {N y P Q R : Int} (hP : 0 < P) (hy : 0 < y) (h : N * P = Q * (y * P) + R) (h0 : 0 ≤ R) (h1 : R < y * P) : N / y = Q ∧ N % y = R / P := by
  have e : R = (N - Q * y) * P := by rw [Int.sub_mul, Int.mul_assoc]; omega
  have b0 : 0 ≤ N - Q * y := by
    rcases Int.lt_or_le (N - Q * y) 0 with c | c
    · have := Int.mul_neg_of_neg_of_pos c hP; omega
    · exact c
  have b1 : N - Q * y < y := by
    rcases Int.lt_or_le (N - Q * y) y with c | c
    · exact c
    · have := Int.mul_le_mul_of_nonneg_right c (Int.le_of_lt hP); omega
  have e2 : R / P = N - Q * y := by rw [e, Int.mul_ediv_cancel _ (by omega)]
  have e3 : N = (N - Q * y) + Q * y := by omega
  constructor
  · rw [e3, Int.add_mul_ediv_right _ _ (by omega), Int.ediv_eq_zero_of_lt b0 b1]; omega
  · rw [e2]; conv => lhs; rw [e3]
    rw [Int.add_mul_emod_self_right, Int.emod_eq_of_lt b0 b1]
theorem div_end {N y P Y u un1 un0 v X X2 R : Int} (hY : Y = y * P) (hN : N * P = u * 18446744073709551616 + un1 * 4294967296 + un0) (hv : v = u * 4294967296 + un1 - X * Y) (hR : R = v * 4294967296 + un0 - X2 * Y)
    (hP : 0 < P) (hy : 0 < y) (h0 : 0 ≤ R) (h1 : R < Y) : N / y = X * 4294967296 + X2 ∧ N % y = R / P := by
  refine div_fin hP hy ?_ h0 (by rw [← hY]; exact h1)
  rw [← hY, Int.add_mul, Int.mul_right_comm, hN]
  omega
/-- The normalized numbers, as the walk writes them. -/
theorem div_setup (hi lo y : Int) (s : Nat) (h0 : 0 ≤ hi) (h1 : hi < y) (l0 : 0 ≤ lo) (l1 : lo ≤ 18446744073709551615) (hs : s ≤ 64)
    (hs1 : 9223372036854775808 ≤ y.toNat * 2 ^ s) (hs2 : y.toNat * 2 ^ s < 18446744073709551616) :
    ∃ Y yn1 yn0 u t un1 un0 P : Int, IntKind.u64.wrap (y * 2 ^ s) = Y ∧ Y / 4294967296 = yn1 ∧ bits .and .u64 Y 4294967295 = yn0 ∧
      bits .or .u64 (IntKind.u64.wrap (hi * 2 ^ s)) (lo / 2 ^ (64 - s)) = u ∧ IntKind.u64.wrap (lo * 2 ^ s) = t ∧ t / 4294967296 = un1 ∧ bits .and .u64 t 4294967295 = un0 ∧
      Y = yn1 * 4294967296 + yn0 ∧ 2147483648 ≤ yn1 ∧ yn1 ≤ 4294967295 ∧ 0 ≤ yn0 ∧ yn0 ≤ 4294967295 ∧ 0 ≤ u ∧ u < yn1 * 4294967296 + yn0 ∧
      0 ≤ un1 ∧ un1 ≤ 4294967295 ∧ 0 ≤ un0 ∧ un0 ≤ 4294967295 ∧ P = 2 ^ s ∧ 0 < P ∧ Y = y * P ∧ (hi * 18446744073709551616 + lo) * P = u * 18446744073709551616 + un1 * 4294967296 + un0 := by
  obtain ⟨H, rfl⟩ := Int.eq_ofNat_of_zero_le h0
  obtain ⟨L, rfl⟩ := Int.eq_ofNat_of_zero_le l0
  obtain ⟨M, rfl⟩ := Int.eq_ofNat_of_zero_le (show 0 ≤ y by omega)
  rw [Int.toNat_natCast] at hs1 hs2
  obtain ⟨n1, n2, n3, n4⟩ := split_nat H L M s (by omega) (by omega) hs1 hs2 hs
  have e1 : IntKind.u64.wrap ((M : Int) * 2 ^ s) = ((M * 2 ^ s : Nat) : Int) := by
    rw [IntKind.wrap_u64]
    have : ((M : Int) * 2 ^ s) = ((M * 2 ^ s : Nat) : Int) := by rw [Int.natCast_mul, Int.natCast_pow]; rfl
    rw [this]; omega
  have e2 : IntKind.u64.wrap ((H : Int) * 2 ^ s) = ((2 ^ s * H : Nat) : Int) := by
    rw [IntKind.wrap_u64]
    have : ((H : Int) * 2 ^ s) = ((2 ^ s * H : Nat) : Int) := by rw [Int.natCast_mul, Int.natCast_pow, Int.mul_comm]; rfl
    rw [this]; omega
  have e3 : IntKind.u64.wrap ((L : Int) * 2 ^ s) = ((L * 2 ^ s % 18446744073709551616 : Nat) : Int) := by
    rw [IntKind.wrap_u64]
    have : ((L : Int) * 2 ^ s) = ((L * 2 ^ s : Nat) : Int) := by rw [Int.natCast_mul, Int.natCast_pow]; rfl
    rw [this]; omega
  have e4 : (L : Int) / 2 ^ (64 - s) = ((L / 2 ^ (64 - s) : Nat) : Int) := by rw [Int.natCast_ediv, Int.natCast_pow]; rfl
  have e5 := or_sum H (L / 2 ^ (64 - s)) s n1 n2 (by omega)
  refine ⟨_, _, _, _, _, _, _, ((2 ^ s : Nat) : Int), rfl, rfl, rfl, rfl, rfl, rfl, rfl, ?_⟩
  rw [e1, e2, e3, e4, e5, and_mask _ (by omega) (by omega), and_mask _ (by omega) (by omega)]
  refine ⟨by omega, by omega, by omega, by omega, by omega, by omega, by omega, by omega, by omega, by omega, by omega, by rw [Int.natCast_pow]; rfl, by have : 0 < 2 ^ s := Nat.pow_pos (by omega); omega, by rw [Int.natCast_mul], ?_⟩
  have := congrArg (Nat.cast (R := Int)) n4
  rw [Int.natCast_mul, Int.natCast_add, Int.natCast_mul, Int.natCast_add (_ * _)] at this
  have e6 : ((18446744073709551616 : Nat) : Int) = 18446744073709551616 := rfl
  rw [e6] at this
  rw [this, Int.natCast_mul, e6]
  omega
end Go.Lott.Num
