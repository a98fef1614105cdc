/- Plain facts on long division, bit by bit. No program stands in this text. -/
import Derived.Lib.Hide
namespace Go.Lott.Num
/-- Bit j of a number. -/
def bitI (P : Int) (j : Nat) : Int := P / (2 : Int) ^ j % 2
theorem bitI_bd (P : Int) (j : Nat) : 0 ≤ bitI P j ∧ bitI P j ≤ 1 := by unfold bitI; omega
theorem pow_pos (j : Nat) : (0 : Int) < (2 : Int) ^ j := Int.pow_pos (by decide)
theorem half_pow (v : Int) (k : Nat) : v / (2 : Int) ^ k / 2 = v / (2 : Int) ^ (k + 1) := by
  rw [Int.pow_succ, Int.ediv_ediv_of_nonneg (Int.le_of_lt (pow_pos k))]
theorem bit_hi {hi lo P : Int} {k : Nat} (h : hi * 18446744073709551616 + lo = P) (l0 : 0 ≤ lo) (l1 : lo ≤ 18446744073709551615) :
    hi / (2 : Int) ^ k % 2 = bitI P (64 + k) := by
  have e : P / 18446744073709551616 = hi := by omega
  unfold bitI
  rw [Int.pow_add, ← Int.ediv_ediv_of_nonneg (by decide), show (2 : Int) ^ 64 = 18446744073709551616 from rfl, e]
theorem bit_lo {hi lo P : Int} {k : Nat} (h : hi * 18446744073709551616 + lo = P) (hk : k < 64) : lo / (2 : Int) ^ k % 2 = bitI P k := by
  unfold bitI
  have e : (18446744073709551616 : Int) = 2 * (2 : Int) ^ (63 - k) * (2 : Int) ^ k := by
    rw [Int.mul_assoc, ← Int.pow_add, show 63 - k + k = 63 by omega]; rfl
  rw [← h, e, ← Int.mul_assoc, Int.add_comm, Int.add_mul_ediv_right _ _ (Int.ne_of_gt (pow_pos k)), ← Int.mul_assoc, Int.mul_comm hi 2, Int.mul_assoc, Int.add_mul_emod_self_left]
/-- The quotient and the rest behind the bits from j on. -/
def LD (P c : Int) (j : Nat) (q r : Int) : Prop := P / (2 : Int) ^ j = q * c + r ∧ 0 ≤ r ∧ r < c ∧ 0 ≤ q
theorem LD.start {P c : Int} (c1 : 1 ≤ c) (p0 : 0 ≤ P) (p1 : P < 340282366920938463463374607431768211456) : LD P c 128 0 0 := by
  refine ⟨?_, by omega, by omega, by omega⟩
  rw [show (2 : Int) ^ 128 = 340282366920938463463374607431768211456 from rfl, Int.zero_mul]
  omega
theorem ld_split (P : Int) (j : Nat) : P / (2 : Int) ^ j = 2 * (P / (2 : Int) ^ (j + 1)) + bitI P j := by
  rw [← half_pow]; unfold bitI; omega
theorem LD.big {P c : Int} {j : Nat} {q r : Int} (h : LD P c (j + 1) q r) (hb : c ≤ 2 * r + bitI P j) : LD P c j (2 * q + 1) (2 * r + bitI P j - c) := by
  obtain ⟨h1, h2, h3, h4⟩ := h
  have hd := bitI_bd P j
  refine ⟨?_, by omega, by omega, by omega⟩
  rw [ld_split, h1, Int.add_mul, Int.one_mul, Int.mul_assoc]
  generalize q * c = z
  omega
theorem LD.small {P c : Int} {j : Nat} {q r : Int} (h : LD P c (j + 1) q r) (hb : 2 * r + bitI P j < c) : LD P c j (2 * q) (2 * r + bitI P j) := by
  obtain ⟨h1, h2, h3, h4⟩ := h
  have hd := bitI_bd P j
  refine ⟨?_, by omega, by omega, by omega⟩
  rw [ld_split, h1, Int.mul_assoc]
  generalize q * c = z
  omega
theorem LD.bd {P c : Int} {j : Nat} {q r : Int} (h : LD P c j q r) (p0 : 0 ≤ P) (hP : P < c * 18446744073709551616) : q ≤ 18446744073709551615 := by
  obtain ⟨h1, h2, h3, h4⟩ := h
  have h5 : P / (2 : Int) ^ j ≤ P := Int.ediv_le_self _ p0
  have h6 : q * c < 18446744073709551616 * c := by rw [Int.mul_comm 18446744073709551616]; omega
  have := Int.lt_of_mul_lt_mul_right h6 (by omega)
  omega
theorem LD.end {P c q r : Int} (h : LD P c 0 q r) : P / c = q ∧ P % c = r := by
  obtain ⟨h1, h2, h3, h4⟩ := h
  rw [show (2 : Int) ^ 0 = 1 from rfl, Int.ediv_one] at h1
  have := (Int.ediv_emod_unique (a := P) (b := c) (r := r) (q := q) (by omega)).2 ⟨by rw [h1, Int.mul_comm]; omega, h2, h3⟩
  exact this
end Go.Lott.Num
