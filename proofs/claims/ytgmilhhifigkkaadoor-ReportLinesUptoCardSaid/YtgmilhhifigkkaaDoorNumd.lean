/- Plain facts on the division of 128 bits by 64: the estimate of a digit and its corrections. No program stands in this text. -/
import Derived.Test.YtgmilhhifigkkaaDoorNumm
namespace Go.Lott.Num

/-- Y = yn1 2^32 + yn0 is normalized; the dividend is u 2^32 + d. -/
structure KSet (yn1 yn0 u d : Int) : Prop where
  a1 : 2147483648 ≤ yn1
  a2 : yn1 ≤ 4294967295
  b1 : 0 ≤ yn0
  b2 : yn0 ≤ 4294967295
  u1 : 0 ≤ u
  u2 : u < yn1 * 4294967296 + yn0
  d1 : 0 ≤ d
  d2 : d ≤ 4294967295
def kY (yn1 yn0 : Int) : Int := yn1 * 4294967296 + yn0
def kQ (yn1 yn0 u d : Int) : Int := (u * 4294967296 + d) / kY yn1 yn0
theorem kQ_spec {yn1 yn0 u d : Int} (h : KSet yn1 yn0 u d) : 0 ≤ kQ yn1 yn0 u d ∧ kQ yn1 yn0 u d ≤ 4294967295 ∧ kQ yn1 yn0 u d * kY yn1 yn0 ≤ u * 4294967296 + d ∧ u * 4294967296 + d < kQ yn1 yn0 u d * kY yn1 yn0 + kY yn1 yn0 := by
  have hY : 0 < kY yn1 yn0 := by have := h.a1; have := h.b1; unfold kY; omega
  have hU : 0 ≤ u * 4294967296 + d := by have := h.u1; have := h.d1; omega
  have e := Int.mul_ediv_add_emod (u * 4294967296 + d) (kY yn1 yn0)
  have m0 := Int.emod_nonneg (u * 4294967296 + d) (show kY yn1 yn0 ≠ 0 by omega)
  have m1 := Int.emod_lt_of_pos (u * 4294967296 + d) hY
  have q0 : 0 ≤ kQ yn1 yn0 u d := Int.ediv_nonneg hU (Int.le_of_lt hY)
  have q1 : kQ yn1 yn0 u d < 4294967296 := Int.ediv_lt_of_lt_mul hY (by have := h.u2; have := h.d2; unfold kY; omega)
  rw [Int.mul_comm] at e
  unfold kQ at *
  exact ⟨q0, by omega, by omega, by omega⟩
/-- What holds of an estimate q and its rest r at each test. -/
structure KInv (yn1 yn0 u d q r : Int) : Prop where
  lo : kQ yn1 yn0 u d ≤ q
  hi : q ≤ 4294967297
  re : q * yn1 + r = u
  r0 : 0 ≤ r
theorem k_start {yn1 yn0 u d : Int} (h : KSet yn1 yn0 u d) : KInv yn1 yn0 u d (u / yn1) (u - u / yn1 * yn1) ∧ u - u / yn1 * yn1 ≤ 4294967295 ∧ 0 ≤ u / yn1 * yn1 ∧ u / yn1 * yn1 ≤ u := by
  have hp : 0 < yn1 := by have := h.a1; omega
  have e := Int.mul_ediv_add_emod u yn1
  have m0 := Int.emod_nonneg u (show yn1 ≠ 0 by omega)
  have m1 := Int.emod_lt_of_pos u hp
  rw [Int.mul_comm] at e
  obtain ⟨s0, s1, s2, s3⟩ := kQ_spec h
  have n0 : 0 ≤ u / yn1 * yn1 := Int.mul_nonneg (Int.ediv_nonneg h.u1 (Int.le_of_lt hp)) (Int.le_of_lt hp)
  refine ⟨⟨?_, ?_, by omega, by omega⟩, by have := h.a2; omega, n0, by omega⟩
  · refine (Int.le_ediv_iff_mul_le hp).2 ?_
    have x : kQ yn1 yn0 u d * kY yn1 yn0 = kQ yn1 yn0 u d * yn1 * 4294967296 + kQ yn1 yn0 u d * yn0 := by unfold kY; rw [Int.mul_add, Int.mul_assoc]
    have y : 0 ≤ kQ yn1 yn0 u d * yn0 := Int.mul_nonneg s0 h.b1
    have := h.d2
    omega
  · have : u / yn1 < 4294967298 := Int.ediv_lt_of_lt_mul hp (by have := h.u2; have := h.a1; have := h.b2; omega)
    omega
theorem k_mul (q yn1 yn0 : Int) : q * kY yn1 yn0 = q * yn1 * 4294967296 + q * yn0 := by unfold kY; rw [Int.mul_add, Int.mul_assoc]
/-- The test says yes: the estimate is too great; the next one. -/
theorem k_more {yn1 yn0 u d q r : Int} (h : KSet yn1 yn0 u d) (k : KInv yn1 yn0 u d q r) (ht : 4294967296 ≤ q ∨ 4294967296 * r + d < q * yn0) : KInv yn1 yn0 u d (q - 1) (r + yn1) := by
  obtain ⟨s0, s1, s2, s3⟩ := kQ_spec h
  have hlt : kQ yn1 yn0 u d < q := by
    rcases ht with ht | ht
    · omega
    · rcases Int.lt_or_le (kQ yn1 yn0 u d) q with c | c
      · exact c
      · have hY : 0 ≤ kY yn1 yn0 := by have := h.a1; have := h.b1; unfold kY; omega
        have c1 := Int.mul_le_mul_of_nonneg_right c hY
        rw [k_mul q] at c1
        have := k.re
        omega
  have e : (q - 1) * yn1 = q * yn1 - yn1 := by rw [Int.sub_mul, Int.one_mul]
  exact ⟨by omega, by have := k.hi; omega, by rw [e]; have := k.re; omega, by have := k.r0; have := h.a1; omega⟩
/-- The test says no: the estimate is the digit. -/
theorem k_done {yn1 yn0 u d q r : Int} (h : KSet yn1 yn0 u d) (k : KInv yn1 yn0 u d q r) (ht : q * yn0 ≤ 4294967296 * r + d) : q = kQ yn1 yn0 u d := by
  obtain ⟨s0, s1, s2, s3⟩ := kQ_spec h
  have hY : 0 < kY yn1 yn0 := by have := h.a1; have := h.b1; unfold kY; omega
  have hle : q * kY yn1 yn0 ≤ u * 4294967296 + d := by rw [k_mul]; have := k.re; omega
  have : q ≤ kQ yn1 yn0 u d := (Int.le_ediv_iff_mul_le hY).2 hle
  have := k.lo
  omega
/-- The rest has grown beyond 32 bits: the estimate is the digit. -/
theorem k_break {yn1 yn0 u d q r : Int} (h : KSet yn1 yn0 u d) (k : KInv yn1 yn0 u d q r) (hq : q ≤ 4294967296) (hr : 4294967296 ≤ r) : q = kQ yn1 yn0 u d := by
  refine k_done h k ?_
  have s0 := (kQ_spec h).1
  have := (prod_bd (x := q) (y := yn0) (M := 4294967296) (N := 4294967295) (by have := k.lo; omega) hq h.b1 h.b2).2
  have := h.d1
  omega
end Go.Lott.Num
