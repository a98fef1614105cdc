/- Plain facts on products of 128 bits, powers, divisors and decimal numbers. No program stands in this text. -/
import Derived.Lib.Hide
namespace Go.Lott.Num

theorem expand (a1 a0 b1 b0 K : Int) : (a1 * K + a0) * (b1 * K + b0) = a1 * b1 * (K * K) + a1 * b0 * K + a0 * b1 * K + a0 * b0 := by
  rw [Int.add_mul, Int.mul_add, Int.mul_add]
  have e1 : a1 * K * (b1 * K) = a1 * b1 * (K * K) := by rw [Int.mul_assoc, Int.mul_left_comm K b1 K, ← Int.mul_assoc]
  have e2 : a1 * K * b0 = a1 * b0 * K := by rw [Int.mul_assoc, Int.mul_comm K b0, ← Int.mul_assoc]
  have e3 : a0 * (b1 * K) = a0 * b1 * K := by rw [← Int.mul_assoc]
  rw [e1, e2, e3]
  omega
theorem prod_bd {x y M N : Int} (h0 : 0 ≤ x) (h1 : x ≤ M) (k0 : 0 ≤ y) (k1 : y ≤ N) : 0 ≤ x * y ∧ x * y ≤ M * N :=
  ⟨Int.mul_nonneg h0 k0, Int.mul_le_mul h1 k1 k0 (Int.le_trans h0 h1)⟩

/-- The four partial products of two numbers of 64 bits. -/
theorem parts (a b : Int) (a0 : 0 ≤ a) (a1 : a ≤ 18446744073709551615) (b0 : 0 ≤ b) (b1 : b ≤ 18446744073709551615) :
    ∃ p00 p10 p01 p11 : Int, (a % 4294967296) * (b % 4294967296) = p00 ∧ (a / 4294967296) * (b % 4294967296) = p10 ∧ (a % 4294967296) * (b / 4294967296) = p01 ∧ (a / 4294967296) * (b / 4294967296) = p11 ∧
      a * b = p11 * 18446744073709551616 + p10 * 4294967296 + p01 * 4294967296 + p00 ∧
      0 ≤ p00 ∧ p00 ≤ 18446744065119617025 ∧ 0 ≤ p10 ∧ p10 ≤ 18446744065119617025 ∧ 0 ≤ p01 ∧ p01 ≤ 18446744065119617025 ∧ 0 ≤ p11 ∧ p11 ≤ 18446744065119617025 := by
  refine ⟨_, _, _, _, rfl, rfl, rfl, rfl, ?_, ?_⟩
  · have e := expand (a / 4294967296) (a % 4294967296) (b / 4294967296) (b % 4294967296) 4294967296
    have ea : a / 4294967296 * 4294967296 + a % 4294967296 = a := by omega
    have eb : b / 4294967296 * 4294967296 + b % 4294967296 = b := by omega
    rw [ea, eb] at e
    exact e
  · have h1 := prod_bd (x := a % 4294967296) (y := b % 4294967296) (M := 4294967295) (N := 4294967295) (by omega) (by omega) (by omega) (by omega)
    have h2 := prod_bd (x := a / 4294967296) (y := b % 4294967296) (M := 4294967295) (N := 4294967295) (by omega) (by omega) (by omega) (by omega)
    have h3 := prod_bd (x := a % 4294967296) (y := b / 4294967296) (M := 4294967295) (N := 4294967295) (by omega) (by omega) (by omega) (by omega)
    have h4 := prod_bd (x := a / 4294967296) (y := b / 4294967296) (M := 4294967295) (N := 4294967295) (by omega) (by omega) (by omega) (by omega)
    have e : (4294967295 : Int) * 4294967295 = 18446744065119617025 := by decide
    rw [e] at h1 h2 h3 h4
    exact ⟨h1.1, h1.2, h2.1, h2.2, h3.1, h3.2, h4.1, h4.2⟩
/-- The school method's upper and lower halves. -/
def wLow (a b : Int) : Int := (a % 4294967296) * (b % 4294967296)
def wMid (a b : Int) : Int := (a / 4294967296) * (b % 4294967296) + wLow a b / 4294967296
def wOth (a b : Int) : Int := (a % 4294967296) * (b / 4294967296) + wMid a b % 4294967296
def wHi (a b : Int) : Int := (a / 4294967296) * (b / 4294967296) + wMid a b / 4294967296 + wOth a b / 4294967296
def wLo (a b : Int) : Int := wOth a b % 4294967296 * 4294967296 + wLow a b % 4294967296
theorem wide_eq (a b : Int) (a0 : 0 ≤ a) (a1 : a ≤ 18446744073709551615) (b0 : 0 ≤ b) (b1 : b ≤ 18446744073709551615) :
    (0 ≤ wLow a b ∧ wLow a b ≤ 18446744073709551615) ∧ (0 ≤ wMid a b ∧ wMid a b ≤ 18446744073709551615) ∧ (0 ≤ wOth a b ∧ wOth a b ≤ 18446744073709551615) ∧
    wHi a b = a * b / 18446744073709551616 ∧ wLo a b = a * b % 18446744073709551616 := by
  obtain ⟨p00, p10, p01, p11, e1, e2, e3, e4, e, h⟩ := parts a b a0 a1 b0 b1
  have d1 : wLow a b = p00 := e1
  have d2 : wMid a b = p10 + p00 / 4294967296 := by unfold wMid; rw [d1, e2]
  have d3 : wOth a b = p01 + (p10 + p00 / 4294967296) % 4294967296 := by unfold wOth; rw [d2, e3]
  have d4 : wHi a b = p11 + (p10 + p00 / 4294967296) / 4294967296 + (p01 + (p10 + p00 / 4294967296) % 4294967296) / 4294967296 := by unfold wHi; rw [d2, d3, e4]
  have d5 : wLo a b = (p01 + (p10 + p00 / 4294967296) % 4294967296) % 4294967296 * 4294967296 + p00 % 4294967296 := by unfold wLo; rw [d3, d1]
  rw [d1, d2, d3, d4, d5, e]
  omega

/-! Numbers of 64 bits with a sign -/
def inR (n : Int) : Bool := decide (-9223372036854775808 ≤ n ∧ n ≤ 9223372036854775807)
theorem inR_iff (n : Int) : inR n = true ↔ -9223372036854775808 ≤ n ∧ n ≤ 9223372036854775807 := by simp [inR]
/-- A number, or an overflow: the value, the error. -/
def okN (n : Int) : Int := if inR n then n else 0
def okE (n : Int) : Int := if inR n then 0 else 9
theorem ok_yes {n : Int} (h : -9223372036854775808 ≤ n ∧ n ≤ 9223372036854775807) : okN n = n ∧ okE n = 0 := by
  unfold okN okE; rw [(inR_iff n).2 h]; exact ⟨rfl, rfl⟩
theorem ok_no {n : Int} (h : ¬ (-9223372036854775808 ≤ n ∧ n ≤ 9223372036854775807)) : okN n = 0 ∧ okE n = 9 := by
  have : inR n = false := decide_eq_false h
  unfold okN okE; rw [this]; exact ⟨rfl, rfl⟩

/-! Absolute values -/
def ab (a : Int) : Int := if a < 0 then -a else a
theorem ab_bd {a : Int} (h : -9223372036854775808 ≤ a ∧ a ≤ 9223372036854775807) : 0 ≤ ab a ∧ ab a ≤ 9223372036854775808 := by unfold ab; split <;> omega
theorem ab_mul (a b : Int) : ab a * ab b = ab (a * b) := by
  unfold ab
  by_cases ha : a < 0 <;> by_cases hb : b < 0
  · rw [if_pos ha, if_pos hb, if_neg (by have := Int.mul_pos_of_neg_of_neg ha hb; omega), Int.neg_mul_neg]
  · rw [if_pos ha, if_neg hb]
    by_cases h0 : b = 0
    · subst h0; simp
    · rw [if_pos (Int.mul_neg_of_neg_of_pos ha (by omega)), Int.neg_mul]
  · rw [if_neg ha, if_pos hb]
    by_cases h0 : a = 0
    · subst h0; simp
    · rw [if_pos (Int.mul_neg_of_pos_of_neg (by omega) hb), Int.mul_neg]
  · rw [if_neg ha, if_neg hb, if_neg (by have := Int.mul_nonneg (show 0 ≤ a by omega) (show 0 ≤ b by omega); omega)]
/-- The sign of a product. -/
theorem mul_sign (a b : Int) : (((a < 0) ↔ (b < 0)) → 0 ≤ a * b) ∧ (¬ ((a < 0) ↔ (b < 0)) → a * b ≤ 0) := by
  constructor
  · intro h
    by_cases ha : a < 0
    · exact Int.le_of_lt (Int.mul_pos_of_neg_of_neg ha (h.1 ha))
    · exact Int.mul_nonneg (by omega) (by have := fun c => ha (h.2 c); omega)
  · intro h
    by_cases ha : a < 0
    · have hb : ¬ b < 0 := fun c => h ⟨fun _ => c, fun _ => ha⟩
      exact Int.mul_nonpos_of_nonpos_of_nonneg (by omega) (by omega)
    · have hb : b < 0 := by
        by_cases c : b < 0
        · exact c
        · exact (h ⟨fun x => (ha x).elim, fun x => (c x).elim⟩).elim
      exact Int.mul_nonpos_of_nonneg_of_nonpos (by omega) (by omega)

/-! Powers -/
def pwS (a : Int) : Nat → Option Int
  | 0 => some 1
  | k + 1 => match pwS a k with
    | none => none
    | some p => if inR (p * a) then some (p * a) else none
theorem pwS_yes {a p : Int} {k : Nat} (h : pwS a k = some p) (hr : inR (p * a) = true) : pwS a (k + 1) = some (p * a) := by unfold pwS; rw [h]; simp [hr]
theorem pwS_no {a p : Int} {k : Nat} (h : pwS a k = some p) (hr : inR (p * a) = false) : pwS a (k + 1) = none := by unfold pwS; rw [h]; simp [hr]
theorem pwS_none {a : Int} {k : Nat} (h : pwS a k = none) : ∀ j, pwS a (k + j) = none
  | 0 => h
  | j + 1 => by rw [← Nat.add_assoc]; unfold pwS; rw [pwS_none h j]
def pwB (n : Int) : Bool := decide (0 ≤ n ∧ n ≤ 62)
def pwN (a n : Int) : Int := if pwB n then (pwS a n.toNat).getD 0 else 0
def pwE (a n : Int) : Int := if pwB n then (if (pwS a n.toNat).isSome then 0 else 9) else 2
theorem pw_range {a n : Int} (h : n < 0 ∨ 62 < n) : 0 = pwN a n ∧ 2 = pwE a n := by
  have : pwB n = false := decide_eq_false (by omega)
  unfold pwN pwE; rw [this]; exact ⟨rfl, rfl⟩
theorem pw_some {a p : Int} {n : Nat} (h : n ≤ 62) (hp : pwS a n = some p) : p = pwN a n ∧ 0 = pwE a n := by
  have : pwB n = true := decide_eq_true (by omega)
  unfold pwN pwE; rw [this, Int.toNat_natCast, hp]; exact ⟨rfl, rfl⟩
theorem pw_none {a : Int} {n k : Nat} (h : n ≤ 62) (hk : k ≤ n) (hp : pwS a k = none) : 0 = pwN a n ∧ 9 = pwE a n := by
  have : pwB n = true := decide_eq_true (by omega)
  obtain ⟨j, rfl⟩ : ∃ j, n = k + j := ⟨n - k, by omega⟩
  unfold pwN pwE; rw [this, Int.toNat_natCast, pwS_none hp j]; exact ⟨rfl, rfl⟩

/-! Euclid's algorithm ends soon -/
/-- The pair behind k rounds. -/
def eu : Nat → Nat → Nat → Nat × Nat
  | 0, x, y => (x, y)
  | k + 1, x, y => if y = 0 then (x, y) else eu k y (x % y)
theorem eu_gcd : ∀ (k x y : Nat), Nat.gcd (eu k x y).1 (eu k x y).2 = Nat.gcd x y
  | 0, _, _ => rfl
  | k + 1, x, y => by
    unfold eu
    split
    · rfl
    · rw [eu_gcd k y (x % y), Nat.gcd_comm y, ← Nat.gcd_rec, Nat.gcd_comm]
theorem half_mod {y r : Nat} (h0 : 0 < r) (h : r < y) : 2 * (y % r) < y := by
  have h1 := Nat.mod_lt y h0
  rcases Nat.lt_or_ge (2 * r) (y + 1) with h2 | h2
  · omega
  · have : y % r = y - r := by rw [Nat.mod_eq_sub_mod (by omega), Nat.mod_eq_of_lt (by omega)]
    omega
/-- Behind 2 m + 1 rounds the second number is 0, if it is below 2^m at the start. -/
theorem eu_ends : ∀ (m x y : Nat), y < 2 ^ m → (eu (2 * m + 1) x y).2 = 0
  | 0, x, y, h => by
    have : y = 0 := by simpa using h
    subst this; simp [eu]
  | m + 1, x, y, h => by
    rw [show 2 * (m + 1) + 1 = (2 * m + 1) + 1 + 1 by omega]
    rw [eu]
    by_cases hy : y = 0
    · rw [if_pos hy]; exact hy
    · rw [if_neg hy, eu]
      by_cases hr : x % y = 0
      · rw [if_pos hr]; exact hr
      · rw [if_neg hr]
        refine eu_ends m _ _ ?_
        have h1 := half_mod (y := y) (r := x % y) (by omega) (Nat.mod_lt _ (by omega))
        rw [Nat.pow_succ] at h
        omega
theorem eu_stop {x : Nat} : ∀ k, eu k x 0 = (x, 0)
  | 0 => rfl
  | _ + 1 => by unfold eu; simp
theorem eu_succ (k x y : Nat) : eu (k + 1) x y = if (eu k x y).2 = 0 then eu k x y else ((eu k x y).2, (eu k x y).1 % (eu k x y).2) := by
  induction k generalizing x y with
  | zero => rfl
  | succ k ih =>
    conv => lhs; unfold eu
    by_cases hy : y = 0
    · subst hy; rw [if_pos rfl]; simp [eu_stop]
    · rw [if_neg hy, ih]
      have e : eu (k + 1) x y = eu k y (x % y) := by conv => lhs; unfold eu
                                                     rw [if_neg hy]
      rw [e]
end Go.Lott.Num
/- Plain facts on the division of 128 bits by 64: the estimate of a digit and its corrections. No program stands in this text. -/
namespace Go.Lott.Num

/-- Y = yn1 2^32 + yn0 is normalized; the dividend is u 2^32 + d. -/
structure KSet (yn1 yn0 u d : Int) : Prop where
  a1 : 2147483648 ≤ yn1
  a2 : yn1 ≤ 4294967295
  b1 : 0 ≤ yn0
  b2 : yn0 ≤ 4294967295
  u1 : 0 ≤ u
  u2 : u < yn1 * 4294967296 + yn0
  d1 : 0 ≤ d
  d2 : d ≤ 4294967295
def kY (yn1 yn0 : Int) : Int := yn1 * 4294967296 + yn0
def kQ (yn1 yn0 u d : Int) : Int := (u * 4294967296 + d) / kY yn1 yn0
theorem kQ_spec {yn1 yn0 u d : Int} (h : KSet yn1 yn0 u d) : 0 ≤ kQ yn1 yn0 u d ∧ kQ yn1 yn0 u d ≤ 4294967295 ∧ kQ yn1 yn0 u d * kY yn1 yn0 ≤ u * 4294967296 + d ∧ u * 4294967296 + d < kQ yn1 yn0 u d * kY yn1 yn0 + kY yn1 yn0 := by
  have hY : 0 < kY yn1 yn0 := by have := h.a1; have := h.b1; unfold kY; omega
  have hU : 0 ≤ u * 4294967296 + d := by have := h.u1; have := h.d1; omega
  have e := Int.mul_ediv_add_emod (u * 4294967296 + d) (kY yn1 yn0)
  have m0 := Int.emod_nonneg (u * 4294967296 + d) (show kY yn1 yn0 ≠ 0 by omega)
  have m1 := Int.emod_lt_of_pos (u * 4294967296 + d) hY
  have q0 : 0 ≤ kQ yn1 yn0 u d := Int.ediv_nonneg hU (Int.le_of_lt hY)
  have q1 : kQ yn1 yn0 u d < 4294967296 := Int.ediv_lt_of_lt_mul hY (by have := h.u2; have := h.d2; unfold kY; omega)
  rw [Int.mul_comm] at e
  unfold kQ at *
  exact ⟨q0, by omega, by omega, by omega⟩
/-- What holds of an estimate q and its rest r at each test. -/
structure KInv (yn1 yn0 u d q r : Int) : Prop where
  lo : kQ yn1 yn0 u d ≤ q
  hi : q ≤ 4294967297
  re : q * yn1 + r = u
  r0 : 0 ≤ r
theorem k_start {yn1 yn0 u d : Int} (h : KSet yn1 yn0 u d) : KInv yn1 yn0 u d (u / yn1) (u - u / yn1 * yn1) ∧ u - u / yn1 * yn1 ≤ 4294967295 ∧ 0 ≤ u / yn1 * yn1 ∧ u / yn1 * yn1 ≤ u := by
  have hp : 0 < yn1 := by have := h.a1; omega
  have e := Int.mul_ediv_add_emod u yn1
  have m0 := Int.emod_nonneg u (show yn1 ≠ 0 by omega)
  have m1 := Int.emod_lt_of_pos u hp
  rw [Int.mul_comm] at e
  obtain ⟨s0, s1, s2, s3⟩ := kQ_spec h
  have n0 : 0 ≤ u / yn1 * yn1 := Int.mul_nonneg (Int.ediv_nonneg h.u1 (Int.le_of_lt hp)) (Int.le_of_lt hp)
  refine ⟨⟨?_, ?_, by omega, by omega⟩, by have := h.a2; omega, n0, by omega⟩
  · refine (Int.le_ediv_iff_mul_le hp).2 ?_
    have x : kQ yn1 yn0 u d * kY yn1 yn0 = kQ yn1 yn0 u d * yn1 * 4294967296 + kQ yn1 yn0 u d * yn0 := by unfold kY; rw [Int.mul_add, Int.mul_assoc]
    have y : 0 ≤ kQ yn1 yn0 u d * yn0 := Int.mul_nonneg s0 h.b1
    have := h.d2
    omega
  · have : u / yn1 < 4294967298 := Int.ediv_lt_of_lt_mul hp (by have := h.u2; have := h.a1; have := h.b2; omega)
    omega
theorem k_mul (q yn1 yn0 : Int) : q * kY yn1 yn0 = q * yn1 * 4294967296 + q * yn0 := by unfold kY; rw [Int.mul_add, Int.mul_assoc]
/-- The test says yes: the estimate is too great; the next one. -/
theorem k_more {yn1 yn0 u d q r : Int} (h : KSet yn1 yn0 u d) (k : KInv yn1 yn0 u d q r) (ht : 4294967296 ≤ q ∨ 4294967296 * r + d < q * yn0) : KInv yn1 yn0 u d (q - 1) (r + yn1) := by
  obtain ⟨s0, s1, s2, s3⟩ := kQ_spec h
  have hlt : kQ yn1 yn0 u d < q := by
    rcases ht with ht | ht
    · omega
    · rcases Int.lt_or_le (kQ yn1 yn0 u d) q with c | c
      · exact c
      · have hY : 0 ≤ kY yn1 yn0 := by have := h.a1; have := h.b1; unfold kY; omega
        have c1 := Int.mul_le_mul_of_nonneg_right c hY
        rw [k_mul q] at c1
        have := k.re
        omega
  have e : (q - 1) * yn1 = q * yn1 - yn1 := by rw [Int.sub_mul, Int.one_mul]
  exact ⟨by omega, by have := k.hi; omega, by rw [e]; have := k.re; omega, by have := k.r0; have := h.a1; omega⟩
/-- The test says no: the estimate is the digit. -/
theorem k_done {yn1 yn0 u d q r : Int} (h : KSet yn1 yn0 u d) (k : KInv yn1 yn0 u d q r) (ht : q * yn0 ≤ 4294967296 * r + d) : q = kQ yn1 yn0 u d := by
  obtain ⟨s0, s1, s2, s3⟩ := kQ_spec h
  have hY : 0 < kY yn1 yn0 := by have := h.a1; have := h.b1; unfold kY; omega
  have hle : q * kY yn1 yn0 ≤ u * 4294967296 + d := by rw [k_mul]; have := k.re; omega
  have : q ≤ kQ yn1 yn0 u d := (Int.le_ediv_iff_mul_le hY).2 hle
  have := k.lo
  omega
/-- The rest has grown beyond 32 bits: the estimate is the digit. -/
theorem k_break {yn1 yn0 u d q r : Int} (h : KSet yn1 yn0 u d) (k : KInv yn1 yn0 u d q r) (hq : q ≤ 4294967296) (hr : 4294967296 ≤ r) : q = kQ yn1 yn0 u d := by
  refine k_done h k ?_
  have s0 := (kQ_spec h).1
  have := (prod_bd (x := q) (y := yn0) (M := 4294967296) (N := 4294967295) (by have := k.lo; omega) hq h.b1 h.b2).2
  have := h.d1
  omega
end Go.Lott.Num
