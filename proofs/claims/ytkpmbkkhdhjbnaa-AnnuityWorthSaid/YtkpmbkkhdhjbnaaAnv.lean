/- Plain facts on the present value: it falls with the rate, lies between the first payment and the sum, is the sum at rate 0. -/
import Derived.Test.YtkpmbkkhdhjbnaaAnr
namespace Go.Lott.Spl
theorem quo_mono {v v' r r' : Int} (h0 : 0 ≤ v') (h : v' ≤ v) (hr : 0 ≤ r) (hr' : r ≤ r') : v' * 10000 / (10000 + r') ≤ v * 10000 / (10000 + r) := by
  have h1 : v' * 10000 / (10000 + r) ≤ v * 10000 / (10000 + r) := Int.ediv_le_ediv (by omega) (by omega)
  refine Int.le_trans ?_ h1
  have h2 : 0 ≤ v' * 10000 / (10000 + r') := Int.ediv_nonneg (by omega) (by omega)
  refine (Int.le_ediv_iff_mul_le (by omega)).2 ?_
  have h3 : v' * 10000 / (10000 + r') * (10000 + r') ≤ v' * 10000 := Int.ediv_mul_le _ (by omega)
  have h4 : v' * 10000 / (10000 + r') * (10000 + r) ≤ v' * 10000 / (10000 + r') * (10000 + r') := Int.mul_le_mul_of_nonneg_left (by omega) h2
  omega
theorem cs_mono {n : Nat} {ws : Nat → Int} {r r' : Int} (h : ∀ i, i < n → 0 ≤ ws i ∧ ws i ≤ 1000000000000) (hr : 0 ≤ r) (hr' : r ≤ r') : ∀ k, k ≤ n → cs n ws r' k ≤ cs n ws r k
  | 0, _ => Int.le_refl _
  | k + 1, hk => by
    have h1 := cs_mono h hr hr' k (by omega)
    have h2 := (cs_bd (r := r') (by omega) h k (by omega)).1
    have := quo_mono h2 h1 hr hr'
    show _ / _ + _ ≤ _ / _ + _
    omega
theorem cs_tl {n : Nat} {ws : Nat → Int} {r : Int} (h : ∀ i, i < n → 0 ≤ ws i ∧ ws i ≤ 1000000000000) (hr : 0 ≤ r) : ∀ k, k ≤ n → cs n ws r k ≤ tl n ws (n - k)
  | 0, _ => by rw [Nat.sub_zero, tl_end]; exact Int.le_refl _
  | k + 1, hk => by
    have h1 := cs_tl h hr k (by omega)
    have h2 := (quo_le (cs_bd hr h k (by omega)).1 hr).2
    have h3 := tl_next (ws := ws) (show n - (k + 1) < n by omega)
    rw [show n - (k + 1) + 1 = n - k by omega] at h3
    rw [h3, show n - (k + 1) = n - 1 - k by omega]
    show _ / _ + _ ≤ _
    omega
theorem cs_zero {n : Nat} {ws : Nat → Int} : ∀ k, k ≤ n → cs n ws 0 k = tl n ws (n - k)
  | 0, _ => by rw [Nat.sub_zero, tl_end]; rfl
  | k + 1, hk => by
    have h1 := cs_zero (ws := ws) k (by omega : k ≤ n)
    have h3 := tl_next (ws := ws) (show n - (k + 1) < n by omega)
    rw [show n - (k + 1) + 1 = n - k by omega] at h3
    rw [h3, show n - (k + 1) = n - 1 - k by omega, ← h1]
    show cs n ws 0 k * 10000 / (10000 + 0) + ws (n - 1 - k) = _
    have : cs n ws 0 k * 10000 / (10000 + 0) = cs n ws 0 k := by omega
    omega
theorem cs_first {n : Nat} {ws : Nat → Int} {r : Int} (h : ∀ i, i < n → 0 ≤ ws i ∧ ws i ≤ 1000000000000) (hr : 0 ≤ r) (hn : 1 ≤ n) : ws 0 ≤ cs n ws r n := by
  obtain ⟨m, rfl⟩ : ∃ m, n = m + 1 := ⟨n - 1, by omega⟩
  have h2 := (quo_le (cs_bd hr h m (by omega)).1 hr).1
  show ws 0 ≤ _ / _ + ws (m + 1 - 1 - m)
  rw [show m + 1 - 1 - m = 0 by omega]
  omega
end Go.Lott.Spl
