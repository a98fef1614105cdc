/- Quotients of products: package num. -/
import Derived.Test.YtkpmbkkhdhjbnaaNume
namespace Go.Proofs.Ytkpmbkkhdhjbnaa
open Go.ChangeShapes Go.WideShapes Go.ChangeAt Go.RowKit Go.Lott

theorem Div64_zero (lo y : Int) (w : World) (h1 : 1 ≤ y) (y1 : y ≤ 18446744073709551615) (l0 : 0 ≤ lo) (l1 : lo ≤ 18446744073709551615) :
    Calls Try.prog 59 #[.int .u64 0, .int .u64 lo, .int .u64 y] w (RetB (.tuple #[.int .u64 (lo / y), .int .u64 (lo % y)]) w) := by
  have hy0 : (y == 0) = false := by simp; omega
  have hle : decide (y ≤ 0) = false := decide_eq_false (by omega)
  have d0 : 0 ≤ lo / y := Int.ediv_nonneg l0 (by omega)
  have d1 : lo / y ≤ lo := Int.ediv_le_self _ l0
  have d2 := Int.emod_nonneg lo (show y ≠ 0 by omega)
  have d3 := Int.emod_lt_of_pos lo (show 0 < y by omega)
  go_enter Try.func59, Try.ntmps59
  go_wp2
  refine wp_region_below (by kernel_rfl) (by kernel_rfl) ?_
  repeat (go_big_quiet_step (fail))
  refine wpQuiet_nil ?_
  rintro w1 ⟨⟨_, hb1⟩, rfl⟩
  go_wp2
  go_ret2
  exact ⟨rfl, hb1⟩
theorem toB {P : Program} {f : FuncId} {args : Array Value} {v : Value} {w : World} (h : Calls P f args w (RetS v w)) : Calls P f args w (RetB v w) := h.mono fun _ _ ⟨he, hw⟩ => ⟨he, by rw [← hw]; exact Below.refl _ _⟩
/-- Quotient, remainder and error of a * b and c. -/
def mdB (a b c : Int) : Bool := decide (0 ≤ a ∧ 0 ≤ b ∧ 1 ≤ c ∧ a * b / c ≤ 9223372036854775807)
def mdQ (a b c : Int) : Int := if mdB a b c then a * b / c else 0
def mdR (a b c : Int) : Int := if mdB a b c then a * b % c else 0
def mdE (a b c : Int) : Int := if c = 0 then 10 else if a < 0 ∨ b < 0 ∨ c < 0 then 2 else if mdB a b c then 0 else 9
def mdV (a b c : Int) : Value := .tuple #[.int .i64 (mdQ a b c), .int .i64 (mdR a b c), .int .i64 (mdE a b c)]
theorem md_zero {a b c : Int} (h : c = 0) : 0 = mdQ a b c ∧ 0 = mdR a b c ∧ 10 = mdE a b c := by
  have : mdB a b c = false := decide_eq_false (by omega)
  unfold mdQ mdR mdE; rw [this, if_pos h]; exact ⟨rfl, rfl, rfl⟩
theorem md_range {a b c : Int} (h : c ≠ 0) (h1 : a < 0 ∨ b < 0 ∨ c < 0) : 0 = mdQ a b c ∧ 0 = mdR a b c ∧ 2 = mdE a b c := by
  have : mdB a b c = false := decide_eq_false (by omega)
  unfold mdQ mdR mdE; rw [this, if_neg h, if_pos h1]; exact ⟨rfl, rfl, rfl⟩
theorem md_over {a b c : Int} (h0 : 0 ≤ a ∧ 0 ≤ b ∧ 1 ≤ c) (h : 9223372036854775807 < a * b / c) : 0 = mdQ a b c ∧ 0 = mdR a b c ∧ 9 = mdE a b c := by
  have : mdB a b c = false := decide_eq_false (by omega)
  unfold mdQ mdR mdE; rw [this, if_neg (show ¬ c = 0 by omega), if_neg (show ¬ (a < 0 ∨ b < 0 ∨ c < 0) by omega)]; exact ⟨rfl, rfl, rfl⟩
theorem md_fine {a b c : Int} (h0 : 0 ≤ a ∧ 0 ≤ b ∧ 1 ≤ c) (h : a * b / c ≤ 9223372036854775807) : a * b / c = mdQ a b c ∧ a * b % c = mdR a b c ∧ 0 = mdE a b c := by
  have : mdB a b c = true := decide_eq_true ⟨h0.1, h0.2.1, h0.2.2, h⟩
  unfold mdQ mdR mdE; rw [this, if_neg (show ¬ c = 0 by omega), if_neg (show ¬ (a < 0 ∨ b < 0 ∨ c < 0) by omega)]; exact ⟨rfl, rfl, rfl⟩
set_option maxHeartbeats 1000000 in
theorem MulDiv_any (a b c : Int) (w : World) (ha1 : a ≤ 9223372036854775807) (hb1 : b ≤ 9223372036854775807) (hc1 : c ≤ 9223372036854775807) (ha0 : -9223372036854775808 ≤ a) (hb0 : -9223372036854775808 ≤ b) (hc0 : -9223372036854775808 ≤ c) :
    Calls Try.prog 41 #[.int .i64 a, .int .i64 b, .int .i64 c] w (RetB (mdV a b c) w) := by
  have hbel := Below.refl w.heap.size w
  by_cases hc : c = 0
  · have HV := Lib.hid (md_zero (a := a) (b := b) hc)
    have hz : (c == 0) = true := by simp [hc]
    clear hc
    go_enter Try.func41, Try.ntmps41
    go_wp2
    go_ret3
    exact ⟨ret_three HV.out.1 HV.out.2.1 HV.out.2.2, hbel⟩
  · have hz : (c == 0) = false := by simp [hc]
    by_cases hn : a < 0 ∨ b < 0 ∨ c < 0
    · have HV := Lib.hid (md_range (a := a) (b := b) hc hn)
      clear hc
      go_enter Try.func41, Try.ntmps41
      go_wp2
      all_goals first
        | (go_ret3; exact ⟨ret_three HV.out.1 HV.out.2.1 HV.out.2.2, hbel⟩)
        | (exfalso; omega)
    · obtain ⟨p, hp⟩ : ∃ p, a * b = p := ⟨_, rfl⟩
      have a0 : 0 ≤ a := by omega
      have b0 : 0 ≤ b := by omega
      have c0 : 1 ≤ c := by omega
      have p0 : 0 ≤ p := by rw [← hp]; exact Int.mul_nonneg a0 b0
      have h1 : p / 18446744073709551616 * 18446744073709551616 + p % 18446744073709551616 = p := by omega
      have h2 : 0 ≤ p % 18446744073709551616 ∧ p % 18446744073709551616 ≤ 18446744073709551615 := by omega
      have h3 : 0 ≤ p / 18446744073709551616 := by omega
      have HP := Lib.hid (hp.trans h1.symm)
      have HPP := Lib.hid hp
      generalize p / 18446744073709551616 = hi at *
      generalize p % 18446744073709551616 = lo at *
      obtain ⟨l0, l1⟩ := h2
      have H1 := Lib.hid h1
      clear hp h1 hn hc
      by_cases hbig : c ≤ hi
      · have HV := Lib.hid (md_over (a := a) (b := b) (c := c) ⟨a0, b0, c0⟩ (by
          rw [HPP.out]
          have : 9223372036854775808 ≤ p / c := (Int.le_ediv_iff_mul_le (by omega)).2 (by have := H1.out; omega)
          omega))
        have d1 : decide (c ≤ hi) = true := decide_eq_true hbig
        go_enter Try.func41, Try.ntmps41
        go_wp2_with (go_at_call 58; refine (Mul64_v _ _ hi lo _ (by omega) (by omega) (by omega) (by omega) HP.out l0 l1).mono ?_; rintro e w' ⟨rfl, rfl⟩)
        go_ret3
        exact ⟨ret_three HV.out.1 HV.out.2.1 HV.out.2.2, hbel⟩
      · have d1 : decide (c ≤ hi) = false := decide_eq_false hbig
        obtain ⟨Q, hQ⟩ : ∃ Q, p / c = Q := ⟨_, rfl⟩
        obtain ⟨R, hR⟩ : ∃ R, p % c = R := ⟨_, rfl⟩
        have Q0 : 0 ≤ Q := by rw [← hQ]; exact Int.ediv_nonneg p0 (by omega)
        have R0 : 0 ≤ R := by rw [← hR]; exact Int.emod_nonneg p (by omega)
        have R1 : R < c := by rw [← hR]; exact Int.emod_lt_of_pos p (by omega)
        have HD : Hid (∀ w, Calls Try.prog 59 #[.int .u64 hi, .int .u64 lo, .int .u64 c] w (RetB (.tuple #[.int .u64 Q, .int .u64 R]) w)) := Lib.hid (fun w => by
          by_cases z : hi = 0
          · have e : lo = p := by have := H1.out; omega
            rw [z, ← hQ, ← hR, ← e]
            exact Div64_zero lo c w c0 (by omega) l0 l1
          · exact toB (Div64_any hi lo c Q R w (by omega) (by omega) (by omega) l0 l1 (by rw [H1.out]; exact hQ) (by rw [H1.out]; exact hR)))
        by_cases hq : Q ≤ 9223372036854775807
        · have HV := Lib.hid (md_fine (a := a) (b := b) (c := c) ⟨a0, b0, c0⟩ (by rw [HPP.out, hQ]; exact hq))
          rw [HPP.out, hQ, hR] at HV
          clear hQ hR
          go_enter Try.func41, Try.ntmps41
          go_wp2_with (first | (go_at_call 58; refine (Mul64_v _ _ hi lo _ (by omega) (by omega) (by omega) (by omega) HP.out l0 l1).mono ?_; rintro e w' ⟨rfl, rfl⟩) | (go_at_call 59; refine (HD.out _).mono ?_; rintro e w1 ⟨rfl, hb1⟩; replace hbel := hbel.trans (hb1.mono hbel.size); clear hb1))
          go_ret3
          exact ⟨ret_three HV.out.1 HV.out.2.1 HV.out.2.2, hbel⟩
        · have HV := Lib.hid (md_over (a := a) (b := b) (c := c) ⟨a0, b0, c0⟩ (by rw [HPP.out, hQ]; omega))
          have hq' : 9223372036854775807 < Q := by omega
          clear hQ hR hq
          go_enter Try.func41, Try.ntmps41
          go_wp2_with (first | (go_at_call 58; refine (Mul64_v _ _ hi lo _ (by omega) (by omega) (by omega) (by omega) HP.out l0 l1).mono ?_; rintro e w' ⟨rfl, rfl⟩) | (go_at_call 59; refine (HD.out _).mono ?_; rintro e w1 ⟨rfl, hb1⟩; replace hbel := hbel.trans (hb1.mono hbel.size); clear hb1))
          go_ret3
          exact ⟨ret_three HV.out.1 HV.out.2.1 HV.out.2.2, hbel⟩
end Go.Proofs.Ytkpmbkkhdhjbnaa
