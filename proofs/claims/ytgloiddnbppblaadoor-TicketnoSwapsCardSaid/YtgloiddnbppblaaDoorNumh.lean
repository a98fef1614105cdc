/- Powers and greatest common divisors of package num and of its reference. -/
import Derived.Test.YtgloiddnbppblaaDoorNumg
namespace Go.Proofs.YtgloiddnbppblaaDoor
open Go.ChangeShapes Go.WideShapes Go.ChangeAt Go.RowKit Go.Lott

set_option maxHeartbeats 1000000 in
theorem Power_any (a n : Int) (w : World) (ha0 : -9223372036854775808 ≤ a) (ha1 : a ≤ 9223372036854775807) :
    Calls Tryd.prog 31 #[.int .i64 a, .int .i64 n] w (RetS (.tuple #[.int .i64 (Num.pwN a n), .int .i64 (Num.pwE a n)]) w) := by
  by_cases hn : n < 0 ∨ 62 < n
  · have HV := Lib.hid (Num.pw_range (a := a) hn)
    go_enter Tryd.func31, Tryd.ntmps31
    go_wp2
    all_goals first
      | (go_ret2; exact ⟨ret_two HV.out.1 HV.out.2, rfl⟩)
      | (exfalso; omega)
  · obtain ⟨N, rfl⟩ := Int.eq_ofNat_of_zero_le (show 0 ≤ n by omega)
    have hN : N ≤ 62 := by omega
    have d1 : decide ((N : Int) < 0) = false := decide_eq_false (by omega)
    have d2 : decide (62 < (N : Int)) = false := decide_eq_false (by omega)
    clear hn
    go_enter Tryd.func31, Tryd.ntmps31
    go_wp2
    go_loop [6, 16] (fun v i => ∃ (k : Nat) (p : Int), k ≤ N ∧ v = .int .i64 p ∧ i = .int .i64 k ∧ Hid (Num.pwS a k = some p) ∧ -9223372036854775808 ≤ p ∧ p ≤ 9223372036854775807) (fun _ i => N - (intOf i).toNat)
    case atStart => exact ⟨0, 1, by omega, rfl, rfl, rfl, by omega, by omega⟩
    case round =>
      obtain ⟨k, p, hk, rfl, rfl, HS, p0, p1⟩ := hrel
      by_cases hlt : k < N
      · by_cases hr : -9223372036854775808 ≤ p * a ∧ p * a ≤ 9223372036854775807
        · obtain ⟨e1, e2⟩ := Num.ok_yes hr
          have HN := Lib.hid (Num.pwS_yes HS.out ((Num.inR_iff _).2 hr))
          obtain ⟨r0, r1⟩ := hr
          go_wp2_with (go_at_call 23; refine (Mul_any _ _ _ p0 p1 ha0 ha1).mono ?_; rintro e w' ⟨rfl, rfl⟩)
          go_round
          case rel => exact ⟨k + 1, p * a, by omega, rfl, by go_num, HN.out, r0, r1⟩
          case measure => simp [intOf]; omega
        · obtain ⟨e1, e2⟩ := Num.ok_no hr
          have HV := Lib.hid (Num.pw_none hN (show k + 1 ≤ N by omega) (Num.pwS_no HS.out (decide_eq_false hr)))
          clear hr
          go_wp2_with (go_at_call 23; refine (Mul_any _ _ _ p0 p1 ha0 ha1).mono ?_; rintro e w' ⟨rfl, rfl⟩)
          go_ret2
          exact ⟨ret_two HV.out.1 HV.out.2, rfl⟩
      · obtain rfl : k = N := by omega
        have HV := Lib.hid (Num.pw_some hN HS.out)
        go_wp2
        go_ret2
        exact ⟨ret_two HV.out.1 HV.out.2, rfl⟩
set_option maxHeartbeats 1000000 in
theorem rPower_any (a n : Int) (w : World) (ha0 : -9223372036854775808 ≤ a) (ha1 : a ≤ 9223372036854775807) :
    Calls Tryd.prog 32 #[.int .i64 a, .int .i64 n] w (RetS (.tuple #[.int .i64 (Num.pwN a n), .int .i64 (Num.pwE a n)]) w) := by
  by_cases hn : n < 0 ∨ 62 < n
  · have HV := Lib.hid (Num.pw_range (a := a) hn)
    go_enter Tryd.func32, Tryd.ntmps32
    go_wp2
    all_goals first
      | (go_ret2; exact ⟨ret_two HV.out.1 HV.out.2, rfl⟩)
      | (exfalso; omega)
  · obtain ⟨N, rfl⟩ := Int.eq_ofNat_of_zero_le (show 0 ≤ n by omega)
    have hN : N ≤ 62 := by omega
    have d1 : decide ((N : Int) < 0) = false := decide_eq_false (by omega)
    have d2 : decide (62 < (N : Int)) = false := decide_eq_false (by omega)
    clear hn
    go_enter Tryd.func32, Tryd.ntmps32
    go_wp2
    go_loop [6, 7] (fun v i => ∃ (k : Nat) (p : Int), k ≤ N ∧ v = .int .i64 p ∧ i = .int .i64 k ∧ Hid (Num.pwS a k = some p) ∧ -9223372036854775808 ≤ p ∧ p ≤ 9223372036854775807) (fun _ i => N - (intOf i).toNat)
    case atStart => exact ⟨0, 1, by omega, rfl, rfl, rfl, by omega, by omega⟩
    case round =>
      obtain ⟨k, p, hk, rfl, rfl, HS, p0, p1⟩ := hrel
      by_cases hlt : k < N
      · by_cases hr : -9223372036854775808 ≤ p * a ∧ p * a ≤ 9223372036854775807
        · obtain ⟨e1, e2⟩ := Num.ok_yes hr
          have HN := Lib.hid (Num.pwS_yes HS.out ((Num.inR_iff _).2 hr))
          obtain ⟨r0, r1⟩ := hr
          go_wp2_with (go_at_call 26; refine (rMul_any _ _ _ p0 p1 ha0 ha1).mono ?_; rintro e w' ⟨rfl, rfl⟩)
          go_round
          case rel => exact ⟨k + 1, p * a, by omega, rfl, by go_num, HN.out, r0, r1⟩
          case measure => simp [intOf]; omega
        · obtain ⟨e1, e2⟩ := Num.ok_no hr
          have HV := Lib.hid (Num.pw_none hN (show k + 1 ≤ N by omega) (Num.pwS_no HS.out (decide_eq_false hr)))
          clear hr
          go_wp2_with (go_at_call 26; refine (rMul_any _ _ _ p0 p1 ha0 ha1).mono ?_; rintro e w' ⟨rfl, rfl⟩)
          go_ret2
          exact ⟨ret_two HV.out.1 HV.out.2, rfl⟩
      · obtain rfl : k = N := by omega
        have HV := Lib.hid (Num.pw_some hN HS.out)
        go_wp2
        go_ret2
        exact ⟨ret_two HV.out.1 HV.out.2, rfl⟩
end Go.Proofs.YtgloiddnbppblaaDoor
