/- Products of package num and of its reference: both compute the same plain function. -/
import Derived.Test.YtnnocbelgfhecaaGreatDoorNuma
import Derived.Test.YtnnocbelgfhecaaGreatDoorShelf
namespace Go.Proofs.YtnnocbelgfhecaaGreatDoor
open Go.ChangeShapes Go.WideShapes Go.ChangeAt Go.RowKit Go.Lott

theorem Mul64_v (x y hi lo : Int) (w : World) (x0 : 0 ≤ x) (x1 : x ≤ 18446744073709551615) (y0 : 0 ≤ y) (y1 : y ≤ 18446744073709551615) (h : x * y = hi * 18446744073709551616 + lo) (l0 : 0 ≤ lo) (l1 : lo ≤ 18446744073709551615) :
    Calls Tryz.prog 100 #[.int .u64 x, .int .u64 y] w (RetS (.tuple #[.int .u64 hi, .int .u64 lo]) w) := by
  obtain ⟨n, rfl⟩ := Int.eq_ofNat_of_zero_le x0
  obtain ⟨m, rfl⟩ := Int.eq_ofNat_of_zero_le y0
  have hc := Tryz.bits_Mul64 n m (by omega) (by omega) w
  have e1 : ((n * m / 18446744073709551616 : Nat) : Int) = hi := by rw [Int.natCast_ediv, Int.natCast_mul, h]; omega
  have e2 : ((n * m % 18446744073709551616 : Nat) : Int) = lo := by rw [Int.natCast_emod, Int.natCast_mul, h]; omega
  rw [e1, e2] at hc
  exact hc.mono fun _ _ ⟨he, hw⟩ => ⟨he, hw.symm⟩

/-- What the walks need of a product. -/
theorem mul_cases (a b : Int) (ha : -9223372036854775808 ≤ a ∧ a ≤ 9223372036854775807) (hb : -9223372036854775808 ≤ b ∧ b ≤ 9223372036854775807) :
    ∃ p : Int, Num.ab a * Num.ab b = p ∧ 0 ≤ p ∧ (((a < 0) ↔ (b < 0)) → a * b = p) ∧ (¬ ((a < 0) ↔ (b < 0)) → a * b = -p) := by
  refine ⟨_, rfl, Int.mul_nonneg (Num.ab_bd ha).1 (Num.ab_bd hb).1, fun h => ?_, fun h => ?_⟩
  · rw [Num.ab_mul]; have := (Num.mul_sign a b).1 h; unfold Num.ab; rw [if_neg (by omega)]
  · rw [Num.ab_mul]; have := (Num.mul_sign a b).2 h; unfold Num.ab; split <;> omega

set_option maxHeartbeats 1000000 in
theorem Mul_any (a b : Int) (w : World) (ha0 : -9223372036854775808 ≤ a) (ha1 : a ≤ 9223372036854775807) (hb0 : -9223372036854775808 ≤ b) (hb1 : b ≤ 9223372036854775807) :
    Calls Tryz.prog 68 #[.int .i64 a, .int .i64 b] w (RetS (.tuple #[.int .i64 (Num.okN (a * b)), .int .i64 (Num.okE (a * b))]) w) := by
  obtain ⟨p, hp, p0, hs, hd⟩ := mul_cases a b ⟨ha0, ha1⟩ ⟨hb0, hb1⟩
  have ba := Num.ab_bd ⟨ha0, ha1⟩
  have bb := Num.ab_bd ⟨hb0, hb1⟩
  generalize hx : a * b = x at *
  clear hx
  have HP := Lib.hid hp
  clear hp
  by_cases hbig : 18446744073709551616 ≤ p
  · have HV := Lib.hid (Num.ok_no (n := x) (by by_cases c : ((a < 0) ↔ (b < 0)); have := hs c; omega; have := hd c; omega))
    have h1 : p / 18446744073709551616 * 18446744073709551616 + p % 18446744073709551616 = p := by omega
    have h2 : 0 ≤ p % 18446744073709551616 ∧ p % 18446744073709551616 ≤ 18446744073709551615 := by omega
    have h3 : 1 ≤ p / 18446744073709551616 := by omega
    generalize p / 18446744073709551616 = hi at *
    generalize p % 18446744073709551616 = lo at *
    have HE := Lib.hid (HP.out.trans h1.symm)
    have hn : (hi != 0) = true := by rw [bne_iff_ne]; omega
    clear hs hd hbig h1
    go_enter Tryz.func68, Tryz.ntmps68
    go_wp2_with (first | (go_at_call 101; refine (mag_any _ _ (by omega) (by omega)).mono ?_; rintro e w' ⟨rfl, rfl⟩) | (go_at_call 100; refine (Mul64_v _ _ hi lo _ ba.1 (by omega) bb.1 (by omega) HE.out h2.1 h2.2).mono ?_; rintro e w' ⟨rfl, rfl⟩))
    go_ret2
    exact ⟨ret_two HV.out.1.symm HV.out.2.symm, rfl⟩
  · have HE := Lib.hid (HP.out.trans (show p = 0 * 18446744073709551616 + p by omega))
    by_cases ca : a < 0
    · have da : decide (a < 0) = true := decide_eq_true ca
      by_cases cb : b < 0
      · have db : decide (b < 0) = true := decide_eq_true cb
        have hx := hs ⟨fun _ => cb, fun _ => ca⟩
        clear hs hd
        by_cases hle : p ≤ 9223372036854775807
        · have HV := Lib.hid (show p = Num.okN x ∧ 0 = Num.okE x by have := Num.ok_yes (n := x) (by omega); omega)
          clear hx
          go_enter Tryz.func68, Tryz.ntmps68
          go_wp2_with (first | (go_at_call 101; refine (mag_any _ _ (by omega) (by omega)).mono ?_; rintro e w' ⟨rfl, rfl⟩) | (go_at_call 100; refine (Mul64_v _ _ 0 p _ ba.1 (by omega) bb.1 (by omega) HE.out p0 (by omega)).mono ?_; rintro e w' ⟨rfl, rfl⟩))
          go_ret2
          exact ⟨ret_two HV.out.1 HV.out.2, rfl⟩
        · have HV := Lib.hid (show 0 = Num.okN x ∧ 9 = Num.okE x by have := Num.ok_no (n := x) (by omega); omega)
          clear hx
          go_enter Tryz.func68, Tryz.ntmps68
          go_wp2_with (first | (go_at_call 101; refine (mag_any _ _ (by omega) (by omega)).mono ?_; rintro e w' ⟨rfl, rfl⟩) | (go_at_call 100; refine (Mul64_v _ _ 0 p _ ba.1 (by omega) bb.1 (by omega) HE.out p0 (by omega)).mono ?_; rintro e w' ⟨rfl, rfl⟩))
          go_ret2
          exact ⟨ret_two HV.out.1 HV.out.2, rfl⟩
      · have db : decide (b < 0) = false := decide_eq_false cb
        have hx := hd (fun h => cb (h.1 ca))
        clear hs hd
        by_cases hz : p = 0
        · have HV := Lib.hid (show 0 = Num.okN x ∧ 0 = Num.okE x by have := Num.ok_yes (n := x) (by omega); omega)
          clear hx
          subst hz
          go_enter Tryz.func68, Tryz.ntmps68
          go_wp2_with (first | (go_at_call 101; refine (mag_any _ _ (by omega) (by omega)).mono ?_; rintro e w' ⟨rfl, rfl⟩) | (go_at_call 100; refine (Mul64_v _ _ 0 0 _ ba.1 (by omega) bb.1 (by omega) HE.out (by omega) (by omega)).mono ?_; rintro e w' ⟨rfl, rfl⟩))
          go_ret2
          exact ⟨ret_two HV.out.1 HV.out.2, rfl⟩
        · have hz1 : (p == 0) = false := by simp [hz]
          have hp1 : 1 ≤ p := by omega
          clear hz
          by_cases hle : p ≤ 9223372036854775808
          · have HV := Lib.hid (show -(p - 1) - 1 = Num.okN x ∧ 0 = Num.okE x by have := Num.ok_yes (n := x) (by omega); omega)
            clear hx
            go_enter Tryz.func68, Tryz.ntmps68
            go_wp2_with (first | (go_at_call 101; refine (mag_any _ _ (by omega) (by omega)).mono ?_; rintro e w' ⟨rfl, rfl⟩) | (go_at_call 100; refine (Mul64_v _ _ 0 p _ ba.1 (by omega) bb.1 (by omega) HE.out p0 (by omega)).mono ?_; rintro e w' ⟨rfl, rfl⟩))
            go_ret2
            exact ⟨ret_two HV.out.1 HV.out.2, rfl⟩
          · have HV := Lib.hid (show 0 = Num.okN x ∧ 9 = Num.okE x by have := Num.ok_no (n := x) (by omega); omega)
            clear hx
            go_enter Tryz.func68, Tryz.ntmps68
            go_wp2_with (first | (go_at_call 101; refine (mag_any _ _ (by omega) (by omega)).mono ?_; rintro e w' ⟨rfl, rfl⟩) | (go_at_call 100; refine (Mul64_v _ _ 0 p _ ba.1 (by omega) bb.1 (by omega) HE.out p0 (by omega)).mono ?_; rintro e w' ⟨rfl, rfl⟩))
            go_ret2
            exact ⟨ret_two HV.out.1 HV.out.2, rfl⟩
    · have da : decide (a < 0) = false := decide_eq_false ca
      by_cases cb : b < 0
      · have db : decide (b < 0) = true := decide_eq_true cb
        have hx := hd (fun h => ca (h.2 cb))
        clear hs hd
        by_cases hz : p = 0
        · have HV := Lib.hid (show 0 = Num.okN x ∧ 0 = Num.okE x by have := Num.ok_yes (n := x) (by omega); omega)
          clear hx
          subst hz
          go_enter Tryz.func68, Tryz.ntmps68
          go_wp2_with (first | (go_at_call 101; refine (mag_any _ _ (by omega) (by omega)).mono ?_; rintro e w' ⟨rfl, rfl⟩) | (go_at_call 100; refine (Mul64_v _ _ 0 0 _ ba.1 (by omega) bb.1 (by omega) HE.out (by omega) (by omega)).mono ?_; rintro e w' ⟨rfl, rfl⟩))
          go_ret2
          exact ⟨ret_two HV.out.1 HV.out.2, rfl⟩
        · have hz1 : (p == 0) = false := by simp [hz]
          have hp1 : 1 ≤ p := by omega
          clear hz
          by_cases hle : p ≤ 9223372036854775808
          · have HV := Lib.hid (show -(p - 1) - 1 = Num.okN x ∧ 0 = Num.okE x by have := Num.ok_yes (n := x) (by omega); omega)
            clear hx
            go_enter Tryz.func68, Tryz.ntmps68
            go_wp2_with (first | (go_at_call 101; refine (mag_any _ _ (by omega) (by omega)).mono ?_; rintro e w' ⟨rfl, rfl⟩) | (go_at_call 100; refine (Mul64_v _ _ 0 p _ ba.1 (by omega) bb.1 (by omega) HE.out p0 (by omega)).mono ?_; rintro e w' ⟨rfl, rfl⟩))
            go_ret2
            exact ⟨ret_two HV.out.1 HV.out.2, rfl⟩
          · have HV := Lib.hid (show 0 = Num.okN x ∧ 9 = Num.okE x by have := Num.ok_no (n := x) (by omega); omega)
            clear hx
            go_enter Tryz.func68, Tryz.ntmps68
            go_wp2_with (first | (go_at_call 101; refine (mag_any _ _ (by omega) (by omega)).mono ?_; rintro e w' ⟨rfl, rfl⟩) | (go_at_call 100; refine (Mul64_v _ _ 0 p _ ba.1 (by omega) bb.1 (by omega) HE.out p0 (by omega)).mono ?_; rintro e w' ⟨rfl, rfl⟩))
            go_ret2
            exact ⟨ret_two HV.out.1 HV.out.2, rfl⟩
      · have db : decide (b < 0) = false := decide_eq_false cb
        have hx := hs ⟨fun c => (ca c).elim, fun c => (cb c).elim⟩
        clear hs hd
        by_cases hle : p ≤ 9223372036854775807
        · have HV := Lib.hid (show p = Num.okN x ∧ 0 = Num.okE x by have := Num.ok_yes (n := x) (by omega); omega)
          clear hx
          go_enter Tryz.func68, Tryz.ntmps68
          go_wp2_with (first | (go_at_call 101; refine (mag_any _ _ (by omega) (by omega)).mono ?_; rintro e w' ⟨rfl, rfl⟩) | (go_at_call 100; refine (Mul64_v _ _ 0 p _ ba.1 (by omega) bb.1 (by omega) HE.out p0 (by omega)).mono ?_; rintro e w' ⟨rfl, rfl⟩))
          go_ret2
          exact ⟨ret_two HV.out.1 HV.out.2, rfl⟩
        · have HV := Lib.hid (show 0 = Num.okN x ∧ 9 = Num.okE x by have := Num.ok_no (n := x) (by omega); omega)
          clear hx
          go_enter Tryz.func68, Tryz.ntmps68
          go_wp2_with (first | (go_at_call 101; refine (mag_any _ _ (by omega) (by omega)).mono ?_; rintro e w' ⟨rfl, rfl⟩) | (go_at_call 100; refine (Mul64_v _ _ 0 p _ ba.1 (by omega) bb.1 (by omega) HE.out p0 (by omega)).mono ?_; rintro e w' ⟨rfl, rfl⟩))
          go_ret2
          exact ⟨ret_two HV.out.1 HV.out.2, rfl⟩
end Go.Proofs.YtnnocbelgfhecaaGreatDoor
