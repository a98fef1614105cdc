/- Sums, differences and absolute values of package num and of its reference: both compute the same plain functions. -/
import Derived.Test.YtgloiddnbppblaaDoorRows
import Derived.Test.YtgloiddnbppblaaDoorKit
import Derived.Test.YtgloiddnbppblaaDoorNumd
namespace Go.Proofs.YtgloiddnbppblaaDoor
open Go.ChangeShapes Go.WideShapes Go.ChangeAt Go.RowKit Go.Lott

theorem Add_any (a b : Int) (w : World) (ha0 : -9223372036854775808 ≤ a) (ha1 : a ≤ 9223372036854775807) (hb0 : -9223372036854775808 ≤ b) (hb1 : b ≤ 9223372036854775807) :
    Calls Tryd.prog 21 #[.int .i64 a, .int .i64 b] w (RetS (.tuple #[.int .i64 (Num.okN (a + b)), .int .i64 (Num.okE (a + b))]) w) := by
  by_cases h1 : 0 < b
  · by_cases h : -9223372036854775808 ≤ a + b ∧ a + b ≤ 9223372036854775807
    · have HV := Lib.hid (Num.ok_yes h)
      obtain ⟨l1, l2⟩ := h
      go_enter Tryd.func21, Tryd.ntmps21
      go_wp2
      go_ret2
      exact ⟨ret_two HV.out.1.symm HV.out.2.symm, rfl⟩
    · have HV := Lib.hid (Num.ok_no h)
      have l1 : 9223372036854775807 < a + b ∨ a + b < -9223372036854775808 := by omega
      clear h
      go_enter Tryd.func21, Tryd.ntmps21
      go_wp2
      go_ret2
      exact ⟨ret_two HV.out.1.symm HV.out.2.symm, rfl⟩
  · by_cases h2 : b < 0
    · by_cases h : -9223372036854775808 ≤ a + b ∧ a + b ≤ 9223372036854775807
      · have HV := Lib.hid (Num.ok_yes h)
        obtain ⟨l1, l2⟩ := h
        go_enter Tryd.func21, Tryd.ntmps21
        go_wp2
        go_ret2
        exact ⟨ret_two HV.out.1.symm HV.out.2.symm, rfl⟩
      · have HV := Lib.hid (Num.ok_no h)
        have l1 : 9223372036854775807 < a + b ∨ a + b < -9223372036854775808 := by omega
        clear h
        go_enter Tryd.func21, Tryd.ntmps21
        go_wp2
        go_ret2
        exact ⟨ret_two HV.out.1.symm HV.out.2.symm, rfl⟩
    · obtain rfl : b = 0 := by omega
      have HV := Lib.hid (Num.ok_yes (n := a) (by omega))
      go_enter Tryd.func21, Tryd.ntmps21
      go_wp2
      go_ret2
      exact ⟨ret_two HV.out.1.symm HV.out.2.symm, rfl⟩
theorem rAdd_any (a b : Int) (w : World) (ha0 : -9223372036854775808 ≤ a) (ha1 : a ≤ 9223372036854775807) (hb0 : -9223372036854775808 ≤ b) (hb1 : b ≤ 9223372036854775807) :
    Calls Tryd.prog 24 #[.int .i64 a, .int .i64 b] w (RetS (.tuple #[.int .i64 (Num.okN (a + b)), .int .i64 (Num.okE (a + b))]) w) := by
  by_cases h1 : 0 < b
  · by_cases h : -9223372036854775808 ≤ a + b ∧ a + b ≤ 9223372036854775807
    · have HV := Lib.hid (Num.ok_yes h)
      obtain ⟨l1, l2⟩ := h
      go_enter Tryd.func24, Tryd.ntmps24
      go_wp2
      go_ret2
      exact ⟨ret_two HV.out.1.symm HV.out.2.symm, rfl⟩
    · have HV := Lib.hid (Num.ok_no h)
      have l1 : 9223372036854775807 < a + b ∨ a + b < -9223372036854775808 := by omega
      clear h
      go_enter Tryd.func24, Tryd.ntmps24
      go_wp2
      go_ret2
      exact ⟨ret_two HV.out.1.symm HV.out.2.symm, rfl⟩
  · by_cases h2 : b < 0
    · by_cases h : -9223372036854775808 ≤ a + b ∧ a + b ≤ 9223372036854775807
      · have HV := Lib.hid (Num.ok_yes h)
        obtain ⟨l1, l2⟩ := h
        go_enter Tryd.func24, Tryd.ntmps24
        go_wp2
        go_ret2
        exact ⟨ret_two HV.out.1.symm HV.out.2.symm, rfl⟩
      · have HV := Lib.hid (Num.ok_no h)
        have l1 : 9223372036854775807 < a + b ∨ a + b < -9223372036854775808 := by omega
        clear h
        go_enter Tryd.func24, Tryd.ntmps24
        go_wp2
        go_ret2
        exact ⟨ret_two HV.out.1.symm HV.out.2.symm, rfl⟩
    · obtain rfl : b = 0 := by omega
      have HV := Lib.hid (Num.ok_yes (n := a) (by omega))
      go_enter Tryd.func24, Tryd.ntmps24
      go_wp2
      go_ret2
      exact ⟨ret_two HV.out.1.symm HV.out.2.symm, rfl⟩
theorem Sub_any (a b : Int) (w : World) (ha0 : -9223372036854775808 ≤ a) (ha1 : a ≤ 9223372036854775807) (hb0 : -9223372036854775808 ≤ b) (hb1 : b ≤ 9223372036854775807) :
    Calls Tryd.prog 22 #[.int .i64 a, .int .i64 b] w (RetS (.tuple #[.int .i64 (Num.okN (a - b)), .int .i64 (Num.okE (a - b))]) w) := by
  by_cases h1 : b < 0
  · by_cases h : -9223372036854775808 ≤ a - b ∧ a - b ≤ 9223372036854775807
    · have HV := Lib.hid (Num.ok_yes h)
      obtain ⟨l1, l2⟩ := h
      go_enter Tryd.func22, Tryd.ntmps22
      go_wp2
      go_ret2
      exact ⟨ret_two HV.out.1.symm HV.out.2.symm, rfl⟩
    · have HV := Lib.hid (Num.ok_no h)
      have l1 : 9223372036854775807 < a - b ∨ a - b < -9223372036854775808 := by omega
      clear h
      go_enter Tryd.func22, Tryd.ntmps22
      go_wp2
      go_ret2
      exact ⟨ret_two HV.out.1.symm HV.out.2.symm, rfl⟩
  · by_cases h2 : 0 < b
    · by_cases h : -9223372036854775808 ≤ a - b ∧ a - b ≤ 9223372036854775807
      · have HV := Lib.hid (Num.ok_yes h)
        obtain ⟨l1, l2⟩ := h
        go_enter Tryd.func22, Tryd.ntmps22
        go_wp2
        go_ret2
        exact ⟨ret_two HV.out.1.symm HV.out.2.symm, rfl⟩
      · have HV := Lib.hid (Num.ok_no h)
        have l1 : 9223372036854775807 < a - b ∨ a - b < -9223372036854775808 := by omega
        clear h
        go_enter Tryd.func22, Tryd.ntmps22
        go_wp2
        go_ret2
        exact ⟨ret_two HV.out.1.symm HV.out.2.symm, rfl⟩
    · obtain rfl : b = 0 := by omega
      have HV := Lib.hid (Num.ok_yes (n := a) (by omega))
      go_enter Tryd.func22, Tryd.ntmps22
      go_wp2
      go_ret2
      exact ⟨ret_two HV.out.1.symm HV.out.2.symm, rfl⟩
theorem rSub_any (a b : Int) (w : World) (ha0 : -9223372036854775808 ≤ a) (ha1 : a ≤ 9223372036854775807) (hb0 : -9223372036854775808 ≤ b) (hb1 : b ≤ 9223372036854775807) :
    Calls Tryd.prog 25 #[.int .i64 a, .int .i64 b] w (RetS (.tuple #[.int .i64 (Num.okN (a - b)), .int .i64 (Num.okE (a - b))]) w) := by
  by_cases h1 : b < 0
  · by_cases h : -9223372036854775808 ≤ a - b ∧ a - b ≤ 9223372036854775807
    · have HV := Lib.hid (Num.ok_yes h)
      obtain ⟨l1, l2⟩ := h
      go_enter Tryd.func25, Tryd.ntmps25
      go_wp2
      go_ret2
      exact ⟨ret_two HV.out.1.symm HV.out.2.symm, rfl⟩
    · have HV := Lib.hid (Num.ok_no h)
      have l1 : 9223372036854775807 < a - b ∨ a - b < -9223372036854775808 := by omega
      clear h
      go_enter Tryd.func25, Tryd.ntmps25
      go_wp2
      go_ret2
      exact ⟨ret_two HV.out.1.symm HV.out.2.symm, rfl⟩
  · by_cases h2 : 0 < b
    · by_cases h : -9223372036854775808 ≤ a - b ∧ a - b ≤ 9223372036854775807
      · have HV := Lib.hid (Num.ok_yes h)
        obtain ⟨l1, l2⟩ := h
        go_enter Tryd.func25, Tryd.ntmps25
        go_wp2
        go_ret2
        exact ⟨ret_two HV.out.1.symm HV.out.2.symm, rfl⟩
      · have HV := Lib.hid (Num.ok_no h)
        have l1 : 9223372036854775807 < a - b ∨ a - b < -9223372036854775808 := by omega
        clear h
        go_enter Tryd.func25, Tryd.ntmps25
        go_wp2
        go_ret2
        exact ⟨ret_two HV.out.1.symm HV.out.2.symm, rfl⟩
    · obtain rfl : b = 0 := by omega
      have HV := Lib.hid (Num.ok_yes (n := a) (by omega))
      go_enter Tryd.func25, Tryd.ntmps25
      go_wp2
      go_ret2
      exact ⟨ret_two HV.out.1.symm HV.out.2.symm, rfl⟩
theorem mag_any (a : Int) (w : World) (ha0 : -9223372036854775808 ≤ a) (ha1 : a ≤ 9223372036854775807) : Calls Tryd.prog 48 #[.int .i64 a] w (RetS (.int .u64 (Num.ab a)) w) := by
  by_cases h : a < 0
  · have HV := Lib.hid (show Num.ab a = -a by unfold Num.ab; rw [if_pos h])
    go_enter Tryd.func48, Tryd.ntmps48
    go_wp2
    go_ret
    exact ⟨ret_int (by rw [HV.out]; omega), rfl⟩
  · have HV := Lib.hid (show Num.ab a = a by unfold Num.ab; rw [if_neg h])
    go_enter Tryd.func48, Tryd.ntmps48
    go_wp2
    go_ret
    exact ⟨ret_int HV.out.symm, rfl⟩
theorem rSize_any (a : Int) (w : World) (ha0 : -9223372036854775808 ≤ a) (ha1 : a ≤ 9223372036854775807) : Calls Tryd.prog 50 #[.int .i64 a] w (RetS (.int .u64 (Num.ab a)) w) := by
  by_cases h : a < 0
  · have HV := Lib.hid (show Num.ab a = -a by unfold Num.ab; rw [if_pos h])
    go_enter Tryd.func50, Tryd.ntmps50
    go_wp2
    go_ret
    exact ⟨ret_int (by rw [HV.out]; omega), rfl⟩
  · have HV := Lib.hid (show Num.ab a = a by unfold Num.ab; rw [if_neg h])
    go_enter Tryd.func50, Tryd.ntmps50
    go_wp2
    go_ret
    exact ⟨ret_int HV.out.symm, rfl⟩
end Go.Proofs.YtgloiddnbppblaaDoor
