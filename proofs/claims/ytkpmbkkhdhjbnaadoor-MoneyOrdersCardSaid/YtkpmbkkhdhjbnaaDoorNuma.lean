/- Sums, differences and absolute values of package num and of its reference: both compute the same plain functions. -/
import Derived.Test.YtkpmbkkhdhjbnaaDoorRows
import Derived.Test.YtkpmbkkhdhjbnaaDoorKit
import Derived.Test.YtkpmbkkhdhjbnaaDoorNumd
namespace Go.Proofs.YtkpmbkkhdhjbnaaDoor
open Go.ChangeShapes Go.WideShapes Go.ChangeAt Go.RowKit Go.Lott

theorem rAdd_any (a b : Int) (w : World) (ha0 : -9223372036854775808 ≤ a) (ha1 : a ≤ 9223372036854775807) (hb0 : -9223372036854775808 ≤ b) (hb1 : b ≤ 9223372036854775807) :
    Calls Tryd.prog 42 #[.int .i64 a, .int .i64 b] w (RetS (.tuple #[.int .i64 (Num.okN (a + b)), .int .i64 (Num.okE (a + b))]) w) := by
  by_cases h1 : 0 < b
  · by_cases h : -9223372036854775808 ≤ a + b ∧ a + b ≤ 9223372036854775807
    · have HV := Lib.hid (Num.ok_yes h)
      obtain ⟨l1, l2⟩ := h
      go_enter Tryd.func42, Tryd.ntmps42
      go_wp2
      go_ret2
      exact ⟨ret_two HV.out.1.symm HV.out.2.symm, rfl⟩
    · have HV := Lib.hid (Num.ok_no h)
      have l1 : 9223372036854775807 < a + b ∨ a + b < -9223372036854775808 := by omega
      clear h
      go_enter Tryd.func42, Tryd.ntmps42
      go_wp2
      go_ret2
      exact ⟨ret_two HV.out.1.symm HV.out.2.symm, rfl⟩
  · by_cases h2 : b < 0
    · by_cases h : -9223372036854775808 ≤ a + b ∧ a + b ≤ 9223372036854775807
      · have HV := Lib.hid (Num.ok_yes h)
        obtain ⟨l1, l2⟩ := h
        go_enter Tryd.func42, Tryd.ntmps42
        go_wp2
        go_ret2
        exact ⟨ret_two HV.out.1.symm HV.out.2.symm, rfl⟩
      · have HV := Lib.hid (Num.ok_no h)
        have l1 : 9223372036854775807 < a + b ∨ a + b < -9223372036854775808 := by omega
        clear h
        go_enter Tryd.func42, Tryd.ntmps42
        go_wp2
        go_ret2
        exact ⟨ret_two HV.out.1.symm HV.out.2.symm, rfl⟩
    · obtain rfl : b = 0 := by omega
      have HV := Lib.hid (Num.ok_yes (n := a) (by omega))
      go_enter Tryd.func42, Tryd.ntmps42
      go_wp2
      go_ret2
      exact ⟨ret_two HV.out.1.symm HV.out.2.symm, rfl⟩
theorem rSize_any (a : Int) (w : World) (ha0 : -9223372036854775808 ≤ a) (ha1 : a ≤ 9223372036854775807) : Calls Tryd.prog 51 #[.int .i64 a] w (RetS (.int .u64 (Num.ab a)) w) := by
  by_cases h : a < 0
  · have HV := Lib.hid (show Num.ab a = -a by unfold Num.ab; rw [if_pos h])
    go_enter Tryd.func51, Tryd.ntmps51
    go_wp2
    go_ret
    exact ⟨ret_int (by rw [HV.out]; omega), rfl⟩
  · have HV := Lib.hid (show Num.ab a = a by unfold Num.ab; rw [if_neg h])
    go_enter Tryd.func51, Tryd.ntmps51
    go_wp2
    go_ret
    exact ⟨ret_int HV.out.symm, rfl⟩
end Go.Proofs.YtkpmbkkhdhjbnaaDoor
