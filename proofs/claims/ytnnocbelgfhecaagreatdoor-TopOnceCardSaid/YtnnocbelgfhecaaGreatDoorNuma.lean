/- Sums, differences and absolute values of package num and of its reference: both compute the same plain functions. -/
import Derived.Test.YtnnocbelgfhecaaGreatDoorRows
import Derived.Test.YtnnocbelgfhecaaGreatDoorKit
import Derived.Test.YtnnocbelgfhecaaGreatDoorNumd
namespace Go.Proofs.YtnnocbelgfhecaaGreatDoor
open Go.ChangeShapes Go.WideShapes Go.ChangeAt Go.RowKit Go.Lott

theorem mag_any (a : Int) (w : World) (ha0 : -9223372036854775808 ≤ a) (ha1 : a ≤ 9223372036854775807) : Calls Tryz.prog 101 #[.int .i64 a] w (RetS (.int .u64 (Num.ab a)) w) := by
  by_cases h : a < 0
  · have HV := Lib.hid (show Num.ab a = -a by unfold Num.ab; rw [if_pos h])
    go_enter Tryz.func101, Tryz.ntmps101
    go_wp2
    go_ret
    exact ⟨ret_int (by rw [HV.out]; omega), rfl⟩
  · have HV := Lib.hid (show Num.ab a = a by unfold Num.ab; rw [if_neg h])
    go_enter Tryz.func101, Tryz.ntmps101
    go_wp2
    go_ret
    exact ⟨ret_int HV.out.symm, rfl⟩
theorem nat_of_ab {a : Int} (h0 : -9223372036854775808 ≤ a) (h1 : a ≤ 9223372036854775807) : ∃ x : Nat, Num.ab a = (x : Int) ∧ (x : Int) ≤ 9223372036854775808 := by
  obtain ⟨p, q⟩ := Num.ab_bd (a := a) ⟨h0, h1⟩
  obtain ⟨x, hx⟩ := Int.eq_ofNat_of_zero_le p
  exact ⟨x, hx, by omega⟩
end Go.Proofs.YtnnocbelgfhecaaGreatDoor
