/- The reference's products, by four partial products. -/
import Derived.Test.YtkpmbkkhdhjbnaaNumb
namespace Go.Proofs.Ytkpmbkkhdhjbnaa
open Go.ChangeShapes Go.WideShapes Go.ChangeAt Go.RowKit Go.Lott

set_option maxHeartbeats 1000000 in
theorem rWide_any (a b : Int) (w : World) (a0 : 0 ≤ a) (a1 : a ≤ 18446744073709551615) (b0 : 0 ≤ b) (b1 : b ≤ 18446744073709551615) :
    Calls Try.prog 51 #[.int .u64 a, .int .u64 b] w (RetS (.tuple #[.int .u64 (Num.wHi a b), .int .u64 (Num.wLo a b)]) w) := by
  obtain ⟨p00, p10, p01, p11, e1, e2, e3, e4, e, q1, q2, q3, q4, q5, q6, q7, q8⟩ := Num.parts a b a0 a1 b0 b1
  have d1 : Num.wLow a b = p00 := e1
  have d2 : Num.wMid a b = p10 + p00 / 4294967296 := by unfold Num.wMid; rw [d1, e2]
  have d3 : Num.wOth a b = p01 + (p10 + p00 / 4294967296) % 4294967296 := by unfold Num.wOth; rw [d2, e3]
  have HH := Lib.hid (show Num.wHi a b = p11 + (p10 + p00 / 4294967296) / 4294967296 + (p01 + (p10 + p00 / 4294967296) % 4294967296) / 4294967296 by unfold Num.wHi; rw [d2, d3, e4])
  have HL := Lib.hid (show Num.wLo a b = (p01 + (p10 + p00 / 4294967296) % 4294967296) % 4294967296 * 4294967296 + p00 % 4294967296 by unfold Num.wLo; rw [d3, d1])
  clear d1 d2 d3 e
  go_enter Try.func51, Try.ntmps51
  go_wp2
  go_ret2
  exact ⟨ret_two HH.out.symm (HL.out.trans (by omega)).symm, rfl⟩
theorem rWide_v (x y hi lo : Int) (w : World) (x0 : 0 ≤ x) (x1 : x ≤ 18446744073709551615) (y0 : 0 ≤ y) (y1 : y ≤ 18446744073709551615) (h : x * y = hi * 18446744073709551616 + lo) (l0 : 0 ≤ lo) (l1 : lo ≤ 18446744073709551615) :
    Calls Try.prog 51 #[.int .u64 x, .int .u64 y] w (RetS (.tuple #[.int .u64 hi, .int .u64 lo]) w) := by
  have hc := rWide_any x y w x0 x1 y0 y1
  obtain ⟨_, _, _, e1, e2⟩ := Num.wide_eq x y x0 x1 y0 y1
  rw [e1, e2, h, show (hi * 18446744073709551616 + lo) / 18446744073709551616 = hi by omega, show (hi * 18446744073709551616 + lo) % 18446744073709551616 = lo by omega] at hc
  exact hc
end Go.Proofs.Ytkpmbkkhdhjbnaa
