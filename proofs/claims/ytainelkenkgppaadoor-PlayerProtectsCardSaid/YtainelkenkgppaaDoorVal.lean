/- Amounts: Valid of package money and of its reference. -/
import Derived.Test.YtainelkenkgppaaDoorRows
import Derived.Test.YtainelkenkgppaaDoorKit
namespace Go.Proofs.YtainelkenkgppaaDoor
open Go.ChangeShapes Go.WideShapes Go.ChangeAt Go.RowKit Go.Lott

/-- An amount. -/
def amB (n : Int) : Bool := decide (0 ≤ n ∧ n ≤ 1000000000000)
theorem amB_iff (n : Int) : amB n = true ↔ 0 ≤ n ∧ n ≤ 1000000000000 := by simp [amB]
theorem Valid_any (n : Int) (w : World) : Calls Tryd.prog 71 #[.int .i64 n] w (RetS (.bool (amB n)) w) := by
  by_cases h : 0 ≤ n
  · go_enter Tryd.func71, Tryd.ntmps71
    go_wp2
    go_ret
    exact ⟨ret_bool (by simp [amB, h]), rfl⟩
  · go_enter Tryd.func71, Tryd.ntmps71
    go_wp2
    go_ret
    exact ⟨ret_bool (by rw [amB, decide_eq_false (by omega)]), rfl⟩
theorem rValid_any (n : Int) (w : World) : Calls Tryd.prog 77 #[.int .i64 n] w (RetS (.bool (amB n)) w) := by
  by_cases h : 0 ≤ n
  · go_enter Tryd.func77, Tryd.ntmps77
    go_wp2
    go_ret
    exact ⟨ret_bool (by simp [amB, h]), rfl⟩
  · go_enter Tryd.func77, Tryd.ntmps77
    go_wp2
    go_ret
    exact ⟨ret_bool (by rw [amB, decide_eq_false (by omega)]), rfl⟩
end Go.Proofs.YtainelkenkgppaaDoor
