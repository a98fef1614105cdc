/- What the rows' lists give: the library's powers of ten, the weights of the digits; and a world for the witness. -/
import Derived.Test.YtkpmbkkhdhjbnaaDoorRows
import Derived.Test.YtkpmbkkhdhjbnaaDoorMpf
import Derived.Deep.DeepHandedRow
import Derived.Lib.LaidTab
namespace Go.Proofs.YtkpmbkkhdhjbnaaDoor
open Go.ChangeShapes Go.WideShapes Go.ChangeAt Go.RowKit Go.Lott

theorem laid_tail {P : Program} {x : String × DataW Unit} {r : List (String × DataW Unit)} {W : World} (h : laidMet P (x :: r) W) : laidMet P r W := by
  obtain ⟨n, d⟩ := x
  obtain ⟨ps, ⟨g, t, cs, fuel, p, q, _, _, _, _, hq, rfl⟩, hnd, hc⟩ := h
  exact ⟨q, hq, (List.nodup_append.1 hnd).2.1, fun b off hm => hc b off (List.mem_append_right _ hm)⟩
theorem gPowType : (Tryd.prog.globals[2]?).map (·.type) = some 84 := by kernel_rfl
theorem cellsPow : Tryd.prog.cellsOf 84 = 20 := by kernel_rfl
theorem cellsU64 : Tryd.prog.cellsOf 47 = 1 := by kernel_rfl
theorem powData : (Rows.laid_internal_strconv_uint64pow10 : DataW Unit) = Lib.tabData .u64 Lib.pow10Tab := by kernel_rfl
theorem table {W : World} (h : laidMetH Tryd.prog [("math/bits.deBruijn32tab", Rows.laid_math_bits_deBruijn32tab), ("math/bits.deBruijn64tab", Rows.laid_math_bits_deBruijn64tab), ("internal/strconv.uint64pow10", Rows.laid_internal_strconv_uint64pow10)] W) : P10 W := by
  have h1 : laidMet Tryd.prog [("math/bits.deBruijn32tab", Rows.laid_math_bits_deBruijn32tab), ("math/bits.deBruijn64tab", Rows.laid_math_bits_deBruijn64tab), ("internal/strconv.uint64pow10", Rows.laid_internal_strconv_uint64pow10)] W := h
  have h2 := laid_tail (laid_tail h1)
  rw [powData] at h2
  exact Lib.tabIs_of_head gP10 gPowType Tryd.underlying84 Tryd.underlying47 cellsU64 cellsPow h2
def litCells : DataW Unit → Array Value
  | .agg l => (l.map fun d => match d with | .lit (.int k z) => Value.int k z | _ => .int .i64 0).toArray
  | _ => #[]
def putTab (h : Array Obj) (x : Nat × DataW Unit) : Array Obj := h.modify x.1 fun
  | .cells _ t frozen => .cells (litCells x.2) t frozen
  | o => o
/-- A world for the witness: the settled one, the tables holding what their initialisers lay. -/
noncomputable def laidWorld (os : Os) : World :=
  { World.holding Tryd.prog os ⟨#[], #[], []⟩ with heap := putTab (putTab (putTab (World.holding Tryd.prog os ⟨#[], #[], []⟩).heap (2, Rows.laid_internal_strconv_uint64pow10)) (3, Rows.laid_math_bits_deBruijn32tab)) (4, Rows.laid_math_bits_deBruijn64tab) }
end Go.Proofs.YtkpmbkkhdhjbnaaDoor
