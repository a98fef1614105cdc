/- What the rows' lists give: the library's powers of ten, the weights of the digits; and a world for the witness. -/
import Derived.Test.YtnnocbelgfhecaaGreatDoorRows
import Derived.Test.YtnnocbelgfhecaaGreatDoorNump
import Derived.Deep.DeepHandedRow
import Derived.Lib.LaidTab
namespace Go.Proofs.YtnnocbelgfhecaaGreatDoor
open Go.ChangeShapes Go.WideShapes Go.ChangeAt Go.RowKit Go.Lott

theorem laid_tail {P : Program} {x : String × DataW Unit} {r : List (String × DataW Unit)} {W : World} (h : laidMet P (x :: r) W) : laidMet P r W := by
  obtain ⟨n, d⟩ := x
  obtain ⟨ps, ⟨g, t, cs, fuel, p, q, _, _, _, _, hq, rfl⟩, hnd, hc⟩ := h
  exact ⟨q, hq, (List.nodup_append.1 hnd).2.1, fun b off hm => hc b off (List.mem_append_right _ hm)⟩
theorem gPowType : (Tryz.prog.globals[2]?).map (·.type) = some 255 := by kernel_rfl
theorem cellsPow : Tryz.prog.cellsOf 255 = 20 := by kernel_rfl
theorem cellsU64 : Tryz.prog.cellsOf 22 = 1 := by kernel_rfl
theorem powData : (Rows.laid_internal_strconv_uint64pow10 : DataW Unit) = Lib.tabData .u64 Lib.pow10Tab := by kernel_rfl
theorem table {W : World} (h : laidMetH Tryz.prog [("math/bits.deBruijn32tab", Rows.laid_math_bits_deBruijn32tab), ("math/bits.deBruijn64tab", Rows.laid_math_bits_deBruijn64tab), ("internal/strconv.uint64pow10", Rows.laid_internal_strconv_uint64pow10)] W) : P10 W := by
  have h1 : laidMet Tryz.prog [("math/bits.deBruijn32tab", Rows.laid_math_bits_deBruijn32tab), ("math/bits.deBruijn64tab", Rows.laid_math_bits_deBruijn64tab), ("internal/strconv.uint64pow10", Rows.laid_internal_strconv_uint64pow10)] W := h
  have h2 := laid_tail (laid_tail h1)
  rw [powData] at h2
  exact Lib.tabIs_of_head gP10 gPowType Tryz.underlying255 Tryz.underlying22 cellsU64 cellsPow h2
theorem gWName : Tryz.prog.globalNamed "lottery/ticketno.weights" = some 0 := by kernel_rfl
theorem gWType : (Tryz.prog.globals[0]?).map (·.type) = some 177 := by kernel_rfl
theorem cellsW : Tryz.prog.cellsOf 177 = 12 := by kernel_rfl
theorem cellsInt : Tryz.prog.cellsOf 3 = 1 := by kernel_rfl
/-- The weights of the twelve digits are laid. -/
def Wts (w : World) : Prop := Lib.TabIs Tryz.prog w "lottery/ticketno.weights" .i64 [15, 50, 5, 49, 34, 81, 76, 27, 90, 9, 30, 3]
theorem Wts.grow {w w' : World} (h : Wts w) (hb : Below w.heap.size w w') : Wts w' := Go.Joins.tab_stays gWName h hb (Nat.le_refl _)
def P10W (w : World) : Prop := P10 w ∧ Wts w
theorem P10W.grow {w w' : World} (h : P10W w) (hb : Below w.heap.size w w') : P10W w' := ⟨h.1.grow hb, h.2.grow hb⟩
theorem tableW {W : World} (h : laidMetH Tryz.prog [("math/bits.deBruijn32tab", Rows.laid_math_bits_deBruijn32tab), ("math/bits.deBruijn64tab", Rows.laid_math_bits_deBruijn64tab), ("internal/strconv.uint64pow10", Rows.laid_internal_strconv_uint64pow10), ("lottery/ticketno.weights", Rows.laid_lottery_ticketno_weights)] W) : P10W W := by
  have h1 : laidMet Tryz.prog [("math/bits.deBruijn32tab", Rows.laid_math_bits_deBruijn32tab), ("math/bits.deBruijn64tab", Rows.laid_math_bits_deBruijn64tab), ("internal/strconv.uint64pow10", Rows.laid_internal_strconv_uint64pow10), ("lottery/ticketno.weights", Rows.laid_lottery_ticketno_weights)] W := h
  have h2 := laid_tail (laid_tail h1)
  have h3 := laid_tail h2
  rw [powData] at h2
  exact ⟨Lib.tabIs_of_head gP10 gPowType Tryz.underlying255 Tryz.underlying22 cellsU64 cellsPow h2, Lib.tabIs_of_head gWName gWType Tryz.underlying177 Tryz.underlying3 cellsInt cellsW h3⟩
def litCells : DataW Unit → Array Value
  | .agg l => (l.map fun d => match d with | .lit (.int k z) => Value.int k z | _ => .int .i64 0).toArray
  | _ => #[]
def putTab (h : Array Obj) (x : Nat × DataW Unit) : Array Obj := h.modify x.1 fun
  | .cells _ t frozen => .cells (litCells x.2) t frozen
  | o => o
/-- A world for the witness: the settled one, the tables holding what their initialisers lay. -/
noncomputable def laidWorld (os : Os) : World :=
  { World.holding Tryz.prog os ⟨#[], #[], []⟩ with heap := putTab (putTab (putTab (putTab (World.holding Tryz.prog os ⟨#[], #[], []⟩).heap (2, Rows.laid_internal_strconv_uint64pow10)) (0, Rows.laid_lottery_ticketno_weights)) (3, Rows.laid_math_bits_deBruijn32tab)) (4, Rows.laid_math_bits_deBruijn64tab) }
end Go.Proofs.YtnnocbelgfhecaaGreatDoor
