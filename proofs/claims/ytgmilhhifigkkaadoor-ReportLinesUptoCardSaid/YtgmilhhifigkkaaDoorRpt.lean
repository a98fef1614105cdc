/- What the rows' lists give: the library's powers of ten; a world for the witness; the structs of numbers. -/
import Derived.Test.YtgmilhhifigkkaaDoorRows
import Derived.Test.YtgmilhhifigkkaaDoorRph
import Derived.Deep.DeepHandedRow
import Derived.Lib.LaidTab
namespace Go.Proofs.YtgmilhhifigkkaaDoor
open Go.ChangeShapes Go.WideShapes Go.ChangeAt Go.RowKit Go.Lott
theorem laid_tail {P : Program} {x : String × DataW Unit} {r : List (String × DataW Unit)} {W : World} (h : laidMet P (x :: r) W) : laidMet P r W := by
  obtain ⟨n, d⟩ := x
  obtain ⟨ps, ⟨g, t, cs, fuel, p, q, _, _, _, _, hq, rfl⟩, hnd, hc⟩ := h
  exact ⟨q, hq, (List.nodup_append.1 hnd).2.1, fun b off hm => hc b off (List.mem_append_right _ hm)⟩
theorem gPowType : (Tryd.prog.globals[1]?).map (·.type) = some 88 := by kernel_rfl
theorem cellsPow : Tryd.prog.cellsOf 88 = 20 := by kernel_rfl
theorem cellsU64 : Tryd.prog.cellsOf 77 = 1 := by kernel_rfl
theorem powData : (Rows.laid_internal_strconv_uint64pow10 : DataW Unit) = Lib.tabData .u64 Lib.pow10Tab := by kernel_rfl
theorem table0 {r : List (String × DataW Unit)} {W : World} (h1 : laidMet Tryd.prog (("math/bits.deBruijn32tab", Rows.laid_math_bits_deBruijn32tab) :: ("math/bits.deBruijn64tab", Rows.laid_math_bits_deBruijn64tab) :: ("internal/strconv.uint64pow10", Rows.laid_internal_strconv_uint64pow10) :: r) W) : P10 W := by
  have h2 := laid_tail (laid_tail h1)
  rw [powData] at h2
  exact Lib.tabIs_of_head gP10 gPowType Tryd.underlying88 Tryd.underlying77 cellsU64 cellsPow h2
theorem table {W : World} (h : laidMetH Tryd.prog [("math/bits.deBruijn32tab", Rows.laid_math_bits_deBruijn32tab), ("math/bits.deBruijn64tab", Rows.laid_math_bits_deBruijn64tab), ("internal/strconv.uint64pow10", Rows.laid_internal_strconv_uint64pow10)] W) : P10 W := table0 h
def litCells : DataW Unit → Array Value
  | .agg l => (l.map fun d => match d with | .lit (.int k z) => Value.int k z | .lit (.string l) => .string ⟨l.toArray⟩ | _ => .int .i64 0).toArray
  | _ => #[]
def putTab (h : Array Obj) (x : Nat × DataW Unit) : Array Obj := h.modify x.1 fun
  | .cells _ t frozen => .cells (litCells x.2) t frozen
  | o => o
/-- A world for the witness: the settled one, the tables holding what their initialisers lay. -/
noncomputable def laidWorld (os : Os) : World :=
  { World.holding Tryd.prog os ⟨#[], #[], []⟩ with heap := putTab (putTab (putTab (putTab (World.holding Tryd.prog os ⟨#[], #[], []⟩).heap (1, Rows.laid_internal_strconv_uint64pow10)) (2, Rows.laid_math_bits_deBruijn32tab)) (3, Rows.laid_math_bits_deBruijn64tab)) (0, Rows.laid_lottery_report_totalNames) }
theorem flatSettlement : FlatW Tryd.prog 23 5 := FlatW.ints Tryd.underlying23 (by kernel_rfl) flatI (by kernel_rfl)
theorem reportSettles_walk (t : Int) (z : Nat → Int) (W : World) (ht : (Lit.int .i64 t).wf = true) (hz : ∀ j, j < 5 → I64 (z j)) (hp : P10 W) : Calls Tryd.prog 3 #[.int .i64 t, .agg (fv 5 z)] W (RetB (.bool true) W) :=
  reportSettles_walki t (z 0) (z 1) (z 2) (z 3) (z 4) W (i64_of ht) (hz 0 (by decide)) (hz 1 (by decide)) (hz 2 (by decide)) (hz 3 (by decide)) (hz 4 (by decide)) hp
end Go.Proofs.YtgmilhhifigkkaaDoor
