/- The law ReportTells: its walk over the form's readings. -/
import Derived.Test.YtgmilhhifigkkaaDoorRpt
import Derived.Test.YtgmilhhifigkkaaDoorRpj
namespace Go.Proofs.YtgmilhhifigkkaaDoor
open Go.ChangeShapes Go.WideShapes Go.ChangeAt Go.RowKit Go.Lott
theorem reportTells_walk (t t' : Int) (z z' : Nat → Int) (W : World) (ht : (Lit.int .i64 t).wf = true) (ht' : (Lit.int .i64 t').wf = true) (hz : ∀ j, j < 5 → I64 (z j)) (hz' : ∀ j, j < 5 → I64 (z' j)) (hp : P10 W) : Calls Tryd.prog 4 #[.int .i64 t, .int .i64 t', .agg (fv 5 z), .agg (fv 5 z')] W (RetB (.bool true) W) :=
  reportTells_walki t (z 0) (z 1) (z 2) (z 3) (z 4) t' (z' 0) (z' 1) (z' 2) (z' 3) (z' 4) W (i64_of ht) (hz 0 (by decide)) (hz 1 (by decide)) (hz 2 (by decide)) (hz 3 (by decide)) (hz 4 (by decide)) (i64_of ht') (hz' 0 (by decide)) (hz' 1 (by decide)) (hz' 2 (by decide)) (hz' 3 (by decide)) (hz' 4 (by decide)) hp
end Go.Proofs.YtgmilhhifigkkaaDoor
