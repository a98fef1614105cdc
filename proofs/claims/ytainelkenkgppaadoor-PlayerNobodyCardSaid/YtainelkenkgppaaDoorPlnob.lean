/- The law PlayerNobody over the form's reading of a struct. -/
import Derived.Test.YtainelkenkgppaaDoorPlv
import Derived.Test.YtainelkenkgppaaDoorAgg
namespace Go.Proofs.YtainelkenkgppaaDoor
open Go.ChangeShapes Go.WideShapes Go.ChangeAt Go.RowKit Go.Lott
theorem flatDoW : FlatW Tryd.prog 46 6 := FlatW.ints Tryd.underlying46 (by kernel_rfl) flatI (by kernel_rfl)
theorem playerNobody_walk (z : Nat → Int) (w : World) (_ : ∀ j, j < 6 → I64 (z j)) (ht : Tab w) : Calls Tryd.prog 10 #[.agg (fv 6 z)] w (RetB (.bool true) w) :=
  nobody_core (z 0) (z 1) (z 2) (z 3) (z 4) (z 5) w ht
end Go.Proofs.YtainelkenkgppaaDoor
