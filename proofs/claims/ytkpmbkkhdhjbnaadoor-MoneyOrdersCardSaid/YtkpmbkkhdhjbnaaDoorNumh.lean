/- Powers and greatest common divisors of package num and of its reference. -/
import Derived.Test.YtkpmbkkhdhjbnaaDoorNumg
namespace Go.Proofs.YtkpmbkkhdhjbnaaDoor
open Go.ChangeShapes Go.WideShapes Go.ChangeAt Go.RowKit Go.Lott

end Go.Proofs.YtkpmbkkhdhjbnaaDoor
