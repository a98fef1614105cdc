/- Powers and greatest common divisors of package num and of its reference. -/
import Derived.Test.YtkpmbkkhdhjbnaaNumg
namespace Go.Proofs.Ytkpmbkkhdhjbnaa
open Go.ChangeShapes Go.WideShapes Go.ChangeAt Go.RowKit Go.Lott

end Go.Proofs.Ytkpmbkkhdhjbnaa
