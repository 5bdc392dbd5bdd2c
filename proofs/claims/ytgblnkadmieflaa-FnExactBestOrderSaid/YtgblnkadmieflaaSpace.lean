/- Contracts: tables of elements, state spaces, on both sides. -/
import Derived.Test.YtgblnkadmieflaaMat
import Derived.Test.YtgblnkadmieflaaSeries
namespace Go.Proofs.Ytgblnkadmieflaa
set_option maxRecDepth 100000
open Go Go.RowKit
/-- Each row has n elements of the field. -/
def rowsB (p : Int) (n : Int) (m : List (List Int)) : Bool := m.all fun r => decide ((r.length : Int) = n) && allEl p r
end Go.Proofs.Ytgblnkadmieflaa
