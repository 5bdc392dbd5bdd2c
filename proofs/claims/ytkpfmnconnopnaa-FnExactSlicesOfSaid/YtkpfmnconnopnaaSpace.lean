/- Contracts: tables of elements, state spaces, on both sides. -/
import Derived.Test.YtkpfmnconnopnaaMat
import Derived.Test.YtkpfmnconnopnaaSeries
namespace Go.Proofs.Ytkpfmnconnopnaa
set_option maxRecDepth 100000
open Go Go.RowKit
/-- Each row has n elements of the field. -/
def rowsB (p : Int) (n : Int) (m : List (List Int)) : Bool := m.all fun r => decide ((r.length : Int) = n) && allEl p r
end Go.Proofs.Ytkpfmnconnopnaa
