/- Marks on state spaces, by intervals of blocks. -/
import Derived.Test.YtmekhjnhcgmphaaDoorAp20
import Derived.Test.YtmekhjnhcgmphaaDoorLawSpace
namespace Go.Proofs.YtmekhjnhcgmphaaDoor
set_option maxRecDepth 100000
open Go Go.RowKit
def tot (rows : List (List Int)) : Int := ((rows.map List.length).sum : Int)
theorem tot_nn (rows : List (List Int)) : 0 ≤ tot rows := Int.natCast_nonneg _
end Go.Proofs.YtmekhjnhcgmphaaDoor
