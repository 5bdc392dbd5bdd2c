/- Marks on state spaces, by intervals of blocks. -/
import Derived.Test.YtphdcgimibnajaaGreatAp17
import Derived.Test.YtphdcgimibnajaaGreatLawSpace
namespace Go.Proofs.YtphdcgimibnajaaGreat
set_option maxRecDepth 100000
open Go Go.RowKit
def tot (rows : List (List Int)) : Int := ((rows.map List.length).sum : Int)
end Go.Proofs.YtphdcgimibnajaaGreat
