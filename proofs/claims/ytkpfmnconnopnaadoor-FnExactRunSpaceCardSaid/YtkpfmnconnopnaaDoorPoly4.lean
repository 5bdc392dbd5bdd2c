/- Contracts: the reference's product; quotients and remainders of both sides. -/
import Derived.Test.YtkpfmnconnopnaaDoorPoly3
namespace Go.Proofs.YtkpfmnconnopnaaDoor
set_option maxRecDepth 100000
open Go Go.RowKit
end Go.Proofs.YtkpfmnconnopnaaDoor
