/- Linear algebra: unit rows beside an elimination span the kernel; compositions. Plain lemmas of mine. -/
import Derived.Test.YtmekhjnhcgmphaaDoorLinN
namespace Go.Proofs.YtmekhjnhcgmphaaDoor
set_option maxRecDepth 100000
variable {K : Type}
def Ops.unit (O : Ops K) (s i : Nat) : List K := (List.replicate s O.z).set i O.o
end Go.Proofs.YtmekhjnhcgmphaaDoor
