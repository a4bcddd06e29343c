/- What the element types of the slices are. -/
import Derived.Test.YtdfidijlconhnaaProg
import Derived.Test.YtdfidijlconhnaaSlOps
namespace Go.Proofs.Ytdfidijlconhnaa
open Go.RowKit Asn
theorem elt_ints : Elt Try.prog 34 3 1 8 (.int .i64 0) := elt_of Try.underlying34 (by kernel_rfl) rfl (by omega)
end Go.Proofs.Ytdfidijlconhnaa
