/- The closed facts of the row FnBagPlaces. No condition. -/
import Derived.Test.YtobfeplphdnhfaaRows
import Derived.ProofKit
import Derived.SizedLaws
namespace Go.Proofs.Ytobfeplphdnhfaa.fnBagPlaces
open Go.ChangeShapes Go.WideShapes Go.ChangeAt Go.RowKit
theorem facts : joinedFacts Try.pinned.checked.prog 3 Try.f3 Rows.fnBagPlacesSpec Rows.fnBagPlacesRow = true := by kernel_rfl
end Go.Proofs.Ytobfeplphdnhfaa.fnBagPlaces
