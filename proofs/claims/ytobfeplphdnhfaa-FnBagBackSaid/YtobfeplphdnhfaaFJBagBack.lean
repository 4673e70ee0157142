/- The closed facts of the row FnBagBack. No condition. -/
import Derived.Test.YtobfeplphdnhfaaRows
import Derived.ProofKit
import Derived.SizedLaws
namespace Go.Proofs.Ytobfeplphdnhfaa.fnBagBack
open Go.ChangeShapes Go.WideShapes Go.ChangeAt Go.RowKit
theorem facts : joinedFacts Try.pinned.checked.prog 6 Try.f6 Rows.fnBagBackSpec Rows.fnBagBackRow = true := by kernel_rfl
end Go.Proofs.Ytobfeplphdnhfaa.fnBagBack
