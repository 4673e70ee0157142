/- The closed facts of the row FnBagKept. No condition. -/
import Derived.Test.YtobfeplphdnhfaaRows
import Derived.ProofKit
import Derived.SizedLaws
namespace Go.Proofs.Ytobfeplphdnhfaa.fnBagKept
open Go.ChangeShapes Go.WideShapes Go.ChangeAt Go.RowKit
theorem facts : joinedFacts Try.pinned.checked.prog 4 Try.f4 Rows.fnBagKeptSpec Rows.fnBagKeptRow = true := by kernel_rfl
end Go.Proofs.Ytobfeplphdnhfaa.fnBagKept
