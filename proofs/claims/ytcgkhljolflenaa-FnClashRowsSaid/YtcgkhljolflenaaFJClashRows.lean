/- The closed facts of the row FnClashRows. No condition. -/
import Derived.Test.YtcgkhljolflenaaRows
import Derived.ProofKit
import Derived.SizedLaws
namespace Go.Proofs.Ytcgkhljolflenaa.fnClashRows
open Go.ChangeShapes Go.WideShapes Go.ChangeAt Go.RowKit
theorem facts : joinedFacts Try.pinned.checked.prog 3 Try.f3 Rows.fnClashRowsSpec Rows.fnClashRowsRow = true := by kernel_rfl
end Go.Proofs.Ytcgkhljolflenaa.fnClashRows
