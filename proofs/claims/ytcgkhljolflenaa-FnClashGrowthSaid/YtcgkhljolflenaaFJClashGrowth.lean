/- The closed facts of the row FnClashGrowth. No condition. -/
import Derived.Test.YtcgkhljolflenaaRows
import Derived.ProofKit
import Derived.SizedLaws
namespace Go.Proofs.Ytcgkhljolflenaa.fnClashGrowth
open Go.ChangeShapes Go.WideShapes Go.ChangeAt Go.RowKit
theorem facts : joinedFacts Try.pinned.checked.prog 6 Try.f6 Rows.fnClashGrowthSpec Rows.fnClashGrowthRow = true := by kernel_rfl
end Go.Proofs.Ytcgkhljolflenaa.fnClashGrowth
