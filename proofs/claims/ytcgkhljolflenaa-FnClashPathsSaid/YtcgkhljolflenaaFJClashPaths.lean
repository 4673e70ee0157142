/- The closed facts of the row FnClashPaths. No condition. -/
import Derived.Test.YtcgkhljolflenaaRows
import Derived.ProofKit
import Derived.SizedLaws
namespace Go.Proofs.Ytcgkhljolflenaa.fnClashPaths
open Go.ChangeShapes Go.WideShapes Go.ChangeAt Go.RowKit
theorem facts : joinedFacts Try.pinned.checked.prog 4 Try.f4 Rows.fnClashPathsSpec Rows.fnClashPathsRow = true := by kernel_rfl
end Go.Proofs.Ytcgkhljolflenaa.fnClashPaths
