/- The closed facts of the row FnChainWhole. No condition. -/
import Derived.Test.YtcgkhljolflenaaRows
import Derived.ProofKit
import Derived.SizedLaws
namespace Go.Proofs.Ytcgkhljolflenaa.fnChainWhole
open Go.ChangeShapes Go.WideShapes Go.ChangeAt Go.RowKit
theorem facts : joinedFacts Try.pinned.checked.prog 5 Try.f5 Rows.fnChainWholeSpec Rows.fnChainWholeRow = true := by kernel_rfl
end Go.Proofs.Ytcgkhljolflenaa.fnChainWhole
