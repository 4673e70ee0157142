/- The closed facts of the row FnLogLater. No condition. -/
import Derived.Test.YtfccplibbdnkpaaRows
import Derived.ProofKit
import Derived.SizedLaws
namespace Go.Proofs.Ytfccplibbdnkpaa.fnLogLater
open Go.ChangeShapes Go.WideShapes Go.ChangeAt Go.RowKit
theorem facts : joinedFacts Try.pinned.checked.prog 4 Try.f4 Rows.fnLogLaterSpec Rows.fnLogLaterRow = true := by kernel_rfl
end Go.Proofs.Ytfccplibbdnkpaa.fnLogLater
