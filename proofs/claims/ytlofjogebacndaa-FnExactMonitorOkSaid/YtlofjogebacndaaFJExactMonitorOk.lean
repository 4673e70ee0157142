/- The closed facts of the row FnExactMonitorOk. No condition. -/
import Derived.Test.YtlofjogebacndaaRows
import Derived.ProofKit
import Derived.SizedLaws
namespace Go.Proofs.Ytlofjogebacndaa.fnExactMonitorOk
open Go.ChangeShapes Go.WideShapes Go.ChangeAt Go.RowKit
theorem facts : joinedFacts Try.pinned.checked.prog 3 Try.f3 Rows.fnExactMonitorOkSpec Rows.fnExactMonitorOkRow = true := by kernel_rfl
end Go.Proofs.Ytlofjogebacndaa.fnExactMonitorOk
