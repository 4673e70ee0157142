/- The closed facts of the row FnMonitorTicks. No condition. -/
import Derived.Test.YtlofjogebacndaaRows
import Derived.ProofKit
import Derived.SizedLaws
namespace Go.Proofs.Ytlofjogebacndaa.fnMonitorTicks
open Go.ChangeShapes Go.WideShapes Go.ChangeAt Go.RowKit
theorem facts : joinedFacts Try.pinned.checked.prog 5 Try.f5 Rows.fnMonitorTicksSpec Rows.fnMonitorTicksRow = true := by kernel_rfl
end Go.Proofs.Ytlofjogebacndaa.fnMonitorTicks
