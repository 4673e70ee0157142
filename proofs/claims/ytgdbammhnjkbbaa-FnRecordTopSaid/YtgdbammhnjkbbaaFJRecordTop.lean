/- The closed facts of the row FnRecordTop. No condition. -/
import Derived.Test.YtgdbammhnjkbbaaRows
import Derived.ProofKit
import Derived.SizedLaws
namespace Go.Proofs.Ytgdbammhnjkbbaa.fnRecordTop
open Go.ChangeShapes Go.WideShapes Go.ChangeAt Go.RowKit
theorem facts : joinedFacts Try.pinned.checked.prog 5 Try.f5 Rows.fnRecordTopSpec Rows.fnRecordTopRow = true := by kernel_rfl
end Go.Proofs.Ytgdbammhnjkbbaa.fnRecordTop
