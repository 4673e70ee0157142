/- The closed facts of the row FnRecordMend. No condition. -/
import Derived.Test.YtgdbammhnjkbbaaRows
import Derived.ProofKit
import Derived.SizedLaws
namespace Go.Proofs.Ytgdbammhnjkbbaa.fnRecordMend
open Go.ChangeShapes Go.WideShapes Go.ChangeAt Go.RowKit
theorem facts : joinedFacts Try.pinned.checked.prog 6 Try.f6 Rows.fnRecordMendSpec Rows.fnRecordMendRow = true := by kernel_rfl
end Go.Proofs.Ytgdbammhnjkbbaa.fnRecordMend
