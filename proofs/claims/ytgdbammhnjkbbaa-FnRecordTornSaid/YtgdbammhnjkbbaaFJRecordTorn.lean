/- The closed facts of the row FnRecordTorn. No condition. -/
import Derived.Test.YtgdbammhnjkbbaaRows
import Derived.ProofKit
import Derived.SizedLaws
namespace Go.Proofs.Ytgdbammhnjkbbaa.fnRecordTorn
open Go.ChangeShapes Go.WideShapes Go.ChangeAt Go.RowKit
theorem facts : joinedFacts Try.pinned.checked.prog 7 Try.f7 Rows.fnRecordTornSpec Rows.fnRecordTornRow = true := by kernel_rfl
end Go.Proofs.Ytgdbammhnjkbbaa.fnRecordTorn
