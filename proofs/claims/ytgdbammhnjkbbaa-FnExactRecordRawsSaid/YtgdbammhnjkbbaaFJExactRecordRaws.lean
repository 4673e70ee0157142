/- The closed facts of the row FnExactRecordRaws. No condition. -/
import Derived.Test.YtgdbammhnjkbbaaRows
import Derived.ProofKit
import Derived.SizedLaws
namespace Go.Proofs.Ytgdbammhnjkbbaa.fnExactRecordRaws
open Go.ChangeShapes Go.WideShapes Go.ChangeAt Go.RowKit
theorem facts : joinedFacts Try.pinned.checked.prog 3 Try.f3 Rows.fnExactRecordRawsSpec Rows.fnExactRecordRawsRow = true := by kernel_rfl
end Go.Proofs.Ytgdbammhnjkbbaa.fnExactRecordRaws
