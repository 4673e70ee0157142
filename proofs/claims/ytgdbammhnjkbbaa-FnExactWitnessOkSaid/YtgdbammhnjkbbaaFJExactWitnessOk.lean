/- The closed facts of the row FnExactWitnessOk. No condition. -/
import Derived.Test.YtgdbammhnjkbbaaRows
import Derived.ProofKit
import Derived.SizedLaws
namespace Go.Proofs.Ytgdbammhnjkbbaa.fnExactWitnessOk
open Go.ChangeShapes Go.WideShapes Go.ChangeAt Go.RowKit
theorem facts : joinedFacts Try.pinned.checked.prog 4 Try.f4 Rows.fnExactWitnessOkSpec Rows.fnExactWitnessOkRow = true := by kernel_rfl
end Go.Proofs.Ytgdbammhnjkbbaa.fnExactWitnessOk
