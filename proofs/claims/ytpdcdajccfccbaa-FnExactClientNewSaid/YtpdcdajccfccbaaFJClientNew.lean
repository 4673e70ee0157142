/- The closed facts of the row FnExactClientNew. No condition. -/
import Derived.Test.YtpdcdajccfccbaaRows
import Derived.ProofKit
import Derived.SizedLaws
namespace Go.Proofs.Ytpdcdajccfccbaa.fnExactClientNew
open Go.ChangeShapes Go.WideShapes Go.ChangeAt Go.RowKit
theorem facts : joinedFacts Try.pinned.checked.prog 8 Try.f8 Rows.fnExactClientNewSpec Rows.fnExactClientNewRow = true := by kernel_rfl
end Go.Proofs.Ytpdcdajccfccbaa.fnExactClientNew
