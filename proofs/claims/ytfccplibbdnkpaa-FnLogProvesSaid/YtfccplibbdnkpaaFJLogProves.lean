/- The closed facts of the row FnLogProves. No condition. -/
import Derived.Test.YtfccplibbdnkpaaRows
import Derived.ProofKit
import Derived.SizedLaws
namespace Go.Proofs.Ytfccplibbdnkpaa.fnLogProves
open Go.ChangeShapes Go.WideShapes Go.ChangeAt Go.RowKit
theorem facts : joinedFacts Try.pinned.checked.prog 5 Try.f5 Rows.fnLogProvesSpec Rows.fnLogProvesRow = true := by kernel_rfl
end Go.Proofs.Ytfccplibbdnkpaa.fnLogProves
