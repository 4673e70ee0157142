/- The closed facts of the row FnExactLogAnswer. No condition. -/
import Derived.Test.YtfccplibbdnkpaaRows
import Derived.ProofKit
import Derived.SizedLaws
namespace Go.Proofs.Ytfccplibbdnkpaa.fnExactLogAnswer
open Go.ChangeShapes Go.WideShapes Go.ChangeAt Go.RowKit
theorem facts : joinedFacts Try.pinned.checked.prog 3 Try.f3 Rows.fnExactLogAnswerSpec Rows.fnExactLogAnswerRow = true := by kernel_rfl
end Go.Proofs.Ytfccplibbdnkpaa.fnExactLogAnswer
