/- The closed facts of the row FnExactClientTick. No condition. -/
import Derived.Test.YtlofjogebacndaaRows
import Derived.ProofKit
import Derived.SizedLaws
namespace Go.Proofs.Ytlofjogebacndaa.fnExactClientTick
open Go.ChangeShapes Go.WideShapes Go.ChangeAt Go.RowKit
theorem facts : joinedFacts Try.pinned.checked.prog 4 Try.f4 Rows.fnExactClientTickSpec Rows.fnExactClientTickRow = true := by kernel_rfl
end Go.Proofs.Ytlofjogebacndaa.fnExactClientTick
