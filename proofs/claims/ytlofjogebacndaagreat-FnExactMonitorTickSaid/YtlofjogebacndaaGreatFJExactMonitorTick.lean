/- The closed facts of the row FnExactMonitorTick. No condition. -/
import Derived.Test.YtlofjogebacndaaGreatRows
import Derived.ProofKit
import Derived.SizedLaws
namespace Go.Proofs.YtlofjogebacndaaGreat.fnExactMonitorTick
open Go.ChangeShapes Go.WideShapes Go.ChangeAt Go.RowKit
theorem facts : joinedFacts Tryz.pinned.checked.prog 3 Tryz.f3 Rows.fnExactMonitorTickSpec Rows.fnExactMonitorTickRow = true := by kernel_rfl
end Go.Proofs.YtlofjogebacndaaGreat.fnExactMonitorTick
