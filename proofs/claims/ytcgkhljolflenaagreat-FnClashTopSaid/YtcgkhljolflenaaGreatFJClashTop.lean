/- The closed facts of the row FnClashTop. No condition. -/
import Derived.Test.YtcgkhljolflenaaGreatRows
import Derived.ProofKit
import Derived.SizedLaws
namespace Go.Proofs.YtcgkhljolflenaaGreat.fnClashTop
open Go.ChangeShapes Go.WideShapes Go.ChangeAt Go.RowKit
theorem facts : joinedFacts Tryz.pinned.checked.prog 3 Tryz.f3 Rows.fnClashTopSpec Rows.fnClashTopRow = true := by kernel_rfl
end Go.Proofs.YtcgkhljolflenaaGreat.fnClashTop
