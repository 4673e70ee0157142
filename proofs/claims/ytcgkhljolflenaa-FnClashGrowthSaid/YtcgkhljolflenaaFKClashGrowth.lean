/- The closed facts of the row FnClashGrowth, continued. No condition. -/
import Derived.Test.YtcgkhljolflenaaRows
import Derived.ProofKit
import Derived.SizedLaws
namespace Go.Proofs.Ytcgkhljolflenaa.fnClashGrowth
open Go.ChangeShapes Go.WideShapes Go.ChangeAt Go.RowKit
theorem named : Try.pinned.checked.prog.funcNamed Rows.fnClashGrowthRow.func = some 6 := by kernel_rfl
theorem inst : Try.f6.isInstance Try.pinned.checked.prog Rows.fnClashGrowthRow.origin Rows.fnClashGrowthRow.targs := (of_decide_eq_true (by kernel_rfl))
theorem wrapper : Try.f6.isWrapper Try.pinned.checked.prog Rows.fnClashGrowthRow.wrapper Rows.fnClashGrowthRow.mainSum := by unfold Func.isWrapper; first | (rw [if_pos (by decide +kernel)]; kernel_rfl) | (rw [if_neg (by decide +kernel)]; exact ⟨rfl, rfl⟩)
end Go.Proofs.Ytcgkhljolflenaa.fnClashGrowth
