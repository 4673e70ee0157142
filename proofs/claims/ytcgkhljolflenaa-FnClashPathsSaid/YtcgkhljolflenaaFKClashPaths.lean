/- The closed facts of the row FnClashPaths, continued. No condition. -/
import Derived.Test.YtcgkhljolflenaaRows
import Derived.ProofKit
import Derived.SizedLaws
namespace Go.Proofs.Ytcgkhljolflenaa.fnClashPaths
open Go.ChangeShapes Go.WideShapes Go.ChangeAt Go.RowKit
theorem named : Try.pinned.checked.prog.funcNamed Rows.fnClashPathsRow.func = some 4 := by kernel_rfl
theorem inst : Try.f4.isInstance Try.pinned.checked.prog Rows.fnClashPathsRow.origin Rows.fnClashPathsRow.targs := (of_decide_eq_true (by kernel_rfl))
theorem wrapper : Try.f4.isWrapper Try.pinned.checked.prog Rows.fnClashPathsRow.wrapper Rows.fnClashPathsRow.mainSum := by unfold Func.isWrapper; first | (rw [if_pos (by decide +kernel)]; kernel_rfl) | (rw [if_neg (by decide +kernel)]; exact ⟨rfl, rfl⟩)
end Go.Proofs.Ytcgkhljolflenaa.fnClashPaths
