/- The closed facts of the row FnLogLater, continued. No condition. -/
import Derived.Test.YtfccplibbdnkpaaRows
import Derived.ProofKit
import Derived.SizedLaws
namespace Go.Proofs.Ytfccplibbdnkpaa.fnLogLater
open Go.ChangeShapes Go.WideShapes Go.ChangeAt Go.RowKit
theorem named : Try.pinned.checked.prog.funcNamed Rows.fnLogLaterRow.func = some 4 := by kernel_rfl
theorem inst : Try.f4.isInstance Try.pinned.checked.prog Rows.fnLogLaterRow.origin Rows.fnLogLaterRow.targs := (of_decide_eq_true (by kernel_rfl))
theorem wrapper : Try.f4.isWrapper Try.pinned.checked.prog Rows.fnLogLaterRow.wrapper Rows.fnLogLaterRow.mainSum := by unfold Func.isWrapper; first | (rw [if_pos (by decide +kernel)]; kernel_rfl) | (rw [if_neg (by decide +kernel)]; exact ⟨rfl, rfl⟩)
end Go.Proofs.Ytfccplibbdnkpaa.fnLogLater
