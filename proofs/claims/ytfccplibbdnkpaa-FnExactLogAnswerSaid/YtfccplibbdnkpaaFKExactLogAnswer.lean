/- The closed facts of the row FnExactLogAnswer, continued. No condition. -/
import Derived.Test.YtfccplibbdnkpaaRows
import Derived.ProofKit
import Derived.SizedLaws
namespace Go.Proofs.Ytfccplibbdnkpaa.fnExactLogAnswer
open Go.ChangeShapes Go.WideShapes Go.ChangeAt Go.RowKit
theorem named : Try.pinned.checked.prog.funcNamed Rows.fnExactLogAnswerRow.func = some 3 := by kernel_rfl
theorem inst : Try.f3.isInstance Try.pinned.checked.prog Rows.fnExactLogAnswerRow.origin Rows.fnExactLogAnswerRow.targs := (of_decide_eq_true (by kernel_rfl))
theorem wrapper : Try.f3.isWrapper Try.pinned.checked.prog Rows.fnExactLogAnswerRow.wrapper Rows.fnExactLogAnswerRow.mainSum := by unfold Func.isWrapper; first | (rw [if_pos (by decide +kernel)]; kernel_rfl) | (rw [if_neg (by decide +kernel)]; exact ⟨rfl, rfl⟩)
end Go.Proofs.Ytfccplibbdnkpaa.fnExactLogAnswer
