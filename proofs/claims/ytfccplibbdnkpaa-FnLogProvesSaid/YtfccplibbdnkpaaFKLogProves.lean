/- The closed facts of the row FnLogProves, continued. No condition. -/
import Derived.Test.YtfccplibbdnkpaaRows
import Derived.ProofKit
import Derived.SizedLaws
namespace Go.Proofs.Ytfccplibbdnkpaa.fnLogProves
open Go.ChangeShapes Go.WideShapes Go.ChangeAt Go.RowKit
theorem named : Try.pinned.checked.prog.funcNamed Rows.fnLogProvesRow.func = some 5 := by kernel_rfl
theorem inst : Try.f5.isInstance Try.pinned.checked.prog Rows.fnLogProvesRow.origin Rows.fnLogProvesRow.targs := (of_decide_eq_true (by kernel_rfl))
theorem wrapper : Try.f5.isWrapper Try.pinned.checked.prog Rows.fnLogProvesRow.wrapper Rows.fnLogProvesRow.mainSum := by unfold Func.isWrapper; first | (rw [if_pos (by decide +kernel)]; kernel_rfl) | (rw [if_neg (by decide +kernel)]; exact ⟨rfl, rfl⟩)
end Go.Proofs.Ytfccplibbdnkpaa.fnLogProves
