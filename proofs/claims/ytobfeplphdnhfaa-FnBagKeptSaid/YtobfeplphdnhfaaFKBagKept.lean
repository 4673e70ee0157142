/- The closed facts of the row FnBagKept, continued. No condition. -/
import Derived.Test.YtobfeplphdnhfaaRows
import Derived.ProofKit
import Derived.SizedLaws
namespace Go.Proofs.Ytobfeplphdnhfaa.fnBagKept
open Go.ChangeShapes Go.WideShapes Go.ChangeAt Go.RowKit
theorem named : Try.pinned.checked.prog.funcNamed Rows.fnBagKeptRow.func = some 4 := by kernel_rfl
theorem inst : Try.f4.isInstance Try.pinned.checked.prog Rows.fnBagKeptRow.origin Rows.fnBagKeptRow.targs := (of_decide_eq_true (by kernel_rfl))
theorem wrapper : Try.f4.isWrapper Try.pinned.checked.prog Rows.fnBagKeptRow.wrapper Rows.fnBagKeptRow.mainSum := by unfold Func.isWrapper; first | (rw [if_pos (by decide +kernel)]; kernel_rfl) | (rw [if_neg (by decide +kernel)]; exact ⟨rfl, rfl⟩)
end Go.Proofs.Ytobfeplphdnhfaa.fnBagKept
