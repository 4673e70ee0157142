/- The closed facts of the row FnBagBack, continued. No condition. -/
import Derived.Test.YtobfeplphdnhfaaRows
import Derived.ProofKit
import Derived.SizedLaws
namespace Go.Proofs.Ytobfeplphdnhfaa.fnBagBack
open Go.ChangeShapes Go.WideShapes Go.ChangeAt Go.RowKit
theorem named : Try.pinned.checked.prog.funcNamed Rows.fnBagBackRow.func = some 6 := by kernel_rfl
theorem inst : Try.f6.isInstance Try.pinned.checked.prog Rows.fnBagBackRow.origin Rows.fnBagBackRow.targs := (of_decide_eq_true (by kernel_rfl))
theorem wrapper : Try.f6.isWrapper Try.pinned.checked.prog Rows.fnBagBackRow.wrapper Rows.fnBagBackRow.mainSum := by unfold Func.isWrapper; first | (rw [if_pos (by decide +kernel)]; kernel_rfl) | (rw [if_neg (by decide +kernel)]; exact ⟨rfl, rfl⟩)
end Go.Proofs.Ytobfeplphdnhfaa.fnBagBack
