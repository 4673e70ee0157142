/- The closed facts of the row FnExactWitnessOk, continued. No condition. -/
import Derived.Test.YtgdbammhnjkbbaaRows
import Derived.ProofKit
import Derived.SizedLaws
namespace Go.Proofs.Ytgdbammhnjkbbaa.fnExactWitnessOk
open Go.ChangeShapes Go.WideShapes Go.ChangeAt Go.RowKit
theorem named : Try.pinned.checked.prog.funcNamed Rows.fnExactWitnessOkRow.func = some 4 := by kernel_rfl
theorem inst : Try.f4.isInstance Try.pinned.checked.prog Rows.fnExactWitnessOkRow.origin Rows.fnExactWitnessOkRow.targs := (of_decide_eq_true (by kernel_rfl))
theorem wrapper : Try.f4.isWrapper Try.pinned.checked.prog Rows.fnExactWitnessOkRow.wrapper Rows.fnExactWitnessOkRow.mainSum := by unfold Func.isWrapper; first | (rw [if_pos (by decide +kernel)]; kernel_rfl) | (rw [if_neg (by decide +kernel)]; exact ⟨rfl, rfl⟩)
end Go.Proofs.Ytgdbammhnjkbbaa.fnExactWitnessOk
