/- The closed facts of the row FnExactClientTick, continued. No condition. -/
import Derived.Test.YtlofjogebacndaaRows
import Derived.ProofKit
import Derived.SizedLaws
namespace Go.Proofs.Ytlofjogebacndaa.fnExactClientTick
open Go.ChangeShapes Go.WideShapes Go.ChangeAt Go.RowKit
theorem named : Try.pinned.checked.prog.funcNamed Rows.fnExactClientTickRow.func = some 4 := by kernel_rfl
theorem inst : Try.f4.isInstance Try.pinned.checked.prog Rows.fnExactClientTickRow.origin Rows.fnExactClientTickRow.targs := (of_decide_eq_true (by kernel_rfl))
theorem wrapper : Try.f4.isWrapper Try.pinned.checked.prog Rows.fnExactClientTickRow.wrapper Rows.fnExactClientTickRow.mainSum := by unfold Func.isWrapper; first | (rw [if_pos (by decide +kernel)]; kernel_rfl) | (rw [if_neg (by decide +kernel)]; exact ⟨rfl, rfl⟩)
end Go.Proofs.Ytlofjogebacndaa.fnExactClientTick
