/- The closed facts of the row FnExactMonitorOk, continued. No condition. -/
import Derived.Test.YtlofjogebacndaaRows
import Derived.ProofKit
import Derived.SizedLaws
namespace Go.Proofs.Ytlofjogebacndaa.fnExactMonitorOk
open Go.ChangeShapes Go.WideShapes Go.ChangeAt Go.RowKit
theorem named : Try.pinned.checked.prog.funcNamed Rows.fnExactMonitorOkRow.func = some 3 := by kernel_rfl
theorem inst : Try.f3.isInstance Try.pinned.checked.prog Rows.fnExactMonitorOkRow.origin Rows.fnExactMonitorOkRow.targs := (of_decide_eq_true (by kernel_rfl))
theorem wrapper : Try.f3.isWrapper Try.pinned.checked.prog Rows.fnExactMonitorOkRow.wrapper Rows.fnExactMonitorOkRow.mainSum := by unfold Func.isWrapper; first | (rw [if_pos (by decide +kernel)]; kernel_rfl) | (rw [if_neg (by decide +kernel)]; exact ⟨rfl, rfl⟩)
end Go.Proofs.Ytlofjogebacndaa.fnExactMonitorOk
