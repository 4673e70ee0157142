/- The closed facts of the row FnExactClientNew, continued. No condition. -/
import Derived.Test.YtpdcdajccfccbaaRows
import Derived.ProofKit
import Derived.SizedLaws
namespace Go.Proofs.Ytpdcdajccfccbaa.fnExactClientNew
open Go.ChangeShapes Go.WideShapes Go.ChangeAt Go.RowKit
theorem named : Try.pinned.checked.prog.funcNamed Rows.fnExactClientNewRow.func = some 8 := by kernel_rfl
theorem inst : Try.f8.isInstance Try.pinned.checked.prog Rows.fnExactClientNewRow.origin Rows.fnExactClientNewRow.targs := (of_decide_eq_true (by kernel_rfl))
theorem wrapper : Try.f8.isWrapper Try.pinned.checked.prog Rows.fnExactClientNewRow.wrapper Rows.fnExactClientNewRow.mainSum := by unfold Func.isWrapper; first | (rw [if_pos (by decide +kernel)]; kernel_rfl) | (rw [if_neg (by decide +kernel)]; exact ⟨rfl, rfl⟩)
end Go.Proofs.Ytpdcdajccfccbaa.fnExactClientNew
