/- The closed facts of the row FnRecordMend, continued. No condition. -/
import Derived.Test.YtgdbammhnjkbbaaRows
import Derived.ProofKit
import Derived.SizedLaws
namespace Go.Proofs.Ytgdbammhnjkbbaa.fnRecordMend
open Go.ChangeShapes Go.WideShapes Go.ChangeAt Go.RowKit
theorem named : Try.pinned.checked.prog.funcNamed Rows.fnRecordMendRow.func = some 6 := by kernel_rfl
theorem inst : Try.f6.isInstance Try.pinned.checked.prog Rows.fnRecordMendRow.origin Rows.fnRecordMendRow.targs := (of_decide_eq_true (by kernel_rfl))
theorem wrapper : Try.f6.isWrapper Try.pinned.checked.prog Rows.fnRecordMendRow.wrapper Rows.fnRecordMendRow.mainSum := by unfold Func.isWrapper; first | (rw [if_pos (by decide +kernel)]; kernel_rfl) | (rw [if_neg (by decide +kernel)]; exact ⟨rfl, rfl⟩)
end Go.Proofs.Ytgdbammhnjkbbaa.fnRecordMend
