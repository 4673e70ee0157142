/- The closed facts of the row FnRecordTorn, continued. No condition. -/
import Derived.Test.YtgdbammhnjkbbaaRows
import Derived.ProofKit
import Derived.SizedLaws
namespace Go.Proofs.Ytgdbammhnjkbbaa.fnRecordTorn
open Go.ChangeShapes Go.WideShapes Go.ChangeAt Go.RowKit
theorem named : Try.pinned.checked.prog.funcNamed Rows.fnRecordTornRow.func = some 7 := by kernel_rfl
theorem inst : Try.f7.isInstance Try.pinned.checked.prog Rows.fnRecordTornRow.origin Rows.fnRecordTornRow.targs := (of_decide_eq_true (by kernel_rfl))
theorem wrapper : Try.f7.isWrapper Try.pinned.checked.prog Rows.fnRecordTornRow.wrapper Rows.fnRecordTornRow.mainSum := by unfold Func.isWrapper; first | (rw [if_pos (by decide +kernel)]; kernel_rfl) | (rw [if_neg (by decide +kernel)]; exact ⟨rfl, rfl⟩)
end Go.Proofs.Ytgdbammhnjkbbaa.fnRecordTorn
