/- The closed facts of the row FnChainWhole, continued. No condition. -/
import Derived.Test.YtcgkhljolflenaaRows
import Derived.ProofKit
import Derived.SizedLaws
namespace Go.Proofs.Ytcgkhljolflenaa.fnChainWhole
open Go.ChangeShapes Go.WideShapes Go.ChangeAt Go.RowKit
theorem named : Try.pinned.checked.prog.funcNamed Rows.fnChainWholeRow.func = some 5 := by kernel_rfl
theorem inst : Try.f5.isInstance Try.pinned.checked.prog Rows.fnChainWholeRow.origin Rows.fnChainWholeRow.targs := (of_decide_eq_true (by kernel_rfl))
theorem wrapper : Try.f5.isWrapper Try.pinned.checked.prog Rows.fnChainWholeRow.wrapper Rows.fnChainWholeRow.mainSum := by unfold Func.isWrapper; first | (rw [if_pos (by decide +kernel)]; kernel_rfl) | (rw [if_neg (by decide +kernel)]; exact ⟨rfl, rfl⟩)
end Go.Proofs.Ytcgkhljolflenaa.fnChainWhole
